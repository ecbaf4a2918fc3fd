/- A slice expression with three bounds. No program of its own. -/
import Derived.Test.YtcmdjnllpcnpjaaDoorMem
namespace Go.Proofs.YtcmdjnllpcnpjaaDoor
set_option linter.unusedVariables false
set_option linter.unusedSimpArgs false
open Go.RowKit
/-- 'xs[l:h:m]' likewise. -/
theorem cut_lhm {P : Program} (t e : TypeId) (kl kh km : IntKind) {i : TypeInfo} (ht : P.underlying t = some (.slice e)) (hi : P.info? e = some i) (hsz : i.size = 1) (A : Option Addr) (n c l m x : Nat) (hl : l ≤ m) (hm : m ≤ n) (hx : m ≤ x) (hxc : x ≤ c) (hc : n ≤ c) :
    ∃ A' : Option Addr, (∀ W : World, (Instr.slice t (.slice A n c) (some (.int kl (l : Int))) (some (.int kh (m : Int))) (some (.int km (x : Int)))).run P W = .ok (.slice A' (m - l) (x - l)) W) ∧
      (∀ (w : World) (k : IntKind) (xs : List Int), n = xs.length → SlI w k A c xs → SlI w k A' (x - l) ((xs.take m).drop l)) ∧ (∀ y, A' = some y → ∃ z, A = some z ∧ y.block = z.block) ∧ (A ≠ none → A' ≠ none) := by
  refine ⟨if x = l then A else A.map (·.add l), fun W => ?_, fun w k xs hn h => (h.take m x (by omega) (by omega)).dropIf l (x - l) (by simp; omega) (by simp; omega) (by omega), fun y hy => ?_, fun hA => ?_⟩
  · have hel : P.elem t = e := by simp [Program.elem, ht]
    have hu : P.underlying t = some (.slice (P.elem t)) := by rw [hel]; exact ht
    rw [run_slice_lhm W t A n c hu kl kh km (l : Int) (m : Int) (x : Int) (Int.natCast_nonneg _) (by omega) (by omega) (by omega), hel]
    simp [sizeOf, typeInfo, hi, hsz, sliced, Result.andThen]
  · split at hy
    · exact ⟨y, hy, rfl⟩
    · obtain ⟨z, hz, rfl⟩ := Option.map_eq_some_iff.1 hy
      refine ⟨z, hz, ?_⟩
      unfold Addr.add; split <;> rfl
  · split
    · exact hA
    · intro hh; exact hA (Option.map_eq_none_iff.1 hh)
/-- The three cuts with bounds in the walk's spelling. -/
theorem cut_lhm_i {P : Program} (t e : TypeId) (kl kh km : IntKind) {i : TypeInfo} (ht : P.underlying t = some (.slice e)) (hi : P.info? e = some i) (hsz : i.size = 1) (A : Option Addr) (n c l m x : Nat) (L M X : Int) (eL : L = l) (eM : M = m) (eX : X = x) (hl : l ≤ m) (hm : m ≤ n) (hx : m ≤ x) (hxc : x ≤ c) (hc : n ≤ c) (ln cn : Nat) (e1 : m - l = ln) (e2 : x - l = cn) :
    ∃ A' : Option Addr, (∀ W : World, (Instr.slice t (.slice A n c) (some (.int kl L)) (some (.int kh M)) (some (.int km X))).run P W = .ok (.slice A' ln cn) W) ∧
      (∀ (w : World) (k : IntKind) (xs : List Int), n = xs.length → SlI w k A c xs → SlI w k A' cn ((xs.drop l).take ln)) ∧ (∀ y, A' = some y → ∃ z, A = some z ∧ y.block = z.block) ∧ (A ≠ none → A' ≠ none) := by
  subst eL; subst eM; subst eX; subst e1; subst e2
  obtain ⟨A', h1, h2, h3, h4⟩ := cut_lhm t e kl kh km ht hi hsz A n c l m x hl hm hx hxc hc
  exact ⟨A', h1, fun w k xs hn h => by have := h2 w k xs hn h; rwa [List.drop_take] at this, h3, h4⟩
theorem cut_lh_i {P : Program} (t e : TypeId) (kl kh : IntKind) {i : TypeInfo} (ht : P.underlying t = some (.slice e)) (hi : P.info? e = some i) (hsz : i.size = 1) (A : Option Addr) (n c l m : Nat) (L M : Int) (eL : L = l) (eM : M = m) (hl : l ≤ m) (hm : m ≤ n) (hc : n ≤ c) (ln cn : Nat) (e1 : m - l = ln) (e2 : c - l = cn) :
    ∃ A' : Option Addr, (∀ W : World, (Instr.slice t (.slice A n c) (some (.int kl L)) (some (.int kh M)) none).run P W = .ok (.slice A' ln cn) W) ∧
      (∀ (w : World) (k : IntKind) (xs : List Int), n = xs.length → SlI w k A c xs → SlI w k A' cn ((xs.drop l).take ln)) ∧ (∀ y, A' = some y → ∃ z, A = some z ∧ y.block = z.block) := by
  subst eL; subst eM; subst e1; subst e2
  obtain ⟨A', h1, h2, h3⟩ := cut_lh t e kl kh ht hi hsz A n c l m hl hm hc
  exact ⟨A', h1, fun w k xs hn h => by have := h2 w k xs hn h; rwa [List.drop_take] at this, h3⟩
theorem cut_l_i {P : Program} (t e : TypeId) (kl : IntKind) {i : TypeInfo} (ht : P.underlying t = some (.slice e)) (hi : P.info? e = some i) (hsz : i.size = 1) (A : Option Addr) (n c l : Nat) (L : Int) (eL : L = l) (hm : l ≤ n) (hc : n ≤ c) (ln cn : Nat) (e1 : n - l = ln) (e2 : c - l = cn) :
    ∃ A' : Option Addr, (∀ W : World, (Instr.slice t (.slice A n c) (some (.int kl L)) none none).run P W = .ok (.slice A' ln cn) W) ∧
      (∀ (w : World) (k : IntKind) (xs : List Int), n = xs.length → SlI w k A c xs → SlI w k A' cn (xs.drop l)) ∧ (∀ y, A' = some y → ∃ z, A = some z ∧ y.block = z.block) := by
  subst eL; subst e1; subst e2
  obtain ⟨A', h1, h2, h3⟩ := cut_l t e kl ht hi hsz A n c l hm hc
  exact ⟨A', h1, h2, h3⟩
end Go.Proofs.YtcmdjnllpcnpjaaDoor
