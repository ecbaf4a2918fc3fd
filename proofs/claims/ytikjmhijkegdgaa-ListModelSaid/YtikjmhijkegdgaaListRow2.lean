/- ListModel: what is kept when codes are written; a cut of the row. -/
import Derived.Test.YtikjmhijkegdgaaListRow
namespace Go.Proofs.Ytikjmhijkegdgaa
set_option linter.unusedVariables false
set_option linter.unusedSimpArgs false
open Go.RowKit
theorem Keep.more {T U : Nat → Prop} {w w' : World} (h : Keep T w w') (hs : ∀ k, T k → U k) : Keep U w w' := ⟨h.os, h.tape, h.output, h.size, fun k hk hn => h.block k hk fun ht => hn (hs k ht)⟩
theorem Keep.cell (w : World) (g i : Nat) (v : Value) : Keep (fun k => k = g) w (w.setCell ⟨g, i, none⟩ v) := Keep.of_grown (grownBy_cell w g i v) fun k hk => by injection hk with hk; exact hk.symm
theorem RowL.widen {w : World} {B : Nat} {S : Nat → Prop} {R : Option Addr} {c : Nat} {rs : List HE} (h : RowL w B S R c rs) : RowL w B (fun k => S k ∨ w.heap.size ≤ k) R c rs := h.keep (Keep.refl S w) fun _ hk => hk
theorem RowL.less {w : World} {B : Nat} {S S1 : Nat → Prop} {R : Option Addr} {c : Nat} {rs : List HE} (h : RowL w B S R c rs) (hs : ∀ k, S1 k → S k) : RowL w B S1 R c rs := h.keep (Keep.refl S w) fun k hk => .inl (hs k hk)
/-- Entries whose codes may be written: where each code's first byte lies. -/
def Bumps (w : World) (B : Nat) (A : Option Addr) (ys : List HE) : Prop :=
  (∀ j, j < ys.length → ∃ ad, A = some ad ∧ EntAt w (ad.add (j * 4)) (ys.getD j default).e (ys.getD j default).A (ys.getD j default).c) ∧
  ∀ q ∈ ys, 1 ≤ q.e.code.length ∧ ∃ g v, q.A = some ⟨g, 0, none⟩ ∧ w.cell? ⟨g, 0, none⟩ = some (.int .u8 v) ∧ w.frozen? ⟨g, 0, none⟩ = false ∧ B ≤ g ∧ ∀ y, A = some y → g ≠ y.block
theorem frozen_below {w w1 : World} (h : Below w.heap.size w w1) (a : Addr) (v : Value) (hc : w.cell? a = some v) : w1.frozen? a = w.frozen? a := World.frozen?_of_block (h.block _ (World.block_lt_of_cell? w a hc))
theorem Bumps.below {w w' : World} {B : Nat} {A : Option Addr} {ys : List HE} (h : Bumps w B A ys) (hb : Below w.heap.size w w') : Bumps w' B A ys :=
  ⟨fun j hj => by obtain ⟨ad, h1, h2⟩ := h.1 j hj; exact ⟨ad, h1, h2.below hb⟩, fun q hq => by
    obtain ⟨h0, g, v, h1, h2, h3, h4, h5⟩ := h.2 q hq
    exact ⟨h0, g, v, h1, cell_below hb _ _ h2, (frozen_below hb _ _ h2).trans h3, h4, h5⟩⟩
theorem Bumps.new {w : World} {B : Nat} {A : Option Addr} {c : Nat} {ys : List HE} (h : SlX w A c ys (newE B w A)) (ho : CodesO w B ys) (hl : ∀ q ∈ ys, 1 ≤ q.e.code.length) : Bumps w B A ys := by
  refine ⟨h.2.2.2, fun q hq => ⟨hl q hq, ?_⟩⟩
  have h1 := ho q hq
  obtain ⟨g, hA, hb, hg⟩ := own_form h1 (hl q hq)
  have h2 := h1
  rw [hA] at h2
  have h3 := OwnI.cell h2 0 (hl q hq)
  exact ⟨g, _, hA, h3.1, h3.2, hb, fun y hy => ((h.2.2.1 q hq).2 _ hA).2.2 y hy⟩
theorem Bumps.set {w : World} {B : Nat} {A : Option Addr} {ys : List HE} (h : Bumps w B A ys) (g : Nat) (v : Int) (hg : ∀ y, A = some y → g ≠ y.block) : Bumps (w.setCell ⟨g, 0, none⟩ (.int .u8 v)) B A ys := by
  refine ⟨fun j hj => ?_, fun q hq => ?_⟩
  · obtain ⟨ad, h1, h2, h3, h4, h5⟩ := h.1 j hj
    have hb : (ad.add (j * 4)).block = ad.block := by unfold Addr.add; split <;> rfl
    have far : ∀ a : Addr, a.block = ad.block → (w.setCell ⟨g, 0, none⟩ (.int .u8 v)).cell? a = w.cell? a := fun a ha => World.cell?_setCell_far w _ a _ (by show g ≠ a.block; rw [ha]; exact hg ad h1)
    exact ⟨ad, h1, (far _ hb).trans h2, (far ⟨_, _, none⟩ hb).trans h3, (far ⟨_, _, none⟩ hb).trans h4, (far ⟨_, _, none⟩ hb).trans h5⟩
  · obtain ⟨h0, g', v', h1, h2, h3, h4, h5⟩ := h.2 q hq
    refine ⟨h0, g', ?_⟩
    by_cases hh : g' = g
    · subst hh
      exact ⟨v, h1, World.cell?_setCell_same w _ _ h2, by rw [World.frozen?_setCell]; exact h3, h4, h5⟩
    · exact ⟨v', h1, (World.cell?_setCell_far w _ _ _ (by show g ≠ g'; exact fun e => hh e.symm)).trans h2, by rw [World.frozen?_setCell]; exact h3, h4, h5⟩
theorem flat_drop (xs : List HE) (m : Nat) : flat (xs.drop m) = (flat xs).drop (m * 4) := by
  induction xs generalizing m with
  | nil => simp [flat]
  | cons h xs ih =>
    cases m with
    | zero => simp
    | succ m =>
      have h4 : (m + 1) * 4 = (cells4 h).length + m * 4 := by simp [cells4]; omega
      rw [List.drop_succ_cons, flat_cons, ih, h4, List.drop_append, List.drop_eq_nil_of_le (show (cells4 h).length ≤ (cells4 h).length + m * 4 by omega)]; simp
theorem SlX.rdTake {w : World} {A : Option Addr} {c : Nat} {xs : List HE} {ok : Nat → Prop} (h : SlX w A c xs ok) (m : Nat) : Rd w A (flat (xs.take m)) := by
  rw [flat_take]; exact h.rd.take _
/-- 'row[:m]' and 'row[m:]' of entries. -/
theorem cutE_h (R : Option Addr) (n c m : Nat) (hm : m ≤ n) (hc : n ≤ c) :
    ∀ W : World, (Instr.slice 30 (.slice R n c) none (some (.int .i64 (m : Int))) none).run Try.prog W = .ok (.slice R m c) W := by
  intro W
  have hel : Try.prog.elem 30 = 33 := by kernel_rfl
  have hu : Try.prog.underlying 30 = some (.slice (Try.prog.elem 30)) := by rw [hel]; exact Try.underlying30
  rw [run_slice_h W 30 R n c hu .i64 (m : Int) (Int.natCast_nonneg _) (by omega), hel]
  have hi : (Try.prog.info? 33).map (·.size) = some 4 := by kernel_rfl
  obtain ⟨i, h1, h2⟩ := Option.map_eq_some_iff.1 hi
  have hz : ∀ s, sliced R 0 m c s = .slice R m c := fun s => by unfold sliced; cases R <;> simp [Addr.add]
  simp [sizeOf, typeInfo, h1, Result.andThen, hz]
theorem cutE_l (R : Option Addr) (c m : Nat) (rs : List HE) (L : Int) (eL : L = m) (hm : m ≤ rs.length) (hc : rs.length ≤ c) :
    ∃ R' : Option Addr, (∀ W : World, (Instr.slice 30 (.slice R rs.length c) (some (.int .i64 L)) none none).run Try.prog W = .ok (.slice R' (rs.length - m) (c - m)) W) ∧ ∀ (w : World) (ok : Nat → Prop), SlX w R c rs ok → Rd w R' (flat (rs.drop m)) := by
  subst eL
  have hel : Try.prog.elem 30 = 33 := by kernel_rfl
  have hu : Try.prog.underlying 30 = some (.slice (Try.prog.elem 30)) := by rw [hel]; exact Try.underlying30
  have hi : (Try.prog.info? 33).map (·.size) = some 4 := by kernel_rfl
  obtain ⟨i, h1, h2⟩ := Option.map_eq_some_iff.1 hi
  refine ⟨if c = m then R else R.map (·.add (m * 4)), fun W => ?_, fun w ok h => ?_⟩
  · rw [run_slice_l W 30 R rs.length c hu .i64 (m : Int) (Int.natCast_nonneg _) (by omega), hel]
    simp [sizeOf, typeInfo, h1, h2, Result.andThen, sliced]
  · split
    · rename_i e
      have : rs.drop m = [] := List.drop_eq_nil_of_le (by omega)
      rw [this]; exact .inl rfl
    · rw [flat_drop]; exact h.rd.drop _
end Go.Proofs.Ytikjmhijkegdgaa
