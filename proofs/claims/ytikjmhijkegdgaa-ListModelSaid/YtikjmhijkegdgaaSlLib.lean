/- slices.Clone, slices.Equal of whole numbers. -/
import Derived.Test.YtikjmhijkegdgaaMem
import Derived.Test.YtikjmhijkegdgaaLit
import Derived.Test.YtikjmhijkegdgaaKit
import Derived.RangeFuncNested
import Derived.WalkSpells
import Derived.Lib.SliceRun
namespace Go.Proofs.Ytikjmhijkegdgaa
set_option linter.unusedVariables false
set_option linter.unusedSimpArgs false
open Go.RowKit
theorem Clone_byte_calls (A : Option Addr) (c : Nat) (xs : List Int) (w : World) (h : SlI w .u8 A c xs) (hl : xs.length * 1 ≤ 140737488355328) :
    Calls Try.prog 50 #[.slice A xs.length c] w fun e w' => ∃ A' c', e = .returned (.slice A' xs.length c') ∧ OwnI w' w.heap.size 5 .u8 A' c' xs ∧ Below w.heap.size w w' := by
  have qT := fun (w : World) (a : Option Addr) (n c : Nat) => Lib.run_eql_slice_nil (P := Try.prog) w 31 5 a n c 0 0 Try.underlying31
  cases A with
  | none =>
    have hx : xs = [] := by
      rcases h.rd with h1 | ⟨ad, h1, _⟩
      · exact List.map_eq_nil_iff.1 h1
      · cases h1
    subst hx
    go_enter Try.func50, Try.ntmps50
    go_wp2
    go_ret
    exact ⟨none, 0, rfl, own_nil _ _ _ _, Below.refl _ _⟩
  | some ad =>
    go_enter Try.func50, Try.ntmps50
    go_wp2_with (at_builtin; refine app_row w.heap.size rfl _ _ 31 5 .u8 1 rfl Try.underlying31 (by kernel_rfl) (by decide) _ _ [] xs (some ad) c rfl rfl (own_empty _ _ _ (Nat.le_refl _)) (h.below (below_alloc (Below.refl _ _) _)).rd (by simp) (by simpa using hl) ?_)
    intro B1 c1 w1 hown hg _ _
    go_wp2
    go_ret
    exact ⟨_, _, rfl, hown, below_grown (below_alloc (Below.refl _ _) _) hg (own_empty _ _ _ (Nat.le_refl _)) (Nat.le_refl _)⟩
/-- slices.Equal. -/
theorem Equal_byte_calls (A B : Option Addr) (c d : Nat) (xs ys : List Int) (w : World) (h : SlI w .u8 A c xs) (k : SlI w .u8 B d ys) :
    Calls Try.prog 42 #[.slice A xs.length c, .slice B ys.length d] w fun e w' => e = .returned (.bool (decide (xs = ys))) ∧ Below w.heap.size w w' := by
  have hm := h.len
  have km := k.len
  by_cases hl : xs.length = ys.length
  · have hb : ((xs.length : Int) != (ys.length : Int)) = false := by simp [hl]
    have HL := Lib.hid hl
    clear hl
    go_enter Try.func42, Try.ntmps42
    go_wp2_with fail
    go_loopg [5, 13] (xs.length + 1) (fun r u i w' => ∃ j : Nat, i = .int .i64 (j : Int) ∧ j ≤ xs.length ∧ xs.length < j + r ∧ Hid (∀ t, t < j → xs.getD t 0 = ys.getD t 0) ∧ ∃ n, w' = w.drewN n)
    case atStart => exact ⟨0, rfl, by omega, by omega, fun _ h => absurd h (by omega), 0, rfl⟩
    case round =>
      obtain ⟨j, rfl, hj, hr, HE, n, rfl⟩ := hrel
      by_cases hlt : j < xs.length
      · obtain ⟨ad, rfl, hx⟩ := h.get j hlt
        obtain ⟨bd, rfl, hy⟩ := k.get j (by have := HL.out; omega)
        have hlt2 : j < ys.length := by have := HL.out; omega
        have i1 : (j : Int) < (xs.length : Int) := by omega
        have i2 : (j : Int) < (ys.length : Int) := by omega
        by_cases he : xs.getD j 0 = ys.getD j 0
        · have hb2 : (xs[j] != ys[j]) = false := by simpa [List.getD_eq_getElem?_getD, hlt, hlt2] using he
          have HE2 := Lib.hid he
          clear he
          go_wp2_with fail
          go_quiet (fail)
          go_wp2_with fail
          go_roundg (gk - 1)
          case measure => omega
          case rel => exact ⟨j + 1, by simp, by omega, by omega, fun t ht => by
            rcases Nat.lt_or_ge t j with h1 | h1
            · exact HE.out t h1
            · obtain rfl : t = j := by omega
              exact HE2.out, _, rfl⟩
        · have hb2 : (xs[j] != ys[j]) = true := by simpa [List.getD_eq_getElem?_getD, hlt, hlt2] using he
          have HF := Lib.hid (show xs ≠ ys from fun hh => he (by rw [hh]))
          clear he
          go_wp2_with fail
          go_quiet (fail)
          go_wp2_with fail
          go_ret
          exact ⟨ret_bool (decide_eq_false HF.out).symm, below_drewN (below_drewN (Below.refl _ _) _) _⟩
      · have HF := Lib.hid (show xs = ys from List.ext_getElem HL.out fun t h1 h2 => by
          have := HE.out t (by omega)
          simpa [List.getD_eq_getElem?_getD, h1, h2] using this)
        go_wp2_with fail
        go_ret
        exact ⟨ret_bool (decide_eq_true HF.out).symm, below_drewN (Below.refl _ _) _⟩
  · have hb : ((xs.length : Int) != (ys.length : Int)) = true := by simp; omega
    have HF := Lib.hid (show xs ≠ ys from fun hh => hl (by rw [hh]))
    clear hl
    go_enter Try.func42, Try.ntmps42
    go_wp2_with fail
    go_ret
    exact ⟨ret_bool (decide_eq_false HF.out).symm, Below.refl _ _⟩
end Go.Proofs.Ytikjmhijkegdgaa
