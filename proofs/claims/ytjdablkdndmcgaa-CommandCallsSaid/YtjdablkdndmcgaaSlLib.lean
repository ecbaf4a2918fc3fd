/- slices.Clone, slices.Equal of whole numbers. -/
import Derived.Test.YtjdablkdndmcgaaMem
import Derived.Test.YtjdablkdndmcgaaLit
import Derived.Test.YtjdablkdndmcgaaKit
import Derived.RangeFuncNested
import Derived.WalkSpells
import Derived.Lib.SliceRun
namespace Go.Proofs.Ytjdablkdndmcgaa
set_option linter.unusedVariables false
set_option linter.unusedSimpArgs false
open Go.RowKit
/-- slices.Equal. -/
theorem Equal_int16_calls (A B : Option Addr) (c d : Nat) (xs ys : List Int) (w : World) (h : SlI w .i16 A c xs) (k : SlI w .i16 B d ys) :
    Calls Try.prog 36 #[.slice A xs.length c, .slice B ys.length d] w fun e w' => e = .returned (.bool (decide (xs = ys))) ∧ Below w.heap.size w w' := by
  have hm := h.len
  have km := k.len
  by_cases hl : xs.length = ys.length
  · have hb : ((xs.length : Int) != (ys.length : Int)) = false := by simp [hl]
    have HL := Lib.hid hl
    clear hl
    go_enter Try.func36, Try.ntmps36
    go_wp2_with fail
    go_loopg [5, 13] (xs.length + 1) (fun r u i w' => ∃ j : Nat, i = .int .i64 (j : Int) ∧ j ≤ xs.length ∧ xs.length < j + r ∧ Hid (∀ t, t < j → xs.getD t 0 = ys.getD t 0) ∧ ∃ n, w' = w.drewN n)
    case atStart => exact ⟨0, rfl, by omega, by omega, fun _ h => absurd h (by omega), 0, rfl⟩
    case round =>
      obtain ⟨j, rfl, hj, hr, HE, n, rfl⟩ := hrel
      by_cases hlt : j < xs.length
      · obtain ⟨ad, rfl, hx⟩ := h.get j hlt
        obtain ⟨bd, rfl, hy⟩ := k.get j (by have := HL.out; omega)
        have hlt2 : j < ys.length := by have := HL.out; omega
        have i1 : (j : Int) < (xs.length : Int) := by omega
        have i2 : (j : Int) < (ys.length : Int) := by omega
        by_cases he : xs.getD j 0 = ys.getD j 0
        · have hb2 : (xs[j] != ys[j]) = false := by simpa [List.getD_eq_getElem?_getD, hlt, hlt2] using he
          have HE2 := Lib.hid he
          clear he
          go_wp2_with fail
          go_quiet (fail)
          go_wp2_with fail
          go_roundg (gk - 1)
          case measure => omega
          case rel => exact ⟨j + 1, by simp, by omega, by omega, fun t ht => by
            rcases Nat.lt_or_ge t j with h1 | h1
            · exact HE.out t h1
            · obtain rfl : t = j := by omega
              exact HE2.out, _, rfl⟩
        · have hb2 : (xs[j] != ys[j]) = true := by simpa [List.getD_eq_getElem?_getD, hlt, hlt2] using he
          have HF := Lib.hid (show xs ≠ ys from fun hh => he (by rw [hh]))
          clear he
          go_wp2_with fail
          go_quiet (fail)
          go_wp2_with fail
          go_ret
          exact ⟨ret_bool (decide_eq_false HF.out).symm, below_drewN (below_drewN (Below.refl _ _) _) _⟩
      · have HF := Lib.hid (show xs = ys from List.ext_getElem HL.out fun t h1 h2 => by
          have := HE.out t (by omega)
          simpa [List.getD_eq_getElem?_getD, h1, h2] using this)
        go_wp2_with fail
        go_ret
        exact ⟨ret_bool (decide_eq_true HF.out).symm, below_drewN (Below.refl _ _) _⟩
  · have hb : ((xs.length : Int) != (ys.length : Int)) = true := by simp; omega
    have HF := Lib.hid (show xs ≠ ys from fun hh => hl (by rw [hh]))
    clear hl
    go_enter Try.func36, Try.ntmps36
    go_wp2_with fail
    go_ret
    exact ⟨ret_bool (decide_eq_false HF.out).symm, Below.refl _ _⟩
/-- slices.Equal. -/
theorem Equal_uint64_calls (A B : Option Addr) (c d : Nat) (xs ys : List Int) (w : World) (h : SlI w .u64 A c xs) (k : SlI w .u64 B d ys) :
    Calls Try.prog 37 #[.slice A xs.length c, .slice B ys.length d] w fun e w' => e = .returned (.bool (decide (xs = ys))) ∧ Below w.heap.size w w' := by
  have hm := h.len
  have km := k.len
  by_cases hl : xs.length = ys.length
  · have hb : ((xs.length : Int) != (ys.length : Int)) = false := by simp [hl]
    have HL := Lib.hid hl
    clear hl
    go_enter Try.func37, Try.ntmps37
    go_wp2_with fail
    go_loopg [5, 13] (xs.length + 1) (fun r u i w' => ∃ j : Nat, i = .int .i64 (j : Int) ∧ j ≤ xs.length ∧ xs.length < j + r ∧ Hid (∀ t, t < j → xs.getD t 0 = ys.getD t 0) ∧ ∃ n, w' = w.drewN n)
    case atStart => exact ⟨0, rfl, by omega, by omega, fun _ h => absurd h (by omega), 0, rfl⟩
    case round =>
      obtain ⟨j, rfl, hj, hr, HE, n, rfl⟩ := hrel
      by_cases hlt : j < xs.length
      · obtain ⟨ad, rfl, hx⟩ := h.get j hlt
        obtain ⟨bd, rfl, hy⟩ := k.get j (by have := HL.out; omega)
        have hlt2 : j < ys.length := by have := HL.out; omega
        have i1 : (j : Int) < (xs.length : Int) := by omega
        have i2 : (j : Int) < (ys.length : Int) := by omega
        by_cases he : xs.getD j 0 = ys.getD j 0
        · have hb2 : (xs[j] != ys[j]) = false := by simpa [List.getD_eq_getElem?_getD, hlt, hlt2] using he
          have HE2 := Lib.hid he
          clear he
          go_wp2_with fail
          go_quiet (fail)
          go_wp2_with fail
          go_roundg (gk - 1)
          case measure => omega
          case rel => exact ⟨j + 1, by simp, by omega, by omega, fun t ht => by
            rcases Nat.lt_or_ge t j with h1 | h1
            · exact HE.out t h1
            · obtain rfl : t = j := by omega
              exact HE2.out, _, rfl⟩
        · have hb2 : (xs[j] != ys[j]) = true := by simpa [List.getD_eq_getElem?_getD, hlt, hlt2] using he
          have HF := Lib.hid (show xs ≠ ys from fun hh => he (by rw [hh]))
          clear he
          go_wp2_with fail
          go_quiet (fail)
          go_wp2_with fail
          go_ret
          exact ⟨ret_bool (decide_eq_false HF.out).symm, below_drewN (below_drewN (Below.refl _ _) _) _⟩
      · have HF := Lib.hid (show xs = ys from List.ext_getElem HL.out fun t h1 h2 => by
          have := HE.out t (by omega)
          simpa [List.getD_eq_getElem?_getD, h1, h2] using this)
        go_wp2_with fail
        go_ret
        exact ⟨ret_bool (decide_eq_true HF.out).symm, below_drewN (Below.refl _ _) _⟩
  · have hb : ((xs.length : Int) != (ys.length : Int)) = true := by simp; omega
    have HF := Lib.hid (show xs ≠ ys from fun hh => hl (by rw [hh]))
    clear hl
    go_enter Try.func37, Try.ntmps37
    go_wp2_with fail
    go_ret
    exact ⟨ret_bool (decide_eq_false HF.out).symm, Below.refl _ _⟩
end Go.Proofs.Ytjdablkdndmcgaa
