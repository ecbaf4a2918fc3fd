/- slices.Min, Max, Index, IndexFunc, ContainsFunc on rows; table.Check. -/
import Derived.Test.YthpgaggceefamaaKit
import Derived.Test.YthpgaggceefamaaMemV
import Derived.Test.YthpgaggceefamaaTabM
namespace Go.Proofs.Ythpgaggceefamaa
set_option linter.unusedVariables false
set_option linter.unusedSimpArgs false
open Go.RowKit
attribute [local go_sem] run_max run_min
theorem Min_calls (A : Option Addr) (c : Nat) (r : List Int) (w : World) (h : SlI w .i64 A c r) (h1 : 1 ≤ r.length) :
    Calls Try.prog 44 #[.slice A r.length c] w fun e w' => e = .returned (.int .i64 (minN r (r.length - 1))) ∧ w = w' := by
  have hm := h.len
  obtain ⟨a0, rfl, hc0⟩ := h.get 0 (by omega)
  rw [show a0.add 0 = a0 from rfl] at hc0
  have i0 : ¬ (r.length : Int) < 1 := by omega
  have i1 : (0 : Int) < (r.length : Int) := by omega
  have hM := Lib.hid (show minN r 0 = r.getD 0 0 from rfl)
  have HL := Lib.hid h1
  clear h1
  generalize r.getD 0 0 = v0 at *
  go_enter Try.func44, Try.ntmps44
  go_wp2_with fail
  go_loopg [3, 4] (r.length + 1) (fun gk m i w' => ∃ j : Nat, i = .int .i64 ((j : Int) + 1) ∧ m = .int .i64 (minN r j) ∧ j + 1 ≤ r.length ∧ r.length < j + gk ∧ w = w')
  case atStart => exact ⟨0, by simp, by rw [hM.out], by have := HL.out; omega, by omega, rfl⟩
  case round =>
    obtain ⟨j, rfl, rfl, hj, hg, rfl⟩ := hrel
    by_cases hlt : j + 1 < r.length
    · have j1 : (j : Int) + 1 < (r.length : Int) := by omega
      have j0 : (0 : Int) ≤ (j : Int) + 1 := by omega
      obtain ⟨al, hal, hc⟩ := h.get (j + 1) hlt
      obtain rfl : a0 = al := Option.some.inj hal
      have e1 : ((j : Int) + 1).toNat = j + 1 := by omega
      rw [show a0.add (j + 1) = ⟨a0.block, a0.off + (j + 1), none⟩ from by unfold Addr.add; simp] at hc
      have hS := Lib.hid (show minN r (j + 1) = min (minN r j) (r.getD (j + 1) 0) from rfl)
      generalize r.getD (j + 1) 0 = v at *
      generalize minN r j = m at *
      go_wp2_with fail
      go_roundg (gk - 1)
      case measure => omega
      case rel => exact ⟨j + 1, by simp, by rw [hS.out], by omega, by omega, rfl⟩
    · have j1 : ¬ (j : Int) + 1 < (r.length : Int) := by omega
      obtain rfl : j = r.length - 1 := by omega
      go_wp2_with fail
      go_ret
      exact ⟨rfl, rfl⟩
theorem Max_calls (A : Option Addr) (c : Nat) (r : List Int) (w : World) (h : SlI w .i64 A c r) (h1 : 1 ≤ r.length) :
    Calls Try.prog 45 #[.slice A r.length c] w fun e w' => e = .returned (.int .i64 (maxN r (r.length - 1))) ∧ w = w' := by
  have hm := h.len
  obtain ⟨a0, rfl, hc0⟩ := h.get 0 (by omega)
  rw [show a0.add 0 = a0 from rfl] at hc0
  have i0 : ¬ (r.length : Int) < 1 := by omega
  have i1 : (0 : Int) < (r.length : Int) := by omega
  have hM := Lib.hid (show maxN r 0 = r.getD 0 0 from rfl)
  have HL := Lib.hid h1
  clear h1
  generalize r.getD 0 0 = v0 at *
  go_enter Try.func45, Try.ntmps45
  go_wp2_with fail
  go_loopg [3, 4] (r.length + 1) (fun gk m i w' => ∃ j : Nat, i = .int .i64 ((j : Int) + 1) ∧ m = .int .i64 (maxN r j) ∧ j + 1 ≤ r.length ∧ r.length < j + gk ∧ w = w')
  case atStart => exact ⟨0, by simp, by rw [hM.out], by have := HL.out; omega, by omega, rfl⟩
  case round =>
    obtain ⟨j, rfl, rfl, hj, hg, rfl⟩ := hrel
    by_cases hlt : j + 1 < r.length
    · have j1 : (j : Int) + 1 < (r.length : Int) := by omega
      have j0 : (0 : Int) ≤ (j : Int) + 1 := by omega
      obtain ⟨al, hal, hc⟩ := h.get (j + 1) hlt
      obtain rfl : a0 = al := Option.some.inj hal
      have e1 : ((j : Int) + 1).toNat = j + 1 := by omega
      rw [show a0.add (j + 1) = ⟨a0.block, a0.off + (j + 1), none⟩ from by unfold Addr.add; simp] at hc
      have hS := Lib.hid (show maxN r (j + 1) = max (maxN r j) (r.getD (j + 1) 0) from rfl)
      generalize r.getD (j + 1) 0 = v at *
      generalize maxN r j = m at *
      go_wp2_with fail
      go_roundg (gk - 1)
      case measure => omega
      case rel => exact ⟨j + 1, by simp, by rw [hS.out], by omega, by omega, rfl⟩
    · have j1 : ¬ (j : Int) + 1 < (r.length : Int) := by omega
      obtain rfl : j = r.length - 1 := by omega
      go_wp2_with fail
      go_ret
      exact ⟨rfl, rfl⟩
theorem Index64_calls (A : Option Addr) (c : Nat) (r : List Int) (w : World) (h : SlI w .i64 A c r) (h1 : 1 ≤ r.length) :
    Calls Try.prog 48 #[.slice A r.length c, .int .i64 (minN r (r.length - 1))] w fun e w' => e = .returned (.int .i64 ((argN r (r.length - 1) : Nat) : Int)) ∧ w = w' := by
  have hm := h.len
  have ha : argN r (r.length - 1) < r.length := by have := argN_le r (r.length - 1); omega
  have hA := Lib.hid (argN_min r (r.length - 1))
  have hF := Lib.hid (fun t ht => argN_first r (r.length - 1) t ht)
  generalize argN r (r.length - 1) = a at *
  generalize minN r (r.length - 1) = m at *
  go_enter Try.func48, Try.ntmps48
  go_wp2_with fail
  go_loopg [5, 8] (r.length + 1) (fun gk u i w' => ∃ j : Nat, i = .int .i64 (j : Int) ∧ j ≤ a ∧ r.length < j + gk ∧ w = w')
  case atStart => exact ⟨0, rfl, by omega, by omega, rfl⟩
  case round =>
    obtain ⟨j, rfl, hj, hg, rfl⟩ := hrel
    have hlt : j < r.length := by omega
    have j1 : (j : Int) < (r.length : Int) := by omega
    obtain ⟨al, rfl, hc⟩ := h.get j hlt
    by_cases he : j = a
    · subst he
      rw [hA.out] at hc
      have hb : (m == m) = true := by simp
      go_wp2_with fail
      go_ret
      exact ⟨rfl, rfl⟩
    · have hb : (m == r.getD j 0) = false := by have := hF.out j (by omega); exact beq_eq_false_iff_ne.2 (Ne.symm this)
      have hl : j + 1 ≤ a := by omega
      clear he hF hA
      generalize r.getD j 0 = v at *
      go_wp2_with fail
      go_roundg (gk - 1)
      case measure => omega
      case rel => exact ⟨j + 1, by simp, by omega, by omega, rfl⟩
/-- Whether a row may be. -/
theorem bad_calls (A : Option Addr) (c : Nat) (r : List Int) (w : World) (h : SlI w .i64 A c r) :
    Calls Try.prog 43 #[.slice A r.length c] w fun e w' => e = .returned (.bool (badR r)) ∧ w = w' := by
  have hm := h.len
  by_cases h1 : r.length < 1
  · have H := Lib.hid (show badR r = true by unfold badR; rw [decide_eq_true h1]; rfl)
    have i1 : (r.length : Int) < 1 := by omega
    go_enter Try.func43, Try.ntmps43
    go_wp2_with fail
    go_ret
    exact ⟨ret_bool H.out.symm, rfl⟩
  · have i1 : ¬ (r.length : Int) < 1 := by omega
    by_cases h2 : r.length > 256
    · have H := Lib.hid (show badR r = true by unfold badR; rw [decide_eq_true h2]; simp)
      have i2 : (r.length : Int) > 256 := by omega
      go_enter Try.func43, Try.ntmps43
      go_wp2_with fail
      go_ret
      exact ⟨ret_bool H.out.symm, rfl⟩
    · have i2 : ¬ (r.length : Int) > 256 := by omega
      have H := Lib.hid (show badR r = (decide (minN r (r.length - 1) < 0) || decide (maxN r (r.length - 1) > 70368744177664)) by unfold badR; rw [decide_eq_false h1, decide_eq_false h2, badE_any (by omega)]; rfl)
      have CM := fun w h => Min_calls A c r w h (by omega)
      have CX := fun w h => Max_calls A c r w h (by omega)
      generalize minN r (r.length - 1) = m at *
      generalize maxN r (r.length - 1) = x at *
      by_cases h3 : m < 0
      · rw [decide_eq_true h3] at H
        go_enter Try.func43, Try.ntmps43
        go_wp2_with fail
        refine (CM _ h).mono ?_
        rintro e w1 ⟨rfl, rfl⟩
        go_wp2_with fail
        go_ret
        exact ⟨ret_bool (by rw [H.out]; rfl), rfl⟩
      · rw [decide_eq_false h3, Bool.false_or] at H
        by_cases h4 : x > 70368744177664
        · rw [decide_eq_true h4] at H
          go_enter Try.func43, Try.ntmps43
          go_wp2_with fail
          refine (CM _ h).mono ?_
          rintro e w1 ⟨rfl, rfl⟩
          go_wp2_with fail
          refine (CX _ h).mono ?_
          rintro e w1 ⟨rfl, rfl⟩
          go_wp2_with fail
          go_ret
          exact ⟨ret_bool (by rw [H.out]), rfl⟩
        · rw [decide_eq_false h4] at H
          go_enter Try.func43, Try.ntmps43
          go_wp2_with fail
          refine (CM _ h).mono ?_
          rintro e w1 ⟨rfl, rfl⟩
          go_wp2_with fail
          refine (CX _ h).mono ?_
          rintro e w1 ⟨rfl, rfl⟩
          go_wp2_with fail
          go_ret
          exact ⟨ret_bool (by rw [H.out]; simp; omega), rfl⟩
end Go.Proofs.Ythpgaggceefamaa
