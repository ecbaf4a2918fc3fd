import Derived.Test.YtaiibjbhblpbpaaBound2
namespace Go.Proofs.Ytaiibjbhblpbpaa
set_option linter.unusedVariables false
set_option linter.unusedSimpArgs false
open Go.RowKit
def mayB (a b w : Int) : Bool := decide (0 ≤ min a b) && (decide (a ≤ 70368744177664) && (decide (b ≤ 281474976710656) && decide (a - b ≤ w)))
attribute [local go_sem] run_min
theorem May_calls (a b x : Int) (w : World) : Calls Try.prog 17 #[.int .i64 a, .int .i64 b, .int .i64 x] w fun e w' => e = .returned (.bool (mayB a b x)) ∧ w = w' := by
  have cs : min a b < 0 ∨ (¬ min a b < 0 ∧ 70368744177664 < a) ∨ (¬ min a b < 0 ∧ a ≤ 70368744177664 ∧ 281474976710656 < b) ∨ (0 ≤ a ∧ 0 ≤ b ∧ a ≤ 70368744177664 ∧ b ≤ 281474976710656 ∧ x < a - b) ∨ (0 ≤ a ∧ 0 ≤ b ∧ a ≤ 70368744177664 ∧ b ≤ 281474976710656 ∧ a - b ≤ x) := by omega
  rcases cs with h | ⟨h, h2⟩ | ⟨h, h2, h3⟩ | ⟨h, h2, h3, h4, h5⟩ | ⟨h, h2, h3, h4, h5⟩
  · have H := Lib.hid (show mayB a b x = false by unfold mayB; rw [decide_eq_false (by omega)]; rfl)
    have e1 : ¬ min a b ≥ 0 := by omega
    go_enter Try.func17, Try.ntmps17
    go_wp2_with fail
    go_ret
    rw [H.out]; exact ⟨rfl, rfl⟩
  · have H := Lib.hid (show mayB a b x = false by unfold mayB; rw [decide_eq_false (show ¬ a ≤ 70368744177664 by omega)]; simp)
    have e1 : min a b ≥ 0 := by omega
    have e2 : ¬ a ≤ 70368744177664 := by omega
    go_enter Try.func17, Try.ntmps17
    go_wp2_with fail
    go_ret
    rw [H.out]; exact ⟨rfl, rfl⟩
  · have H := Lib.hid (show mayB a b x = false by unfold mayB; rw [decide_eq_false (show ¬ b ≤ 281474976710656 by omega)]; simp)
    have e1 : min a b ≥ 0 := by omega
    have e3 : ¬ b ≤ 281474976710656 := by omega
    go_enter Try.func17, Try.ntmps17
    go_wp2_with fail
    go_ret
    rw [H.out]; exact ⟨rfl, rfl⟩
  · have H := Lib.hid (show mayB a b x = false by unfold mayB; rw [decide_eq_false (show ¬ a - b ≤ x by omega)]; simp)
    have e1 : min a b ≥ 0 := by omega
    have e4 : ¬ a - b ≤ x := by omega
    go_enter Try.func17, Try.ntmps17
    go_wp2_with fail
    go_ret
    rw [H.out]; exact ⟨rfl, rfl⟩
  · have H := Lib.hid (show mayB a b x = true by unfold mayB; rw [decide_eq_true (show 0 ≤ min a b by omega), decide_eq_true h3, decide_eq_true h4, decide_eq_true h5]; rfl)
    have e1 : min a b ≥ 0 := by omega
    go_enter Try.func17, Try.ntmps17
    go_wp2_with fail
    go_ret
    rw [H.out]; exact ⟨rfl, rfl⟩
theorem May_is (a b x : Int) (w : World) (v : Bool) (h : Hid (mayB a b x = v)) : Calls Try.prog 17 #[.int .i64 a, .int .i64 b, .int .i64 x] w fun e w' => e = .returned (.bool v) ∧ w = w' := by
  rw [← h.out]; exact May_calls a b x w
theorem BoundNames_calls (w : World) : Calls Try.prog 6 #[] w fun e w' => e = .returned (.bool true) ∧ Below w.heap.size w w' := by
  have R1 := Lib.hid (show radI [3, 4] [0, 0] = (5, 0) by decide +kernel)
  have R2 := Lib.hid (show radI [3, 4] [0] = (0, 2) by decide +kernel)
  have O1 := Lib.hid (show endI (-1) 0 0 1 = (0, 2) by decide +kernel)
  have O2 := Lib.hid (show endI 70368744177665 0 0 1 = (0, 2) by decide +kernel)
  have O3 := Lib.hid (show endI 0 8388609 0 1 = (0, 2) by decide +kernel)
  have L1 := Lib.hid (show endI 16 2 16 (-1) = (-4, 0) by decide +kernel)
  have H1 := Lib.hid (show endI 16 2 16 1 = (36, 0) by decide +kernel)
  have M1 := Lib.hid (show mayB 16 20 (-4) = true by decide +kernel)
  have M2 := Lib.hid (show mayB 16 20 (-5) = false by decide +kernel)
  have M3 := Lib.hid (show mayB (-1) 0 9 = false by decide +kernel)
  go_enter Try.func6, Try.ntmps6
  go_wp2_with fail
  refine (Radius_is (some ⟨w.heap.size, 0, none⟩) (some ⟨w.heap.size + 1, 0, none⟩) 2 2 2 2 [3, 4] [0, 0] (5, 0) _ ((lit_at [3, 4] rfl (by decide)).below (below_alloc (Below.refl _ _) _)) (lit_at [0, 0] (by simp) (by decide)) rfl rfl R1).mono ?_
  rintro e w1 ⟨rfl, b1⟩
  have b01 := below_trans (below_alloc (below_alloc (Below.refl w.heap.size w) _) _) b1
  clear b1
  go_wp2_with fail
  refine (Radius_is (some ⟨w1.heap.size, 0, none⟩) (some ⟨w1.heap.size + 1, 0, none⟩) 2 1 2 1 [3, 4] [0] (0, 2) _ ((lit_at [3, 4] rfl (by decide)).below (below_alloc (Below.refl _ _) _)) (lit_at [0] (by simp) (by decide)) rfl rfl R2).mono ?_
  rintro e w2 ⟨rfl, b2⟩
  have b02 := below_trans b01 (below_trans (below_alloc (below_alloc (Below.refl w1.heap.size w1) _) _) b2)
  clear b01 b2
  go_wp2_with fail
  refine (Of_is (-1) 0 _ (0, 2) O1).mono ?_
  rintro e w3 ⟨rfl, b3⟩
  have b03 := below_trans b02 b3
  clear b02 b3
  go_wp2_with fail
  refine (Of_is 70368744177665 0 _ (0, 2) O2).mono ?_
  rintro e w4 ⟨rfl, b4⟩
  have b04 := below_trans b03 b4
  clear b03 b4
  go_wp2_with fail
  refine (Of_is 0 8388609 _ (0, 2) O3).mono ?_
  rintro e w5 ⟨rfl, b5⟩
  have b05 := below_trans b04 b5
  clear b04 b5
  go_wp2_with fail
  refine (Low_is 16 2 _ (-4, 0) L1).mono ?_
  rintro e w6 ⟨rfl, b6⟩
  have b06 := below_trans b05 b6
  clear b05 b6
  go_wp2_with fail
  refine (High_is 16 2 _ (36, 0) H1).mono ?_
  rintro e w7 ⟨rfl, b7⟩
  have b07 := below_trans b06 b7
  clear b06 b7
  go_wp2_with fail
  refine (lives_calls _).mono ?_
  rintro e w8 ⟨rfl, b8⟩
  have b08 := below_trans b07 b8
  clear b07 b8
  go_wp2_with fail
  refine (May_is 16 20 (-4) _ true M1).mono ?_
  rintro e w' ⟨rfl, rfl⟩
  go_wp2_with fail
  refine (May_is 16 20 (-5) _ false M2).mono ?_
  rintro e w' ⟨rfl, rfl⟩
  go_wp2_with fail
  refine (May_is (-1) 0 9 _ false M3).mono ?_
  rintro e w' ⟨rfl, rfl⟩
  go_wp2_with fail
  go_ret
  exact ⟨rfl, b08⟩
end Go.Proofs.Ytaiibjbhblpbpaa
