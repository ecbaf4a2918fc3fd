import Derived.Test.YtaiibjbhblpbpaaBound3
import Derived.Test.YtaiibjbhblpbpaaBound4
namespace Go.Proofs.Ytaiibjbhblpbpaa
set_option linter.unusedVariables false
set_option linter.unusedSimpArgs false
open Go.RowKit
/-! The reference's bounds. -/
theorem may_calls (a r : Int) (w : World) : Calls Try.prog 30 #[.int .i64 a, .int .i64 r] w fun e w' => e = .returned (.bool (okB a r)) ∧ w = w' := by
  have cs : a < 0 ∨ (0 ≤ a ∧ 70368744177664 < a) ∨ (0 ≤ a ∧ a ≤ 70368744177664 ∧ r < 0) ∨ (0 ≤ a ∧ a ≤ 70368744177664 ∧ 0 ≤ r ∧ 8388608 < r) ∨ (0 ≤ a ∧ a ≤ 70368744177664 ∧ 0 ≤ r ∧ r ≤ 8388608) := by omega
  have hk : (0 ≤ a ∧ a ≤ 70368744177664 ∧ 0 ≤ r ∧ r ≤ 8388608) ∨ okB a r = false := by
    cases h : okB a r with
    | true => exact .inl (okB_iff.1 h)
    | false => exact .inr rfl
  rcases cs with h | ⟨h, h2⟩ | ⟨h, h2, h3⟩ | ⟨h, h2, h3, h4⟩ | ⟨h, h2, h3, h4⟩
  case inr.inr.inr.inr =>
    have H := Lib.hid (okB_iff.2 ⟨h, h2, h3, h4⟩)
    clear hk
    go_enter Try.func30, Try.ntmps30
    go_wp2_with fail
    go_ret
    rw [H.out]; exact ⟨by simp; try omega, rfl⟩
  all_goals
    have H := Lib.hid (show okB a r = false by
      rcases hk with h' | h'
      · omega
      · exact h')
    clear hk
    go_enter Try.func30, Try.ntmps30
    go_wp2_with fail
    go_ret
    rw [H.out]; exact ⟨by first | rfl | (simp; omega), rfl⟩
theorem ROf_calls (a r : Int) (w : World) : Calls Try.prog 19 #[.int .i64 a, .int .i64 r] w fun e w' => e = .returned (.tuple #[.int .i64 (endI a r 0 1).1, .int .i64 (endI a r 0 1).2]) ∧ w = w' := by
  have M := fun w => may_calls a r w
  cases hk : okB a r with
  | true =>
    rw [hk] at M
    obtain ⟨a0, a1, r0, r1⟩ := okB_iff.1 hk
    obtain ⟨c0, c1⟩ := cel_bd a0 a1
    have hb := bnd_bd hk
    have hE := Lib.hid (show endI a r 0 1 = (2 * cel a * r + r * r, 0) by rw [endI_t hk]; unfold bnd; congr 1; omega)
    have C := fun w => RCeil_calls a w a0 (by omega)
    generalize cel a = c at *
    clear hk
    go_enter Try.func19, Try.ntmps19
    go_wp2_with fail
    refine (M _).mono ?_
    rintro e w' ⟨rfl, rfl⟩
    go_wp2_with fail
    refine (C _).mono ?_
    rintro e w' ⟨rfl, rfl⟩
    go_wp2_with fail
    go_ret2
    rw [hE.out]; exact ⟨rfl, rfl⟩
  | false =>
    rw [hk] at M
    have hE := Lib.hid (endI_f (x := 0) (t := 1) hk)
    go_enter Try.func19, Try.ntmps19
    go_wp2_with fail
    refine (M _).mono ?_
    rintro e w' ⟨rfl, rfl⟩
    go_wp2_with fail
    go_ret2
    rw [hE.out]; exact ⟨rfl, rfl⟩
theorem RLow_calls (a r : Int) (w : World) : Calls Try.prog 20 #[.int .i64 a, .int .i64 r] w fun e w' => e = .returned (.tuple #[.int .i64 (endI a r a (-1)).1, .int .i64 (endI a r a (-1)).2]) ∧ w = w' := by
  have O := fun w => ROf_calls a r w
  cases hk : okB a r with
  | true =>
    rw [endI_t hk] at O
    obtain ⟨a0, a1, r0, r1⟩ := okB_iff.1 hk
    have hb := bnd_bd hk
    have hE := Lib.hid (show endI a r a (-1) = (a - (0 + 1 * bnd a r), 0) by rw [endI_t hk]; congr 1; omega)
    have hz : 0 + 1 * bnd a r = bnd a r := by omega
    rw [hz] at O hE
    generalize bnd a r = B at *
    clear hk
    go_enter Try.func20, Try.ntmps20
    go_wp2_with fail
    refine (O _).mono ?_
    rintro e w' ⟨rfl, rfl⟩
    go_wp2_with fail
    go_ret2
    rw [hE.out]; exact ⟨rfl, rfl⟩
  | false =>
    rw [endI_f hk] at O
    have hE := Lib.hid (endI_f (x := a) (t := -1) hk)
    go_enter Try.func20, Try.ntmps20
    go_wp2_with fail
    refine (O _).mono ?_
    rintro e w' ⟨rfl, rfl⟩
    go_wp2_with fail
    go_ret2
    rw [hE.out]; exact ⟨rfl, rfl⟩
theorem RHigh_calls (a r : Int) (w : World) : Calls Try.prog 21 #[.int .i64 a, .int .i64 r] w fun e w' => e = .returned (.tuple #[.int .i64 (endI a r a (1)).1, .int .i64 (endI a r a (1)).2]) ∧ w = w' := by
  have O := fun w => ROf_calls a r w
  cases hk : okB a r with
  | true =>
    rw [endI_t hk] at O
    obtain ⟨a0, a1, r0, r1⟩ := okB_iff.1 hk
    have hb := bnd_bd hk
    have hE := Lib.hid (show endI a r a (1) = (a + (0 + 1 * bnd a r), 0) by rw [endI_t hk]; congr 1; omega)
    have hz : 0 + 1 * bnd a r = bnd a r := by omega
    rw [hz] at O hE
    generalize bnd a r = B at *
    clear hk
    go_enter Try.func21, Try.ntmps21
    go_wp2_with fail
    refine (O _).mono ?_
    rintro e w' ⟨rfl, rfl⟩
    go_wp2_with fail
    go_ret2
    rw [hE.out]; exact ⟨rfl, rfl⟩
  | false =>
    rw [endI_f hk] at O
    have hE := Lib.hid (endI_f (x := a) (t := 1) hk)
    go_enter Try.func21, Try.ntmps21
    go_wp2_with fail
    refine (O _).mono ?_
    rintro e w' ⟨rfl, rfl⟩
    go_wp2_with fail
    go_ret2
    rw [hE.out]; exact ⟨rfl, rfl⟩
theorem RHolds_calls (d a r : Int) (w : World) : Calls Try.prog 23 #[.int .i64 d, .int .i64 a, .int .i64 r] w fun e w' => e = .returned (.bool (holdsB d a r)) ∧ w = w' := by
  have L := fun w => RLow_calls a r w
  have H := fun w => RHigh_calls a r w
  unfold holdsB
  cases hk : okB a r with
  | true =>
    rw [endI_t hk] at L H
    have e1 : a + -1 * bnd a r = a - bnd a r := by omega
    have e2 : a + 1 * bnd a r = a + bnd a r := by omega
    rw [e1] at L
    rw [e2] at H
    generalize bnd a r = B at *
    by_cases h1 : a - B ≤ d
    · by_cases h2 : d ≤ a + B
      all_goals
        go_enter Try.func23, Try.ntmps23
        go_wp2_with fail
        refine (L _).mono ?_
        rintro e w' ⟨rfl, rfl⟩
        go_wp2_with fail
        refine (H _).mono ?_
        rintro e w' ⟨rfl, rfl⟩
        go_wp2_with fail
        go_ret
        exact ⟨by simp [h1, h2], rfl⟩
    · go_enter Try.func23, Try.ntmps23
      go_wp2_with fail
      refine (L _).mono ?_
      rintro e w' ⟨rfl, rfl⟩
      go_wp2_with fail
      refine (H _).mono ?_
      rintro e w' ⟨rfl, rfl⟩
      go_wp2_with fail
      go_ret
      exact ⟨by simp; omega, rfl⟩
  | false =>
    rw [endI_f hk] at L H
    go_enter Try.func23, Try.ntmps23
    go_wp2_with fail
    refine (L _).mono ?_
    rintro e w' ⟨rfl, rfl⟩
    go_wp2_with fail
    refine (H _).mono ?_
    rintro e w' ⟨rfl, rfl⟩
    go_wp2_with fail
    go_ret
    exact ⟨rfl, rfl⟩
end Go.Proofs.Ytaiibjbhblpbpaa
