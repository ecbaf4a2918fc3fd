import Derived.Test.YtaiibjbhblpbpaaBound0
namespace Go.Proofs.Ytaiibjbhblpbpaa
set_option linter.unusedVariables false
set_option linter.unusedSimpArgs false
open Go.RowKit
/-- What Of, Low and High answer. -/
def endI (a r x t : Int) : Int × Int := if okB a r then (x + t * bnd a r, 0) else (0, 2)
theorem endI_t {a r x t : Int} (h : okB a r = true) : endI a r x t = (x + t * bnd a r, 0) := by unfold endI; rw [if_pos h]
theorem endI_f {a r x t : Int} (h : okB a r = false) : endI a r x t = (0, 2) := by unfold endI; rw [if_neg (by rw [h]; decide)]
theorem with_is (a r x t : Int) (w : World) (hx : 0 ≤ x ∧ x ≤ 70368744177664 ∨ okB a r = false) (ht : t = 1 ∨ t = -1) :
    Calls Try.prog 24 #[.int .i64 a, .int .i64 r, .int .i64 x, .int .i64 t] w fun e w' => e = .returned (.tuple #[.int .i64 (endI a r x t).1, .int .i64 (endI a r x t).2]) ∧ Below w.heap.size w w' := by
  refine (with_calls a r x t w hx ht).mono fun e w' ⟨h1, h2⟩ => ⟨?_, h2⟩
  rw [h1]; unfold endI; split <;> rfl
theorem aOk (a r : Int) : 0 ≤ a ∧ a ≤ 70368744177664 ∨ okB a r = false := by
  cases h : okB a r with
  | true => exact .inl ⟨(okB_iff.1 h).1, (okB_iff.1 h).2.1⟩
  | false => exact .inr rfl
theorem first_ok (a r x : Int) (h : x = 0 ∨ x = a) : 0 ≤ x ∧ x ≤ 70368744177664 ∨ okB a r = false := by
  rcases h with rfl | rfl
  · exact .inl (by decide)
  · exact aOk _ r
theorem Of_calls (a r : Int) (w : World) :
    Calls Try.prog 15 #[.int .i64 a, .int .i64 r] w fun e w' => e = .returned (.tuple #[.int .i64 (endI a r 0 (1)).1, .int .i64 (endI a r 0 (1)).2]) ∧ Below w.heap.size w w' := by
  have W := fun w => with_is a r 0 (1) w (first_ok a r 0 (by first | exact .inl rfl | exact .inr rfl)) (by decide)
  generalize (endI a r 0 (1)).1 = x at *
  generalize (endI a r 0 (1)).2 = y at *
  go_enter Try.func15, Try.ntmps15
  go_wp2_with fail
  refine (W _).mono ?_
  rintro e w1 ⟨rfl, b1⟩
  go_wp2_with fail
  go_ret2
  exact ⟨rfl, b1⟩
theorem Low_calls (a r : Int) (w : World) :
    Calls Try.prog 9 #[.int .i64 a, .int .i64 r] w fun e w' => e = .returned (.tuple #[.int .i64 (endI a r a (-1)).1, .int .i64 (endI a r a (-1)).2]) ∧ Below w.heap.size w w' := by
  have W := fun w => with_is a r a (-1) w (first_ok a r a (by first | exact .inl rfl | exact .inr rfl)) (by decide)
  generalize (endI a r a (-1)).1 = x at *
  generalize (endI a r a (-1)).2 = y at *
  go_enter Try.func9, Try.ntmps9
  go_wp2_with fail
  refine (W _).mono ?_
  rintro e w1 ⟨rfl, b1⟩
  go_wp2_with fail
  go_ret2
  exact ⟨rfl, b1⟩
theorem High_calls (a r : Int) (w : World) :
    Calls Try.prog 10 #[.int .i64 a, .int .i64 r] w fun e w' => e = .returned (.tuple #[.int .i64 (endI a r a (1)).1, .int .i64 (endI a r a (1)).2]) ∧ Below w.heap.size w w' := by
  have W := fun w => with_is a r a (1) w (first_ok a r a (by first | exact .inl rfl | exact .inr rfl)) (by decide)
  generalize (endI a r a (1)).1 = x at *
  generalize (endI a r a (1)).2 = y at *
  go_enter Try.func10, Try.ntmps10
  go_wp2_with fail
  refine (W _).mono ?_
  rintro e w1 ⟨rfl, b1⟩
  go_wp2_with fail
  go_ret2
  exact ⟨rfl, b1⟩
/-- What Holds answers. -/
def holdsB (d a r : Int) : Bool := okB a r && (decide (a - bnd a r ≤ d) && decide (d ≤ a + bnd a r))
theorem Holds_calls (d a r : Int) (w : World) :
    Calls Try.prog 11 #[.int .i64 d, .int .i64 a, .int .i64 r] w fun e w' => e = .returned (.bool (holdsB d a r)) ∧ Below w.heap.size w w' := by
  have PB := fun w => pbound_calls a r w
  unfold holdsB
  cases hk : okB a r with
  | true =>
    have hb := bnd_bd hk
    obtain ⟨a0, a1, _⟩ := okB_iff.1 hk
    rw [hk] at PB
    generalize bnd a r = B at *
    by_cases h1 : a - B ≤ d
    · by_cases h2 : d ≤ a + B
      all_goals
        go_enter Try.func11, Try.ntmps11
        go_wp2_with fail
        refine (PB _).mono ?_
        rintro e w1 ⟨rfl, b1⟩
        go_wp2_with fail
        go_ret
        exact ⟨by simp [h1, h2], b1⟩
    · go_enter Try.func11, Try.ntmps11
      go_wp2_with fail
      refine (PB _).mono ?_
      rintro e w1 ⟨rfl, b1⟩
      go_wp2_with fail
      go_ret
      exact ⟨by simp; omega, b1⟩
  | false =>
    rw [hk] at PB
    go_enter Try.func11, Try.ntmps11
    go_wp2_with fail
    refine (PB _).mono ?_
    rintro e w1 ⟨rfl, b1⟩
    go_wp2_with fail
    go_ret
    exact ⟨rfl, b1⟩
end Go.Proofs.Ytaiibjbhblpbpaa
