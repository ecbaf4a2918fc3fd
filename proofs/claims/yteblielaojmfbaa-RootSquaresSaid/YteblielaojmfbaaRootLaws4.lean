import Derived.Test.YteblielaojmfbaaRootLaws3
namespace Go.Proofs.Yteblielaojmfbaa
open Go.RowKit
theorem mulU_comm (a b : Int) : mulU b a = mulU a b := by unfold mulU; rw [Int.mul_comm]
theorem muls_0 (a : Int) (w : World) (a0 : 0 ≤ a) (a1 : a ≤ 18446744073709551615) :
    Calls Try.prog 7 #[.int .u64 a, .int .u64 0] w fun e w' => e = .returned (.bool true) ∧ w = w' := by
  have m : mulU a 0 = (0, 0) := by simp [mulU]
  have m' : mulU 0 a = (0, 0) := by simp [mulU]
  have s : sumU a 0 = (a, 0) := by rw [sumU, if_neg (by omega)]; simp
  go_enter Try.func7, Try.ntmps7
  go_wp2_with (first
    | (go_at_call 10; refine (lives_calls _).mono ?_; rintro e w' ⟨rfl, rfl⟩)
    | (go_at_call 16; refine (Mul_calls _ _ _ (by omega) (by omega) (by omega) (by omega)).mono ?_; rintro e w' ⟨rfl, rfl⟩)
    | (go_at_call 17; refine (Sum_calls _ _ _ (by omega) (by omega) (by omega) (by omega)).mono ?_; rintro e w' ⟨rfl, rfl⟩))
  go_ret
  exact ⟨rfl, rfl⟩
theorem muls_1 (a b : Int) (w : World) (a0 : 0 ≤ a) (a1 : a ≤ 18446744073709551615) (b0 : 1 ≤ b) (b1 : b ≤ 18446744073709551615) :
    Calls Try.prog 7 #[.int .u64 a, .int .u64 b] w fun e w' => e = .returned (.bool true) ∧ w = w' := by
  have d4 : (b == 0) = false := beq_eq_false_iff_ne.2 (by omega)
  have k0 : 0 ≤ a * b := Int.mul_nonneg a0 (by omega)
  by_cases hm : a * b > 18446744073709551615
  · have m : mulU a b = (0, 11) := by rw [mulU, if_pos hm]
    have m' : mulU b a = (0, 11) := by rw [mulU_comm, m]
    have hq : 18446744073709551615 / b < a := (Int.ediv_lt_iff_lt_mul (by omega)).2 hm
    clear hm
    by_cases hs : a + b > 18446744073709551615
    · have s : sumU a b = (0, 11) := by rw [sumU, if_pos hs]
      have d5 : decide (a ≤ 18446744073709551615 - b) = false := decide_eq_false (by omega)
      go_enter Try.func7, Try.ntmps7
      go_wp2_with (first
        | (go_at_call 10; refine (lives_calls _).mono ?_; rintro e w' ⟨rfl, rfl⟩)
        | (go_at_call 16; refine (Mul_calls _ _ _ (by omega) (by omega) (by omega) (by omega)).mono ?_; rintro e w' ⟨rfl, rfl⟩)
        | (go_at_call 17; refine (Sum_calls _ _ _ (by omega) (by omega) (by omega) (by omega)).mono ?_; rintro e w' ⟨rfl, rfl⟩))
      go_ret
      exact ⟨rfl, rfl⟩
    · have s : sumU a b = (a + b, 0) := by rw [sumU, if_neg hs]
      have d5 : decide (a ≤ 18446744073709551615 - b) = true := decide_eq_true (by omega)
      have d6 : decide (a + b < a) = false := decide_eq_false (by omega)
      have e7 : a + b - a = b := by omega
      go_enter Try.func7, Try.ntmps7
      go_wp2_with (first
        | (go_at_call 10; refine (lives_calls _).mono ?_; rintro e w' ⟨rfl, rfl⟩)
        | (go_at_call 16; refine (Mul_calls _ _ _ (by omega) (by omega) (by omega) (by omega)).mono ?_; rintro e w' ⟨rfl, rfl⟩)
        | (go_at_call 17; refine (Sum_calls _ _ _ (by omega) (by omega) (by omega) (by omega)).mono ?_; rintro e w' ⟨rfl, rfl⟩))
      go_ret
      exact ⟨rfl, rfl⟩
  · have m : mulU a b = (a * b, 0) := by rw [mulU, if_neg hm]
    have m' : mulU b a = (a * b, 0) := by rw [mulU_comm, m]
    have q1 : a * b / b = a := Int.mul_ediv_cancel a (by omega)
    have q2 : a * b % b = 0 := Int.mul_emod_left a b
    by_cases hs : a + b > 18446744073709551615
    · have s : sumU a b = (0, 11) := by rw [sumU, if_pos hs]
      have d5 : decide (a ≤ 18446744073709551615 - b) = false := decide_eq_false (by omega)
      go_enter Try.func7, Try.ntmps7
      go_wp2_with (first
        | (go_at_call 10; refine (lives_calls _).mono ?_; rintro e w' ⟨rfl, rfl⟩)
        | (go_at_call 16; refine (Mul_calls _ _ _ (by omega) (by omega) (by omega) (by omega)).mono ?_; rintro e w' ⟨rfl, rfl⟩)
        | (go_at_call 17; refine (Sum_calls _ _ _ (by omega) (by omega) (by omega) (by omega)).mono ?_; rintro e w' ⟨rfl, rfl⟩))
      go_ret
      exact ⟨rfl, rfl⟩
    · have s : sumU a b = (a + b, 0) := by rw [sumU, if_neg hs]
      have d5 : decide (a ≤ 18446744073709551615 - b) = true := decide_eq_true (by omega)
      have d6 : decide (a + b < a) = false := decide_eq_false (by omega)
      have e7 : a + b - a = b := by omega
      go_enter Try.func7, Try.ntmps7
      go_wp2_with (first
        | (go_at_call 10; refine (lives_calls _).mono ?_; rintro e w' ⟨rfl, rfl⟩)
        | (go_at_call 16; refine (Mul_calls _ _ _ (by omega) (by omega) (by omega) (by omega)).mono ?_; rintro e w' ⟨rfl, rfl⟩)
        | (go_at_call 17; refine (Sum_calls _ _ _ (by omega) (by omega) (by omega) (by omega)).mono ?_; rintro e w' ⟨rfl, rfl⟩))
      go_ret
      exact ⟨rfl, rfl⟩
theorem RootMuls_calls (a b : Int) (w : World) (a0 : 0 ≤ a) (a1 : a ≤ 18446744073709551615) (b0 : 0 ≤ b) (b1 : b ≤ 18446744073709551615) :
    Calls Try.prog 7 #[.int .u64 a, .int .u64 b] w fun e w' => e = .returned (.bool true) ∧ w = w' := by
  by_cases hn : b = 0
  · subst hn; exact muls_0 a w a0 a1
  · exact muls_1 a b w a0 a1 (by omega) b1
end Go.Proofs.Yteblielaojmfbaa
