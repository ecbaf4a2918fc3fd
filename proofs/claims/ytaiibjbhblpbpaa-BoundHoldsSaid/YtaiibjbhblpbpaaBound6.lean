import Derived.Test.YtaiibjbhblpbpaaBound5
namespace Go.Proofs.Ytaiibjbhblpbpaa
set_option linter.unusedVariables false
set_option linter.unusedSimpArgs false
open Go.RowKit
theorem RMay_calls (a b x : Int) (w : World) : Calls Try.prog 22 #[.int .i64 a, .int .i64 b, .int .i64 x] w fun e w' => e = .returned (.bool (mayB a b x)) ∧ w = w' := by
  have cs : a < 0 ∨ (0 ≤ a ∧ b < 0) ∨ (0 ≤ a ∧ 0 ≤ b ∧ 70368744177664 < a) ∨ (0 ≤ a ∧ 0 ≤ b ∧ a ≤ 70368744177664 ∧ 281474976710656 < b) ∨ (0 ≤ a ∧ 0 ≤ b ∧ a ≤ 70368744177664 ∧ b ≤ 281474976710656 ∧ x < a - b) ∨ (0 ≤ a ∧ 0 ≤ b ∧ a ≤ 70368744177664 ∧ b ≤ 281474976710656 ∧ a - b ≤ x) := by omega
  have hk : (0 ≤ a ∧ 0 ≤ b ∧ a ≤ 70368744177664 ∧ b ≤ 281474976710656 ∧ a - b ≤ x ∧ mayB a b x = true) ∨ (¬ (0 ≤ a ∧ 0 ≤ b ∧ a ≤ 70368744177664 ∧ b ≤ 281474976710656 ∧ a - b ≤ x) ∧ mayB a b x = false) := by
    by_cases h : 0 ≤ a ∧ 0 ≤ b ∧ a ≤ 70368744177664 ∧ b ≤ 281474976710656 ∧ a - b ≤ x
    · refine .inl ⟨h.1, h.2.1, h.2.2.1, h.2.2.2.1, h.2.2.2.2, ?_⟩
      unfold mayB
      rw [decide_eq_true (show 0 ≤ min a b by omega), decide_eq_true h.2.2.1, decide_eq_true h.2.2.2.1, decide_eq_true h.2.2.2.2]; rfl
    · refine .inr ⟨h, ?_⟩
      cases hm : mayB a b x with
      | false => rfl
      | true =>
        exfalso; apply h
        unfold mayB at hm
        simp only [Bool.and_eq_true, decide_eq_true_eq] at hm
        omega
  rcases cs with h | ⟨h, h2⟩ | ⟨h, h2, h3⟩ | ⟨h, h2, h3, h4⟩ | ⟨h, h2, h3, h4, h5⟩ | ⟨h, h2, h3, h4, h5⟩
  case inr.inr.inr.inr.inr =>
    have H := Lib.hid (show mayB a b x = true by
      rcases hk with h' | h'
      · exact h'.2.2.2.2.2
      · omega)
    clear hk
    go_enter Try.func22, Try.ntmps22
    go_wp2_with fail
    go_ret
    rw [H.out]; exact ⟨by simp; try omega, rfl⟩
  all_goals
    have H := Lib.hid (show mayB a b x = false by
      rcases hk with h' | h'
      · omega
      · exact h'.2)
    clear hk
    go_enter Try.func22, Try.ntmps22
    go_wp2_with fail
    go_ret
    rw [H.out]; exact ⟨by first | rfl | (simp; omega), rfl⟩
end Go.Proofs.Ytaiibjbhblpbpaa
