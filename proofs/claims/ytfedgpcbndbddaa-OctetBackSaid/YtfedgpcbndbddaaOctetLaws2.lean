import Derived.Test.YtfedgpcbndbddaaOctetLaws
import Derived.Test.YtfedgpcbndbddaaReader
namespace Go.Proofs.Ytfedgpcbndbddaa
set_option linter.unusedVariables false
set_option linter.unusedSimpArgs false
open Go.RowKit
theorem below_grown_p {w W w1 : World} {p : Nat} (h : Below w.heap.size w W) (hg : W.grownBy w1 (some p)) (hp : w.heap.size ≤ p) : Below w.heap.size w w1 :=
  h.grown hg h.size fun k hk => by injection hk with hk; omega
/-! ### nil -/
theorem take_nil (n l : Int) (w : World) : Calls Try.prog 33 #[.pointer none, .int .i64 n, .int .i64 l] w fun en w' => en = .returned (.slice none 0 0) ∧ w = w' := by
  go_enter Try.func33, Try.ntmps33
  go_wp2
  go_ret
  exact ⟨rfl, rfl⟩
theorem Bytes_nil (n : Int) (w : World) : Calls Try.prog 20 #[.pointer none, .int .i64 n] w fun en w' => en = .returned (.slice none 0 0) ∧ w = w' := by
  go_enter Try.func20, Try.ntmps20
  go_wp2_with (go_at_call 33; refine (take_nil _ _ _).mono ?_; rintro en w' ⟨rfl, rfl⟩)
  go_ret
  exact ⟨rfl, rfl⟩
theorem Number_nil (n : Int) (w : World) : Calls Try.prog 22 #[.pointer none, .int .i64 n] w fun en w' => en = .returned (.int .u64 0) ∧ w = w' := by
  go_enter Try.func22, Try.ntmps22
  go_wp2_with fail
  refine (take_nil _ _ _).mono ?_
  rintro en w' ⟨rfl, rfl⟩
  go_wp2_with fail
  refine (Of_is none 0 [] w (SlI.nil _ _) (by simp [Bytes]) 0 (by decide)).mono ?_
  rintro en w' ⟨rfl, rfl⟩
  go_wp2_with fail
  go_ret
  exact ⟨rfl, rfl⟩
theorem sgn8_0 (n : Int) : sgn8 0 n = 0 := by
  refine sgn_cases (p := fun n => sgn8 0 n = 0) n (fun h => by rw [sgn8, if_pos h]) (by decide) (by decide) (by decide) (by decide) (by decide) (by decide) (by decide) (fun h => ?_)
  unfold sgn8
  rw [if_neg (by omega), if_neg (by omega), if_neg (by omega), if_neg (by omega), if_neg (by omega), if_neg (by omega), if_neg (by omega), if_neg (by omega)]
  decide
theorem RdSigned_nil (n : Int) (w : World) : Calls Try.prog 26 #[.pointer none, .int .i64 n] w fun en w' => en = .returned (.int .i64 0) ∧ w = w' := by
  go_enter Try.func26, Try.ntmps26
  go_wp2_with (first
    | (go_at_call 22; refine (Number_nil _ _).mono ?_; rintro en w' ⟨rfl, rfl⟩)
    | (go_at_call 17; refine (Signed_is 0 n _ (by decide) (by decide) 0 (sgn8_0 n)).mono ?_; rintro en w' ⟨rfl, rfl⟩))
  go_ret
  exact ⟨rfl, rfl⟩
theorem Err_nil (w : World) : Calls Try.prog 23 #[.pointer none] w fun en w' => en = .returned (.int .i64 1) ∧ w = w' := by
  go_enter Try.func23, Try.ntmps23
  go_wp2
  go_ret
  exact ⟨rfl, rfl⟩
theorem Left_nil (w : World) : Calls Try.prog 24 #[.pointer none] w fun en w' => en = .returned (.int .i64 0) ∧ w = w' := by
  go_enter Try.func24, Try.ntmps24
  go_wp2
  go_ret
  exact ⟨rfl, rfl⟩
theorem End_nil (w : World) : Calls Try.prog 25 #[.pointer none] w fun en w' => en = .returned (.int .i64 1) ∧ w = w' := by
  go_enter Try.func25, Try.ntmps25
  go_wp2_with (go_at_call 23; refine (Err_nil _).mono ?_; rintro en w' ⟨rfl, rfl⟩)
  go_ret
  exact ⟨rfl, rfl⟩
theorem OctetNil_calls (n : Int) (w : World) : Calls Try.prog 7 #[.int .i64 n] w fun e w' => e = .returned (.bool true) ∧ Below w.heap.size w w' := by
  go_enter Try.func7, Try.ntmps7
  go_wp2_with fail
  refine (lives_calls _).mono ?_
  rintro e w1 ⟨rfl, b1⟩
  go_wp2_with (first
    | (go_at_call 22; refine (Number_nil _ _).mono ?_; rintro en w' ⟨rfl, rfl⟩)
    | (go_at_call 26; refine (RdSigned_nil _ _).mono ?_; rintro en w' ⟨rfl, rfl⟩)
    | (go_at_call 20; refine (Bytes_nil _ _).mono ?_; rintro en w' ⟨rfl, rfl⟩)
    | (go_at_call 24; refine (Left_nil _).mono ?_; rintro en w' ⟨rfl, rfl⟩)
    | (go_at_call 23; refine (Err_nil _).mono ?_; rintro en w' ⟨rfl, rfl⟩)
    | (go_at_call 25; refine (End_nil _).mono ?_; rintro en w' ⟨rfl, rfl⟩))
  go_ret
  exact ⟨rfl, b1⟩
/-! ### The chapter's examples -/
theorem OctetNames_calls (w : World) : Calls Try.prog 6 #[] w fun e w' => e = .returned (.bool true) ∧ Below w.heap.size w w' := by
  go_enter Try.func6, Try.ntmps6
  go_wp2_with fail
  refine (New_calls _ 3 [1, 2, 3] _ (lit_at [1, 2, 3] (by simp) (by decide)) (by decide)).mono ?_
  rintro e w1 ⟨p, rfl, p0, p1, r1, b1⟩
  have b01 := below_trans (below_alloc (Below.refl _ _) _) b1
  have p2 : w.heap.size ≤ p := by simp at p0; omega
  clear b1
  go_wp2_with fail
  refine (Number_calls _ p [1, 2, 3] 0 1 _ r1 (by unfold Bytes; decide) [1] [2, 3] 0 (Lib.hid (by decide)) 1 (Lib.hid (by decide))).mono ?_
  rintro e w2 ⟨rfl, r2, g2⟩
  have b02 := below_grown_p b01 g2 p2
  clear b01 g2 r1
  go_wp2_with fail
  refine (Number_calls _ p [2, 3] 0 3 _ r2 (by unfold Bytes; decide) [] [2, 3] 5 (Lib.hid (by decide)) 0 (Lib.hid (by decide))).mono ?_
  rintro e w3 ⟨rfl, r3, g3⟩
  have b03 := below_grown_p b02 g3 p2
  clear b02 g3 r2
  go_wp2_with fail
  refine (Bytes_calls _ p [2, 3] 5 2 _ r3 [] [2, 3] 5 (Lib.hid (by decide))).mono ?_
  rintro e w4 ⟨A4, c4, rfl, s4, r4, g4⟩
  have b04 := below_grown_p b03 g4 p2
  clear b03 g4 r3
  go_wp2_with fail
  refine (lives_calls _).mono ?_
  rintro e w5 ⟨rfl, b5⟩
  have r5 := r4.below b5
  have b05 := below_trans b04 b5
  clear b04 b5 r4
  have x1 : endE [2, 3] 5 = 5 := by decide
  go_wp2_with (first
    | (go_at_call 23; refine (Err_calls _ p [2, 3] 5 _ r5).mono ?_; rintro en w' ⟨rfl, rfl⟩)
    | (go_at_call 24; refine (Left_calls _ p [2, 3] 5 _ r5).mono ?_; rintro en w' ⟨rfl, rfl⟩)
    | (go_at_call 25; refine (End_calls _ p [2, 3] 5 _ r5).mono ?_; rintro en w' ⟨rfl, rfl⟩)
    | (go_at_call 15; refine (Of_is none 0 [] _ (SlI.nil _ _) (by simp [Bytes]) 0 (by decide)).mono ?_; rintro en w' ⟨rfl, rfl⟩)
    | (go_at_call 17; refine (Signed_is _ 9 _ (by decide) (by decide) (-9223372036854775808) (by decide)).mono ?_; rintro en w' ⟨rfl, rfl⟩))
  refine (Put_is none 0 [] 7 (-1) _ (SlI.nil _ _) (by simp) [] (Lib.hid (by decide))).mono ?_
  rintro e w6 ⟨A6, c6, rfl, h6, b6⟩
  go_wp2_with fail
  go_ret
  exact ⟨rfl, below_trans b05 b6⟩
end Go.Proofs.Ytfedgpcbndbddaa
