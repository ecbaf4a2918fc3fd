import Derived.Test.YteblielaojmfbaaRootWalk3
namespace Go.Proofs.Yteblielaojmfbaa
open Go.RowKit
theorem lives_calls (w : World) : Calls Try.prog 10 #[] w fun e w' => e = .returned (.bool true) ∧ w = w' := by
  have a1 : flr 24 = 4 := flr_eq (by decide) (by decide) (by decide)
  have a2 : flr 25 = 5 := flr_eq (by decide) (by decide) (by decide)
  have a3 : cel 24 = 5 := by rw [cel, a1]; decide
  have a4 : cel 25 = 5 := by rw [cel, a2]; decide
  have a5 : divI (-7) 2 = (-4, 0) := by decide
  have a6 : meanI (-7) 2 = (-3, 0) := by decide
  have a7 : meanI 7 2 = (4, 0) := by decide
  go_enter Try.func10, Try.ntmps10
  go_wp2_with (first
    | (go_at_call 11; refine (Floor_calls _ _ (by omega) (by omega)).mono ?_; rintro e w' ⟨rfl, rfl⟩)
    | (go_at_call 12; refine (Ceil_calls _ _ (by omega) (by omega)).mono ?_; rintro e w' ⟨rfl, rfl⟩)
    | (go_at_call 14; refine (Div_calls _ _ _ (by omega) (by omega) (by omega)).mono ?_; rintro e w' ⟨rfl, rfl⟩)
    | (go_at_call 13; refine (Mean_calls _ _ _ (by omega) (by omega) (by omega)).mono ?_; rintro e w' ⟨rfl, rfl⟩))
  go_ret
  exact ⟨rfl, rfl⟩
theorem RootCalls_calls (a b c d : Int) (w : World) (a0 : 0 ≤ a) (a1 : a ≤ 18446744073709551615) (b0 : 0 ≤ b) (b1 : b ≤ 18446744073709551615) (c0 : -9223372036854775808 ≤ c) (c1 : c ≤ 9223372036854775807) (d1 : d ≤ 9223372036854775807) :
    Calls Try.prog 9 #[.int .u64 a, .int .u64 b, .int .i64 c, .int .i64 d] w fun e w' => e = .returned (.bool true) ∧ w = w' := by
  go_enter Try.func9, Try.ntmps9
  go_wp2_with (first
    | (go_at_call 10; refine (lives_calls _).mono ?_; rintro e w' ⟨rfl, rfl⟩)
    | (go_at_call 11; refine (Floor_calls _ _ a0 a1).mono ?_; rintro e w' ⟨rfl, rfl⟩)
    | (go_at_call 12; refine (Ceil_calls _ _ a0 a1).mono ?_; rintro e w' ⟨rfl, rfl⟩)
    | (go_at_call 14; refine (Div_calls _ _ _ c0 c1 d1).mono ?_; rintro e w' ⟨rfl, rfl⟩)
    | (go_at_call 13; refine (Mean_calls _ _ _ c0 c1 d1).mono ?_; rintro e w' ⟨rfl, rfl⟩)
    | (go_at_call 15; refine (Square_calls _ _ a0 a1).mono ?_; rintro e w' ⟨rfl, rfl⟩)
    | (go_at_call 16; refine (Mul_calls _ _ _ a0 a1 b0 b1).mono ?_; rintro e w' ⟨rfl, rfl⟩)
    | (go_at_call 17; refine (Sum_calls _ _ _ a0 a1 b0 b1).mono ?_; rintro e w' ⟨rfl, rfl⟩)
    | (go_at_call 23; refine (RFloor_calls _ _ a0 a1).mono ?_; rintro e w' ⟨rfl, rfl⟩)
    | (go_at_call 24; refine (RCeil_calls _ _ a0 a1).mono ?_; rintro e w' ⟨rfl, rfl⟩)
    | (go_at_call 21; refine (RDiv_calls _ _ _ c0 c1 d1).mono ?_; rintro e w' ⟨rfl, rfl⟩)
    | (go_at_call 22; refine (RMean_calls _ _ _ c0 c1 d1).mono ?_; rintro e w' ⟨rfl, rfl⟩)
    | (go_at_call 18; refine (RSquare_calls _ _ a0 a1).mono ?_; rintro e w' ⟨rfl, rfl⟩)
    | (go_at_call 20; refine (RMul_calls _ _ _ a0 a1 b0).mono ?_; rintro e w' ⟨rfl, rfl⟩)
    | (go_at_call 19; refine (RSum_calls _ _ _ a0 a1 b0 b1).mono ?_; rintro e w' ⟨rfl, rfl⟩))
  go_ret
  exact ⟨rfl, rfl⟩
end Go.Proofs.Yteblielaojmfbaa
