import Derived.Test.YteblielaojmfbaaRootWalk1
import Derived.Shelf.Spec.BitsCarry
namespace Go.Proofs.Yteblielaojmfbaa
open Go.RowKit
theorem add64 (x y : Int) (hx : 0 ≤ x) (hy : 0 ≤ y) (w : World) : (callFunc 28 #[.int .u64 x, .int .u64 y, .int .u64 0]).run Try.prog w =
    .ok (.value (.tuple #[.int .u64 ((x + y) % 18446744073709551616), .int .u64 ((x + y) / 18446744073709551616)])) w := by
  obtain ⟨x, rfl⟩ := Int.eq_ofNat_of_zero_le hx
  obtain ⟨y, rfl⟩ := Int.eq_ofNat_of_zero_le hy
  have h := run_add64 (P := Try.prog) x y 0 (by omega) (by omega) (by omega) (by omega) (w := w)
  rw [run_callFunc_extern Try.func28 (by kernel_rfl) (by kernel_rfl) (by kernel_rfl) (e := add64Entry) (by kernel_rfl), h]
  simp only [Result.andThen, Int.add_zero]
theorem unless_calls (b : Bool) (x : Int) (w : World) :
    Calls Try.prog 27 #[.bool b, .int .u64 x] w fun e w' => e = .returned (.tuple #[.int .u64 (if b then 0 else x), .int .i64 (if b then 11 else 0)]) ∧ w = w' := by
  cases b
  · go_enter Try.func27, Try.ntmps27
    go_wp2
    go_ret2
    exact ⟨rfl, rfl⟩
  · go_enter Try.func27, Try.ntmps27
    go_wp2
    go_ret2
    exact ⟨rfl, rfl⟩
theorem Mul64_calls (a b : Int) (w : World) (h0 : 0 ≤ a) (h1 : a ≤ 18446744073709551615) (h2 : 0 ≤ b) (h3 : b ≤ 18446744073709551615) :
    Calls Try.prog 26 #[.int .u64 a, .int .u64 b] w fun e w' => ∃ x y : Int, 0 ≤ x ∧ 0 ≤ y ∧ y ≤ 18446744073709551615 ∧ Hid (a * b = x * 18446744073709551616 + y) ∧ e = .returned (.tuple #[.int .u64 x, .int .u64 y]) ∧ w = w' := by
  obtain ⟨a, rfl⟩ := Int.eq_ofNat_of_zero_le h0
  obtain ⟨b, rfl⟩ := Int.eq_ofNat_of_zero_le h2
  refine (Try.bits_Mul64 a b (by omega) (by omega) w).mono fun e w' ⟨he, hw⟩ => ⟨_, _, by omega, by omega, by omega, ?_, he, hw.symm⟩
  show (a : Int) * b = _
  have := Nat.div_add_mod (a * b) 18446744073709551616
  have h : ((a * b : Nat) : Int) = a * b := by simp
  omega
theorem Mul_calls (a b : Int) (w : World) (h0 : 0 ≤ a) (h1 : a ≤ 18446744073709551615) (h2 : 0 ≤ b) (h3 : b ≤ 18446744073709551615) :
    Calls Try.prog 16 #[.int .u64 a, .int .u64 b] w fun e w' => e = .returned (.tuple #[.int .u64 (mulU a b).1, .int .i64 (mulU a b).2]) ∧ w = w' := by
  go_enter Try.func16, Try.ntmps16
  go_wp2_with (first
    | (go_at_call 26; refine (Mul64_calls _ _ _ h0 h1 h2 h3).mono ?_; rintro e w' ⟨x, y, k0, k1, k2, k3, rfl, rfl⟩)
    | (go_at_call 27; refine (unless_calls _ _ _).mono ?_; rintro e w' ⟨rfl, rfl⟩))
  · go_ret2
    exact ⟨ret2_int (by have h := k3.out; unfold mulU; rw [if_pos (by omega)]), rfl⟩
  · go_ret2
    exact ⟨ret2_int (by have h := k3.out; unfold mulU; rw [if_neg (by omega)]; congr 1; omega), rfl⟩
theorem Square_calls (a : Int) (w : World) (h0 : 0 ≤ a) (h1 : a ≤ 18446744073709551615) :
    Calls Try.prog 15 #[.int .u64 a] w fun e w' => e = .returned (.tuple #[.int .u64 (mulU a a).1, .int .i64 (mulU a a).2]) ∧ w = w' := by
  go_enter Try.func15, Try.ntmps15
  go_wp2_with (go_at_call 16; refine (Mul_calls _ _ _ h0 h1 h0 h1).mono ?_; rintro e w' ⟨rfl, rfl⟩)
  go_ret2
  exact ⟨rfl, rfl⟩
theorem Sum_calls (a b : Int) (w : World) (h0 : 0 ≤ a) (h1 : a ≤ 18446744073709551615) (h2 : 0 ≤ b) (h3 : b ≤ 18446744073709551615) :
    Calls Try.prog 17 #[.int .u64 a, .int .u64 b] w fun e w' => e = .returned (.tuple #[.int .u64 (sumU a b).1, .int .i64 (sumU a b).2]) ∧ w = w' := by
  go_enter Try.func17, Try.ntmps17
  go_wp2_with (first
    | simp only [add64 a b h0 h2]
    | (go_at_call 27; refine (unless_calls _ _ _).mono ?_; rintro e w' ⟨rfl, rfl⟩))
  · go_ret2
    exact ⟨ret2_int (by unfold sumU; rw [if_pos (by omega)]), rfl⟩
  · go_ret2
    exact ⟨ret2_int (by unfold sumU; rw [if_neg (by omega)]; congr 1; omega), rfl⟩
theorem RMul_calls (a b : Int) (w : World) (h0 : 0 ≤ a) (h1 : a ≤ 18446744073709551615) (h2 : 0 ≤ b) :
    Calls Try.prog 20 #[.int .u64 a, .int .u64 b] w fun e w' => e = .returned (.tuple #[.int .u64 (mulU a b).1, .int .i64 (mulU a b).2]) ∧ w = w' := by
  have hab : 0 ≤ a * b := Int.mul_nonneg h0 h2
  by_cases hz : 0 < a
  · by_cases hx : b > 18446744073709551615 / a
    · have e : mulU a b = (0, 11) := by
        have := (Int.ediv_lt_iff_lt_mul hz).1 hx
        unfold mulU; rw [if_pos (by rw [Int.mul_comm a b]; omega)]
      rw [e]; clear e
      go_enter Try.func20, Try.ntmps20
      go_wp2
      go_ret2
      exact ⟨rfl, rfl⟩
    · have hle : a * b ≤ 18446744073709551615 := by
        have := (Int.le_ediv_iff_mul_le hz).1 (show b ≤ 18446744073709551615 / a by omega)
        rw [Int.mul_comm a b]; omega
      have e := Lib.hid (show mulU a b = (a * b, 0) by unfold mulU; rw [if_neg (by omega)])
      go_enter Try.func20, Try.ntmps20
      go_wp2
      go_ret2
      exact ⟨ret2_int (by rw [e.out]), rfl⟩
  · have : a = 0 := by omega
    subst this
    go_enter Try.func20, Try.ntmps20
    go_wp2
    go_ret2
    exact ⟨ret2_int (by simp [mulU]), rfl⟩
theorem RSquare_calls (a : Int) (w : World) (h0 : 0 ≤ a) (h1 : a ≤ 18446744073709551615) :
    Calls Try.prog 18 #[.int .u64 a] w fun e w' => e = .returned (.tuple #[.int .u64 (mulU a a).1, .int .i64 (mulU a a).2]) ∧ w = w' := by
  go_enter Try.func18, Try.ntmps18
  go_wp2_with (go_at_call 20; refine (RMul_calls _ _ _ h0 h1 h0).mono ?_; rintro e w' ⟨rfl, rfl⟩)
  go_ret2
  exact ⟨rfl, rfl⟩
theorem RSum_calls (a b : Int) (w : World) (h0 : 0 ≤ a) (h1 : a ≤ 18446744073709551615) (h2 : 0 ≤ b) (h3 : b ≤ 18446744073709551615) :
    Calls Try.prog 19 #[.int .u64 a, .int .u64 b] w fun e w' => e = .returned (.tuple #[.int .u64 (sumU a b).1, .int .i64 (sumU a b).2]) ∧ w = w' := by
  by_cases hx : a + b > 18446744073709551615
  · have e := Lib.hid (show sumU a b = (0, 11) by unfold sumU; rw [if_pos hx])
    have k : decide (IntKind.u64.wrap (a + b) < a) = true := by rw [IntKind.wrap_u64]; simp; omega
    go_enter Try.func19, Try.ntmps19
    go_wp2
    go_ret2
    exact ⟨ret2_int (by rw [e.out]), rfl⟩
  · have e := Lib.hid (show sumU a b = (a + b, 0) by unfold sumU; rw [if_neg hx])
    go_enter Try.func19, Try.ntmps19
    go_wp2
    go_ret2
    exact ⟨ret2_int (by rw [e.out]), rfl⟩
end Go.Proofs.Yteblielaojmfbaa
