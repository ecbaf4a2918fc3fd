import Derived.Test.YtaiibjbhblpbpaaRootCeil
namespace Go.Proofs.Ytaiibjbhblpbpaa
set_option linter.unusedVariables false
set_option linter.unusedSimpArgs false
open Go.RowKit
/-- The reference's root: bit by bit: what is known of r when the bits from k on are done: r is a multiple of 2^k, r² ≤ n < (r + 2^k)². -/
theorem bits_step {n r p : Int} (h2 : n < (r + 2 * p) * (r + 2 * p)) :
    ((r + p) * (r + p) ≤ n → n < (r + p + p) * (r + p + p)) ∧ (¬ (r + p) * (r + p) ≤ n → n < (r + p) * (r + p)) := by
  refine ⟨fun _ => ?_, fun h => by omega⟩
  rw [show r + p + p = r + 2 * p from by omega]; exact h2
theorem pow_succ_int (k : Nat) : (2 : Int) ^ (k + 1) = 2 * 2 ^ k := by rw [Int.pow_succ]; omega
theorem pow_le_31 {k : Nat} (h : k ≤ 31) : (2 : Int) ^ k ≤ 2147483648 := by
  have h2 : (2 : Nat) ^ k ≤ 2 ^ 31 := Nat.pow_le_pow_right (by decide) h
  have h3 : ((2 ^ k : Nat) : Int) ≤ ((2 ^ 31 : Nat) : Int) := Int.ofNat_le.mpr h2
  rw [Int.natCast_pow] at h3; exact h3
set_option maxHeartbeats 400000 in
theorem RFloor_calls (n : Int) (w : World) (h0 : 0 ≤ n) (h1 : n ≤ 18446744073709551615) :
    Calls Try.prog 33 #[.int .u64 n] w fun e w' => e = .returned (.int .u64 (flr n)) ∧ w = w' := by
  go_enter Try.func33, Try.ntmps33
  go_wp2
  go_loopg [3, 4] 33 (fun k r i w' => ∃ (x : Int) (j : Nat), r = .int .u64 x ∧ i = .int .i64 ((j : Int) - 1) ∧ j ≤ 32 ∧ j < k ∧ 0 ≤ x ∧ x ≤ 4294967296 - 2 ^ j ∧ Hid (x * x ≤ n ∧ n < (x + 2 ^ j) * (x + 2 ^ j)) ∧ w = w')
  case atStart => exact ⟨0, 32, rfl, rfl, by omega, by omega, by omega, by omega, ⟨by omega, by omega⟩, rfl⟩
  case round =>
    obtain ⟨x, j, rfl, rfl, hj, hk, hx0, hx1, hH, rfl⟩ := hrel
    cases j with
    | zero =>
      go_wp2
      go_ret
      exact ⟨ret_int (flr_eq hx0 hH.out.1 (by simpa using hH.out.2)).symm, rfl⟩
    | succ j =>
      have hp := pow_le_31 (k := j) (by omega)
      have hq := two_pow_pos j
      have e1 := pow_succ_int j
      rw [e1] at hx1 hH
      have hsq0 : 0 ≤ (x + 2 ^ j) * (x + 2 ^ j) := Int.mul_nonneg (by omega) (by omega)
      have hsq1 : (x + 2 ^ j) * (x + 2 ^ j) ≤ 18446744073709551615 := by
        have := Int.mul_le_mul (show x + 2 ^ j ≤ 4294967295 by omega) (show x + 2 ^ j ≤ 4294967295 by omega) (by omega) (by omega)
        omega
      clear e1
      by_cases hle : (x + 2 ^ j) * (x + 2 ^ j) ≤ n
      · have H := Lib.hid ((bits_step hH.out.2).1 hle)
        go_wp2
        go_roundg (j + 1)
        case measure => omega
        case rel => exact ⟨_, j, rfl, rfl, by omega, by omega, by omega, by omega, ⟨hle, H.out⟩, rfl⟩
      · have H := Lib.hid ((bits_step hH.out.2).2 hle)
        go_wp2
        go_roundg (j + 1)
        case measure => omega
        case rel => exact ⟨_, j, rfl, rfl, by omega, by omega, by omega, by omega, ⟨hH.out.1, H.out⟩, rfl⟩
theorem RCeil_calls (n : Int) (w : World) (h0 : 0 ≤ n) (h1 : n ≤ 18446744073709551615) :
    Calls Try.prog 29 #[.int .u64 n] w fun e w' => e = .returned (.int .u64 (cel n)) ∧ w = w' := by
  have hf := flr_lt h0 h1
  obtain ⟨k0, k1, k2⟩ := flr_spec h0
  have k3 : 0 ≤ flr n * flr n := Int.mul_nonneg k0 k0
  by_cases h : flr n * flr n < n
  · have H := Lib.hid (show cel n = flr n + 1 by unfold cel; rw [if_neg (by omega)])
    go_enter Try.func29, Try.ntmps29
    go_wp2_with (go_at_call 33; refine (RFloor_calls _ _ h0 h1).mono ?_; rintro e w' ⟨rfl, rfl⟩)
    go_ret
    exact ⟨ret_int H.out.symm, rfl⟩
  · have H := Lib.hid (show cel n = flr n by unfold cel; rw [if_pos (by omega)])
    go_enter Try.func29, Try.ntmps29
    go_wp2_with (go_at_call 33; refine (RFloor_calls _ _ h0 h1).mono ?_; rintro e w' ⟨rfl, rfl⟩)
    go_ret
    exact ⟨ret_int H.out.symm, rfl⟩
end Go.Proofs.Ytaiibjbhblpbpaa
