import Derived.Test.YteblielaojmfbaaRootWalk0
namespace Go.Proofs.Yteblielaojmfbaa
open Go.RowKit
theorem ret2_int {k k' : IntKind} {a b : Int} {q : Int × Int} (h : (a, b) = q) : Ending.returned (.tuple #[.int k a, .int k' b]) = .returned (.tuple #[.int k q.1, .int k' q.2]) := by rw [← h]
theorem wrap64_id {x : Int} (h0 : -9223372036854775808 ≤ x) (h1 : x ≤ 9223372036854775807) : wrap64 x = x := by unfold wrap64; omega
theorem Ceil_calls (n : Int) (w : World) (h0 : 0 ≤ n) (h1 : n ≤ 18446744073709551615) :
    Calls Try.prog 12 #[.int .u64 n] w fun e w' => e = .returned (.int .u64 (cel n)) ∧ w = w' := by
  have hf := flr_lt h0 h1
  obtain ⟨k0, k1, k2⟩ := flr_spec h0
  have k3 : 0 ≤ flr n * flr n := Int.mul_nonneg k0 k0
  by_cases h : flr n * flr n = n
  · have hb : (flr n * flr n == n) = true := beq_iff_eq.2 h
    have H := Lib.hid h
    clear h
    go_enter Try.func12, Try.ntmps12
    go_wp2_with (go_at_call 11; refine (Floor_calls _ _ h0 h1).mono ?_; rintro e w' ⟨rfl, rfl⟩)
    go_ret
    exact ⟨ret_int (by rw [cel, if_pos H.out]), rfl⟩
  · have hb : (flr n * flr n == n) = false := beq_eq_false_iff_ne.2 h
    have H := Lib.hid h
    clear h
    go_enter Try.func12, Try.ntmps12
    go_wp2_with (go_at_call 11; refine (Floor_calls _ _ h0 h1).mono ?_; rintro e w' ⟨rfl, rfl⟩)
    go_ret
    exact ⟨ret_int (by rw [cel, if_neg H.out]), rfl⟩
theorem Div_calls (a b : Int) (w : World) (h0 : -9223372036854775808 ≤ a) (h1 : a ≤ 9223372036854775807) (h3 : b ≤ 9223372036854775807) :
    Calls Try.prog 14 #[.int .i64 a, .int .i64 b] w fun e w' => e = .returned (.tuple #[.int .i64 (divI a b).1, .int .i64 (divI a b).2]) ∧ w = w' := by
  by_cases hb : b < 1
  · go_enter Try.func14, Try.ntmps14
    go_wp2
    go_ret2
    exact ⟨ret2_int (by rw [divI, if_pos hb]), rfl⟩
  · have k := ediv_bd (show 1 ≤ b by omega) h0 h1
    by_cases hm : a.tmod b < 0
    · have e1 := Lib.hid (tdiv_floor (show 1 ≤ b by omega) hm)
      go_enter Try.func14, Try.ntmps14
      go_wp2
      go_ret2
      exact ⟨ret2_int (by rw [divI, if_neg (by omega), e1.out, wrap64_id k.1 k.2]), rfl⟩
    · have e1 := Lib.hid (tdiv_floor0 (show 1 ≤ b by omega) hm)
      go_enter Try.func14, Try.ntmps14
      go_wp2
      go_ret2
      exact ⟨ret2_int (by rw [divI, if_neg (by omega), e1.out]), rfl⟩
theorem RDiv_calls (a b : Int) (w : World) (h0 : -9223372036854775808 ≤ a) (h1 : a ≤ 9223372036854775807) (h3 : b ≤ 9223372036854775807) :
    Calls Try.prog 21 #[.int .i64 a, .int .i64 b] w fun e w' => e = .returned (.tuple #[.int .i64 (divI a b).1, .int .i64 (divI a b).2]) ∧ w = w' := by
  by_cases hb : b < 1
  · go_enter Try.func21, Try.ntmps21
    go_wp2
    go_ret2
    exact ⟨ret2_int (by rw [divI, if_pos hb]), rfl⟩
  · have k := ediv_bd (show 1 ≤ b by omega) h0 h1
    by_cases hm : a.tmod b < 0
    · have e1 := Lib.hid (tdiv_floor (show 1 ≤ b by omega) hm)
      go_enter Try.func21, Try.ntmps21
      go_wp2
      go_ret2
      exact ⟨ret2_int (by rw [divI, if_neg (by omega), e1.out, wrap64_id k.1 k.2]), rfl⟩
    · have e1 := Lib.hid (tdiv_floor0 (show 1 ≤ b by omega) hm)
      go_enter Try.func21, Try.ntmps21
      go_wp2
      go_ret2
      exact ⟨ret2_int (by rw [divI, if_neg (by omega), e1.out]), rfl⟩
/-- The quotient that a mean asks for. -/
theorem mean_div {s n : Int} (h : 1 ≤ n) : divI (2 * s + n) (2 * n) = ((2 * s + n) / (2 * n), 0) := by rw [divI, if_neg (by omega)]
theorem Mean_calls (s n : Int) (w : World) (h0 : -9223372036854775808 ≤ s) (h1 : s ≤ 9223372036854775807) (h2 : n ≤ 9223372036854775807) :
    Calls Try.prog 13 #[.int .i64 s, .int .i64 n] w fun e w' => e = .returned (.tuple #[.int .i64 (meanI s n).1, .int .i64 (meanI s n).2]) ∧ w = w' := by
  by_cases hb : n < 1
  · go_enter Try.func13, Try.ntmps13
    go_wp2
    go_ret2
    exact ⟨ret2_int (by rw [meanI, if_pos hb]), rfl⟩
  by_cases hc : n > 1152921504606846976
  · go_enter Try.func13, Try.ntmps13
    go_wp2
    go_ret2
    exact ⟨ret2_int (by rw [meanI, if_neg (by omega), if_pos (by omega)]), rfl⟩
  by_cases hd : s < -1152921504606846976
  · go_enter Try.func13, Try.ntmps13
    go_wp2
    go_ret2
    exact ⟨ret2_int (by rw [meanI, if_neg (by omega), if_neg (by omega), if_pos (by omega)]), rfl⟩
  by_cases he : s > 1152921504606846976
  · go_enter Try.func13, Try.ntmps13
    go_wp2
    go_ret2
    exact ⟨ret2_int (by rw [meanI, if_neg (by omega), if_neg (by omega), if_neg (by omega), if_pos (by omega)]), rfl⟩
  · have e1 := Lib.hid (mean_div (s := s) (show 1 ≤ n by omega))
    go_enter Try.func13, Try.ntmps13
    go_wp2_with (go_at_call 14; refine (Div_calls _ _ _ (by omega) (by omega) (by omega)).mono ?_; rintro e w' ⟨rfl, rfl⟩)
    go_ret2
    exact ⟨ret2_int (by rw [meanI, if_neg (by omega), if_neg (by omega), if_neg (by omega), if_neg (by omega), ← e1.out]), rfl⟩
theorem RMean_calls (s n : Int) (w : World) (h0 : -9223372036854775808 ≤ s) (h1 : s ≤ 9223372036854775807) (h2 : n ≤ 9223372036854775807) :
    Calls Try.prog 22 #[.int .i64 s, .int .i64 n] w fun e w' => e = .returned (.tuple #[.int .i64 (meanI s n).1, .int .i64 (meanI s n).2]) ∧ w = w' := by
  by_cases hb : n < 1
  · go_enter Try.func22, Try.ntmps22
    go_wp2
    go_ret2
    exact ⟨ret2_int (by rw [meanI, if_pos hb]), rfl⟩
  by_cases hc : n > 1152921504606846976
  · go_enter Try.func22, Try.ntmps22
    go_wp2
    go_ret2
    exact ⟨ret2_int (by rw [meanI, if_neg (by omega), if_pos (by omega)]), rfl⟩
  by_cases he : s > 1152921504606846976
  · go_enter Try.func22, Try.ntmps22
    go_wp2
    go_ret2
    exact ⟨ret2_int (by rw [meanI, if_neg (by omega), if_neg (by omega), if_neg (by omega), if_pos (by omega)]), rfl⟩
  by_cases hd : s < -1152921504606846976
  · go_enter Try.func22, Try.ntmps22
    go_wp2
    go_ret2
    exact ⟨ret2_int (by rw [meanI, if_neg (by omega), if_neg (by omega), if_pos (by omega)]), rfl⟩
  · have e1 := Lib.hid (mean_div (s := s) (show 1 ≤ n by omega))
    go_enter Try.func22, Try.ntmps22
    go_wp2_with (go_at_call 21; refine (RDiv_calls _ _ _ (by omega) (by omega) (by omega)).mono ?_; rintro e w' ⟨rfl, rfl⟩)
    go_ret2
    exact ⟨ret2_int (by rw [meanI, if_neg (by omega), if_neg (by omega), if_neg (by omega), if_neg (by omega), ← e1.out]), rfl⟩
end Go.Proofs.Yteblielaojmfbaa
