import Derived.Test.YteblielaojmfbaaRootLaws2
namespace Go.Proofs.Yteblielaojmfbaa
open Go.RowKit
abbrev DivIs (a b q : Int) : Prop := ∀ w, Calls Try.prog 14 #[.int .i64 a, .int .i64 b] w fun e w' => e = .returned (.tuple #[.int .i64 q, .int .i64 0]) ∧ w = w'
theorem divIs {a b q : Int} (h0 : -9223372036854775808 ≤ a) (h1 : a ≤ 9223372036854775807) (h2 : 1 ≤ b) (h3 : b ≤ 9223372036854775807) (h : a / b = q) : DivIs a b q := fun w => by
  have := Div_calls a b w h0 h1 h3
  rw [divI, if_neg (by omega), h] at this; exact this
theorem tdiv4 {a : Int} (ha : -9223372036854775808 ≤ a) (ha1 : a ≤ 9223372036854775807) : -2305843009213693952 ≤ a.tdiv 4 ∧ a.tdiv 4 ≤ 2305843009213693951 := by
  rcases Int.le_total 0 a with h | h
  · rw [Int.tdiv_eq_ediv_of_nonneg h]; omega
  · obtain ⟨c, hc⟩ : ∃ c, a = -c := ⟨-a, by omega⟩
    subst hc
    rw [Int.neg_tdiv, Int.tdiv_eq_ediv_of_nonneg (by omega)]; omega
/-- RootDivs behind its arguments' bounds: x the number, n the divisor. -/
theorem divs_core (a b q : Int) (w : World) (ha : -9223372036854775808 ≤ a) (ha1 : a ≤ 9223372036854775807) (hb0 : 0 ≤ b) (hb1 : b ≤ 4294967295)
    (D1 : Hid (DivIs (a.tdiv 4) (b % 2147483648 + 1) q)) (D2 : Hid (DivIs (a.tdiv 4 + (b % 2147483648 + 1)) (b % 2147483648 + 1) (q + 1))) (h0 : 0 ≤ a.tdiv 4 - q * (b % 2147483648 + 1)) (h1 : a.tdiv 4 - q * (b % 2147483648 + 1) < b % 2147483648 + 1)
    (q0 : -2305843009213693952 ≤ q) (q1 : q ≤ 2305843009213693951) :
    Calls Try.prog 5 #[.int .i64 a, .int .u32 b] w fun e w' => e = .returned (.bool true) ∧ w = w' := by
  obtain ⟨k0, k1⟩ := tdiv4 ha ha1
  go_enter Try.func5, Try.ntmps5
  go_wp2_with (first
    | (go_at_call 10; refine (lives_calls _).mono ?_; rintro e w' ⟨rfl, rfl⟩)
    | (go_at_call 14; first | ((with_reducible refine (D1.out _).mono ?_); rintro e w' ⟨rfl, rfl⟩) | ((with_reducible refine (D2.out _).mono ?_); rintro e w' ⟨rfl, rfl⟩)))
  go_ret
  exact ⟨rfl, rfl⟩
theorem RootDivs_calls (a b : Int) (w : World) (ha : -9223372036854775808 ≤ a) (ha1 : a ≤ 9223372036854775807) (hb0 : 0 ≤ b) (hb1 : b ≤ 4294967295) :
    Calls Try.prog 5 #[.int .i64 a, .int .u32 b] w fun e w' => e = .returned (.bool true) ∧ w = w' := by
  obtain ⟨k0, k1⟩ := tdiv4 ha ha1
  have hn : 1 ≤ b % 2147483648 + 1 := by omega
  have e1 := Int.mul_ediv_add_emod (a.tdiv 4) (b % 2147483648 + 1)
  have e2 := Int.emod_nonneg (a.tdiv 4) (show b % 2147483648 + 1 ≠ 0 by omega)
  have e3 := Int.emod_lt_of_pos (a.tdiv 4) (show 0 < b % 2147483648 + 1 by omega)
  have e4 : a.tdiv 4 / (b % 2147483648 + 1) * (b % 2147483648 + 1) = (b % 2147483648 + 1) * (a.tdiv 4 / (b % 2147483648 + 1)) := Int.mul_comm _ _
  have e5 : (a.tdiv 4 + (b % 2147483648 + 1)) / (b % 2147483648 + 1) = a.tdiv 4 / (b % 2147483648 + 1) + 1 := by
    rw [Int.add_ediv_of_dvd_right (Int.dvd_refl _), Int.ediv_self (by omega)]
  have e6 : -2305843009213693952 ≤ a.tdiv 4 / (b % 2147483648 + 1) ∧ a.tdiv 4 / (b % 2147483648 + 1) ≤ 2305843009213693951 := by
    constructor
    · rw [Int.le_ediv_iff_mul_le (by omega)]
      have := Int.mul_le_mul_of_nonneg_left hn (show (0:Int) ≤ 2305843009213693952 by decide)
      omega
    · have : a.tdiv 4 / (b % 2147483648 + 1) < 2305843009213693952 := by
        rw [Int.ediv_lt_iff_lt_mul (by omega)]
        have := Int.mul_le_mul_of_nonneg_left hn (show (0:Int) ≤ 2305843009213693952 by decide)
        omega
      omega
  exact divs_core a b (a.tdiv 4 / (b % 2147483648 + 1)) w ha ha1 hb0 hb1 (divIs (by omega) (by omega) hn (by omega) rfl) (divIs (by omega) (by omega) hn (by omega) e5) (by omega) (by omega) e6.1 e6.2
/-! ### Squares -/
theorem flr_mono {a b : Int} (h0 : 0 ≤ a) (h : a ≤ b) : flr a ≤ flr b := by
  obtain ⟨p, q, r⟩ := flr_spec h0
  obtain ⟨s, t, u⟩ := flr_spec (show 0 ≤ b by omega)
  have := sq_ltI (a := flr a) (b := flr b + 1) (by omega) (by omega)
  omega
theorem cel_mono {a b : Int} (h0 : 0 ≤ a) (h : a ≤ b) : cel a ≤ cel b := by
  obtain ⟨p, q, r, _⟩ := cel_spec h0
  obtain ⟨s, t, u, _⟩ := cel_spec (show 0 ≤ b by omega)
  rcases r with r | r
  · omega
  · have := sq_ltI (a := cel a - 1) (b := cel b) (by omega) (by omega)
    omega
theorem flr_le_cel (a : Int) : flr a ≤ cel a := by unfold cel; split <;> omega
theorem flr_sq {n : Int} (h0 : 0 ≤ n) : flr (n * n) = n := flr_eq h0 (Int.le_refl _) (by have : (n + 1) * (n + 1) = n * n + 2 * n + 1 := by grind
                                                                                         omega)
theorem cel_sq {n : Int} (h0 : 0 ≤ n) : cel (n * n) = n := by rw [cel, flr_sq h0, if_pos rfl]
theorem flr_sq1 {n : Int} (h0 : 1 ≤ n) : flr (n * n - 1) = n - 1 := by
  have : (n - 1) * (n - 1) = n * n - 2 * n + 1 := by grind
  exact flr_eq (by omega) (by omega) (by rw [show n - 1 + 1 = n from by omega]; omega)
theorem cel_sq1 {n : Int} (h0 : 2 ≤ n) : cel (n * n - 1) = n := by
  have : (n - 1) * (n - 1) = n * n - 2 * n + 1 := by grind
  rw [cel, flr_sq1 (by omega), if_neg (by omega)]; omega
theorem squares_0 (a b : Int) (w : World) (a0 : 0 ≤ a) (a1 : a ≤ 18446744073709551615) (b0 : 0 ≤ b) (b1 : b ≤ 18446744073709551615) :
    Calls Try.prog 6 #[.int .u32 0, .int .u64 a, .int .u64 b] w fun e w' => e = .returned (.bool true) ∧ w = w' := by
  have f3 : flr 0 = 0 := by decide
  have f4 : cel 0 = 0 := by decide
  have m : mulU 0 0 = (0, 0) := by decide
  by_cases hab : a ≤ b
  · have p1 := flr_mono a0 hab
    have p2 := cel_mono a0 hab
    have p3 := flr_le_cel a
    go_enter Try.func6, Try.ntmps6
    go_wp2_with (first
      | (go_at_call 10; refine (lives_calls _).mono ?_; rintro e w' ⟨rfl, rfl⟩)
      | (go_at_call 15; refine (Square_calls _ _ (by omega) (by omega)).mono ?_; rintro e w' ⟨rfl, rfl⟩)
      | (go_at_call 11; refine (Floor_calls _ _ (by omega) (by omega)).mono ?_; rintro e w' ⟨rfl, rfl⟩)
      | (go_at_call 12; refine (Ceil_calls _ _ (by omega) (by omega)).mono ?_; rintro e w' ⟨rfl, rfl⟩))
    go_ret
    exact ⟨rfl, rfl⟩
  · have p1 := flr_mono b0 (show b ≤ a by omega)
    have p2 := cel_mono b0 (show b ≤ a by omega)
    have p3 := flr_le_cel b
    go_enter Try.func6, Try.ntmps6
    go_wp2_with (first
      | (go_at_call 10; refine (lives_calls _).mono ?_; rintro e w' ⟨rfl, rfl⟩)
      | (go_at_call 15; refine (Square_calls _ _ (by omega) (by omega)).mono ?_; rintro e w' ⟨rfl, rfl⟩)
      | (go_at_call 11; refine (Floor_calls _ _ (by omega) (by omega)).mono ?_; rintro e w' ⟨rfl, rfl⟩)
      | (go_at_call 12; refine (Ceil_calls _ _ (by omega) (by omega)).mono ?_; rintro e w' ⟨rfl, rfl⟩))
    go_ret
    exact ⟨rfl, rfl⟩
theorem squares_1 (a b : Int) (w : World) (a0 : 0 ≤ a) (a1 : a ≤ 18446744073709551615) (b0 : 0 ≤ b) (b1 : b ≤ 18446744073709551615) :
    Calls Try.prog 6 #[.int .u32 1, .int .u64 a, .int .u64 b] w fun e w' => e = .returned (.bool true) ∧ w = w' := by
  have f3 : flr 0 = 0 := by decide
  have f4 : cel 0 = 0 := by decide
  have f5 : flr 1 = 1 := by decide
  have f6 : cel 1 = 1 := by decide
  have m : mulU 1 1 = (1, 0) := by decide
  by_cases hab : a ≤ b
  · have p1 := flr_mono a0 hab
    have p2 := cel_mono a0 hab
    have p3 := flr_le_cel a
    go_enter Try.func6, Try.ntmps6
    go_wp2_with (first
      | (go_at_call 10; refine (lives_calls _).mono ?_; rintro e w' ⟨rfl, rfl⟩)
      | (go_at_call 15; refine (Square_calls _ _ (by omega) (by omega)).mono ?_; rintro e w' ⟨rfl, rfl⟩)
      | (go_at_call 11; refine (Floor_calls _ _ (by omega) (by omega)).mono ?_; rintro e w' ⟨rfl, rfl⟩)
      | (go_at_call 12; refine (Ceil_calls _ _ (by omega) (by omega)).mono ?_; rintro e w' ⟨rfl, rfl⟩))
    go_ret
    exact ⟨rfl, rfl⟩
  · have p1 := flr_mono b0 (show b ≤ a by omega)
    have p2 := cel_mono b0 (show b ≤ a by omega)
    have p3 := flr_le_cel b
    go_enter Try.func6, Try.ntmps6
    go_wp2_with (first
      | (go_at_call 10; refine (lives_calls _).mono ?_; rintro e w' ⟨rfl, rfl⟩)
      | (go_at_call 15; refine (Square_calls _ _ (by omega) (by omega)).mono ?_; rintro e w' ⟨rfl, rfl⟩)
      | (go_at_call 11; refine (Floor_calls _ _ (by omega) (by omega)).mono ?_; rintro e w' ⟨rfl, rfl⟩)
      | (go_at_call 12; refine (Ceil_calls _ _ (by omega) (by omega)).mono ?_; rintro e w' ⟨rfl, rfl⟩))
    go_ret
    exact ⟨rfl, rfl⟩
theorem squares_2 (n : Int) (a b : Int) (w : World) (h0 : 2 ≤ n) (h1 : n ≤ 4294967295) (a0 : 0 ≤ a) (a1 : a ≤ 18446744073709551615) (b0 : 0 ≤ b) (b1 : b ≤ 18446744073709551615) :
    Calls Try.prog 6 #[.int .u32 n, .int .u64 a, .int .u64 b] w fun e w' => e = .returned (.bool true) ∧ w = w' := by
  have k1 : n * n ≤ 18446744065119617025 := by
    have := Int.mul_le_mul h1 h1 (by omega) (by omega)
    omega
  have k3 : 4 ≤ n * n := by have := Int.mul_le_mul h0 h0 (by omega) (by omega); omega
  have m : mulU n n = (n * n, 0) := by rw [mulU, if_neg (by omega)]
  have f1 := flr_sq (n := n) (by omega)
  have f2 := cel_sq (n := n) (by omega)
  have f3 := flr_sq1 (n := n) (by omega)
  have f4 := cel_sq1 h0
  by_cases hab : a ≤ b
  · have p1 := flr_mono a0 hab
    have p2 := cel_mono a0 hab
    have p3 := flr_le_cel a
    go_enter Try.func6, Try.ntmps6
    go_wp2_with (first
      | (go_at_call 10; refine (lives_calls _).mono ?_; rintro e w' ⟨rfl, rfl⟩)
      | (go_at_call 15; refine (Square_calls _ _ (by omega) (by omega)).mono ?_; rintro e w' ⟨rfl, rfl⟩)
      | (go_at_call 11; refine (Floor_calls _ _ (by omega) (by omega)).mono ?_; rintro e w' ⟨rfl, rfl⟩)
      | (go_at_call 12; refine (Ceil_calls _ _ (by omega) (by omega)).mono ?_; rintro e w' ⟨rfl, rfl⟩))
    go_ret
    exact ⟨rfl, rfl⟩
  · have p1 := flr_mono b0 (show b ≤ a by omega)
    have p2 := cel_mono b0 (show b ≤ a by omega)
    have p3 := flr_le_cel b
    go_enter Try.func6, Try.ntmps6
    go_wp2_with (first
      | (go_at_call 10; refine (lives_calls _).mono ?_; rintro e w' ⟨rfl, rfl⟩)
      | (go_at_call 15; refine (Square_calls _ _ (by omega) (by omega)).mono ?_; rintro e w' ⟨rfl, rfl⟩)
      | (go_at_call 11; refine (Floor_calls _ _ (by omega) (by omega)).mono ?_; rintro e w' ⟨rfl, rfl⟩)
      | (go_at_call 12; refine (Ceil_calls _ _ (by omega) (by omega)).mono ?_; rintro e w' ⟨rfl, rfl⟩))
    go_ret
    exact ⟨rfl, rfl⟩
theorem RootSquares_calls (n a b : Int) (w : World) (h0 : 0 ≤ n) (h1 : n ≤ 4294967295) (a0 : 0 ≤ a) (a1 : a ≤ 18446744073709551615) (b0 : 0 ≤ b) (b1 : b ≤ 18446744073709551615) :
    Calls Try.prog 6 #[.int .u32 n, .int .u64 a, .int .u64 b] w fun e w' => e = .returned (.bool true) ∧ w = w' := by
  by_cases hn : n = 0
  · subst hn; exact squares_0 a b w a0 a1 b0 b1
  · by_cases hm : n = 1
    · subst hm; exact squares_1 a b w a0 a1 b0 b1
    · exact squares_2 n a b w (by omega) h1 a0 a1 b0 b1
end Go.Proofs.Yteblielaojmfbaa
