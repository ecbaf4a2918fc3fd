import Derived.Test.YteblielaojmfbaaRootLaws
namespace Go.Proofs.Yteblielaojmfbaa
open Go.RowKit
theorem RootNames_calls (w : World) : Calls Try.prog 8 #[] w fun e w' => e = .returned (.bool true) ∧ w = w' := by
  have a1 : flr 18446744073709551615 = 4294967295 := flr_eq (by decide) (by decide) (by decide)
  have a3 : cel 18446744073709551615 = 4294967296 := by rw [cel, a1]; decide
  have a4 : cel 0 = 0 := by decide
  have a5 : mulU 4294967296 4294967296 = (0, 11) := by decide
  have a6 : mulU 4294967295 4294967295 = (18446744065119617025, 0) := by decide
  have a7 : sumU 18446744073709551615 1 = (0, 11) := by decide
  have a8 : mulU 1099511627776 1073741824 = (0, 11) := by decide
  have a9 : meanI 1152921504606846977 1 = (0, 11) := by decide
  have a10 : meanI 0 0 = (0, 2) := by decide
  go_enter Try.func8, Try.ntmps8
  go_wp2_with (first
    | (go_at_call 10; refine (lives_calls _).mono ?_; rintro e w' ⟨rfl, rfl⟩)
    | (go_at_call 11; refine (Floor_calls _ _ (by omega) (by omega)).mono ?_; rintro e w' ⟨rfl, rfl⟩)
    | (go_at_call 12; refine (Ceil_calls _ _ (by omega) (by omega)).mono ?_; rintro e w' ⟨rfl, rfl⟩)
    | (go_at_call 13; refine (Mean_calls _ _ _ (by omega) (by omega) (by omega)).mono ?_; rintro e w' ⟨rfl, rfl⟩)
    | (go_at_call 15; refine (Square_calls _ _ (by omega) (by omega)).mono ?_; rintro e w' ⟨rfl, rfl⟩)
    | (go_at_call 16; refine (Mul_calls _ _ _ (by omega) (by omega) (by omega) (by omega)).mono ?_; rintro e w' ⟨rfl, rfl⟩)
    | (go_at_call 17; refine (Sum_calls _ _ _ (by omega) (by omega) (by omega) (by omega)).mono ?_; rintro e w' ⟨rfl, rfl⟩))
  go_ret
  exact ⟨rfl, rfl⟩
theorem cel_spec {n : Int} (h0 : 0 ≤ n) : 0 ≤ cel n ∧ n ≤ cel n * cel n ∧ (cel n = 0 ∨ (cel n - 1) * (cel n - 1) < n) ∧ (cel n = flr n ∨ (cel n = flr n + 1 ∧ flr n * flr n < n)) := by
  obtain ⟨a, b, c⟩ := flr_spec h0
  unfold cel
  split
  · rename_i h
    refine ⟨a, by omega, ?_, .inl rfl⟩
    rcases Int.lt_or_le 0 (flr n) with h' | h'
    · right
      have e : (flr n - 1) * (flr n - 1) = flr n * flr n - 2 * flr n + 1 := by grind
      omega
    · left; omega
  · rename_i h
    refine ⟨by omega, by omega, .inr ?_, .inr ⟨rfl, by omega⟩⟩
    rw [show flr n + 1 - 1 = flr n from by omega]; omega
/-- What RootBounds asks, of numbers alone. -/
theorem bounds_facts {n : Int} (h0 : 0 ≤ n) (h1 : n ≤ 18446744073709551615) :
    0 ≤ flr n ∧ flr n ≤ 4294967295 ∧ flr n * flr n ≤ n ∧ n < (flr n + 1) * (flr n + 1) ∧ 0 ≤ cel n ∧ cel n ≤ 4294967296 ∧ n ≤ cel n * cel n ∧ (cel n = 4294967296 → flr n = 4294967295 ∧ flr n * flr n < n) := by
  obtain ⟨a, b, c⟩ := flr_spec h0
  obtain ⟨d, e, f, g⟩ := cel_spec h0
  have h := flr_lt h0 h1
  refine ⟨a, h, b, c, d, by rcases g with g | ⟨g, _⟩ <;> omega, e, fun hc => ?_⟩
  rcases g with g | ⟨g, g'⟩
  · omega
  · exact ⟨by omega, g'⟩
abbrev FloorIs (n r : Int) : Prop := ∀ w, Calls Try.prog 11 #[.int .u64 n] w fun e w' => e = .returned (.int .u64 r) ∧ w = w'
abbrev CeilIs (n r : Int) : Prop := ∀ w, Calls Try.prog 12 #[.int .u64 n] w fun e w' => e = .returned (.int .u64 r) ∧ w = w'
theorem floorIs {n r : Int} (h0 : 0 ≤ n) (h1 : n ≤ 18446744073709551615) (h : flr n = r) : FloorIs n r := fun w => h ▸ Floor_calls n w h0 h1
theorem ceilIs {n r : Int} (h0 : 0 ≤ n) (h1 : n ≤ 18446744073709551615) (h : cel n = r) : CeilIs n r := fun w => h ▸ Ceil_calls n w h0 h1
/-- The root above is 2^32. -/
theorem bounds_top (n : Int) (w : World) (h0 : 18446744065119617025 < n) (h1 : n ≤ 18446744073709551615) (F : Hid (FloorIs n 4294967295)) (C : Hid (CeilIs n 4294967296)) :
    Calls Try.prog 3 #[.int .u64 n] w fun e w' => e = .returned (.bool true) ∧ w = w' := by
  go_enter Try.func3, Try.ntmps3
  go_wp2_with (first
    | (go_at_call 10; refine (lives_calls _).mono ?_; rintro e w' ⟨rfl, rfl⟩)
    | (go_at_call 11; refine (F.out _).mono ?_; rintro e w' ⟨rfl, rfl⟩)
    | (go_at_call 12; refine (C.out _).mono ?_; rintro e w' ⟨rfl, rfl⟩))
  go_ret
  exact ⟨by simp, rfl⟩
theorem bounds_0 (w : World) (F : Hid (FloorIs 0 0)) (C : Hid (CeilIs 0 0)) :
    Calls Try.prog 3 #[.int .u64 0] w fun e w' => e = .returned (.bool true) ∧ w = w' := by
  go_enter Try.func3, Try.ntmps3
  go_wp2_with (first
    | (go_at_call 10; refine (lives_calls _).mono ?_; rintro e w' ⟨rfl, rfl⟩)
    | (go_at_call 11; refine (F.out _).mono ?_; rintro e w' ⟨rfl, rfl⟩)
    | (go_at_call 12; refine (C.out _).mono ?_; rintro e w' ⟨rfl, rfl⟩))
  go_ret
  exact ⟨rfl, rfl⟩
/-- n is a square. -/
theorem bounds_sq (r : Int) (w : World) (h0 : 1 ≤ r) (h1 : r ≤ 4294967295) (F : Hid (FloorIs (r * r) r)) (C : Hid (CeilIs (r * r) r)) :
    Calls Try.prog 3 #[.int .u64 (r * r)] w fun e w' => e = .returned (.bool true) ∧ w = w' := by
  have k0 : 0 ≤ r * r := Int.mul_nonneg (by omega) (by omega)
  have k1 : r * r ≤ 18446744065119617025 := by
    have := Int.mul_le_mul h1 h1 (by omega) (by omega)
    omega
  have d1 : decide (4294967296 ≤ r) = false := decide_eq_false (by omega)
  have d2 : decide (4294967296 < r) = false := decide_eq_false (by omega)
  have d3 : (r == 4294967296) = false := beq_eq_false_iff_ne.2 (by omega)
  have d4 : (r == 0) = false := beq_eq_false_iff_ne.2 (by omega)
  have d5 : decide (r * r + 2 * r + 1 ≤ r * r) = false := decide_eq_false (by omega)
  have e1 : (r + 1) * (r + 1) = r * r + 2 * r + 1 := by grind
  have e2 : (r - 1) * (r - 1) = r * r - 2 * r + 1 := by grind
  have k2 : 0 ≤ r * r - 2 * r + 1 := e2 ▸ Int.mul_nonneg (by omega) (by omega)
  have k3 : r * r - 2 * r + 1 < r * r := by omega
  by_cases hm : r + 1 < 4294967296
  · go_enter Try.func3, Try.ntmps3
    go_wp2_with (first
      | (go_at_call 10; refine (lives_calls _).mono ?_; rintro e w' ⟨rfl, rfl⟩)
      | (go_at_call 11; refine (F.out _).mono ?_; rintro e w' ⟨rfl, rfl⟩)
      | (go_at_call 12; refine (C.out _).mono ?_; rintro e w' ⟨rfl, rfl⟩))
    go_ret
    exact ⟨rfl, rfl⟩
  · go_enter Try.func3, Try.ntmps3
    go_wp2_with (first
      | (go_at_call 10; refine (lives_calls _).mono ?_; rintro e w' ⟨rfl, rfl⟩)
      | (go_at_call 11; refine (F.out _).mono ?_; rintro e w' ⟨rfl, rfl⟩)
      | (go_at_call 12; refine (C.out _).mono ?_; rintro e w' ⟨rfl, rfl⟩))
    go_ret
    exact ⟨rfl, rfl⟩
/-- n lies between two squares. -/
theorem bounds_mid (n r : Int) (w : World) (h0 : 0 ≤ r) (h1 : r + 1 < 4294967296) (hn0 : r * r < n) (hn1 : n < r * r + 2 * r + 1) (F : Hid (FloorIs n r)) (C : Hid (CeilIs n (r + 1))) :
    Calls Try.prog 3 #[.int .u64 n] w fun e w' => e = .returned (.bool true) ∧ w = w' := by
  have k0 : 0 ≤ r * r := Int.mul_nonneg (by omega) (by omega)
  have k1 : r * r + 2 * r + 1 ≤ 18446744065119617025 := by
    have := Int.mul_le_mul (show r + 1 ≤ 4294967295 by omega) (show r + 1 ≤ 4294967295 by omega) (by omega) (by omega)
    have e1 : (r + 1) * (r + 1) = r * r + 2 * r + 1 := by grind
    omega
  have d1 : decide (4294967296 ≤ r) = false := decide_eq_false (by omega)
  have d2 : decide (4294967296 < r + 1) = false := decide_eq_false (by omega)
  have d3 : (r + 1 == 4294967296) = false := beq_eq_false_iff_ne.2 (by omega)
  have d4 : (r + 1 == 0) = false := beq_eq_false_iff_ne.2 (by omega)
  have d5 : decide (r * r + 2 * r + 1 ≤ n) = false := decide_eq_false (by omega)
  have d6 : decide (n < r * r) = false := decide_eq_false (by omega)
  have d7 : (r + 1 == r) = false := beq_eq_false_iff_ne.2 (by omega)
  have e1 : (r + 1) * (r + 1) = r * r + 2 * r + 1 := by grind
  go_enter Try.func3, Try.ntmps3
  go_wp2_with (first
    | (go_at_call 10; refine (lives_calls _).mono ?_; rintro e w' ⟨rfl, rfl⟩)
    | (go_at_call 11; refine (F.out _).mono ?_; rintro e w' ⟨rfl, rfl⟩)
    | (go_at_call 12; refine (C.out _).mono ?_; rintro e w' ⟨rfl, rfl⟩))
  go_ret
  exact ⟨rfl, rfl⟩
theorem RootBounds_calls (n : Int) (w : World) (h0 : 0 ≤ n) (h1 : n ≤ 18446744073709551615) :
    Calls Try.prog 3 #[.int .u64 n] w fun e w' => e = .returned (.bool true) ∧ w = w' := by
  obtain ⟨k0, k1, k2, k3, k4, k5, k6, k7⟩ := bounds_facts h0 h1
  obtain ⟨_, _, _, g⟩ := cel_spec h0
  have e1 : (flr n + 1) * (flr n + 1) = flr n * flr n + 2 * flr n + 1 := by grind
  by_cases ht : cel n = 4294967296
  · obtain ⟨a, b⟩ := k7 ht
    exact bounds_top n w (by rw [a] at b; omega) h1 (floorIs h0 h1 a) (ceilIs h0 h1 ht)
  · rcases g with g | ⟨g, g'⟩
    · have hn : n = flr n * flr n := by rw [g] at k6; omega
      rcases Int.lt_or_le (flr n) 1 with hz | hz
      · have hz : flr n = 0 := by omega
        have : n = 0 := by rw [hz] at hn; omega
        subst this
        exact bounds_0 w (floorIs h0 h1 hz) (ceilIs h0 h1 (by omega))
      · have F := floorIs (r := flr n) h0 h1 rfl
        have C := ceilIs h0 h1 g
        generalize flr n = r at *
        subst hn
        exact bounds_sq r w hz k1 F C
    · exact bounds_mid n (flr n) w k0 (by omega) g' (by omega) (floorIs h0 h1 rfl) (ceilIs h0 h1 g)
end Go.Proofs.Yteblielaojmfbaa
