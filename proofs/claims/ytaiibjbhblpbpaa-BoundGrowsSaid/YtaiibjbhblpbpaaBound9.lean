import Derived.Test.YtaiibjbhblpbpaaBound8
import Derived.Test.YtaiibjbhblpbpaaBound3
namespace Go.Proofs.Ytaiibjbhblpbpaa
set_option linter.unusedVariables false
set_option linter.unusedSimpArgs false
open Go.RowKit
theorem grow_more {a r more B : Int} (hk : okB a r = true) (hB : bnd a r = B) (m0 : 0 ≤ more) :
    ∃ c f : Int, Hid (endI (a + more) r 0 1 = (c, f)) ∧ ((f = 0 ∧ B ≤ c ∧ c ≤ 211106232532992) ∨ (f = 2 ∧ ¬ a + more ≤ 70368744177664)) := by
  obtain ⟨a0, a1, r0, r1⟩ := okB_iff.1 hk
  subst hB
  cases h : okB (a + more) r with
  | true => exact ⟨_, _, (endI_t h : _ = _), .inl ⟨rfl, by have := bnd_mono_a (r := r) a0 (show a ≤ a + more by omega) r0; omega, by have := bnd_bd h; omega⟩⟩
  | false =>
    refine ⟨_, _, (endI_f h : _ = _), .inr ⟨rfl, fun hh => ?_⟩⟩
    rw [okB_iff.2 ⟨by omega, hh, r0, r1⟩] at h; cases h
theorem grow_far {a r far B : Int} (hk : okB a r = true) (hB : bnd a r = B) (m0 : 0 ≤ far) :
    ∃ c f : Int, Hid (endI a (r + far) 0 1 = (c, f)) ∧ ((f = 0 ∧ B ≤ c ∧ c ≤ 211106232532992) ∨ (f = 2 ∧ ¬ r + far ≤ 8388608)) := by
  obtain ⟨a0, a1, r0, r1⟩ := okB_iff.1 hk
  subst hB
  cases h : okB a (r + far) with
  | true => exact ⟨_, _, (endI_t h : _ = _), .inl ⟨rfl, by have := bnd_mono_r (a := a) a0 r0 (show r ≤ r + far by omega); omega, by have := bnd_bd h; omega⟩⟩
  | false =>
    refine ⟨_, _, (endI_f h : _ = _), .inr ⟨rfl, fun hh => ?_⟩⟩
    rw [okB_iff.2 ⟨a0, a1, by omega, hh⟩] at h; cases h
theorem grow_may {a B : Int} (u : Int) (a0 : 0 ≤ a) (b0 : 0 ≤ B) :
    Hid (mayB a B u = false) ∨ (Hid (mayB a B u = true) ∧ u ≥ 4611686018427387904) ∨ (Hid (mayB a B u = true) ∧ ¬ u ≥ 4611686018427387904 ∧ a - B ≤ u ∧ Hid (mayB a B (u + 1) = true)) := by
  cases h : mayB a B u with
  | false => exact .inl (Lib.hid rfl)
  | true =>
    by_cases hu : u ≥ 4611686018427387904
    · exact .inr (.inl ⟨Lib.hid rfl, hu⟩)
    · have h' := h
      unfold mayB at h'
      simp only [Bool.and_eq_true, decide_eq_true_eq] at h'
      refine .inr (.inr ⟨Lib.hid rfl, hu, by omega, ?_⟩)
      show mayB a B (u + 1) = true
      unfold mayB
      simp only [Bool.and_eq_true, decide_eq_true_eq]
      omega
set_option maxHeartbeats 2000000 in
set_option maxRecDepth 100000 in
theorem grows_zero (a r more far u : Int) (w : World) (hr : r = 0) (hk : okB a r = true) (m0 : 0 ≤ more) (m1 : more ≤ 70368744177664) (f0 : 0 ≤ far) (f1 : far ≤ 8388608) (u1 : u ≤ 9223372036854775807) :
    Calls Try.prog 5 #[.int .i64 a, .int .i64 r, .int .i64 more, .int .i64 far, .int .i64 u] w fun e w' => e = .returned (.bool true) ∧ Below w.heap.size w w' := by
  obtain ⟨a0, a1, r0, r1⟩ := okB_iff.1 hk
  obtain ⟨b0, b1, b2, b3, b4, b5⟩ := bnd_bd hk
  obtain ⟨B, hB⟩ : ∃ B, bnd a r = B := ⟨_, rfl⟩
  have O1 := Lib.hid (show endI a r 0 1 = (B, 0) by rw [endI_t hk, hB]; congr 1; omega)
  obtain ⟨c, f, O2, hc⟩ := grow_more hk hB m0
  obtain ⟨d, g, O3, hd⟩ := grow_far hk hB f0
  rw [hB] at b0 b1
  have HM := Lib.hid (grow_may u a0 b0)
  obtain ⟨c0, c1, c2⟩ := cel_spec a0
  obtain ⟨_, c3⟩ := cel_bd a0 a1
  have hBd := Lib.hid hB
  have hk' := Lib.hid hk
  clear hk hB
  have HC := Lib.hid hc
  have HD := Lib.hid hd
  clear hc hd
  have i1 : ¬ more < 0 := by omega
  have i2 : ¬ more > 70368744177664 := by omega
  have i3 : ¬ far < 0 := by omega
  have i4 : ¬ far > 8388608 := by omega
  subst hr
  obtain rfl : B = 0 := by have := hBd.out; unfold bnd at this; simp at this; omega
  clear c0 c1 c2 c3 b2 b3 b4 b5
  rw [Int.zero_add] at O3 HD
  obtain ⟨rfl, hd1, hd2⟩ : g = 0 ∧ 0 ≤ d ∧ d ≤ 211106232532992 := by have := HD.out; omega
  clear HD
  go_enter Try.func5, Try.ntmps5
  go_wp2_with fail
  refine (lives_calls _).mono ?_
  rintro e w1 ⟨rfl, b1⟩
  go_wp2_with fail
  refine (Of_is _ _ _ _ O1).mono ?_
  rintro e w2 ⟨rfl, b2⟩
  have b02 := below_trans b1 b2
  clear b1 b2
  go_wp2_with fail
  refine (Of_is _ _ _ _ O2).mono ?_
  rintro e w3 ⟨rfl, b3⟩
  have b03 := below_trans b02 b3
  clear b02 b3
  go_wp2_with fail
  refine (Of_is _ _ _ _ O3).mono ?_
  rintro e w4 ⟨rfl, b4⟩
  have b04 := below_trans b03 b4
  clear b03 b4
  rcases HC.out with ⟨rfl, hc1, hc2⟩ | ⟨rfl, hc1⟩
  all_goals
    go_wp2_with fail
    rcases HM.out with M1 | ⟨M1, hu⟩ | ⟨M1, hu, hu2, M2⟩
    all_goals
      refine (May_is _ _ _ _ _ M1).mono ?_
      rintro e w' ⟨rfl, rfl⟩
      go_wp2_with fail
      first
        | (go_ret; exact ⟨rfl, b04⟩)
        | (refine (May_is _ _ _ _ _ M2).mono ?_
           rintro e w' ⟨rfl, rfl⟩
           go_wp2_with fail
           go_ret
           exact ⟨rfl, b04⟩)
set_option maxHeartbeats 2000000 in
set_option maxRecDepth 100000 in
theorem grows_k1 (a r more far u : Int) (w : World) (hrp : r > 0) (hK : cel a > 0) (hk : okB a r = true) (m0 : 0 ≤ more) (m1 : more ≤ 70368744177664) (f0 : 0 ≤ far) (f1 : far ≤ 8388608) (u1 : u ≤ 9223372036854775807) :
    Calls Try.prog 5 #[.int .i64 a, .int .i64 r, .int .i64 more, .int .i64 far, .int .i64 u] w fun e w' => e = .returned (.bool true) ∧ Below w.heap.size w w' := by
  obtain ⟨a0, a1, r0, r1⟩ := okB_iff.1 hk
  obtain ⟨b0, b1, b2, b3, b4, b5⟩ := bnd_bd hk
  obtain ⟨B, hB⟩ : ∃ B, bnd a r = B := ⟨_, rfl⟩
  have O1 := Lib.hid (show endI a r 0 1 = (B, 0) by rw [endI_t hk, hB]; congr 1; omega)
  obtain ⟨c, f, O2, hc⟩ := grow_more hk hB m0
  obtain ⟨d, g, O3, hd⟩ := grow_far hk hB f0
  rw [hB] at b0 b1
  have HM := Lib.hid (grow_may u a0 b0)
  obtain ⟨c0, c1, c2⟩ := cel_spec a0
  obtain ⟨_, c3⟩ := cel_bd a0 a1
  have hBd := Lib.hid hB
  have hk' := Lib.hid hk
  clear hk hB
  have HC := Lib.hid hc
  have HD := Lib.hid hd
  clear hc hd
  have i1 : ¬ more < 0 := by omega
  have i2 : ¬ more > 70368744177664 := by omega
  have i3 : ¬ far < 0 := by omega
  have i4 : ¬ far > 8388608 := by omega
  have hr0 : (r == 0) = false := by simp; omega
  obtain ⟨q1, q2⟩ := bnd_mod (a := a) hrp
  rw [hBd.out] at q1 q2
  have q0 : 0 ≤ B - r * r := by have := hBd.out; unfold bnd at this; omega
  have q1' : ((B - r * r) % (2 * r) != 0) = false := by rw [q1]; rfl
  have d0 := Int.mul_nonneg c0 c0
  have d1 := Int.mul_le_mul c3 c3 c0 (by decide)
  have k2 : ¬ (cel a - 1) * (cel a - 1) ≥ a := by have := c2 hK; omega
  have k3 := nn (cel a - 1)
  have k4 : (cel a - 1) * (cel a - 1) ≤ 70368744177664 := by omega
  clear c2 q1 b2 b3
  have Q2 := q2
  clear q2
  generalize cel a = k at *
  go_enter Try.func5, Try.ntmps5
  go_wp2_with fail
  refine (lives_calls _).mono ?_
  rintro e w1 ⟨rfl, b1⟩
  go_wp2_with fail
  refine (Of_is _ _ _ _ O1).mono ?_
  rintro e w2 ⟨rfl, b2⟩
  have b02 := below_trans b1 b2
  clear b1 b2
  go_wp2_with fail
  refine (Of_is _ _ _ _ O2).mono ?_
  rintro e w3 ⟨rfl, b3⟩
  have b03 := below_trans b02 b3
  clear b02 b3
  go_wp2_with fail
  refine (Of_is _ _ _ _ O3).mono ?_
  rintro e w4 ⟨rfl, b4⟩
  have b04 := below_trans b03 b4
  clear b03 b4
  rcases HC.out with ⟨rfl, hc1, hc2⟩ | ⟨rfl, hc1⟩ <;> rcases HD.out with ⟨rfl, hd1, hd2⟩ | ⟨rfl, hd1⟩
  all_goals
    go_wp2_with fail
    rcases HM.out with M1 | ⟨M1, hu⟩ | ⟨M1, hu, hu2, M2⟩
    all_goals
      refine (May_is _ _ _ _ _ M1).mono ?_
      rintro e w' ⟨rfl, rfl⟩
      go_wp2_with fail
      first
        | (go_ret; exact ⟨rfl, b04⟩)
        | (refine (May_is _ _ _ _ _ M2).mono ?_
           rintro e w' ⟨rfl, rfl⟩
           go_wp2_with fail
           go_ret
           exact ⟨rfl, b04⟩)
set_option maxHeartbeats 2000000 in
set_option maxRecDepth 100000 in
theorem grows_k0 (a r more far u : Int) (w : World) (hrp : r > 0) (hK : ¬ cel a > 0) (hk : okB a r = true) (m0 : 0 ≤ more) (m1 : more ≤ 70368744177664) (f0 : 0 ≤ far) (f1 : far ≤ 8388608) (u1 : u ≤ 9223372036854775807) :
    Calls Try.prog 5 #[.int .i64 a, .int .i64 r, .int .i64 more, .int .i64 far, .int .i64 u] w fun e w' => e = .returned (.bool true) ∧ Below w.heap.size w w' := by
  obtain ⟨a0, a1, r0, r1⟩ := okB_iff.1 hk
  obtain ⟨b0, b1, b2, b3, b4, b5⟩ := bnd_bd hk
  obtain ⟨B, hB⟩ : ∃ B, bnd a r = B := ⟨_, rfl⟩
  have O1 := Lib.hid (show endI a r 0 1 = (B, 0) by rw [endI_t hk, hB]; congr 1; omega)
  obtain ⟨c, f, O2, hc⟩ := grow_more hk hB m0
  obtain ⟨d, g, O3, hd⟩ := grow_far hk hB f0
  rw [hB] at b0 b1
  have HM := Lib.hid (grow_may u a0 b0)
  obtain ⟨c0, c1, c2⟩ := cel_spec a0
  obtain ⟨_, c3⟩ := cel_bd a0 a1
  have hBd := Lib.hid hB
  have hk' := Lib.hid hk
  clear hk hB
  have HC := Lib.hid hc
  have HD := Lib.hid hd
  clear hc hd
  have i1 : ¬ more < 0 := by omega
  have i2 : ¬ more > 70368744177664 := by omega
  have i3 : ¬ far < 0 := by omega
  have i4 : ¬ far > 8388608 := by omega
  have hr0 : (r == 0) = false := by simp; omega
  obtain ⟨q1, q2⟩ := bnd_mod (a := a) hrp
  rw [hBd.out] at q1 q2
  have q0 : 0 ≤ B - r * r := by have := hBd.out; unfold bnd at this; omega
  have q1' : ((B - r * r) % (2 * r) != 0) = false := by rw [q1]; rfl
  have d0 := Int.mul_nonneg c0 c0
  have d1 := Int.mul_le_mul c3 c3 c0 (by decide)
  clear c2 q1 b2 b3
  have Q2 := q2
  clear q2
  generalize cel a = k at *
  go_enter Try.func5, Try.ntmps5
  go_wp2_with fail
  refine (lives_calls _).mono ?_
  rintro e w1 ⟨rfl, b1⟩
  go_wp2_with fail
  refine (Of_is _ _ _ _ O1).mono ?_
  rintro e w2 ⟨rfl, b2⟩
  have b02 := below_trans b1 b2
  clear b1 b2
  go_wp2_with fail
  refine (Of_is _ _ _ _ O2).mono ?_
  rintro e w3 ⟨rfl, b3⟩
  have b03 := below_trans b02 b3
  clear b02 b3
  go_wp2_with fail
  refine (Of_is _ _ _ _ O3).mono ?_
  rintro e w4 ⟨rfl, b4⟩
  have b04 := below_trans b03 b4
  clear b03 b4
  rcases HC.out with ⟨rfl, hc1, hc2⟩ | ⟨rfl, hc1⟩ <;> rcases HD.out with ⟨rfl, hd1, hd2⟩ | ⟨rfl, hd1⟩
  all_goals
    go_wp2_with fail
    rcases HM.out with M1 | ⟨M1, hu⟩ | ⟨M1, hu, hu2, M2⟩
    all_goals
      refine (May_is _ _ _ _ _ M1).mono ?_
      rintro e w' ⟨rfl, rfl⟩
      go_wp2_with fail
      first
        | (go_ret; exact ⟨rfl, b04⟩)
        | (refine (May_is _ _ _ _ _ M2).mono ?_
           rintro e w' ⟨rfl, rfl⟩
           go_wp2_with fail
           go_ret
           exact ⟨rfl, b04⟩)
theorem grows_core (a r more far u : Int) (w : World) (hk : okB a r = true) (m0 : 0 ≤ more) (m1 : more ≤ 70368744177664) (f0 : 0 ≤ far) (f1 : far ≤ 8388608) (u1 : u ≤ 9223372036854775807) :
    Calls Try.prog 5 #[.int .i64 a, .int .i64 r, .int .i64 more, .int .i64 far, .int .i64 u] w fun e w' => e = .returned (.bool true) ∧ Below w.heap.size w w' := by
  rcases Int.lt_or_le 0 r with h | h
  · by_cases hK : cel a > 0
    · exact grows_k1 a r more far u w h hK hk m0 m1 f0 f1 u1
    · exact grows_k0 a r more far u w h hK hk m0 m1 f0 f1 u1
  · exact grows_zero a r more far u w (by have := (okB_iff.1 hk).2.2.1; omega) hk m0 m1 f0 f1 u1
end Go.Proofs.Ytaiibjbhblpbpaa
