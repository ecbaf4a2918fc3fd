import Derived.Test.YtaiibjbhblpbpaaBound1
import Derived.Test.YtaiibjbhblpbpaaVec2
import Derived.Test.YtaiibjbhblpbpaaLit
namespace Go.Proofs.Ytaiibjbhblpbpaa
set_option linter.unusedVariables false
set_option linter.unusedSimpArgs false
open Go.RowKit
def radI (a b : List Int) : Int × Int := if pairE a b = 0 then (cel (dsq a b a.length), 0) else (0, pairE a b)
theorem dist_bd {a b : List Int} (h : pairE a b = 0) : 0 ≤ dsq a b a.length ∧ dsq a b a.length ≤ 70368744177664 := by
  obtain ⟨c1, c2, c3⟩ := pairE_ok h
  obtain ⟨l1, l2, va⟩ := ckW_ok c1
  obtain ⟨_, _, vb⟩ := ckW_ok c2
  have := dsq_bd va vb a.length (Nat.le_refl _) (by omega)
  omega
theorem Radius_calls (A B : Option Addr) (ca cb : Nat) (a b : List Int) (w : World) (ha : SlI w .i32 A ca a) (hb : SlI w .i32 B cb b) :
    Calls Try.prog 14 #[.slice A a.length ca, .slice B b.length cb] w fun e w' => e = .returned (.tuple #[.int .i64 (radI a b).1, .int .i64 (radI a b).2]) ∧ Below w.heap.size w w' := by
  have D := Dist_calls A B ca cb a b w ha hb
  by_cases h0 : pairE a b = 0
  · have H := Lib.hid (show radI a b = (cel (dsq a b a.length), 0) by unfold radI; rw [if_pos h0])
    obtain ⟨d0, d1⟩ := dist_bd h0
    have U := fun w => up_calls (dsq a b a.length) w d0 (by omega) (by have := (cel_bd d0 d1).2; omega)
    rw [show distI a b = (dsq a b a.length, 0) by unfold distI; rw [if_pos h0]] at D
    generalize dsq a b a.length = d at *
    clear h0
    go_enter Try.func14, Try.ntmps14
    go_wp2_with fail
    refine D.mono ?_
    rintro e w1 ⟨rfl, b1⟩
    go_wp2_with fail
    refine (U _).mono ?_
    rintro e w' ⟨rfl, rfl⟩
    go_wp2_with fail
    go_ret2
    rw [H.out]; exact ⟨rfl, b1⟩
  · have H := Lib.hid (show radI a b = (0, pairE a b) by unfold radI; rw [if_neg h0])
    rw [show distI a b = (0, pairE a b) by unfold distI; rw [if_neg h0]] at D
    generalize pairE a b = ep at *
    have e1 : (ep != 0) = true := by simpa using h0
    clear h0
    go_enter Try.func14, Try.ntmps14
    go_wp2_with fail
    refine D.mono ?_
    rintro e w1 ⟨rfl, b1⟩
    go_wp2_with fail
    go_ret2
    rw [H.out]; exact ⟨rfl, b1⟩
theorem Radius_is (A B : Option Addr) (ca cb n m : Nat) (a b : List Int) (r : Int × Int) (w : World) (ha : SlI w .i32 A ca a) (hb : SlI w .i32 B cb b) (hn : a.length = n) (hm : b.length = m) (hr : Hid (radI a b = r)) :
    Calls Try.prog 14 #[.slice A n ca, .slice B m cb] w fun e w' => e = .returned (.tuple #[.int .i64 r.1, .int .i64 r.2]) ∧ Below w.heap.size w w' := by
  subst hn; subst hm; rw [← hr.out]; exact Radius_calls A B ca cb a b w ha hb
theorem Of_is (a r : Int) (w : World) (v : Int × Int) (h : Hid (endI a r 0 1 = v)) :
    Calls Try.prog 15 #[.int .i64 a, .int .i64 r] w fun e w' => e = .returned (.tuple #[.int .i64 v.1, .int .i64 v.2]) ∧ Below w.heap.size w w' := by
  rw [← h.out]; exact Of_calls a r w
theorem Holds_is (d a r : Int) (w : World) (v : Bool) (h : Hid (holdsB d a r = v)) :
    Calls Try.prog 11 #[.int .i64 d, .int .i64 a, .int .i64 r] w fun e w' => e = .returned (.bool v) ∧ Below w.heap.size w w' := by
  rw [← h.out]; exact Holds_calls d a r w
theorem lives_calls (w : World) : Calls Try.prog 8 #[] w fun e w' => e = .returned (.bool true) ∧ Below w.heap.size w w' := by
  have R := Lib.hid (show radI [0, 0] [1, 1] = (2, 0) by decide +kernel)
  have O1 := Lib.hid (show endI 16 2 0 1 = (20, 0) by decide +kernel)
  have O2 := Lib.hid (show endI 17 2 0 1 = (24, 0) by decide +kernel)
  have K1 := Lib.hid (show holdsB 36 16 2 = true by decide +kernel)
  have K2 := Lib.hid (show holdsB 37 16 2 = false by decide +kernel)
  go_enter Try.func8, Try.ntmps8
  go_wp2_with fail
  refine (Radius_is (some ⟨w.heap.size, 0, none⟩) (some ⟨w.heap.size + 1, 0, none⟩) 2 2 2 2 [0, 0] [1, 1] (2, 0) _ ((lit_at [0, 0] rfl (by decide)).below (below_alloc (Below.refl _ _) _)) (lit_at [1, 1] (by simp) (by decide)) rfl rfl R).mono ?_
  rintro e w1 ⟨rfl, b1⟩
  have b01 := below_trans (below_alloc (below_alloc (Below.refl w.heap.size w) _) _) b1
  clear b1
  go_wp2_with fail
  refine (Of_is 16 2 _ (20, 0) O1).mono ?_
  rintro e w2 ⟨rfl, b2⟩
  have b02 := below_trans b01 b2
  clear b01 b2
  go_wp2_with fail
  refine (Of_is 17 2 _ (24, 0) O2).mono ?_
  rintro e w3 ⟨rfl, b3⟩
  have b03 := below_trans b02 b3
  clear b02 b3
  go_wp2_with fail
  refine (Holds_is 36 16 2 _ true K1).mono ?_
  rintro e w4 ⟨rfl, b4⟩
  have b04 := below_trans b03 b4
  clear b03 b4
  go_wp2_with fail
  refine (Holds_is 37 16 2 _ false K2).mono ?_
  rintro e w5 ⟨rfl, b5⟩
  go_wp2_with fail
  go_ret
  exact ⟨rfl, below_trans b04 b5⟩
theorem Low_is (a r : Int) (w : World) (v : Int × Int) (h : Hid (endI a r a (-1) = v)) :
    Calls Try.prog 9 #[.int .i64 a, .int .i64 r] w fun e w' => e = .returned (.tuple #[.int .i64 v.1, .int .i64 v.2]) ∧ Below w.heap.size w w' := by
  rw [← h.out]; exact Low_calls a r w
theorem High_is (a r : Int) (w : World) (v : Int × Int) (h : Hid (endI a r a 1 = v)) :
    Calls Try.prog 10 #[.int .i64 a, .int .i64 r] w fun e w' => e = .returned (.tuple #[.int .i64 v.1, .int .i64 v.2]) ∧ Below w.heap.size w w' := by
  rw [← h.out]; exact High_calls a r w
theorem cel_sq {s : Int} (h : 0 ≤ s) : cel (s * s) = s := by
  have e : (s + 1) * (s + 1) = s * s + 2 * s + 1 := by grind
  have hf : flr (s * s) = s := flr_eq h (by omega) (by omega)
  unfold cel; rw [hf, if_pos rfl]
theorem squares_core (s r : Int) (w : World) (s0 : 0 ≤ s) (s1 : s ≤ 8388608) (r0 : 0 ≤ r) (r1 : r ≤ 8388608) :
    Calls Try.prog 3 #[.int .i64 s, .int .i64 r] w fun e w' => e = .returned (.bool true) ∧ Below w.heap.size w w' := by
  have x0 := Int.mul_nonneg s0 s0
  have x1 := Int.mul_le_mul s1 s1 s0 (by decide)
  have z0 := Int.mul_nonneg r0 r0
  have z1 := Int.mul_le_mul r1 r1 r0 (by decide)
  have y0 := Int.mul_nonneg (show 0 ≤ 2 * s by omega) r0
  have y1 := Int.mul_le_mul (show 2 * s ≤ 16777216 by omega) r1 r0 (by decide)
  have hW : (s + r) * (s + r) = s * s + 2 * s * r + r * r := by grind
  have hk : okB (s * s) r = true := okB_iff.2 ⟨x0, by omega, r0, r1⟩
  have hbn : bnd (s * s) r = 2 * s * r + r * r := by unfold bnd; rw [cel_sq s0]
  have HL : Hid (endI (s * s) r (s * s) (-1) = (s * s - 2 * s * r - r * r, 0)) := by show _ = _; rw [endI_t hk, hbn]; congr 1; omega
  have HH : Hid (endI (s * s) r (s * s) 1 = (s * s + 2 * s * r + r * r, 0)) := by show _ = _; rw [endI_t hk, hbn]; congr 1; omega
  have hh : ∀ d, holdsB d (s * s) r = (decide (s * s - 2 * s * r - r * r ≤ d) && decide (d ≤ s * s + 2 * s * r + r * r)) := fun d => by
    unfold holdsB; rw [hk, hbn, Bool.true_and, show s * s - (2 * s * r + r * r) = s * s - 2 * s * r - r * r by omega, show s * s + (2 * s * r + r * r) = s * s + 2 * s * r + r * r by omega]
  have K1 := hh (s * s - 2 * s * r - r * r)
  have K2 := hh (s * s + 2 * s * r + r * r)
  have K3 := hh (s * s - 2 * s * r - r * r - 1)
  have K4 := hh (s * s + 2 * s * r + r * r + 1)
  have i1 : ¬ s < 0 := by omega
  have i2 : ¬ s > 8388608 := by omega
  have i3 : ¬ r < 0 := by omega
  have i4 : ¬ r > 8388608 := by omega
  clear hh hbn hk
  generalize hX : s * s = X at *
  generalize hY : 2 * s * r = Y at *
  generalize hZ : r * r = Z at *
  have K1 := Lib.hid (K1.trans (by simp; omega : _ = true))
  have K2 := Lib.hid (K2.trans (by simp; omega : _ = true))
  have K3 := Lib.hid (K3.trans (by simp; omega : _ = false))
  have K4 := Lib.hid (K4.trans (by simp; omega : _ = false))
  go_enter Try.func3, Try.ntmps3
  go_wp2_with fail
  refine (lives_calls _).mono ?_
  rintro e w1 ⟨rfl, b1⟩
  go_wp2_with fail
  refine (Low_is X r _ _ HL).mono ?_
  rintro e w2 ⟨rfl, b2⟩
  have b02 := below_trans b1 b2
  clear b1 b2
  go_wp2_with fail
  refine (High_is X r _ _ HH).mono ?_
  rintro e w3 ⟨rfl, b3⟩
  have b03 := below_trans b02 b3
  clear b02 b3
  go_wp2_with fail
  refine (Holds_is _ X r _ true K1).mono ?_
  rintro e w4 ⟨rfl, b4⟩
  have b04 := below_trans b03 b4
  clear b03 b4
  go_wp2_with fail
  refine (Holds_is _ X r _ true K2).mono ?_
  rintro e w5 ⟨rfl, b5⟩
  have b05 := below_trans b04 b5
  clear b04 b5
  go_wp2_with fail
  refine (Holds_is _ X r _ false K3).mono ?_
  rintro e w6 ⟨rfl, b6⟩
  have b06 := below_trans b05 b6
  clear b05 b6
  go_wp2_with fail
  refine (Holds_is _ X r _ false K4).mono ?_
  rintro e w7 ⟨rfl, b7⟩
  go_wp2_with fail
  go_ret
  exact ⟨rfl, below_trans b06 b7⟩
theorem BoundSquares_row (s r : Int) (w : World) (_hs : (Lit.int .i64 s).wf = true) (_hr : (Lit.int .i64 r).wf = true) :
    Calls Try.prog 3 #[.int .i64 s, .int .i64 r] w fun e w' => e = .returned (.bool true) ∧ Below w.heap.size w w' := by
  by_cases h : 0 ≤ s ∧ s ≤ 8388608 ∧ 0 ≤ r ∧ r ≤ 8388608
  · exact squares_core s r w h.1 h.2.1 h.2.2.1 h.2.2.2
  · have hc : s < 0 ∨ (¬ s < 0 ∧ s > 8388608) ∨ (¬ s < 0 ∧ ¬ s > 8388608 ∧ r < 0) ∨ (¬ s < 0 ∧ ¬ s > 8388608 ∧ ¬ r < 0 ∧ r > 8388608) := by omega
    clear h
    rcases hc with h | ⟨h, h2⟩ | ⟨h, h2, h3⟩ | ⟨h, h2, h3, h4⟩
    all_goals
      go_enter Try.func3, Try.ntmps3
      go_wp2_with fail
      refine (lives_calls _).mono ?_
      rintro e w1 ⟨rfl, b1⟩
      go_wp2_with fail
      go_ret
      exact ⟨rfl, b1⟩
end Go.Proofs.Ytaiibjbhblpbpaa
