import Derived.Test.YtaiibjbhblpbpaaRootRef0
import Derived.Test.YtaiibjbhblpbpaaMem
import Derived.Deep.RegionHeld3
namespace Go.Proofs.Ytaiibjbhblpbpaa
set_option linter.unusedVariables false
set_option linter.unusedSimpArgs false
open Go.RowKit
theorem cel_spec {a : Int} (h0 : 0 ≤ a) : 0 ≤ cel a ∧ a ≤ cel a * cel a ∧ (0 < cel a → (cel a - 1) * (cel a - 1) < a) := by
  obtain ⟨k0, k1, k2⟩ := flr_spec h0
  unfold cel
  generalize flr a = f at *
  split
  · refine ⟨k0, by omega, fun h => ?_⟩
    have : (f - 1) * (f - 1) = f * f - 2 * f + 1 := by grind
    omega
  · refine ⟨by omega, by omega, fun h => ?_⟩
    have : f + 1 - 1 = f := by omega
    rw [this]; omega
theorem cel_bd {a : Int} (h0 : 0 ≤ a) (h1 : a ≤ 70368744177664) : 0 ≤ cel a ∧ cel a ≤ 8388608 := by
  obtain ⟨c0, c1, c2⟩ := cel_spec h0
  refine ⟨c0, ?_⟩
  generalize cel a = c at *
  rcases Int.lt_or_le 8388608 c with h | h
  · have h3 := c2 (by omega)
    have h4 := Int.mul_le_mul (show 8388608 ≤ c - 1 by omega) (show 8388608 ≤ c - 1 by omega) (by decide) (by omega)
    omega
  · exact h
/-- The bound. -/
def bnd (a r : Int) : Int := 2 * cel a * r + r * r
def okB (a r : Int) : Bool := decide (0 ≤ a) && decide (a ≤ 70368744177664) && decide (0 ≤ r) && decide (r ≤ 8388608)
theorem okB_iff {a r : Int} : okB a r = true ↔ 0 ≤ a ∧ a ≤ 70368744177664 ∧ 0 ≤ r ∧ r ≤ 8388608 := by unfold okB; simp; omega
theorem bnd_bd {a r : Int} (h : okB a r = true) : 0 ≤ bnd a r ∧ bnd a r ≤ 211106232532992 ∧ 0 ≤ 2 * cel a * r ∧ 2 * cel a * r ≤ 140737488355328 ∧ 0 ≤ r * r ∧ r * r ≤ 70368744177664 := by
  obtain ⟨a0, a1, r0, r1⟩ := okB_iff.1 h
  obtain ⟨c0, c1⟩ := cel_bd a0 a1
  have p1 := Int.mul_nonneg (show 0 ≤ 2 * cel a by omega) r0
  have p2 := Int.mul_le_mul (show 2 * cel a ≤ 16777216 by omega) r1 r0 (by decide)
  have p3 := Int.mul_nonneg r0 r0
  have p4 := Int.mul_le_mul r1 r1 r0 (by decide)
  unfold bnd
  omega
theorem up_calls (n : Int) (w : World) (h0 : 0 ≤ n) (h1 : n ≤ 9223372036854775807) (hc : cel n ≤ 9223372036854775807) :
    Calls Try.prog 28 #[.int .i64 n] w fun e w' => e = .returned (.int .i64 (cel n)) ∧ w = w' := by
  have hc0 := (cel_spec h0).1
  go_enter Try.func28, Try.ntmps28
  go_wp2_with fail
  refine (Ceil_calls n _ h0 (by omega)).mono ?_
  rintro e w' ⟨rfl, rfl⟩
  go_wp2_with fail
  go_ret
  exact ⟨rfl, rfl⟩
theorem pbound_calls (a r : Int) (w : World) :
    Calls Try.prog 25 #[.agg #[.int .i64 a, .int .i64 r]] w fun e w' => e = .returned (.tuple #[.int .i64 (if okB a r then bnd a r else 0), .bool (okB a r)]) ∧ Below w.heap.size w w' := by
  cases hk : okB a r with
  | true =>
    obtain ⟨a0, a1, r0, r1⟩ := okB_iff.1 hk
    obtain ⟨c0, c1⟩ := cel_bd a0 a1
    have hb := bnd_bd hk
    have hbd := Lib.hid (show bnd a r = 2 * cel a * r + r * r from rfl)
    have U := fun w => up_calls a w a0 (by omega) (by omega)
    generalize bnd a r = B at *
    generalize cel a = c at *
    go_enter Try.func25, Try.ntmps25
    go_wp2_with fail
    go_quiet ((go_at_call 28; exact (U _).mono fun _ _ ⟨h1, h2⟩ => ⟨h1, _, h2.symm⟩))
    go_wp2_with fail
    go_ret2
    exact ⟨by rw [hbd.out]; rfl, below_trans (below_alloc (Below.refl _ _) _) (below_drewN (Below.refl _ _) _)⟩
  | false =>
    have hn : ¬ (0 ≤ a ∧ a ≤ 70368744177664 ∧ 0 ≤ r ∧ r ≤ 8388608) := fun h => by rw [okB_iff.2 h] at hk; cases hk
    have hc : a < 0 ∨ (¬ a < 0 ∧ a > 70368744177664) ∨ (¬ a < 0 ∧ ¬ a > 70368744177664 ∧ r < 0) ∨ (¬ a < 0 ∧ ¬ a > 70368744177664 ∧ ¬ r < 0 ∧ r > 8388608) := by omega
    clear hn
    rcases hc with h | ⟨h, h2⟩ | ⟨h, h2, h3⟩ | ⟨h, h2, h3, h4⟩
    all_goals
      go_enter Try.func25, Try.ntmps25
      go_wp2_with fail
      go_ret2
      exact ⟨rfl, below_alloc (Below.refl _ _) _⟩
theorem with_calls (a r x t : Int) (w : World) (hx : 0 ≤ x ∧ x ≤ 70368744177664 ∨ okB a r = false) (ht : t = 1 ∨ t = -1) :
    Calls Try.prog 24 #[.int .i64 a, .int .i64 r, .int .i64 x, .int .i64 t] w fun e w' => e = .returned (.tuple #[.int .i64 (if okB a r then x + t * bnd a r else 0), .int .i64 (if okB a r then 0 else 2)]) ∧ Below w.heap.size w w' := by
  have PB := fun w => pbound_calls a r w
  cases hk : okB a r with
  | true =>
    have hb := bnd_bd hk
    have hx : 0 ≤ x ∧ x ≤ 70368744177664 := by rcases hx with h | h; exact h; rw [hk] at h; cases h
    rw [hk] at PB
    generalize bnd a r = B at *
    rcases ht with rfl | rfl
    all_goals
      go_enter Try.func24, Try.ntmps24
      go_wp2_with fail
      refine (PB _).mono ?_
      rintro e w1 ⟨rfl, b1⟩
      go_wp2_with fail
      go_ret2
      exact ⟨by simp, b1⟩
  | false =>
    rw [hk] at PB
    go_enter Try.func24, Try.ntmps24
    go_wp2_with fail
    refine (PB _).mono ?_
    rintro e w1 ⟨rfl, b1⟩
    go_wp2_with fail
    go_ret2
    exact ⟨rfl, b1⟩
end Go.Proofs.Ytaiibjbhblpbpaa
