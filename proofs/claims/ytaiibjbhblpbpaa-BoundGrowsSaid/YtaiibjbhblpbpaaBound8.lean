import Derived.Test.YtaiibjbhblpbpaaBound4
namespace Go.Proofs.Ytaiibjbhblpbpaa
set_option linter.unusedVariables false
set_option linter.unusedSimpArgs false
/-! Plain laws for BoundHolds. -/
theorem sq_le_sq {x y : Int} (hy : 0 ≤ y) (h : x * x ≤ y * y) : x ≤ y := by
  rcases Int.lt_or_le y x with hlt | hle
  · have := Int.mul_le_mul (show y + 1 ≤ x by omega) (show y + 1 ≤ x by omega) (by omega) (by omega)
    have e : (y + 1) * (y + 1) = y * y + 2 * y + 1 := by grind
    omega
  · exact hle
theorem nn (d : Int) : 0 ≤ d * d := by
  rcases Int.le_total 0 d with h | h
  · exact Int.mul_nonneg h h
  · have := Int.mul_nonneg (show 0 ≤ -d by omega) (show 0 ≤ -d by omega)
    grind
/-- One step of Cauchy and Schwarz. -/
theorem cs_step {P A S u v : Int} (hA : 0 ≤ A) (hS : 0 ≤ S) (h : P * P ≤ A * S) : (P + u * v) * (P + u * v) ≤ (A + u * u) * (S + v * v) := by
  have hy : 0 ≤ A * (v * v) + S * (u * u) := by
    have := Int.mul_nonneg hA (nn v)
    have := Int.mul_nonneg hS (nn u)
    omega
  have k : (2 * P * (u * v)) * (2 * P * (u * v)) ≤ (A * (v * v) + S * (u * u)) * (A * (v * v) + S * (u * u)) := by
    have h1 := Int.mul_le_mul_of_nonneg_right h (nn (u * v))
    have h2 := nn (A * (v * v) - S * (u * u))
    grind
  have := sq_le_sq hy k
  grind
end Go.Proofs.Ytaiibjbhblpbpaa
