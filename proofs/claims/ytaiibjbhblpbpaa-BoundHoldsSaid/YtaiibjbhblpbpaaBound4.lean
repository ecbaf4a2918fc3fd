import Derived.Test.YtaiibjbhblpbpaaBound1
namespace Go.Proofs.Ytaiibjbhblpbpaa
set_option linter.unusedVariables false
set_option linter.unusedSimpArgs false
open Go.RowKit
/-! Plain laws for BoundGrows. -/
theorem cel_mono {a b : Int} (h0 : 0 ≤ a) (h : a ≤ b) : cel a ≤ cel b := by
  obtain ⟨a0, a1, a2⟩ := cel_spec h0
  obtain ⟨b0, b1, b2⟩ := cel_spec (show 0 ≤ b by omega)
  generalize cel a = p at *
  generalize cel b = q at *
  rcases Int.lt_or_le q p with hlt | hle
  · have h1 := a2 (by omega)
    have h2 := Int.mul_le_mul (show q ≤ p - 1 by omega) (show q ≤ p - 1 by omega) b0 (by omega)
    omega
  · exact hle
theorem bnd_mono_a {a b r : Int} (h0 : 0 ≤ a) (h : a ≤ b) (hr : 0 ≤ r) : bnd a r ≤ bnd b r := by
  have := Int.mul_le_mul_of_nonneg_right (show 2 * cel a ≤ 2 * cel b by have := cel_mono h0 h; omega) hr
  unfold bnd; omega
theorem bnd_mono_r {a r q : Int} (h0 : 0 ≤ a) (hr : 0 ≤ r) (h : r ≤ q) : bnd a r ≤ bnd a q := by
  have c0 := (cel_spec h0).1
  have h1 := Int.mul_le_mul_of_nonneg_left h (show 0 ≤ 2 * cel a by omega)
  have h2 := Int.mul_le_mul h h hr (by omega)
  unfold bnd; omega
theorem bnd_mod {a r : Int} (h : 0 < r) : (bnd a r - r * r) % (2 * r) = 0 ∧ (bnd a r - r * r) / (2 * r) = cel a := by
  have e : bnd a r - r * r = cel a * (2 * r) := by unfold bnd; grind
  rw [e]
  exact ⟨Int.mul_emod_left _ _, Int.mul_ediv_cancel _ (by omega)⟩
end Go.Proofs.Ytaiibjbhblpbpaa
