/- FloD: a small double halved. -/
import Derived.Test.YtjdablkdndmcgaaFloL
namespace Go.Proofs.Ytjdablkdndmcgaa
set_option linter.unusedVariables false
set_option linter.unusedSimpArgs false
open Go.RowKit
theorem half_norm {d : Nat} (h : Nrm d) (hp : 1001 ≤ powerN d) : Ieee.double.div d 4611686018427387904 = some (d - 4503599627370496) := by
  obtain ⟨m0, m1, hpu, hm⟩ := h.mag
  obtain ⟨n1, n2, n3, n4⟩ := h.down 1 (by omega)
  rw [Nat.one_mul] at n1 n2 n3 n4
  have hl : (magN d).log2 = 52 := by
    have a1 : (magN d).log2 < 53 := (Nat.log2_lt (by omega)).2 (by omega)
    have a2 : 52 ≤ (magN d).log2 := (Nat.le_log2 (by omega)).2 (by omega)
    omega
  have h2 : Ieee.double.read 4611686018427387904 = .number false 4503599627370496 (-51) := by decide
  have h6 : Ieee.double.fractionBits = 52 := by decide
  have hl2 : (4503599627370496 : Nat).log2 = 52 := by decide
  have hp1 := h.p1
  unfold Ieee.Format.div
  rw [h.read, h2, h6]
  unfold Ieee.Datum.quotient
  dsimp only
  rw [if_neg (by decide), hl, hl2]
  have e1 : (magN d <<< (52 + 2 + 52 - 52)) = (magN d * 4) * 4503599627370496 := by
    rw [Nat.shiftLeft_eq]
    rw [show (2 : Nat) ^ (52 + 2 + 52 - 52) = 4 * 4503599627370496 by decide, Nat.mul_assoc]
  rw [e1, Nat.mul_div_cancel _ (by decide), Nat.mul_mod_left]
  show some (Ieee.double.nearest (signN d ^^ false) (2 * (magN d * 4) + 0) ((upN d : Int) - 1074 - -51 - ((52 + 2 + 52 - 52 : Nat) : Int) - 1)) = _
  have e2 : 2 * (magN d * 4) + 0 = magN d * 2 ^ 3 := by rw [show (2 : Nat) ^ 3 = 8 by decide]; omega
  have e3 : (upN d : Int) - 1074 - -51 - ((52 + 2 + 52 - 52 : Nat) : Int) - 1 = ((upN d - 1 : Nat) : Int) - 1074 - ((3 : Nat) : Int) := by omega
  rw [Bool.xor_false, e2, e3, nearest_norm _ _ _ _ m0 m1 (by omega)]
  refine congrArg some ?_
  have hs := h.split
  unfold Ieee.Format.word
  have e4 : Ieee.double.signWeight = 9223372036854775808 := by decide
  rw [e4]
  generalize signN d = s at *
  cases s
  · simp at hs ⊢; omega
  · simp at hs ⊢; omega
theorem half_ldx (n : Int) (k : Nat) (h0 : -32768 ≤ n) (h1 : n ≤ 32767) (hk : k < 15) : Ieee.double.div (ldx n k) 4611686018427387904 = some (ldx n (k + 1)) := by
  unfold ldx
  by_cases hn : n = 0
  · rw [if_pos hn, if_pos hn]
    decide
  · rw [if_neg hn, if_neg hn]
    obtain ⟨n1, p0, p1, _⟩ := near_nrm n h0 h1 hn
    obtain ⟨d1, d2, _, _⟩ := n1.down k (by omega)
    rw [half_norm d1 (by omega)]
    refine congrArg some ?_
    omega
theorem ldx_zero (n : Int) : ldx n 0 = FloatKind.f64.nearest n := by
  unfold ldx
  split
  · rename_i h; subst h; decide
  · omega
end Go.Proofs.Ytjdablkdndmcgaa
