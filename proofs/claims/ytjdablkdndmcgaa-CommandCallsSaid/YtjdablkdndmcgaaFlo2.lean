/- Flo2: a double as a whole number: vec.Fixed and the document's Fixed agree. No program. -/
import Derived.Test.YtjdablkdndmcgaaFlo
namespace Go.Proofs.Ytjdablkdndmcgaa
set_option linter.unusedVariables false
set_option linter.unusedSimpArgs false
def powerN (d : Nat) : Nat := d / 4503599627370496 % 2048
def partN (d : Nat) : Nat := d % 4503599627370496
def signN (d : Nat) : Bool := d / 9223372036854775808 % 2 == 1
def magN (d : Nat) : Nat := if powerN d = 0 then partN d else partN d + 4503599627370496
def upN (d : Nat) : Nat := powerN d - 1
def unitExp : Nat := 1074
theorem unitExp_is : unitExp = 1074 := rfl
def unit1 : Nat := 2 ^ unitExp
theorem unit1_pos : 0 < unit1 := Nat.two_pow_pos _
/-- The double, times 2^f, as a whole number. -/
def wholeN (d f : Nat) : Nat := rhe (magN d * 2 ^ (upN d + f)) unit1
/-- Fixed. -/
def fixN (d f : Nat) : Int × Int :=
  if powerN d = 2047 then (0, if 0 < partN d then 2 else 11)
  else if signN d then (if 32768 < wholeN d f then (0, 11) else (-(wholeN d f : Int), 0))
  else if 32767 < wholeN d f then (0, 11) else ((wholeN d f : Int), 0)
def fix (d f : Int) : Int × Int := if f < 0 ∨ 15 < f then (0, 2) else fixN d.toNat f.toNat
theorem magN_lt (d : Nat) : magN d < 9007199254740992 := by unfold magN partN; split <;> omega
theorem read_num (d : Nat) (h : powerN d ≠ 2047) : Ieee.double.read d = .number (signN d) (magN d) ((upN d : Int) - 1074) := by
  have h1 : Ieee.double.signWeight = 9223372036854775808 := by decide
  have h2 : Ieee.double.binade = 4503599627370496 := by decide
  have h3 : Ieee.double.infRung = 9218868437227405312 := by decide
  have h4 : Ieee.double.leastPlace = -1074 := by decide
  unfold Ieee.Format.read
  rw [h1, h2, h3, h4]
  dsimp only
  have hp : powerN d = d % 9223372036854775808 / 4503599627370496 := by unfold powerN; omega
  have hq : partN d = d % 9223372036854775808 % 4503599627370496 := by unfold partN; omega
  have hs : signN d = (d / 9223372036854775808 % 2 == 1) := rfl
  rw [← hs]
  by_cases h5 : d % 9223372036854775808 < 4503599627370496
  · have : powerN d = 0 := by omega
    rw [if_pos h5]
    unfold magN upN
    rw [if_pos this, this]
    congr 1
    omega
  · have h6 : d % 9223372036854775808 < 9218868437227405312 := by omega
    have h7 : powerN d ≠ 0 := by omega
    rw [if_neg h5, if_pos h6]
    unfold magN upN
    rw [if_neg h7]
    congr 1
    · omega
    · omega
theorem read_odd (d : Nat) (h : powerN d = 2047) : Ieee.double.read d = if 0 < partN d then .nan (signN d) (partN d) else .infinity (signN d) := by
  have h1 : Ieee.double.signWeight = 9223372036854775808 := by decide
  have h2 : Ieee.double.binade = 4503599627370496 := by decide
  have h3 : Ieee.double.infRung = 9218868437227405312 := by decide
  unfold Ieee.Format.read
  rw [h1, h2, h3]
  dsimp only
  have hp : powerN d = d % 9223372036854775808 / 4503599627370496 := by unfold powerN; omega
  have hq : partN d = d % 9223372036854775808 % 4503599627370496 := by unfold partN; omega
  have hs : signN d = (d / 9223372036854775808 % 2 == 1) := rfl
  rw [← hs, if_neg (by omega), if_neg (by omega)]
  by_cases h5 : 0 < partN d
  · rw [if_pos h5, if_neg (by omega)]
    rw [show d % 9223372036854775808 - 9218868437227405312 = partN d by omega]
  · rw [if_neg h5, if_pos (by omega)]
def svI (s : Bool) (x : Nat) : Int := if s then -(x : Int) else x
theorem signed_sv (s : Bool) (m u : Nat) : Ieee.signed s m u = svI s (m * 2 ^ u) := by
  unfold Ieee.signed svI
  rw [Nat.shiftLeft_eq]
theorem sv_mul (s : Bool) (x k : Nat) : svI s (x * k) = svI s x * k := by
  unfold svI
  cases s
  · simp
  · simp [Int.neg_mul]
theorem compare_mul (a b : Int) (k : Nat) (hk : 0 < k) : compare (a * k) (b * k) = compare a b := by
  have hk' : (0 : Int) < k := by omega
  rcases Int.lt_trichotomy a b with h | h | h
  · have h2 : a * k < b * k := Int.mul_lt_mul_of_pos_right h hk'
    rw [show compare a b = .lt by simp [compare, compareOfLessAndEq, h], show compare (a * (k : Int)) (b * k) = .lt by simp [compare, compareOfLessAndEq, h2]]
  · subst h; simp [compare, compareOfLessAndEq]
  · have h2 : b * k < a * k := Int.mul_lt_mul_of_pos_right h hk'
    rw [show compare a b = .gt by simp only [compare, compareOfLessAndEq]; rw [if_neg (by omega), if_neg (by omega)], show compare (a * (k : Int)) (b * k) = .gt by simp only [compare, compareOfLessAndEq]; rw [if_neg (by omega), if_neg (by omega)]]
/-- How two numbers stand, in units. -/
theorem order_num (s t : Bool) (m n e f : Nat) : (Ieee.Datum.number s m ((e : Int) - 1074)).order (.number t n ((f : Int) - 1074)) = some (compare (svI s (m * 2 ^ e)) (svI t (n * 2 ^ f))) := by
  unfold Ieee.Datum.order
  dsimp only
  rw [signed_sv, signed_sv]
  obtain ⟨g, hg⟩ : ∃ g, g = min e f := ⟨_, rfl⟩
  rw [show ((e : Int) - 1074 - min ((e : Int) - 1074) ((f : Int) - 1074)).toNat = e - g by omega, show ((f : Int) - 1074 - min ((e : Int) - 1074) ((f : Int) - 1074)).toNat = f - g by omega]
  rw [← compare_mul _ _ (2 ^ g) (Nat.two_pow_pos _), ← sv_mul, ← sv_mul, Nat.mul_assoc, Nat.mul_assoc, ← Nat.pow_add, ← Nat.pow_add, show e - g + g = e by omega, show f - g + g = f by omega]
theorem read_c1 : Ieee.double.read 13898108450065350656 = .number true 4503599627370496 (((1037 : Nat) : Int) - 1074) := by decide
theorem read_c2 : Ieee.double.read 4674736138332667904 = .number false 9006924376834048 (((1036 : Nat) : Int) - 1074) := by decide
theorem c1_unit (k : Nat) (hk : k = 1037) : 4503599627370496 * 2 ^ k = 32768 * unit1 := by
  have hE := unitExp_is
  unfold unit1
  rw [show (4503599627370496 : Nat) = 2 ^ 52 by decide, show (32768 : Nat) = 2 ^ 15 by decide, ← Nat.pow_add, ← Nat.pow_add]
  exact pow_eq (by omega)
theorem c2_unit (k : Nat) (hk : k = 1036) : 9006924376834048 * 2 ^ k = 32767 * unit1 := by
  have hE := unitExp_is
  unfold unit1
  rw [show (9006924376834048 : Nat) = 32767 * 2 ^ 38 by decide, Nat.mul_assoc, ← Nat.pow_add, pow_eq (show 38 + k = unitExp by omega)]
theorem pow_one (f : Nat) (h : f ≤ 15) : Ieee.double.read (FloatKind.f64.nearest ((2 ^ f : Nat) : Int)) = .number false 4503599627370496 ((f : Int) - 52) := by
  have : ∀ f : Fin 16, Ieee.double.read (FloatKind.f64.nearest ((2 ^ f.val : Nat) : Int)) = .number false 4503599627370496 ((f.val : Int) - 52) := by decide
  exact this ⟨f, by omega⟩
/-- What RoundToEven of the product reads as. -/
theorem read_round (s : Bool) (m e : Nat) (hm : m < 9007199254740992) (N : Nat) (hN : N = rhe (m * 2 ^ e) unit1) :
    (∃ m' e' : Nat, Ieee.double.read (Ieee.double.write ((Ieee.Datum.number s m ((e : Int) - 1074)).integral .even)) = .number s m' ((e' : Int) - 1074) ∧ m' * 2 ^ e' = N * unit1) ∨
    (tooBig ≤ N * unit1 ∧ Ieee.double.read (Ieee.double.write ((Ieee.Datum.number s m ((e : Int) - 1074)).integral .even)) = .infinity s) := by
  have hE := unitExp_is
  have hi : (Ieee.Datum.number s m ((e : Int) - 1074)).integral .even = .number s N 0 := by
    unfold Ieee.Datum.integral
    dsimp only
    rw [cut_even, Nat.shiftLeft_eq, show ((e : Int) - 1074).toNat = e - 1074 by omega, show (-((e : Int) - 1074)).toNat = 1074 - e by omega]
    have hx : rhe (m * 2 ^ (e - 1074)) (2 ^ (1074 - e)) = N := by
      rw [hN]
      unfold unit1
      by_cases h : 1074 ≤ e
      · rw [show 1074 - e = 0 by omega, Nat.pow_zero, rhe_one]
        have h1 := rhe_mul (m * 2 ^ (e - 1074)) 1 (2 ^ unitExp) (Nat.two_pow_pos _)
        rw [rhe_one, Nat.one_mul, Nat.mul_assoc, ← Nat.pow_add, show e - 1074 + unitExp = e by omega] at h1
        exact h1.symm
      · rw [show e - 1074 = 0 by omega, Nat.pow_zero, Nat.mul_one]
        have h1 := rhe_mul m (2 ^ (1074 - e)) (2 ^ e) (Nat.two_pow_pos _)
        rw [← Nat.pow_add, show 1074 - e + e = unitExp by omega] at h1
        exact h1.symm
    rw [hx]
  rw [hi]
  by_cases hs : N < 9007199254740992
  · have h1 := read_write s N 0 unitExp hs
    rw [Nat.pow_zero, Nat.mul_one, show ((unitExp : Nat) : Int) - 1074 - ((0 : Nat) : Int) = 0 by omega] at h1
    rcases h1 with ⟨_, m', e', g1, g2, g3⟩ | ⟨g1, g2⟩
    · exact .inl ⟨m', e', g1, g3⟩
    · exact .inr ⟨g1, g2⟩
  · have he : 1074 ≤ e := by
      false_or_by_contra
      apply hs
      rw [hN]
      have h1 := rhe_mul m (2 ^ (1074 - e)) (2 ^ e) (Nat.two_pow_pos _)
      rw [← Nat.pow_add, show 1074 - e + e = unitExp by omega] at h1
      unfold unit1
      rw [h1]
      have h2 : 2 ≤ 2 ^ (1074 - e) := by
        have : 2 ^ 1 ≤ 2 ^ (1074 - e) := Nat.pow_le_pow_right (by decide) (by omega)
        simpa using this
      unfold rhe
      have h3 : m / 2 ^ (1074 - e) ≤ m / 2 := Nat.div_le_div_left h2 (by decide)
      split <;> omega
    have hN2 : N = m * 2 ^ (e - 1074) := by
      rw [hN]
      unfold unit1
      have h1 := rhe_mul (m * 2 ^ (e - 1074)) 1 (2 ^ unitExp) (Nat.two_pow_pos _)
      rw [rhe_one, Nat.one_mul, Nat.mul_assoc, ← Nat.pow_add, show e - 1074 + unitExp = e by omega] at h1
      exact h1
    have hu : N * unit1 = m * 2 ^ e := by
      rw [hN2]; unfold unit1
      rw [Nat.mul_assoc, ← Nat.pow_add, show e - 1074 + unitExp = e by omega]
    have h1 := read_write s m (e - 1074) e hm
    rw [show (e : Int) - 1074 - ((e - 1074 : Nat) : Int) = 0 by omega, ← hN2, ← hu] at h1
    rcases h1 with ⟨_, m', e', g1, g2, g3⟩ | ⟨g1, g2⟩
    · exact .inl ⟨m', e', g1, g3⟩
    · exact .inr ⟨g1, g2⟩
end Go.Proofs.Ytjdablkdndmcgaa
