/- Flo: the model's doubles: what is read of what was written; rounding to a whole number. No program. -/
import Derived.Laws.FloatArith
namespace Go.Proofs.Ytjdablkdndmcgaa
set_option linter.unusedVariables false
set_option linter.unusedSimpArgs false
/-- n / g, rounded to the nearest, ties to even. -/
def rhe (n g : Nat) : Nat := n / g + (if g < 2 * (n % g) ∨ (g = 2 * (n % g) ∧ n / g % 2 = 1) then 1 else 0)
theorem rhe_mul (n g k : Nat) (hk : 0 < k) : rhe (n * k) (g * k) = rhe n g := by
  unfold rhe
  rw [Nat.mul_div_mul_right _ _ hk, Nat.mul_mod_mul_right]
  have e1 : (g * k < 2 * (n % g * k)) ↔ g < 2 * (n % g) := by
    rw [← Nat.mul_assoc]; exact Nat.mul_lt_mul_right hk
  have e2 : (g * k = 2 * (n % g * k)) ↔ g = 2 * (n % g) := by
    rw [← Nat.mul_assoc]; exact Nat.mul_left_inj (by omega)
  simp only [e1, e2]
theorem rhe_one (n : Nat) : rhe n 1 = n := by
  unfold rhe
  rw [Nat.div_one, Nat.mod_one, if_neg (by omega)]; omega
theorem rhe_small (n g : Nat) (h : 2 * n < g) : rhe n g = 0 := by
  unfold rhe
  rw [Nat.div_eq_of_lt (by omega), Nat.mod_eq_of_lt (by omega), if_neg (by omega)]
theorem lt_log (n : Nat) : n < 2 ^ (n.log2 + 1) := by
  rcases Nat.eq_zero_or_pos n with rfl | h
  · decide
  · exact (Nat.log2_lt (by omega)).1 (Nat.lt_succ_self _)
theorem log_le (n : Nat) (h : n ≠ 0) : 2 ^ n.log2 ≤ n := (Nat.le_log2 h).1 (Nat.le_refl _)
theorem gap_big (n drop : Nat) (h : ¬ drop ≤ n.log2 + 2) : 2 * n < 2 ^ (n.log2 + 2) ∧ 2 * n < 2 ^ drop := by
  have h1 := lt_log n
  have h2 : 2 ^ (n.log2 + 2) = 2 * 2 ^ (n.log2 + 1) := by rw [Nat.pow_succ 2 (n.log2 + 1), Nat.mul_comm]
  have h3 : 2 ^ (n.log2 + 2) ≤ 2 ^ drop := Nat.pow_le_pow_right (by decide) (by omega)
  omega
theorem cut_even (s : Bool) (n drop : Nat) : Ieee.Toward.even.cut s n drop = rhe n (2 ^ drop) := by
  have key : ∀ g, n / g + ((decide (g < 2 * (n % g)) || (g == 2 * (n % g) && n / g % 2 == 1)) : Bool).toNat = rhe n g := by
    intro g
    unfold rhe
    by_cases h1 : g < 2 * (n % g)
    · simp [h1]
    · by_cases h2 : g = 2 * (n % g) ∧ n / g % 2 = 1
      · have h3 : (decide (g < 2 * (n % g)) || (g == 2 * (n % g) && n / g % 2 == 1)) = true := by simp [h2.2, ← h2.1]
        rw [h3, if_pos (.inr h2)]; rfl
      · have h3 : (decide (g < 2 * (n % g)) || (g == 2 * (n % g) && n / g % 2 == 1)) = false := by
          simp only [Bool.or_eq_false_iff, decide_eq_false_iff_not, Bool.and_eq_false_iff, beq_eq_false_iff_ne]
          refine ⟨h1, ?_⟩
          by_cases h4 : g = 2 * (n % g)
          · exact .inr fun h5 => h2 ⟨h4, h5⟩
          · exact .inl h4
        rw [h3, if_neg (by intro h; rcases h with h | h; exact h1 h; exact h2 h)]; rfl
  unfold Ieee.Toward.cut
  dsimp only
  rw [Nat.one_shiftLeft, key]
  by_cases h : drop ≤ n.log2 + 2
  · rw [Nat.min_eq_left h]
  · obtain ⟨h1, h2⟩ := gap_big n drop h
    rw [Nat.min_eq_right (by omega), rhe_small _ _ h1, rhe_small _ _ h2]
theorem cut_zero (s : Bool) (n drop : Nat) : Ieee.Toward.zero.cut s n drop = n / 2 ^ drop := by
  unfold Ieee.Toward.cut
  dsimp only
  rw [Nat.one_shiftLeft]
  show n / _ + 0 = _
  by_cases h : drop ≤ n.log2 + 2
  · rw [Nat.min_eq_left h]; rfl
  · obtain ⟨h1, h2⟩ := gap_big n drop h
    rw [Nat.min_eq_right (by omega), Nat.div_eq_of_lt (by omega), Nat.div_eq_of_lt (by omega)]
theorem log_mul (m a : Nat) (h : m ≠ 0) : (m * 2 ^ a).log2 = m.log2 + a := by
  have hp : 0 < 2 ^ a := Nat.two_pow_pos _
  have hne : m * 2 ^ a ≠ 0 := Nat.mul_ne_zero h (by omega)
  apply Nat.le_antisymm
  · have : (m * 2 ^ a).log2 < m.log2 + a + 1 := by
      rw [Nat.log2_lt hne, show m.log2 + a + 1 = (m.log2 + 1) + a by omega, Nat.pow_add]
      exact Nat.mul_lt_mul_of_pos_right (lt_log m) hp
    omega
  · rw [Nat.le_log2 hne, Nat.pow_add]
    exact Nat.mul_le_mul_right _ (log_le m h)
/-- A word's parts. -/
theorem read_word (s : Bool) (K t : Nat) (hK : K < 9007199254740992) (ht : t = 0 ∨ 4503599627370496 ≤ K) (hr : t * 4503599627370496 + K < 9218868437227405312) :
    Ieee.double.read (Ieee.double.word s (t * 4503599627370496 + K)) = .number s K ((t : Int) - 1074) := by
  have h1 : Ieee.double.signWeight = 9223372036854775808 := by decide
  have h2 : Ieee.double.binade = 4503599627370496 := by decide
  have h3 : Ieee.double.infRung = 9218868437227405312 := by decide
  have h4 : Ieee.double.leastPlace = -1074 := by decide
  have e1 : Ieee.double.word s (t * 4503599627370496 + K) / 9223372036854775808 % 2 = s.toNat := by
    unfold Ieee.Format.word
    rw [h1]
    cases s <;> simp <;> omega
  have e2 : Ieee.double.word s (t * 4503599627370496 + K) % 9223372036854775808 = t * 4503599627370496 + K := by
    unfold Ieee.Format.word
    rw [h1]
    cases s <;> simp <;> omega
  unfold Ieee.Format.read
  rw [h1, h2, h3, h4]
  dsimp only
  rw [e1, e2]
  have e3 : (s.toNat == 1) = s := by cases s <;> rfl
  rw [e3]
  by_cases h5 : t * 4503599627370496 + K < 4503599627370496
  · rw [if_pos h5]
    have : t = 0 := by omega
    subst this
    simp
  · rw [if_neg h5, if_pos hr]
    have e4 : 4503599627370496 + (t * 4503599627370496 + K) % 4503599627370496 = K := by omega
    have e5 : (t * 4503599627370496 + K) / 4503599627370496 - 1 = t := by omega
    rw [e4, e5]
    congr 1
theorem read_inf (s : Bool) : Ieee.double.read (Ieee.double.word s Ieee.double.infRung) = .infinity s := by cases s <;> decide
/-- The least number that is too great, in units. -/
def tooExp : Nat := 2098
def tooBig : Nat := 2 ^ tooExp
theorem tooExp_is : tooExp = 2098 := rfl
theorem pow_eq {a b : Nat} (h : a = b) : (2 : Nat) ^ a = 2 ^ b := by rw [h]
theorem tooBig_pos : 0 < tooBig := Nat.two_pow_pos _
/-- What is written is read again, whole or as an infinity. -/
theorem read_write (s : Bool) (m a e : Nat) (hm : m < 9007199254740992) :
    (m * 2 ^ e < tooBig ∧ ∃ m' e' : Nat, Ieee.double.read (Ieee.double.write (.number s (m * 2 ^ a) ((e : Int) - 1074 - a))) = .number s m' ((e' : Int) - 1074) ∧ m' < 9007199254740992 ∧ m' * 2 ^ e' = m * 2 ^ e) ∨
    (tooBig ≤ m * 2 ^ e ∧ Ieee.double.read (Ieee.double.write (.number s (m * 2 ^ a) ((e : Int) - 1074 - a))) = .infinity s) := by
  have h2 : Ieee.double.binade = 4503599627370496 := by decide
  have h3 : Ieee.double.infRung = 9218868437227405312 := by decide
  have h4 : Ieee.double.leastPlace = -1074 := by decide
  have h6 : Ieee.double.fractionBits = 52 := by decide
  show _ ∨ (_ ∧ Ieee.double.read (Ieee.double.nearest s (m * 2 ^ a) ((e : Int) - 1074 - a)) = _)
  show (_ ∧ ∃ m' e' : Nat, Ieee.double.read (Ieee.double.nearest s (m * 2 ^ a) ((e : Int) - 1074 - a)) = _ ∧ _) ∨ _
  unfold Ieee.Format.nearest
  by_cases h0 : m = 0
  · subst h0
    rw [Nat.zero_mul, Nat.zero_mul, if_pos rfl]
    refine .inl ⟨tooBig_pos, 0, 0, ?_, by decide, by simp⟩
    have := read_word s 0 0 (by decide) (.inl rfl) (by decide)
    simpa using this
  have hp : 0 < 2 ^ a := Nat.two_pow_pos _
  rw [if_neg (Nat.mul_ne_zero h0 (by omega)), log_mul m a h0, h2, h4, h6]
  dsimp only
  have hL : m.log2 ≤ 52 := by
    have : m.log2 < 53 := (Nat.log2_lt h0).2 (by omega)
    omega
  obtain ⟨t, ht⟩ : ∃ t, t = e + m.log2 - 52 := ⟨_, rfl⟩
  have elast : max ((e : Int) - 1074 - a + ((m.log2 + a : Nat) : Int) - ((52 : Nat) : Int)) (-1074) = (t : Int) - 1074 := by omega
  rw [elast]
  rw [show ((t : Int) - 1074 - (-1074)).toNat = t by omega, show ((e : Int) - 1074 - a - ((t : Int) - 1074)).toNat = e - t - a by omega, show ((t : Int) - 1074 - ((e : Int) - 1074 - a)).toNat = t + a - e by omega]
  rw [cut_even, Nat.shiftLeft_eq]
  have hte : t ≤ e := by omega
  obtain ⟨d, hd⟩ : ∃ d, d = e - t := ⟨_, rfl⟩
  have hk : rhe (m * 2 ^ a * 2 ^ (e - t - a)) (2 ^ (t + a - e)) = m * 2 ^ d := by
    by_cases had : a ≤ d
    · rw [show t + a - e = 0 by omega, Nat.pow_zero, rhe_one, Nat.mul_assoc, ← Nat.pow_add, show a + (e - t - a) = d by omega]
    · rw [show e - t - a = 0 by omega, Nat.pow_zero, Nat.mul_one, show t + a - e = a - d by omega]
      have : m * 2 ^ a = m * 2 ^ d * 2 ^ (a - d) := by rw [Nat.mul_assoc, ← Nat.pow_add, show d + (a - d) = a by omega]
      rw [this]
      have h1 := rhe_mul (m * 2 ^ d) 1 (2 ^ (a - d)) (Nat.two_pow_pos _)
      rw [Nat.one_mul, rhe_one] at h1
      exact h1
  rw [hk]
  obtain ⟨K, hK⟩ : ∃ K, K = m * 2 ^ d := ⟨_, rfl⟩
  rw [← hK]
  have hKe : K * 2 ^ t = m * 2 ^ e := by rw [hK, Nat.mul_assoc, ← Nat.pow_add, show d + t = e by omega]
  have hlo := log_le m h0
  have hhi := lt_log m
  have hcase : K < 9007199254740992 ∧ (t = 0 ∨ 4503599627370496 ≤ K) := by
    have hup : K < 2 ^ (m.log2 + 1 + d) := by
      rw [hK, Nat.pow_add]; exact Nat.mul_lt_mul_of_pos_right hhi (Nat.two_pow_pos _)
    have hdn : 2 ^ (m.log2 + d) ≤ K := by
      rw [hK, Nat.pow_add]; exact Nat.mul_le_mul_right _ hlo
    have h53 : (2 : Nat) ^ 53 = 9007199254740992 := by decide
    have h52 : (2 : Nat) ^ 52 = 4503599627370496 := by decide
    have hle : 2 ^ (m.log2 + 1 + d) ≤ 2 ^ 53 := Nat.pow_le_pow_right (by decide) (by omega)
    refine ⟨by omega, ?_⟩
    by_cases h : t = 0
    · exact .inl h
    · right
      rw [show m.log2 + d = 52 by omega] at hdn
      omega
  obtain ⟨c1, c2⟩ := hcase
  have hE := tooExp_is
  have big : tooBig = 4503599627370496 * 2 ^ (tooExp - 52) := by
    unfold tooBig
    rw [show (4503599627370496 : Nat) = 2 ^ 52 by decide, ← Nat.pow_add]
    exact pow_eq (by omega)
  by_cases hr : t * 4503599627370496 + K < 9218868437227405312
  · left
    rw [h3, Nat.min_eq_left (by omega)]
    refine ⟨?_, K, t, read_word s K t c1 c2 hr, c1, hKe⟩
    rw [← hKe]
    have ht2 : t ≤ 2045 ∨ (t = 2046 ∧ K < 4503599627370496) := by omega
    rcases ht2 with h | ⟨h, hK2⟩
    · have e1 : (2 : Nat) ^ t ≤ 2 ^ (tooExp - 53) := Nat.pow_le_pow_right (by decide) (by omega)
      have e2 : tooBig = 9007199254740992 * 2 ^ (tooExp - 53) := by
        unfold tooBig
        rw [show (9007199254740992 : Nat) = 2 ^ 53 by decide, ← Nat.pow_add]
        exact pow_eq (by omega)
      rw [e2]
      exact Nat.lt_of_le_of_lt (Nat.mul_le_mul_left K e1) (Nat.mul_lt_mul_of_pos_right c1 (Nat.two_pow_pos _))
    · rw [big, show t = tooExp - 52 by omega]
      exact Nat.mul_lt_mul_of_pos_right hK2 (Nat.two_pow_pos _)
  · right
    rw [h3, Nat.min_eq_right (by omega), ← h3]
    refine ⟨?_, read_inf s⟩
    rw [← hKe, big]
    have hK2 : 4503599627370496 ≤ K := by omega
    exact Nat.mul_le_mul hK2 (Nat.pow_le_pow_right (by decide) (by omega))
end Go.Proofs.Ytjdablkdndmcgaa
