/- Flo3: vec.Fixed's steps, by the model's doubles, give fixN. No program. -/
import Derived.Test.YtjdablkdndmcgaaFlo2
namespace Go.Proofs.Ytjdablkdndmcgaa
set_option linter.unusedVariables false
set_option linter.unusedSimpArgs false
theorem compare_lt {a b : Int} (h : a < b) : compare a b = .lt := by simp [compare, compareOfLessAndEq, h]
theorem compare_gt {a b : Int} (h : b < a) : compare a b = .gt := by
  simp only [compare, compareOfLessAndEq]; rw [if_neg (by omega), if_neg (by omega)]
theorem compare_same (a : Int) : compare a a = .eq := by simp [compare, compareOfLessAndEq]
theorem ge_of {a b : Int} (h : b ≤ a) : some (compare a b) = some Ordering.gt ∨ some (compare a b) = some Ordering.eq := by
  rcases Int.lt_or_eq_of_le h with h | h
  · exact .inl (by rw [compare_gt h])
  · subst h; exact .inr (by rw [compare_same])
theorem le_of {a b : Int} (h : a ≤ b) : some (compare a b) = some Ordering.lt ∨ some (compare a b) = some Ordering.eq := by
  rcases Int.lt_or_eq_of_le h with h | h
  · exact .inl (by rw [compare_lt h])
  · subst h; exact .inr (by rw [compare_same])
/-- What is asked of the rounded product R. -/
def FixPost (R : Nat) (d f : Nat) : Prop :=
  (∃ n, fixN d f = (n, 0) ∧ (-32768 ≤ n ∧ n ≤ 32767) ∧ (Ieee.double.order R 13898108450065350656 = some .gt ∨ Ieee.double.order R 13898108450065350656 = some .eq) ∧ (Ieee.double.order R 4674736138332667904 = some .lt ∨ Ieee.double.order R 4674736138332667904 = some .eq) ∧ (Ieee.double.read R).toInt .zero = some n) ∨
  (fixN d f = (0, 11) ∧ (Ieee.double.order R 13898108450065350656 = some .lt ∨ (Ieee.double.order R 13898108450065350656 = some .gt ∧ Ieee.double.order R 4674736138332667904 = some .gt)))
theorem inf_post (R d f : Nat) (s : Bool) (h : Ieee.double.read R = .infinity s) (hx : fixN d f = (0, 11)) : FixPost R d f := by
  refine .inr ⟨hx, ?_⟩
  unfold Ieee.Format.order
  rw [h, read_c1, read_c2]
  cases s
  · exact .inr ⟨rfl, rfl⟩
  · exact .inl rfl
theorem toInt_num (s : Bool) (m e N : Nat) (h : m * 2 ^ e = N * unit1) : (Ieee.Datum.number s m ((e : Int) - 1074)).toInt .zero = some (svI s N) := by
  unfold Ieee.Datum.toInt Ieee.Datum.integral
  dsimp only
  rw [cut_zero, Nat.shiftLeft_eq, show ((e : Int) - 1074).toNat = e - 1074 by omega, show (-((e : Int) - 1074)).toNat = 1074 - e by omega, signed_sv, Nat.pow_zero, Nat.mul_one]
  have hx : m * 2 ^ (e - 1074) / 2 ^ (1074 - e) = N := by
    have hE := unitExp_is
    unfold unit1 at h
    by_cases he : 1074 ≤ e
    · rw [show 1074 - e = 0 by omega, Nat.pow_zero, Nat.div_one]
      apply Nat.eq_of_mul_eq_mul_right (Nat.two_pow_pos unitExp)
      rw [← h, Nat.mul_assoc, ← Nat.pow_add, show e - 1074 + unitExp = e by omega]
    · rw [show e - 1074 = 0 by omega, Nat.pow_zero, Nat.mul_one]
      apply Nat.div_eq_of_eq_mul_left (Nat.two_pow_pos _)
      apply Nat.eq_of_mul_eq_mul_right (Nat.two_pow_pos e)
      rw [h, Nat.mul_assoc, ← Nat.pow_add, show 1074 - e + e = unitExp by omega]
  rw [hx]
theorem num_post (R d f : Nat) (s : Bool) (m e N : Nat) (h : Ieee.double.read R = .number s m ((e : Int) - 1074)) (hm : m * 2 ^ e = N * unit1) (hp : powerN d ≠ 2047) (hs : s = signN d) (hN : N = wholeN d f) : FixPost R d f := by
  have hu : (0 : Int) < (unit1 : Int) := by exact_mod_cast unit1_pos
  have o1 : Ieee.double.order R 13898108450065350656 = some (compare (svI s N) (-32768)) := by
    unfold Ieee.Format.order
    rw [h, read_c1, order_num, hm, c1_unit _ rfl, sv_mul, sv_mul, compare_mul _ _ _ unit1_pos]; rfl
  have o2 : Ieee.double.order R 4674736138332667904 = some (compare (svI s N) 32767) := by
    unfold Ieee.Format.order
    rw [h, read_c2, order_num, hm, c2_unit _ rfl, sv_mul, sv_mul, compare_mul _ _ _ unit1_pos]; rfl
  have o3 : (Ieee.double.read R).toInt .zero = some (svI s N) := by rw [h, toInt_num s m e N hm]
  unfold FixPost
  rw [o1, o2, o3]
  unfold fixN
  rw [if_neg hp, ← hs, ← hN]
  cases s with
  | true =>
    rw [if_pos rfl]
    have e1 : svI true N = -(N : Int) := rfl
    rw [e1]
    by_cases hb : 32768 < N
    · rw [if_pos hb]
      exact .inr ⟨rfl, .inl (by rw [compare_lt (by omega)])⟩
    · rw [if_neg hb]
      exact .inl ⟨-(N : Int), rfl, ⟨by omega, by omega⟩, ge_of (by omega), le_of (by omega), rfl⟩
  | false =>
    rw [if_neg (by decide)]
    have e1 : svI false N = (N : Int) := rfl
    rw [e1]
    by_cases hb : 32767 < N
    · rw [if_pos hb]
      exact .inr ⟨rfl, .inr ⟨by rw [compare_gt (by omega)], by rw [compare_gt (by omega)]⟩⟩
    · rw [if_neg hb]
      exact .inl ⟨(N : Int), rfl, ⟨by omega, by omega⟩, ge_of (by omega), le_of (by omega), rfl⟩
theorem big_fix (d f : Nat) (hp : powerN d ≠ 2047) (h : tooBig ≤ magN d * 2 ^ (upN d + f)) : fixN d f = (0, 11) := by
  have hN : 32768 < wholeN d f := by
    unfold wholeN rhe
    have hE := unitExp_is
    have hF := tooExp_is
    have h1 : 2 ^ (tooExp - unitExp) ≤ magN d * 2 ^ (upN d + f) / unit1 := by
      rw [Nat.le_div_iff_mul_le unit1_pos]
      refine Nat.le_trans (Nat.le_of_eq ?_) h
      unfold unit1 tooBig
      rw [← Nat.pow_add]
      exact pow_eq (by omega)
    have h2 : 2 ^ 16 ≤ 2 ^ (tooExp - unitExp) := Nat.pow_le_pow_right (by decide) (by omega)
    have h3 : (2 : Nat) ^ 16 = 65536 := by decide
    omega
  unfold fixN
  rw [if_neg hp]
  split
  all_goals first | rw [if_pos (by omega)] | rfl
theorem write_inf (s : Bool) : Ieee.double.read (Ieee.double.write ((Ieee.Datum.infinity s).integral .even)) = .infinity s := read_inf s
/-- vec.Fixed's steps, of a double that is no NaN. -/
theorem fixed_steps (d f : Nat) (hf : f ≤ 15) (hn : (Ieee.double.read d).isNaN = false) :
    ∃ P, Ieee.double.mul d (FloatKind.f64.nearest ((2 ^ f : Nat) : Int)) = some P ∧ (Ieee.double.read P).isNaN = false ∧ FixPost (Ieee.double.write ((Ieee.double.read P).integral .even)) d f := by
  by_cases hp : powerN d = 2047
  · have hd := read_odd d hp
    rw [hd] at hn
    by_cases h0 : 0 < partN d
    · rw [if_pos h0] at hn; cases hn
    · rw [if_neg h0] at hd
      refine ⟨Ieee.double.write (.infinity (signN d ^^ false)), ?_, ?_, ?_⟩
      · unfold Ieee.Format.mul
        rw [hd, pow_one f hf]; rfl
      · rw [show Ieee.double.read (Ieee.double.write (.infinity (signN d ^^ false))) = .infinity (signN d ^^ false) from read_inf _]; rfl
      · rw [show Ieee.double.read (Ieee.double.write (.infinity (signN d ^^ false))) = .infinity (signN d ^^ false) from read_inf _]
        refine inf_post _ d f _ (write_inf _) ?_
        unfold fixN
        rw [if_pos hp, if_neg h0]
  · have hd := read_num d hp
    have hm := magN_lt d
    have hmul : Ieee.double.mul d (FloatKind.f64.nearest ((2 ^ f : Nat) : Int)) = some (Ieee.double.write (.number (signN d) (magN d * 2 ^ 52) (((upN d + f : Nat) : Int) - 1074 - ((52 : Nat) : Int)))) := by
      unfold Ieee.Format.mul
      rw [hd, pow_one f hf]
      show some (Ieee.double.write (.number (signN d ^^ false) (magN d * 4503599627370496) ((upN d : Int) - 1074 + ((f : Int) - 52)))) = _
      rw [Bool.xor_false, show (4503599627370496 : Nat) = 2 ^ 52 by decide, show (upN d : Int) - 1074 + ((f : Int) - 52) = ((upN d + f : Nat) : Int) - 1074 - ((52 : Nat) : Int) by omega]
    refine ⟨_, hmul, ?_⟩
    rcases read_write (signN d) (magN d) 52 (upN d + f) hm with ⟨_, m', e', g1, g2, g3⟩ | ⟨g1, g2⟩
    · rw [g1]
      refine ⟨rfl, ?_⟩
      have hN : wholeN d f = rhe (m' * 2 ^ e') unit1 := by rw [g3]; rfl
      rcases read_round (signN d) m' e' g2 _ hN with ⟨m2, e2, k1, k2⟩ | ⟨k1, k2⟩
      · exact num_post _ d f _ m2 e2 _ k1 k2 hp rfl rfl
      · refine inf_post _ d f _ k2 ?_
        have hb : 32768 < wholeN d f := by
          false_or_by_contra
          have h1 : wholeN d f * unit1 ≤ 32768 * unit1 := Nat.mul_le_mul_right _ (by omega)
          have h2 : 32768 * unit1 < tooBig := by
            unfold unit1 tooBig
            rw [show (32768 : Nat) = 2 ^ 15 by decide, ← Nat.pow_add]
            have hE := unitExp_is
            have hF := tooExp_is
            exact Nat.pow_lt_pow_right (by decide) (by omega)
          omega
        unfold fixN
        rw [if_neg hp]
        split
        all_goals first | rw [if_pos (by omega)] | rfl
    · rw [g2]
      refine ⟨rfl, inf_post _ d f _ (write_inf _) (big_fix d f hp g1)⟩
end Go.Proofs.Ytjdablkdndmcgaa
