/- Plain laws of sums: the sum of a code is the squared distance to what it decodes to. -/
import Derived.Test.YthpgaggceefamaaRefDec
import Derived.Test.YthpgaggceefamaaTabM
import Derived.Test.YthpgaggceefamaaTableParts
namespace Go.Proofs.Ythpgaggceefamaa
set_option linter.unusedVariables false
set_option linter.unusedSimpArgs false
theorem dsq_congr {a a' b b' : List Int} (n : Nat) (h : ∀ i, i < n → a.getD i 0 = a'.getD i 0 ∧ b.getD i 0 = b'.getD i 0) : dsq a b n = dsq a' b' n := by
  induction n with
  | zero => rfl
  | succ n ih =>
    rw [dsq, dsq, ih fun i hi => h i (by omega), (h n (by omega)).1, (h n (by omega)).2]
theorem getD_app_left {x y : List Int} {i : Nat} (h : i < x.length) : (x ++ y).getD i 0 = x.getD i 0 := by simp [List.getD_eq_getElem?_getD, List.getElem?_append_left h]
theorem getD_app_right {x y : List Int} (i : Nat) : (x ++ y).getD (x.length + i) 0 = y.getD i 0 := by simp [List.getD_eq_getElem?_getD, List.getElem?_append_right]
theorem dsq_app (r x y : List Int) (k : Nat) : dsq r (x ++ y) (x.length + k) = dsq r x x.length + dsq (r.drop x.length) y k := by
  induction k with
  | zero =>
    rw [Nat.add_zero, show dsq (r.drop x.length) y 0 = 0 from rfl, Int.add_zero]
    exact dsq_congr _ fun i hi => ⟨rfl, getD_app_left hi⟩
  | succ k ih =>
    rw [show x.length + (k + 1) = (x.length + k) + 1 from rfl, dsq, ih, dsq, getD_app_right]
    rw [show (r.drop x.length).getD k 0 = r.getD (x.length + k) 0 from by simp [List.getD_eq_getElem?_getD, List.getElem?_drop]]
    omega
theorem dsq_symm (a b : List Int) (n : Nat) : dsq a b n = dsq b a n := by
  induction n with
  | zero => rfl
  | succ n ih => rw [dsq, dsq, ih]; grind
theorem dsq_part (r v : List Int) (m p : Nat) : dsq (partR r m p) v m = dsq (r.drop (p * m)) v m := by
  refine dsq_congr _ fun i hi => ⟨?_, rfl⟩
  rw [partR_get hi]
  simp [List.getD_eq_getElem?_getD, List.getElem?_drop]
/-- The sum of the first p rows is the squared distance to the first p parts. -/
theorem sumN_dsq {b : List (List (List Int))} {r code : List Int} (hck : ckB b = 0) (hf : ∀ p, p < b.length → 0 ≤ code.getD p 0 ∧ code.getD p 0 < ((b.getD p []).length : Int)) (p : Nat) (hp : p ≤ b.length) :
    sumN (tabI b r) code p = dsq r (decN b code p) (p * wdB b) := by
  induction p with
  | zero => simp [sumN, dsq]
  | succ p ih =>
    have h := hf p (by omega)
    have h2 := ((ckB_ok hck).2.2.2.2.2.2.2 p (by omega)).2 (code.getD p 0).toNat (by omega)
    have hl := decN_length hck hf p (by omega)
    have e1 : ((tabI b r).getD p []).getD (code.getD p 0).toNat 0 = dsq (partR r (wdB b) p) ((b.getD p []).getD (code.getD p 0).toNat []) (wdB b) := by
      rw [show (tabI b r).getD p [] = rowI (partR r (wdB b) p) (b.getD p []) from by simp [tabI, List.getD_eq_getElem?_getD, show p < b.length by omega]]
      rw [show (rowI (partR r (wdB b) p) (b.getD p [])).getD (code.getD p 0).toNat 0 = dsq (partR r (wdB b) p) ((b.getD p []).getD (code.getD p 0).toNat []) ((b.getD p []).getD (code.getD p 0).toNat []).length from by
        have : (code.getD p 0).toNat < (b.getD p []).length := by omega
        generalize (code.getD p 0).toNat = k at *
        generalize b.getD p [] = l at *
        simp [rowI, List.getD_eq_getElem?_getD, this]]
      rw [h2.1]
    have e2 : dsq r (decN b code (p + 1)) ((p + 1) * wdB b) = dsq r (decN b code p) (p * wdB b) + dsq (r.drop (p * wdB b)) ((b.getD p []).getD (code.getD p 0).toNat []) (wdB b) := by
      have := dsq_app r (decN b code p) ((b.getD p []).getD (code.getD p 0).toNat []) (wdB b)
      rw [hl] at this
      rw [Nat.add_mul, Nat.one_mul]
      exact this
    rw [sumN, ih (by omega), e1, e2, dsq_part]
/-- The least sum is the sum of the least code, and below every sum. -/
theorem leastN_sumN {t : List (List Int)} (j : Nat) (hj : j ≤ t.length) : leastN t j = sumN t (argT t) j := by
  induction j with
  | zero => rfl
  | succ j ih =>
    rw [leastN, sumN, ih (by omega)]
    rw [show (argT t).getD j 0 = ((argN (t.getD j []) ((t.getD j []).length - 1) : Nat) : Int) from by simp [argT, List.getD_eq_getElem?_getD, show j < t.length by omega]]
    rw [Int.toNat_natCast, argN_min]
theorem leastN_le {t : List (List Int)} {code : List Int} (hf : ∀ p, p < t.length → 0 ≤ code.getD p 0 ∧ code.getD p 0 < ((t.getD p []).length : Int)) (j : Nat) (hj : j ≤ t.length) : leastN t j ≤ sumN t code j := by
  induction j with
  | zero => exact Int.le_refl _
  | succ j ih =>
    have h := hf j (by omega)
    have := minN_le (t.getD j []) ((t.getD j []).length - 1) (code.getD j 0).toNat (by omega)
    have := ih (by omega)
    rw [leastN, sumN]
    omega
end Go.Proofs.Ythpgaggceefamaa
