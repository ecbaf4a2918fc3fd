/- Plain laws: a table rotated; a table with one number greater. -/
import Derived.Test.YthpgaggceefamaaFitL
import Derived.Test.YthpgaggceefamaaRowsOwn
namespace Go.Proofs.Ythpgaggceefamaa
set_option linter.unusedVariables false
set_option linter.unusedSimpArgs false
theorem getD_app_l {α : Type} {x y : List α} {d : α} {i : Nat} (h : i < x.length) : (x ++ y).getD i d = x.getD i d := by simp [List.getD_eq_getElem?_getD, List.getElem?_append_left h]
theorem getD_app_r {α : Type} {x y : List α} {d : α} (i : Nat) : (x ++ y).getD (x.length + i) d = y.getD i d := by simp [List.getD_eq_getElem?_getD, List.getElem?_append_right]
theorem sumN_congr {t t' : List (List Int)} {c c' : List Int} (n : Nat) (h : ∀ i, i < n → (t.getD i []).getD (c.getD i 0).toNat 0 = (t'.getD i []).getD (c'.getD i 0).toNat 0) : sumN t c n = sumN t' c' n := by
  induction n with
  | zero => rfl
  | succ n ih => rw [sumN, sumN, ih fun i hi => h i (by omega), h n (by omega)]
theorem sumN_drop (t : List (List Int)) (c : List Int) (q k : Nat) : sumN t c (q + k) = sumN t c q + sumN (t.drop q) (c.drop q) k := by
  induction k with
  | zero => show sumN t c q = sumN t c q + 0; omega
  | succ k ih =>
    rw [show q + (k + 1) = (q + k) + 1 from rfl, sumN, ih, sumN]
    rw [show (t.drop q).getD k [] = t.getD (q + k) [] from by simp [List.getD_eq_getElem?_getD, List.getElem?_drop], show (c.drop q).getD k 0 = c.getD (q + k) 0 from by simp [List.getD_eq_getElem?_getD, List.getElem?_drop]]
    omega
theorem sumN_take (t : List (List Int)) (c : List Int) (q : Nat) : sumN (t.take q) (c.take q) q = sumN t c q :=
  sumN_congr q fun i hi => by
    rw [show (t.take q).getD i [] = t.getD i [] from by simp [List.getD_eq_getElem?_getD, List.getElem?_take, hi], show (c.take q).getD i 0 = c.getD i 0 from by simp [List.getD_eq_getElem?_getD, List.getElem?_take, hi]]
theorem sumN_app (t u : List (List Int)) (c d : List Int) (hl : c.length = t.length) (k : Nat) : sumN (t ++ u) (c ++ d) (t.length + k) = sumN t c t.length + sumN u d k := by
  rw [sumN_drop, List.drop_left, ← hl, List.drop_left]
  congr 1
  refine sumN_congr _ fun i hi => ?_
  rw [getD_app_l (by omega), getD_app_l hi]
theorem sumN_rot (t : List (List Int)) (c : List Int) (q : Nat) (hl : c.length = t.length) (hq : q ≤ t.length) : sumN (t.drop q ++ t.take q) (c.drop q ++ c.take q) t.length = sumN t c t.length := by
  have h1 := sumN_app (t.drop q) (t.take q) (c.drop q) (c.take q) (by simp; omega) q
  rw [show (t.drop q).length + q = t.length from by simp; omega] at h1
  have h2 := sumN_drop t c q (t.length - q)
  rw [show q + (t.length - q) = t.length from by omega] at h2
  rw [h1, h2, sumN_take, List.length_drop]
  omega
theorem ckT_rot {t : List (List Int)} (q : Nat) (h : ckT t = 0) : ckT (t.drop q ++ t.take q) = 0 := by
  have hl : (t.drop q ++ t.take q).length = t.length := by simp; omega
  have ha : (t.drop q ++ t.take q).any badR = t.any badR := by
    rw [List.any_append, Bool.or_comm, ← List.any_append, List.take_append_drop]
  unfold ckT at h ⊢
  rw [hl, ha]
  exact h
theorem fitsT_rot {ls : List Nat} {fc : List Int} (q : Nat) (hq : q ≤ ls.length) (h : fitsT ls fc) : fitsT (ls.drop q ++ ls.take q) (fc.drop q ++ fc.take q) := by
  obtain ⟨h1, h2⟩ := h
  refine ⟨by simp; omega, fun i hi => ?_⟩
  have hn : (ls.drop q ++ ls.take q).length = ls.length := by simp; omega
  rw [hn] at hi
  rcases Nat.lt_or_ge i (ls.length - q) with k | k
  · rw [getD_app_l (by simp; omega), getD_app_l (by simp; omega)]
    rw [show (ls.drop q).getD i 0 = ls.getD (q + i) 0 from by simp [List.getD_eq_getElem?_getD, List.getElem?_drop], show (fc.drop q).getD i 0 = fc.getD (q + i) 0 from by simp [List.getD_eq_getElem?_getD, List.getElem?_drop]]
    exact h2 _ (by omega)
  · obtain ⟨m, hm⟩ : ∃ m, i = (ls.length - q) + m := ⟨i - (ls.length - q), by omega⟩
    have e1 : i = (ls.drop q).length + m := by simp; omega
    have e2 : i = (fc.drop q).length + m := by simp; omega
    rw [show (ls.drop q ++ ls.take q).getD i 0 = (ls.take q).getD m 0 from by rw [e1, getD_app_r], show (fc.drop q ++ fc.take q).getD i 0 = (fc.take q).getD m 0 from by rw [e2, getD_app_r]]
    have hmq : m < q := by omega
    rw [show (ls.take q).getD m 0 = ls.getD m 0 from by simp [List.getD_eq_getElem?_getD, List.getElem?_take, hmq], show (fc.take q).getD m 0 = fc.getD m 0 from by simp [List.getD_eq_getElem?_getD, List.getElem?_take, hmq]]
    exact h2 _ (by omega)
theorem lens_rot (t : List (List Int)) (q : Nat) : (t.drop q ++ t.take q).map List.length = (t.map List.length).drop q ++ (t.map List.length).take q := by simp
/-- One number greater. -/
def incT (t : List (List Int)) (p i : Nat) (x : Int) : List (List Int) := t.set p ((t.getD p []).set i x)
theorem incT_length (t : List (List Int)) (p i : Nat) (x : Int) : (incT t p i x).length = t.length := by simp [incT]
theorem incT_lens (t : List (List Int)) (p i : Nat) (x : Int) : (incT t p i x).map List.length = t.map List.length := by
  apply List.ext_getElem
  · simp [incT]
  · intro n h1 h2
    simp only [List.length_map] at h2
    by_cases hn : n = p
    · subst hn
      simp [incT, List.getD_eq_getElem?_getD, h2]
    · simp [incT, List.getElem_set_ne (Ne.symm hn)]
theorem incT_get (t : List (List Int)) (p i : Nat) (x : Int) (hp : p < t.length) (n m : Nat) (hm : m < (t.getD n []).length) : ((incT t p i x).getD n []).getD m 0 = if n = p ∧ m = i then x else (t.getD n []).getD m 0 := by
  unfold incT
  by_cases hn : n = p
  · subst hn
    rw [getD_set_same _ _ _ hp]
    by_cases hi : m = i
    · subst hi; rw [if_pos ⟨rfl, rfl⟩]; simp [List.getD_eq_getElem?_getD, List.getElem?_set]
      rw [List.getD_eq_getElem?_getD] at hm
      rw [if_pos hm]; rfl
    · rw [if_neg (fun h => hi h.2)]
      simp [List.getD_eq_getElem?_getD, List.getElem?_set_ne (Ne.symm hi)]
  · rw [getD_set_other _ _ _ _ hn, if_neg (fun h => hn h.1)]
theorem ckT_inc {t : List (List Int)} {p i : Nat} {x : Int} (h : ckT t = 0) (hp : p < t.length) (h0 : 0 ≤ x) (h1 : x ≤ 70368744177664) : ckT (incT t p i x) = 0 := by
  obtain ⟨l1, l2, l3⟩ := ckT_ok h
  have hl : ∀ n, ((incT t p i x).getD n []).length = (t.getD n []).length := fun n => by rw [← getD_ls, incT_lens, getD_ls]
  refine ckT_good (by rw [incT_length]; omega) (by rw [incT_length]; omega) fun n hn => ?_
  rw [incT_length] at hn
  obtain ⟨r1, r2, r3⟩ := l3 n hn
  refine badR_no (by rw [hl]; omega) (by rw [hl]; omega) fun m hm => ?_
  rw [hl] at hm
  rw [incT_get t p i x hp n m hm]
  split
  · omega
  · have := r3 m hm; omega
theorem sumN_inc {t : List (List Int)} {fc : List Int} {p i : Nat} {x : Int} (hf : fitsT (t.map List.length) fc) (hp : p < t.length) (k : Nat) (hk : k ≤ t.length) :
    sumN (incT t p i x) fc k = sumN t fc k + if p < k ∧ fc.getD p 0 = (i : Int) then x - (t.getD p []).getD i 0 else 0 := by
  induction k with
  | zero => simp [sumN]
  | succ k ih =>
    have hk2 := hf.2 k (by simp; omega)
    rw [getD_ls] at hk2
    rw [sumN, sumN, ih (by omega), incT_get t p i x hp k _ (by omega)]
    by_cases h1 : k = p
    · subst h1
      by_cases h2 : (fc.getD k 0).toNat = i
      · have h3 : fc.getD k 0 = (i : Int) := by omega
        rw [if_neg (by omega), if_pos ⟨rfl, h2⟩, if_pos ⟨by omega, h3⟩, h2]; omega
      · have h3 : ¬ fc.getD k 0 = (i : Int) := by omega
        rw [if_neg (by omega), if_neg (fun h => h2 h.2), if_neg (fun h => h3 h.2)]; omega
    · have n1 : ¬ (k = p ∧ (fc.getD k 0).toNat = i) := fun h => h1 h.1
      rw [if_neg n1]
      by_cases h2 : p < k ∧ fc.getD p 0 = (i : Int)
      · have h3 : p < k + 1 ∧ fc.getD p 0 = (i : Int) := ⟨by omega, h2.2⟩
        rw [if_pos h2, if_pos h3]; omega
      · have h3 : ¬ (p < k + 1 ∧ fc.getD p 0 = (i : Int)) := fun h => h2 ⟨by omega, h.2⟩
        rw [if_neg h2, if_neg h3]; omega
theorem incT_ne {t : List (List Int)} {p i : Nat} {x : Int} (hp : p < t.length) (hi : i < (t.getD p []).length) (hx : x ≠ (t.getD p []).getD i 0) : t ≠ incT t p i x := by
  intro h
  have := incT_get t p i x hp p i hi
  rw [← h, if_pos ⟨rfl, rfl⟩] at this
  exact hx this.symm
end Go.Proofs.Ythpgaggceefamaa
