/- Plain mathematics of tables. -/
import Derived.Test.YthpgaggceefamaaMem
namespace Go.Proofs.Ythpgaggceefamaa
set_option linter.unusedVariables false
set_option linter.unusedSimpArgs false
/-- The least, the greatest of the first j + 1. -/
def minN (l : List Int) : Nat → Int
  | 0 => l.getD 0 0
  | j + 1 => min (minN l j) (l.getD (j + 1) 0)
def maxN (l : List Int) : Nat → Int
  | 0 => l.getD 0 0
  | j + 1 => max (maxN l j) (l.getD (j + 1) 0)
/-- Where the least of the first j + 1 stands, the first of several. -/
def argN (l : List Int) : Nat → Nat
  | 0 => 0
  | j + 1 => if l.getD (j + 1) 0 < l.getD (argN l j) 0 then j + 1 else argN l j
theorem minN_le (l : List Int) (j t : Nat) (h : t ≤ j) : minN l j ≤ l.getD t 0 := by
  induction j with
  | zero => obtain rfl : t = 0 := by omega
            exact Int.le_refl _
  | succ j ih =>
    unfold minN
    rcases Nat.lt_or_ge t (j + 1) with h1 | h1
    · have := ih (by omega); omega
    · obtain rfl : t = j + 1 := by omega
      omega
theorem minN_at (l : List Int) (j : Nat) : ∃ t, t ≤ j ∧ l.getD t 0 = minN l j := by
  induction j with
  | zero => exact ⟨0, Nat.le_refl _, rfl⟩
  | succ j ih =>
    obtain ⟨t, h1, h2⟩ := ih
    unfold minN
    by_cases h : minN l j ≤ l.getD (j + 1) 0
    · exact ⟨t, by omega, by omega⟩
    · exact ⟨j + 1, by omega, by omega⟩
theorem maxN_ge (l : List Int) (j t : Nat) (h : t ≤ j) : l.getD t 0 ≤ maxN l j := by
  induction j with
  | zero => obtain rfl : t = 0 := by omega
            exact Int.le_refl _
  | succ j ih =>
    unfold maxN
    rcases Nat.lt_or_ge t (j + 1) with h1 | h1
    · have := ih (by omega); omega
    · obtain rfl : t = j + 1 := by omega
      omega
theorem maxN_at (l : List Int) (j : Nat) : ∃ t, t ≤ j ∧ l.getD t 0 = maxN l j := by
  induction j with
  | zero => exact ⟨0, Nat.le_refl _, rfl⟩
  | succ j ih =>
    obtain ⟨t, h1, h2⟩ := ih
    unfold maxN
    by_cases h : l.getD (j + 1) 0 ≤ maxN l j
    · exact ⟨t, by omega, by omega⟩
    · exact ⟨j + 1, by omega, by omega⟩
theorem argN_le (l : List Int) (j : Nat) : argN l j ≤ j := by
  induction j with
  | zero => exact Nat.le_refl _
  | succ j ih => unfold argN; split <;> omega
theorem argN_min (l : List Int) (j : Nat) : l.getD (argN l j) 0 = minN l j := by
  induction j with
  | zero => rfl
  | succ j ih =>
    unfold argN minN
    split <;> rename_i h <;> omega
theorem argN_first (l : List Int) (j t : Nat) (h : t < argN l j) : l.getD t 0 ≠ minN l j := by
  induction j with
  | zero => exact absurd h (by unfold argN; omega)
  | succ j ih =>
    unfold argN at h
    unfold minN
    have a := argN_min l j
    split at h
    · rename_i h1
      have := minN_le l j t (by omega)
      omega
    · rename_i h1
      have b := ih h
      have c := argN_le l j
      have := minN_le l j t (by omega)
      omega
/-- A number that may not be in a table. -/
def badE (x : Int) : Bool := decide (x < 0) || decide (x > 70368744177664)
/-- A row that may not be. -/
def badR (r : List Int) : Bool := decide (r.length < 1) || decide (r.length > 256) || r.any badE
theorem badE_any {r : List Int} (h : 1 ≤ r.length) : r.any badE = (decide (minN r (r.length - 1) < 0) || decide (maxN r (r.length - 1) > 70368744177664)) := by
  have key : r.any badE = true ↔ (minN r (r.length - 1) < 0 ∨ maxN r (r.length - 1) > 70368744177664) := by
    rw [List.any_eq_true]
    constructor
    · rintro ⟨x, hx, hb⟩
      obtain ⟨t, ht, rfl⟩ := List.mem_iff_getElem.1 hx
      have e : r.getD t 0 = r[t] := by rw [List.getD_eq_getElem?_getD, List.getElem?_eq_getElem ht]; rfl
      have h1 := minN_le r (r.length - 1) t (by omega)
      have h2 := maxN_ge r (r.length - 1) t (by omega)
      rw [e] at h1 h2
      unfold badE at hb
      simp at hb
      omega
    · have mem : ∀ t, t ≤ r.length - 1 → r.getD t 0 ∈ r := fun t ht => by
        rw [List.getD_eq_getElem?_getD, List.getElem?_eq_getElem (show t < r.length by omega)]; exact List.getElem_mem _
      rintro (h1 | h1)
      · obtain ⟨t, ht, e⟩ := minN_at r (r.length - 1)
        exact ⟨_, mem t ht, by unfold badE; simp only [Bool.or_eq_true, decide_eq_true_eq]; omega⟩
      · obtain ⟨t, ht, e⟩ := maxN_at r (r.length - 1)
        exact ⟨_, mem t ht, by unfold badE; simp only [Bool.or_eq_true, decide_eq_true_eq]; omega⟩
  cases h1 : r.any badE with
  | true => have := key.1 h1; simp; omega
  | false =>
    have : ¬ (minN r (r.length - 1) < 0 ∨ maxN r (r.length - 1) > 70368744177664) := fun hh => by rw [key.2 hh] at h1; cases h1
    symm; simp; omega
/-- What Check answers. -/
def ckT (t : List (List Int)) : Int := if t.length < 1 ∨ t.length > 1024 ∨ t.any badR = true then 2 else 0
theorem ckT_ok {t : List (List Int)} (h : ckT t = 0) : 1 ≤ t.length ∧ t.length ≤ 1024 ∧ ∀ j, j < t.length → 1 ≤ (t.getD j []).length ∧ (t.getD j []).length ≤ 256 ∧ ∀ i, i < (t.getD j []).length → 0 ≤ (t.getD j []).getD i 0 ∧ (t.getD j []).getD i 0 ≤ 70368744177664 := by
  unfold ckT at h
  split at h
  · cases h
  · rename_i h1
    refine ⟨by omega, by omega, fun j hj => ?_⟩
    have hb : badR (t.getD j []) = false := by
      cases hb : badR (t.getD j []) with
      | false => rfl
      | true =>
        refine absurd (.inr (.inr ?_)) h1
        rw [List.any_eq_true]
        refine ⟨_, ?_, hb⟩
        rw [List.getD_eq_getElem?_getD, List.getElem?_eq_getElem hj]; exact List.getElem_mem hj
    unfold badR at hb
    simp only [Bool.or_eq_false_iff, decide_eq_false_iff_not, List.any_eq_false] at hb
    refine ⟨by omega, by omega, fun i hi => ?_⟩
    have hm : (t.getD j []).getD i 0 ∈ t.getD j [] := by
      rw [List.getD_eq_getElem?_getD (l := t.getD j []), List.getElem?_eq_getElem hi]; exact List.getElem_mem hi
    have := hb.2 _ hm
    unfold badE at this
    simp only [Bool.or_eq_true, decide_eq_true_eq] at this
    omega
theorem ckT_two {t : List (List Int)} (h : ckT t ≠ 0) : ckT t = 2 := by
  unfold ckT at h ⊢
  split
  · rfl
  · rename_i h1; rw [if_neg h1] at h; exact absurd rfl h
/-- The sum of the first j. -/
def sumN (t : List (List Int)) (code : List Int) : Nat → Int
  | 0 => 0
  | j + 1 => sumN t code j + (t.getD j []).getD (code.getD j 0).toNat 0
def fitsC (t : List (List Int)) (code : List Int) : Prop := ∀ p, p < code.length → code.getD p 0 < ((t.getD p []).length : Int)
instance (t : List (List Int)) (code : List Int) : Decidable (fitsC t code) := by unfold fitsC; infer_instance
def sumT (t : List (List Int)) (code : List Int) : Int × Int := if ckT t ≠ 0 ∨ code.length ≠ t.length ∨ ¬ fitsC t code then (0, 2) else (sumN t code code.length, 0)
theorem sumN_bd {t : List (List Int)} {code : List Int} (h : ckT t = 0) (hc : ∀ x ∈ code, 0 ≤ x) (j : Nat) (h1 : j ≤ t.length) (h2 : j ≤ code.length) (hf : ∀ p, p < j → code.getD p 0 < ((t.getD p []).length : Int)) :
    0 ≤ sumN t code j ∧ sumN t code j ≤ (j : Int) * 70368744177664 := by
  obtain ⟨_, _, h3⟩ := ckT_ok h
  induction j with
  | zero => simp [sumN]
  | succ j ih =>
    have a := ih (by omega) (by omega) fun p hp => hf p (by omega)
    have b := hf j (by omega)
    have c := hc (code.getD j 0) (by rw [List.getD_eq_getElem?_getD, List.getElem?_eq_getElem (show j < code.length by omega)]; exact List.getElem_mem _)
    have d := (h3 j (by omega)).2.2 (code.getD j 0).toNat (by omega)
    unfold sumN
    push_cast
    omega
/-- The sum of the least ones of the first j rows; where they stand. -/
def leastN (t : List (List Int)) : Nat → Int
  | 0 => 0
  | j + 1 => leastN t j + minN (t.getD j []) ((t.getD j []).length - 1)
def argT (t : List (List Int)) : List Int := t.map fun r => ((argN r (r.length - 1) : Nat) : Int)
def leastT (t : List (List Int)) : Int × List Int := if ckT t ≠ 0 then (0, []) else (leastN t t.length, argT t)
theorem minN_bd {t : List (List Int)} (h : ckT t = 0) {j : Nat} (hj : j < t.length) : 0 ≤ minN (t.getD j []) ((t.getD j []).length - 1) ∧ minN (t.getD j []) ((t.getD j []).length - 1) ≤ 70368744177664 := by
  obtain ⟨_, _, h3⟩ := ckT_ok h
  obtain ⟨h4, _, h5⟩ := h3 j hj
  obtain ⟨i, h6, h7⟩ := minN_at (t.getD j []) ((t.getD j []).length - 1)
  rw [← h7]; exact h5 i (by omega)
theorem leastN_bd {t : List (List Int)} (h : ckT t = 0) (j : Nat) (h1 : j ≤ t.length) : 0 ≤ leastN t j ∧ leastN t j ≤ (j : Int) * 70368744177664 := by
  induction j with
  | zero => simp [leastN]
  | succ j ih =>
    have a := ih (by omega)
    have b := minN_bd h (show j < t.length by omega)
    unfold leastN
    push_cast
    omega
end Go.Proofs.Ythpgaggceefamaa
