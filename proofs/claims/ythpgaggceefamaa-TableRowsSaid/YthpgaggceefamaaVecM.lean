/- Plain mathematics of vectors: CheckWide's answer, sums of squares. -/
import Derived.Test.YthpgaggceefamaaVec0
namespace Go.Proofs.Ythpgaggceefamaa
set_option linter.unusedVariables false
set_option linter.unusedSimpArgs false
open Go.RowKit
def pairE (a b : List Int) : Int := if ckW a ≠ 0 then ckW a else if ckW b ≠ 0 then ckW b else if a.length ≠ b.length then 2 else 0
/-- The sum of squares of differences. -/
def dsq (a b : List Int) : Nat → Int
  | 0 => 0
  | j + 1 => dsq a b j + (a.getD j 0 - b.getD j 0) * (a.getD j 0 - b.getD j 0)
theorem ckW_ok {l : List Int} (h : ckW l = 0) : 1 ≤ l.length ∧ l.length ≤ 1024 ∧ ∀ v ∈ l, -131072 ≤ v ∧ v ≤ 131072 := by
  unfold ckW at h
  split at h
  · cases h
  · rename_i h1
    split at h
    · cases h
    · rename_i h2
      refine ⟨by omega, by omega, fun v hv => ?_⟩
      have : bey v = false := by
        cases hb : bey v with
        | false => rfl
        | true => exact absurd (show anyB l = true by unfold anyB; rw [List.any_eq_true]; exact ⟨v, hv, hb⟩) h2
      unfold bey at this
      simp at this
      omega
theorem pairE_ok {a b : List Int} (h : pairE a b = 0) : ckW a = 0 ∧ ckW b = 0 ∧ a.length = b.length := by
  unfold pairE at h
  split at h
  · contradiction
  · rename_i h1
    split at h
    · contradiction
    · rename_i h2
      split at h
      · cases h
      · rename_i h3
        exact ⟨by simpa using h1, by simpa using h2, by simpa using h3⟩
theorem getD_mem {l : List Int} {j : Nat} (h : j < l.length) : l.getD j 0 ∈ l := by rw [List.getD_eq_getElem?_getD, List.getElem?_eq_getElem h]; exact List.getElem_mem h
theorem dsq_bd {a b : List Int} (ha : ∀ v ∈ a, -131072 ≤ v ∧ v ≤ 131072) (hb : ∀ v ∈ b, -131072 ≤ v ∧ v ≤ 131072) (j : Nat) (h1 : j ≤ a.length) (h2 : j ≤ b.length) : 0 ≤ dsq a b j ∧ dsq a b j ≤ (j : Int) * 68719476736 := by
  induction j with
  | zero => simp [dsq]
  | succ j ih =>
    have h := ih (by omega) (by omega)
    have x := ha _ (getD_mem (show j < a.length by omega))
    have y := hb _ (getD_mem (show j < b.length by omega))
    rw [dsq]
    generalize a.getD j 0 = u at *
    generalize b.getD j 0 = v at *
    have d1 : -262144 ≤ u - v ∧ u - v ≤ 262144 := by omega
    generalize u - v = d at *
    have e1 : 0 ≤ d * d := by
      rcases Int.le_total 0 d with h | h
      · exact Int.mul_nonneg h h
      · have := Int.mul_nonneg (show 0 ≤ -d by omega) (show 0 ≤ -d by omega)
        grind
    have e2 : d * d ≤ 68719476736 := by
      have := Int.mul_nonneg (show 0 ≤ 262144 - d by omega) (show 0 ≤ 262144 + d by omega)
      grind
    push_cast
    omega
def distI (a b : List Int) : Int × Int := if pairE a b = 0 then (dsq a b a.length, 0) else (0, pairE a b)
end Go.Proofs.Ythpgaggceefamaa
