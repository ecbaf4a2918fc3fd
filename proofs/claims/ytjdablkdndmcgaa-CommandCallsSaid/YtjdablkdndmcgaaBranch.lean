/- A drawn region at which two operations may come up. No program of its own. -/
import Derived.Test.YtjdablkdndmcgaaRoundRegion
namespace Go.Proofs.Ytjdablkdndmcgaa
set_option linter.unusedVariables false
set_option linter.unusedSimpArgs false
open Go.RowKit
variable {P : Program} {ops : Array Oper} {Q : Exit → Act → World → Prop} {md : Region.Mode}
theorem anyL_step2 {SL : Array Bool → World → Prop} {i j : Nat} {o u : Oper} {fuel : Nat} {listed : Array Bool} {a : Act} {w : World} (hr : Region.ready md ops listed = [i, j]) (ho : ops[i]? = some o) (hu : ops[j]? = some u)
    (hw : Region.wanted o (yielded ops a.tmps) = true) (hv : Region.wanted u (yielded ops a.tmps) = true)
    (h : ∀ K : Act → World → Prop, Shut (∀ a w, SL (listed.setIfInBounds i true) w → anyL P md ops Q SL fuel (listed.setIfInBounds i true) a w → K a w) → Oper.wp P o a w K Q)
    (k : ∀ K : Act → World → Prop, Shut (∀ a w, SL (listed.setIfInBounds j true) w → anyL P md ops Q SL fuel (listed.setIfInBounds j true) a w → K a w) → Oper.wp P u a w K Q) : anyL P md ops Q SL (fuel + 1) listed a w := by
  refine ⟨(fun hh => by rw [hr] at hh; cases hh), fun n hn => ?_⟩
  rw [hr] at hn
  have hn : n = i ∨ n = j := by simpa using hn
  rcases hn with rfl | rfl
  · unfold wpOp
    rw [ho]
    simp only [hw, if_true]
    exact .inl (h _ fun a w h1 h2 => ⟨h1, h2⟩)
  · unfold wpOp
    rw [hu]
    simp only [hv, if_true]
    exact .inl (k _ fun a w h1 h2 => ⟨h1, h2⟩)
end Go.Proofs.Ytjdablkdndmcgaa
