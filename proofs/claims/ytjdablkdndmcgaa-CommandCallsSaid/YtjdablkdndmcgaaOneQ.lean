/- What is known in a drawn region: of a cell until its store has come up, and throughout. No program of its own. -/
import Derived.Test.YtjdablkdndmcgaaRoundRegion
namespace Go.Proofs.Ytjdablkdndmcgaa
set_option linter.unusedVariables false
set_option linter.unusedSimpArgs false
open Go.RowKit
/-- What is known of a cell until its store, number s, has come up; and what is known throughout. -/
def oneQ (s : Nat) (p q : World → Prop) (L : Array Bool) (w : World) : Prop := (L.getD s true = false → p w) ∧ q w
theorem one_ind {s i : Nat} {p q : World → Prop} (h1 : i ≠ s) (L : Array Bool) (w : World) : oneQ s p q (L.setIfInBounds i true) w ↔ oneQ s p q L w := by
  unfold oneQ; rw [getD_set_ne true h1]
end Go.Proofs.Ytjdablkdndmcgaa
