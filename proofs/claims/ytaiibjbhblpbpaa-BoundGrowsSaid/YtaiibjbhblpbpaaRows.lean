/-
  No cell of these rows narrows 'for every input' (looked for: loops, veiled, ifaces, maps, wideKeys, modest, calm, conditions, laid).
  DERIVED. THE GIVEN ROWS OF THIS SEAT. 5 by the template 'for every input the law returns true; each argument reads behind the call as it read before'; 0 by the template 'total and deterministic' (their statements: YtaiibjbhblpbpaaTotals.lean).
  GIVEN WITH THE SEED: the statements are not yours to turn. If you find one false, say at which input.
  Laid BY PROGRAM, IN A SANDBOX (cutbox-rows.mjs): the forced cells as the released guide's own fill.sh prints them over the translation 193edfff40d1dccd… (all of the seat's roots in one cut). By AI agents, Wed Nov 11 2026. No macro, syntax, notation, axiom, sorry.
-/
import Derived.Test.YtaiibjbhblpbpaaChecked
import GoSem.Claim
import GoSem.ClaimJoined
import GoSem.ClaimMapViews
import Derived.JoinedTies
import Derived.KernelRfl
namespace Go.Proofs.Ytaiibjbhblpbpaa
/- THE CELL 'sum', in the pinned program and in every row, IS THE sha256 OF THE DUMP (.gsa) THAT YtaiibjbhblpbpaaProg.lean LOADS. Nothing in Lean hashes anything: it is a label: what it is worth is what the hold of that sum in a sandbox is worth. -/
noncomputable def Try.pinned : Pinned := { name := "ytaiibjbhblpbpaa", sum := "193edfff40d1dccd3cd53036dc6b0ab4457c538b04119a1e60cb266148cbd70f", checked := Try.checked }
namespace Rows
def none {H : Type} : Left H := { results := [], args := [] }

/-- 'wayfinderlaw17.BoundSquares': WHATEVER THE INPUT: true; the input reads as it did. -/
def boundSquaresSpec : ChangeSpec := { name := "boundSquares", fn := fun _ => fun
  | [d1, d2] => { results := [.lit (.bool true)], args := [d1, d2] }
  | _ => none }
def boundSquaresRow : OpenClaim := { program := "ytaiibjbhblpbpaa", sum := "193edfff40d1dccd3cd53036dc6b0ab4457c538b04119a1e60cb266148cbd70f", func := "wayfinder/wayfinderlaw17.BoundSquares", spec := "boundSquares", unfollowed := true, recurses := true, apart := false }
def BoundSquaresSaid : Prop := boundSquaresRow.holds Try.pinned (OpenSpec.ofChange boundSquaresSpec)

/-- ITS FALSE NEIGHBOUR: 'it returns false'. Refute it at one input. -/
def boundSquaresWrong : ChangeSpec := { name := "boundSquares", fn := fun _ => fun
  | [d1, d2] => { results := [.lit (.bool false)], args := [d1, d2] }
  | _ => none }
def BoundSquaresWrongFalsely : Prop := boundSquaresRow.holds Try.pinned (OpenSpec.ofChange boundSquaresWrong)

/-- 'wayfinderlaw17.BoundHolds': WHATEVER THE INPUT: true; the input reads as it did. -/
def boundHoldsSpec : ChangeSpec := { name := "boundHolds", fn := fun _ => fun
  | [d1, d2, d3] => { results := [.lit (.bool true)], args := [d1, d2, d3] }
  | _ => none }
def boundHoldsRow : OpenClaim := { program := "ytaiibjbhblpbpaa", sum := "193edfff40d1dccd3cd53036dc6b0ab4457c538b04119a1e60cb266148cbd70f", func := "wayfinder/wayfinderlaw17.BoundHolds", spec := "boundHolds", unfollowed := true, recurses := true, apart := false }
def BoundHoldsSaid : Prop := boundHoldsRow.holds Try.pinned (OpenSpec.ofChange boundHoldsSpec)

/-- ITS FALSE NEIGHBOUR: 'it returns false'. Refute it at one input. -/
def boundHoldsWrong : ChangeSpec := { name := "boundHolds", fn := fun _ => fun
  | [d1, d2, d3] => { results := [.lit (.bool false)], args := [d1, d2, d3] }
  | _ => none }
def BoundHoldsWrongFalsely : Prop := boundHoldsRow.holds Try.pinned (OpenSpec.ofChange boundHoldsWrong)

/-- 'wayfinderlaw17.BoundGrows': WHATEVER THE INPUT: true; the input reads as it did. -/
def boundGrowsSpec : ChangeSpec := { name := "boundGrows", fn := fun _ => fun
  | [d1, d2, d3, d4, d5] => { results := [.lit (.bool true)], args := [d1, d2, d3, d4, d5] }
  | _ => none }
def boundGrowsRow : OpenClaim := { program := "ytaiibjbhblpbpaa", sum := "193edfff40d1dccd3cd53036dc6b0ab4457c538b04119a1e60cb266148cbd70f", func := "wayfinder/wayfinderlaw17.BoundGrows", spec := "boundGrows", unfollowed := true, recurses := true, apart := false }
def BoundGrowsSaid : Prop := boundGrowsRow.holds Try.pinned (OpenSpec.ofChange boundGrowsSpec)

/-- ITS FALSE NEIGHBOUR: 'it returns false'. Refute it at one input. -/
def boundGrowsWrong : ChangeSpec := { name := "boundGrows", fn := fun _ => fun
  | [d1, d2, d3, d4, d5] => { results := [.lit (.bool false)], args := [d1, d2, d3, d4, d5] }
  | _ => none }
def BoundGrowsWrongFalsely : Prop := boundGrowsRow.holds Try.pinned (OpenSpec.ofChange boundGrowsWrong)

/-- 'wayfinderlaw17.BoundNames': WHATEVER THE INPUT: true; the input reads as it did. -/
def boundNamesSpec : ChangeSpec := { name := "boundNames", fn := fun _ => fun
  | [] => { results := [.lit (.bool true)], args := [] }
  | _ => none }
def boundNamesRow : OpenClaim := { program := "ytaiibjbhblpbpaa", sum := "193edfff40d1dccd3cd53036dc6b0ab4457c538b04119a1e60cb266148cbd70f", func := "wayfinder/wayfinderlaw17.BoundNames", spec := "boundNames", unfollowed := true, recurses := true, apart := false }
def BoundNamesSaid : Prop := boundNamesRow.holds Try.pinned (OpenSpec.ofChange boundNamesSpec)

/-- ITS FALSE NEIGHBOUR: 'it returns false'. Refute it at one input. -/
def boundNamesWrong : ChangeSpec := { name := "boundNames", fn := fun _ => fun
  | [] => { results := [.lit (.bool false)], args := [] }
  | _ => none }
def BoundNamesWrongFalsely : Prop := boundNamesRow.holds Try.pinned (OpenSpec.ofChange boundNamesWrong)

/-- 'wayfinderlaw17.BoundCalls': WHATEVER THE INPUT: true; the input reads as it did. -/
def boundCallsSpec : ChangeSpec := { name := "boundCalls", fn := fun _ => fun
  | [d1, d2, d3, d4, d5, d6] => { results := [.lit (.bool true)], args := [d1, d2, d3, d4, d5, d6] }
  | _ => none }
def boundCallsRow : OpenClaim := { program := "ytaiibjbhblpbpaa", sum := "193edfff40d1dccd3cd53036dc6b0ab4457c538b04119a1e60cb266148cbd70f", func := "wayfinder/wayfinderlaw17.BoundCalls", spec := "boundCalls", unfollowed := true, recurses := true, apart := false }
def BoundCallsSaid : Prop := boundCallsRow.holds Try.pinned (OpenSpec.ofChange boundCallsSpec)

/-- ITS FALSE NEIGHBOUR: 'it returns false'. Refute it at one input. -/
def boundCallsWrong : ChangeSpec := { name := "boundCalls", fn := fun _ => fun
  | [d1, d2, d3, d4, d5, d6] => { results := [.lit (.bool false)], args := [d1, d2, d3, d4, d5, d6] }
  | _ => none }
def BoundCallsWrongFalsely : Prop := boundCallsRow.holds Try.pinned (OpenSpec.ofChange boundCallsWrong)

/- THE SECOND FORM. 'bulk': how many values and letters a reading holds, each counted each time it is reached (what is shared counts as often as it is met; a slice's spare places count too). A statement '..UptoSaid' is the law's where the arguments, and the package variables that the reading takes, are together of bulk at most 1048576: NARROWER than '..Said'. Prove '..Said' where nothing that the law and all that it calls make is longer than what came in: it says more and counts as full. Else prove '..UptoSaid'. A law counts once. -/
mutual
def uptoBulk {H : Type} : DataW H → Nat
  | .lit (.string bytes) => bytes.length + 1
  | .lit _ => 1
  | .nil => 1
  | .ptr d => uptoBulk d + 1
  | .slice elems spare => uptoBulkAll elems + uptoBulkAll spare + 1
  | .agg parts => uptoBulkAll parts + 1
  | .iface _ d => uptoBulk d + 1
  | .map entries => uptoBulkEntries entries + 1
  | .held _ => 1
def uptoBulkAll {H : Type} : List (DataW H) → Nat
  | [] => 0
  | d :: r => uptoBulk d + uptoBulkAll r
def uptoBulkEntries {H : Type} : List (Lit × DataW H) → Nat
  | [] => 0
  | x :: r => uptoBulkEntry x + uptoBulkEntries r
def uptoBulkEntry {H : Type} : Lit × DataW H → Nat
  | (.string bytes, d) => bytes.length + uptoBulk d + 1
  | (_, d) => uptoBulk d + 1
 end
def uptoSmall : (H : Type) → List (DataW H) → Bool := fun _ ds => decide (uptoBulkAll ds ≤ 1048576)
def OpenSpec.upto (s : _root_.Go.ChangeSpec) : _root_.Go.OpenSpec := { _root_.Go.OpenSpec.ofChange s with cond := some uptoSmall }

/-- 'wayfinderlaw17.BoundSquares', WHERE WHAT IT READS IS OF BULK AT MOST 1048576: true; the input reads as it did. -/
def boundSquaresUptoRow : OpenClaim := { program := "ytaiibjbhblpbpaa", sum := "193edfff40d1dccd3cd53036dc6b0ab4457c538b04119a1e60cb266148cbd70f", func := "wayfinder/wayfinderlaw17.BoundSquares", spec := "boundSquares", unfollowed := true, recurses := true, apart := false, narrowed := true }
def BoundSquaresUptoSaid : Prop := boundSquaresUptoRow.holds Try.pinned (OpenSpec.upto boundSquaresSpec)

/-- 'wayfinderlaw17.BoundHolds', WHERE WHAT IT READS IS OF BULK AT MOST 1048576: true; the input reads as it did. -/
def boundHoldsUptoRow : OpenClaim := { program := "ytaiibjbhblpbpaa", sum := "193edfff40d1dccd3cd53036dc6b0ab4457c538b04119a1e60cb266148cbd70f", func := "wayfinder/wayfinderlaw17.BoundHolds", spec := "boundHolds", unfollowed := true, recurses := true, apart := false, narrowed := true }
def BoundHoldsUptoSaid : Prop := boundHoldsUptoRow.holds Try.pinned (OpenSpec.upto boundHoldsSpec)

/-- 'wayfinderlaw17.BoundGrows', WHERE WHAT IT READS IS OF BULK AT MOST 1048576: true; the input reads as it did. -/
def boundGrowsUptoRow : OpenClaim := { program := "ytaiibjbhblpbpaa", sum := "193edfff40d1dccd3cd53036dc6b0ab4457c538b04119a1e60cb266148cbd70f", func := "wayfinder/wayfinderlaw17.BoundGrows", spec := "boundGrows", unfollowed := true, recurses := true, apart := false, narrowed := true }
def BoundGrowsUptoSaid : Prop := boundGrowsUptoRow.holds Try.pinned (OpenSpec.upto boundGrowsSpec)

/-- 'wayfinderlaw17.BoundNames', WHERE WHAT IT READS IS OF BULK AT MOST 1048576: true; the input reads as it did. -/
def boundNamesUptoRow : OpenClaim := { program := "ytaiibjbhblpbpaa", sum := "193edfff40d1dccd3cd53036dc6b0ab4457c538b04119a1e60cb266148cbd70f", func := "wayfinder/wayfinderlaw17.BoundNames", spec := "boundNames", unfollowed := true, recurses := true, apart := false, narrowed := true }
def BoundNamesUptoSaid : Prop := boundNamesUptoRow.holds Try.pinned (OpenSpec.upto boundNamesSpec)

/-- 'wayfinderlaw17.BoundCalls', WHERE WHAT IT READS IS OF BULK AT MOST 1048576: true; the input reads as it did. -/
def boundCallsUptoRow : OpenClaim := { program := "ytaiibjbhblpbpaa", sum := "193edfff40d1dccd3cd53036dc6b0ab4457c538b04119a1e60cb266148cbd70f", func := "wayfinder/wayfinderlaw17.BoundCalls", spec := "boundCalls", unfollowed := true, recurses := true, apart := false, narrowed := true }
def BoundCallsUptoSaid : Prop := boundCallsUptoRow.holds Try.pinned (OpenSpec.upto boundCallsSpec)

end Rows
end Go.Proofs.Ytaiibjbhblpbpaa
