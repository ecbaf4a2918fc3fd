/-
  No cell of these rows narrows 'for every input' (looked for: loops, veiled, ifaces, maps, wideKeys, modest, calm, conditions, laid).
  DERIVED. THE GIVEN ROWS OF THIS SEAT. 5 by the template 'for every input the law returns true; each argument reads behind the call as it read before'; 0 by the template 'total and deterministic' (their statements: YtjdablkdndmcgaaTotals.lean).
  GIVEN WITH THE SEED: the statements are not yours to turn. If you find one false, say at which input.
  Laid BY PROGRAM, IN A SANDBOX (cutbox-rows.mjs): the forced cells as the released guide's own fill.sh prints them over the translation 0de14513682c3a32… (all of the seat's roots in one cut). By AI agents, Wed Nov 11 2026. No macro, syntax, notation, axiom, sorry.
-/
import Derived.Test.YtjdablkdndmcgaaChecked
import GoSem.Claim
import GoSem.ClaimJoined
import GoSem.ClaimMapViews
import Derived.JoinedTies
import Derived.KernelRfl
namespace Go.Proofs.Ytjdablkdndmcgaa
/- THE CELL 'sum', in the pinned program and in every row, IS THE sha256 OF THE DUMP (.gsa) THAT YtjdablkdndmcgaaProg.lean LOADS. Nothing in Lean hashes anything: it is a label: what it is worth is what the hold of that sum in a sandbox is worth. -/
noncomputable def Try.pinned : Pinned := { name := "ytjdablkdndmcgaa", sum := "0de14513682c3a32ba837e2b9e4941e23a2d95f7b5a43d7acf75c6c5cbdbbac7", checked := Try.checked }
namespace Rows
def none {H : Type} : Left H := { results := [], args := [] }

/-- 'wayfinderlaw25.CommandDoubles': WHATEVER THE INPUT: true; the input reads as it did. -/
def commandDoublesSpec : ChangeSpec := { name := "commandDoubles", fn := fun _ => fun
  | [d1, d2, d3] => { results := [.lit (.bool true)], args := [d1, d2, d3] }
  | _ => none }
def commandDoublesRow : OpenClaim := { program := "ytjdablkdndmcgaa", sum := "0de14513682c3a32ba837e2b9e4941e23a2d95f7b5a43d7acf75c6c5cbdbbac7", func := "wayfinder/wayfinderlaw25.CommandDoubles", spec := "commandDoubles", inPlace := ["math.Float64frombits", "math.RoundToEven"], unfollowed := true, recurses := true, apart := false }
def CommandDoublesSaid : Prop := commandDoublesRow.holds Try.pinned (OpenSpec.ofChange commandDoublesSpec)

/-- ITS FALSE NEIGHBOUR: 'it returns false'. Refute it at one input. -/
def commandDoublesWrong : ChangeSpec := { name := "commandDoubles", fn := fun _ => fun
  | [d1, d2, d3] => { results := [.lit (.bool false)], args := [d1, d2, d3] }
  | _ => none }
def CommandDoublesWrongFalsely : Prop := commandDoublesRow.holds Try.pinned (OpenSpec.ofChange commandDoublesWrong)

/-- 'wayfinderlaw25.CommandSizes': WHATEVER THE INPUT: true; the input reads as it did. -/
def commandSizesSpec : ChangeSpec := { name := "commandSizes", fn := fun _ => fun
  | [d1, d2] => { results := [.lit (.bool true)], args := [d1, d2] }
  | _ => none }
def commandSizesRow : OpenClaim := { program := "ytjdablkdndmcgaa", sum := "0de14513682c3a32ba837e2b9e4941e23a2d95f7b5a43d7acf75c6c5cbdbbac7", func := "wayfinder/wayfinderlaw25.CommandSizes", spec := "commandSizes", inPlace := ["math.Float64frombits", "math.RoundToEven", "math.Float64bits"], unfollowed := true, recurses := true, apart := false }
def CommandSizesSaid : Prop := commandSizesRow.holds Try.pinned (OpenSpec.ofChange commandSizesSpec)

/-- ITS FALSE NEIGHBOUR: 'it returns false'. Refute it at one input. -/
def commandSizesWrong : ChangeSpec := { name := "commandSizes", fn := fun _ => fun
  | [d1, d2] => { results := [.lit (.bool false)], args := [d1, d2] }
  | _ => none }
def CommandSizesWrongFalsely : Prop := commandSizesRow.holds Try.pinned (OpenSpec.ofChange commandSizesWrong)

/-- 'wayfinderlaw25.CommandBack': WHATEVER THE INPUT: true; the input reads as it did. -/
def commandBackSpec : ChangeSpec := { name := "commandBack", fn := fun _ => fun
  | [d1, d2, d3, d4] => { results := [.lit (.bool true)], args := [d1, d2, d3, d4] }
  | _ => none }
def commandBackRow : OpenClaim := { program := "ytjdablkdndmcgaa", sum := "0de14513682c3a32ba837e2b9e4941e23a2d95f7b5a43d7acf75c6c5cbdbbac7", func := "wayfinder/wayfinderlaw25.CommandBack", spec := "commandBack", inPlace := ["math.Float64frombits", "math.RoundToEven", "math.Float64bits"], unfollowed := true, recurses := true, apart := false }
def CommandBackSaid : Prop := commandBackRow.holds Try.pinned (OpenSpec.ofChange commandBackSpec)

/-- ITS FALSE NEIGHBOUR: 'it returns false'. Refute it at one input. -/
def commandBackWrong : ChangeSpec := { name := "commandBack", fn := fun _ => fun
  | [d1, d2, d3, d4] => { results := [.lit (.bool false)], args := [d1, d2, d3, d4] }
  | _ => none }
def CommandBackWrongFalsely : Prop := commandBackRow.holds Try.pinned (OpenSpec.ofChange commandBackWrong)

/-- 'wayfinderlaw25.CommandNames': WHATEVER THE INPUT: true; the input reads as it did. -/
def commandNamesSpec : ChangeSpec := { name := "commandNames", fn := fun _ => fun
  | [] => { results := [.lit (.bool true)], args := [] }
  | _ => none }
def commandNamesRow : OpenClaim := { program := "ytjdablkdndmcgaa", sum := "0de14513682c3a32ba837e2b9e4941e23a2d95f7b5a43d7acf75c6c5cbdbbac7", func := "wayfinder/wayfinderlaw25.CommandNames", spec := "commandNames", inPlace := ["math.Float64frombits", "math.RoundToEven", "math.Float64bits"], unfollowed := true, recurses := true, apart := false }
def CommandNamesSaid : Prop := commandNamesRow.holds Try.pinned (OpenSpec.ofChange commandNamesSpec)

/-- ITS FALSE NEIGHBOUR: 'it returns false'. Refute it at one input. -/
def commandNamesWrong : ChangeSpec := { name := "commandNames", fn := fun _ => fun
  | [] => { results := [.lit (.bool false)], args := [] }
  | _ => none }
def CommandNamesWrongFalsely : Prop := commandNamesRow.holds Try.pinned (OpenSpec.ofChange commandNamesWrong)

/-- 'wayfinderlaw25.CommandCalls': WHATEVER THE INPUT: true; the input reads as it did. -/
def commandCallsSpec : ChangeSpec := { name := "commandCalls", fn := fun _ => fun
  | [d1, d2, d3, d4, d5, d6] => { results := [.lit (.bool true)], args := [d1, d2, d3, d4, d5, d6] }
  | _ => none }
def commandCallsRow : OpenClaim := { program := "ytjdablkdndmcgaa", sum := "0de14513682c3a32ba837e2b9e4941e23a2d95f7b5a43d7acf75c6c5cbdbbac7", func := "wayfinder/wayfinderlaw25.CommandCalls", spec := "commandCalls", inPlace := ["math.Float64frombits", "math.RoundToEven", "math.Float64bits"], unfollowed := true, recurses := true, apart := false }
def CommandCallsSaid : Prop := commandCallsRow.holds Try.pinned (OpenSpec.ofChange commandCallsSpec)

/-- ITS FALSE NEIGHBOUR: 'it returns false'. Refute it at one input. -/
def commandCallsWrong : ChangeSpec := { name := "commandCalls", fn := fun _ => fun
  | [d1, d2, d3, d4, d5, d6] => { results := [.lit (.bool false)], args := [d1, d2, d3, d4, d5, d6] }
  | _ => none }
def CommandCallsWrongFalsely : Prop := commandCallsRow.holds Try.pinned (OpenSpec.ofChange commandCallsWrong)

/- THE SECOND FORM. 'bulk': how many values and letters a reading holds, each counted each time it is reached (what is shared counts as often as it is met; a slice's spare places count too). A statement '..UptoSaid' is the law's where the arguments, and the package variables that the reading takes, are together of bulk at most 1048576: NARROWER than '..Said'. Prove '..Said' where nothing that the law and all that it calls make is longer than what came in: it says more and counts as full. Else prove '..UptoSaid'. A law counts once. -/
mutual
def uptoBulk {H : Type} : DataW H → Nat
  | .lit (.string bytes) => bytes.length + 1
  | .lit _ => 1
  | .nil => 1
  | .ptr d => uptoBulk d + 1
  | .slice elems spare => uptoBulkAll elems + uptoBulkAll spare + 1
  | .agg parts => uptoBulkAll parts + 1
  | .iface _ d => uptoBulk d + 1
  | .map entries => uptoBulkEntries entries + 1
  | .held _ => 1
def uptoBulkAll {H : Type} : List (DataW H) → Nat
  | [] => 0
  | d :: r => uptoBulk d + uptoBulkAll r
def uptoBulkEntries {H : Type} : List (Lit × DataW H) → Nat
  | [] => 0
  | x :: r => uptoBulkEntry x + uptoBulkEntries r
def uptoBulkEntry {H : Type} : Lit × DataW H → Nat
  | (.string bytes, d) => bytes.length + uptoBulk d + 1
  | (_, d) => uptoBulk d + 1
 end
def uptoSmall : (H : Type) → List (DataW H) → Bool := fun _ ds => decide (uptoBulkAll ds ≤ 1048576)
def OpenSpec.upto (s : _root_.Go.ChangeSpec) : _root_.Go.OpenSpec := { _root_.Go.OpenSpec.ofChange s with cond := some uptoSmall }

/-- 'wayfinderlaw25.CommandDoubles', WHERE WHAT IT READS IS OF BULK AT MOST 1048576: true; the input reads as it did. -/
def commandDoublesUptoRow : OpenClaim := { program := "ytjdablkdndmcgaa", sum := "0de14513682c3a32ba837e2b9e4941e23a2d95f7b5a43d7acf75c6c5cbdbbac7", func := "wayfinder/wayfinderlaw25.CommandDoubles", spec := "commandDoubles", inPlace := ["math.Float64frombits", "math.RoundToEven"], unfollowed := true, recurses := true, apart := false, narrowed := true }
def CommandDoublesUptoSaid : Prop := commandDoublesUptoRow.holds Try.pinned (OpenSpec.upto commandDoublesSpec)

/-- 'wayfinderlaw25.CommandSizes', WHERE WHAT IT READS IS OF BULK AT MOST 1048576: true; the input reads as it did. -/
def commandSizesUptoRow : OpenClaim := { program := "ytjdablkdndmcgaa", sum := "0de14513682c3a32ba837e2b9e4941e23a2d95f7b5a43d7acf75c6c5cbdbbac7", func := "wayfinder/wayfinderlaw25.CommandSizes", spec := "commandSizes", inPlace := ["math.Float64frombits", "math.RoundToEven", "math.Float64bits"], unfollowed := true, recurses := true, apart := false, narrowed := true }
def CommandSizesUptoSaid : Prop := commandSizesUptoRow.holds Try.pinned (OpenSpec.upto commandSizesSpec)

/-- 'wayfinderlaw25.CommandBack', WHERE WHAT IT READS IS OF BULK AT MOST 1048576: true; the input reads as it did. -/
def commandBackUptoRow : OpenClaim := { program := "ytjdablkdndmcgaa", sum := "0de14513682c3a32ba837e2b9e4941e23a2d95f7b5a43d7acf75c6c5cbdbbac7", func := "wayfinder/wayfinderlaw25.CommandBack", spec := "commandBack", inPlace := ["math.Float64frombits", "math.RoundToEven", "math.Float64bits"], unfollowed := true, recurses := true, apart := false, narrowed := true }
def CommandBackUptoSaid : Prop := commandBackUptoRow.holds Try.pinned (OpenSpec.upto commandBackSpec)

/-- 'wayfinderlaw25.CommandNames', WHERE WHAT IT READS IS OF BULK AT MOST 1048576: true; the input reads as it did. -/
def commandNamesUptoRow : OpenClaim := { program := "ytjdablkdndmcgaa", sum := "0de14513682c3a32ba837e2b9e4941e23a2d95f7b5a43d7acf75c6c5cbdbbac7", func := "wayfinder/wayfinderlaw25.CommandNames", spec := "commandNames", inPlace := ["math.Float64frombits", "math.RoundToEven", "math.Float64bits"], unfollowed := true, recurses := true, apart := false, narrowed := true }
def CommandNamesUptoSaid : Prop := commandNamesUptoRow.holds Try.pinned (OpenSpec.upto commandNamesSpec)

/-- 'wayfinderlaw25.CommandCalls', WHERE WHAT IT READS IS OF BULK AT MOST 1048576: true; the input reads as it did. -/
def commandCallsUptoRow : OpenClaim := { program := "ytjdablkdndmcgaa", sum := "0de14513682c3a32ba837e2b9e4941e23a2d95f7b5a43d7acf75c6c5cbdbbac7", func := "wayfinder/wayfinderlaw25.CommandCalls", spec := "commandCalls", inPlace := ["math.Float64frombits", "math.RoundToEven", "math.Float64bits"], unfollowed := true, recurses := true, apart := false, narrowed := true }
def CommandCallsUptoSaid : Prop := commandCallsUptoRow.holds Try.pinned (OpenSpec.upto commandCallsSpec)

end Rows
end Go.Proofs.Ytjdablkdndmcgaa
