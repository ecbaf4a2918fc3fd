/-
  No cell of these rows narrows 'for every input' (looked for: loops, veiled, ifaces, maps, wideKeys, modest, calm, conditions, laid).
  DERIVED. THE GIVEN ROWS OF THIS SEAT. 7 by the template 'for every input the law returns true; each argument reads behind the call as it read before'; 0 by the template 'total and deterministic' (their statements: YteblielaojmfbaaTotals.lean).
  GIVEN WITH THE SEED: the statements are not yours to turn. If you find one false, say at which input.
  Laid BY PROGRAM, IN A SANDBOX (cutbox-rows.mjs): the forced cells as the released guide's own fill.sh prints them over the translation e8c318aacf1fdba5… (all of the seat's roots in one cut). By AI agents, Wed Nov 11 2026. No macro, syntax, notation, axiom, sorry.
-/
import Derived.Test.YteblielaojmfbaaChecked
import GoSem.Claim
import GoSem.ClaimJoined
import GoSem.ClaimMapViews
import Derived.JoinedTies
import Derived.KernelRfl
namespace Go.Proofs.Yteblielaojmfbaa
/- THE CELL 'sum', in the pinned program and in every row, IS THE sha256 OF THE DUMP (.gsa) THAT YteblielaojmfbaaProg.lean LOADS. Nothing in Lean hashes anything: it is a label: what it is worth is what the hold of that sum in a sandbox is worth. -/
noncomputable def Try.pinned : Pinned := { name := "yteblielaojmfbaa", sum := "e8c318aacf1fdba5526f265e649b9427c14a3bacc1edbbd2f0448e9d195dd259", checked := Try.checked }
namespace Rows
def none {H : Type} : Left H := { results := [], args := [] }

/-- 'wayfinderlaw02.RootBounds': WHATEVER THE INPUT: true; the input reads as it did. -/
def rootBoundsSpec : ChangeSpec := { name := "rootBounds", fn := fun _ => fun
  | [d] => { results := [.lit (.bool true)], args := [d] }
  | _ => none }
def rootBoundsRow : OpenClaim := { program := "yteblielaojmfbaa", sum := "e8c318aacf1fdba5526f265e649b9427c14a3bacc1edbbd2f0448e9d195dd259", func := "wayfinder/wayfinderlaw02.RootBounds", spec := "rootBounds", apart := false }
def RootBoundsSaid : Prop := rootBoundsRow.holds Try.pinned (OpenSpec.ofChange rootBoundsSpec)

/-- ITS FALSE NEIGHBOUR: 'it returns false'. Refute it at one input. -/
def rootBoundsWrong : ChangeSpec := { name := "rootBounds", fn := fun _ => fun
  | [d] => { results := [.lit (.bool false)], args := [d] }
  | _ => none }
def RootBoundsWrongFalsely : Prop := rootBoundsRow.holds Try.pinned (OpenSpec.ofChange rootBoundsWrong)

/-- 'wayfinderlaw02.RootBest': WHATEVER THE INPUT: true; the input reads as it did. -/
def rootBestSpec : ChangeSpec := { name := "rootBest", fn := fun _ => fun
  | [d1, d2] => { results := [.lit (.bool true)], args := [d1, d2] }
  | _ => none }
def rootBestRow : OpenClaim := { program := "yteblielaojmfbaa", sum := "e8c318aacf1fdba5526f265e649b9427c14a3bacc1edbbd2f0448e9d195dd259", func := "wayfinder/wayfinderlaw02.RootBest", spec := "rootBest", apart := false }
def RootBestSaid : Prop := rootBestRow.holds Try.pinned (OpenSpec.ofChange rootBestSpec)

/-- ITS FALSE NEIGHBOUR: 'it returns false'. Refute it at one input. -/
def rootBestWrong : ChangeSpec := { name := "rootBest", fn := fun _ => fun
  | [d1, d2] => { results := [.lit (.bool false)], args := [d1, d2] }
  | _ => none }
def RootBestWrongFalsely : Prop := rootBestRow.holds Try.pinned (OpenSpec.ofChange rootBestWrong)

/-- 'wayfinderlaw02.RootDivs': WHATEVER THE INPUT: true; the input reads as it did. -/
def rootDivsSpec : ChangeSpec := { name := "rootDivs", fn := fun _ => fun
  | [d1, d2] => { results := [.lit (.bool true)], args := [d1, d2] }
  | _ => none }
def rootDivsRow : OpenClaim := { program := "yteblielaojmfbaa", sum := "e8c318aacf1fdba5526f265e649b9427c14a3bacc1edbbd2f0448e9d195dd259", func := "wayfinder/wayfinderlaw02.RootDivs", spec := "rootDivs", apart := false }
def RootDivsSaid : Prop := rootDivsRow.holds Try.pinned (OpenSpec.ofChange rootDivsSpec)

/-- ITS FALSE NEIGHBOUR: 'it returns false'. Refute it at one input. -/
def rootDivsWrong : ChangeSpec := { name := "rootDivs", fn := fun _ => fun
  | [d1, d2] => { results := [.lit (.bool false)], args := [d1, d2] }
  | _ => none }
def RootDivsWrongFalsely : Prop := rootDivsRow.holds Try.pinned (OpenSpec.ofChange rootDivsWrong)

/-- 'wayfinderlaw02.RootSquares': WHATEVER THE INPUT: true; the input reads as it did. -/
def rootSquaresSpec : ChangeSpec := { name := "rootSquares", fn := fun _ => fun
  | [d1, d2, d3] => { results := [.lit (.bool true)], args := [d1, d2, d3] }
  | _ => none }
def rootSquaresRow : OpenClaim := { program := "yteblielaojmfbaa", sum := "e8c318aacf1fdba5526f265e649b9427c14a3bacc1edbbd2f0448e9d195dd259", func := "wayfinder/wayfinderlaw02.RootSquares", spec := "rootSquares", apart := false }
def RootSquaresSaid : Prop := rootSquaresRow.holds Try.pinned (OpenSpec.ofChange rootSquaresSpec)

/-- ITS FALSE NEIGHBOUR: 'it returns false'. Refute it at one input. -/
def rootSquaresWrong : ChangeSpec := { name := "rootSquares", fn := fun _ => fun
  | [d1, d2, d3] => { results := [.lit (.bool false)], args := [d1, d2, d3] }
  | _ => none }
def RootSquaresWrongFalsely : Prop := rootSquaresRow.holds Try.pinned (OpenSpec.ofChange rootSquaresWrong)

/-- 'wayfinderlaw02.RootMuls': WHATEVER THE INPUT: true; the input reads as it did. -/
def rootMulsSpec : ChangeSpec := { name := "rootMuls", fn := fun _ => fun
  | [d1, d2] => { results := [.lit (.bool true)], args := [d1, d2] }
  | _ => none }
def rootMulsRow : OpenClaim := { program := "yteblielaojmfbaa", sum := "e8c318aacf1fdba5526f265e649b9427c14a3bacc1edbbd2f0448e9d195dd259", func := "wayfinder/wayfinderlaw02.RootMuls", spec := "rootMuls", inPlace := ["math/bits.Add64"], apart := false }
def RootMulsSaid : Prop := rootMulsRow.holds Try.pinned (OpenSpec.ofChange rootMulsSpec)

/-- ITS FALSE NEIGHBOUR: 'it returns false'. Refute it at one input. -/
def rootMulsWrong : ChangeSpec := { name := "rootMuls", fn := fun _ => fun
  | [d1, d2] => { results := [.lit (.bool false)], args := [d1, d2] }
  | _ => none }
def RootMulsWrongFalsely : Prop := rootMulsRow.holds Try.pinned (OpenSpec.ofChange rootMulsWrong)

/-- 'wayfinderlaw02.RootNames': WHATEVER THE INPUT: true; the input reads as it did. -/
def rootNamesSpec : ChangeSpec := { name := "rootNames", fn := fun _ => fun
  | [] => { results := [.lit (.bool true)], args := [] }
  | _ => none }
def rootNamesRow : OpenClaim := { program := "yteblielaojmfbaa", sum := "e8c318aacf1fdba5526f265e649b9427c14a3bacc1edbbd2f0448e9d195dd259", func := "wayfinder/wayfinderlaw02.RootNames", spec := "rootNames", inPlace := ["math/bits.Add64"], apart := false }
def RootNamesSaid : Prop := rootNamesRow.holds Try.pinned (OpenSpec.ofChange rootNamesSpec)

/-- ITS FALSE NEIGHBOUR: 'it returns false'. Refute it at one input. -/
def rootNamesWrong : ChangeSpec := { name := "rootNames", fn := fun _ => fun
  | [] => { results := [.lit (.bool false)], args := [] }
  | _ => none }
def RootNamesWrongFalsely : Prop := rootNamesRow.holds Try.pinned (OpenSpec.ofChange rootNamesWrong)

/-- 'wayfinderlaw02.RootCalls': WHATEVER THE INPUT: true; the input reads as it did. -/
def rootCallsSpec : ChangeSpec := { name := "rootCalls", fn := fun _ => fun
  | [d1, d2, d3, d4] => { results := [.lit (.bool true)], args := [d1, d2, d3, d4] }
  | _ => none }
def rootCallsRow : OpenClaim := { program := "yteblielaojmfbaa", sum := "e8c318aacf1fdba5526f265e649b9427c14a3bacc1edbbd2f0448e9d195dd259", func := "wayfinder/wayfinderlaw02.RootCalls", spec := "rootCalls", inPlace := ["math/bits.Add64"], apart := false }
def RootCallsSaid : Prop := rootCallsRow.holds Try.pinned (OpenSpec.ofChange rootCallsSpec)

/-- ITS FALSE NEIGHBOUR: 'it returns false'. Refute it at one input. -/
def rootCallsWrong : ChangeSpec := { name := "rootCalls", fn := fun _ => fun
  | [d1, d2, d3, d4] => { results := [.lit (.bool false)], args := [d1, d2, d3, d4] }
  | _ => none }
def RootCallsWrongFalsely : Prop := rootCallsRow.holds Try.pinned (OpenSpec.ofChange rootCallsWrong)

/- THE SECOND FORM. 'bulk': how many values and letters a reading holds, each counted each time it is reached (what is shared counts as often as it is met; a slice's spare places count too). A statement '..UptoSaid' is the law's where the arguments, and the package variables that the reading takes, are together of bulk at most 1048576: NARROWER than '..Said'. Prove '..Said' where nothing that the law and all that it calls make is longer than what came in: it says more and counts as full. Else prove '..UptoSaid'. A law counts once. -/
mutual
def uptoBulk {H : Type} : DataW H → Nat
  | .lit (.string bytes) => bytes.length + 1
  | .lit _ => 1
  | .nil => 1
  | .ptr d => uptoBulk d + 1
  | .slice elems spare => uptoBulkAll elems + uptoBulkAll spare + 1
  | .agg parts => uptoBulkAll parts + 1
  | .iface _ d => uptoBulk d + 1
  | .map entries => uptoBulkEntries entries + 1
  | .held _ => 1
def uptoBulkAll {H : Type} : List (DataW H) → Nat
  | [] => 0
  | d :: r => uptoBulk d + uptoBulkAll r
def uptoBulkEntries {H : Type} : List (Lit × DataW H) → Nat
  | [] => 0
  | x :: r => uptoBulkEntry x + uptoBulkEntries r
def uptoBulkEntry {H : Type} : Lit × DataW H → Nat
  | (.string bytes, d) => bytes.length + uptoBulk d + 1
  | (_, d) => uptoBulk d + 1
 end
def uptoSmall : (H : Type) → List (DataW H) → Bool := fun _ ds => decide (uptoBulkAll ds ≤ 1048576)
def OpenSpec.upto (s : _root_.Go.ChangeSpec) : _root_.Go.OpenSpec := { _root_.Go.OpenSpec.ofChange s with cond := some uptoSmall }

/-- 'wayfinderlaw02.RootBounds', WHERE WHAT IT READS IS OF BULK AT MOST 1048576: true; the input reads as it did. -/
def rootBoundsUptoRow : OpenClaim := { program := "yteblielaojmfbaa", sum := "e8c318aacf1fdba5526f265e649b9427c14a3bacc1edbbd2f0448e9d195dd259", func := "wayfinder/wayfinderlaw02.RootBounds", spec := "rootBounds", apart := false, narrowed := true }
def RootBoundsUptoSaid : Prop := rootBoundsUptoRow.holds Try.pinned (OpenSpec.upto rootBoundsSpec)

/-- 'wayfinderlaw02.RootBest', WHERE WHAT IT READS IS OF BULK AT MOST 1048576: true; the input reads as it did. -/
def rootBestUptoRow : OpenClaim := { program := "yteblielaojmfbaa", sum := "e8c318aacf1fdba5526f265e649b9427c14a3bacc1edbbd2f0448e9d195dd259", func := "wayfinder/wayfinderlaw02.RootBest", spec := "rootBest", apart := false, narrowed := true }
def RootBestUptoSaid : Prop := rootBestUptoRow.holds Try.pinned (OpenSpec.upto rootBestSpec)

/-- 'wayfinderlaw02.RootDivs', WHERE WHAT IT READS IS OF BULK AT MOST 1048576: true; the input reads as it did. -/
def rootDivsUptoRow : OpenClaim := { program := "yteblielaojmfbaa", sum := "e8c318aacf1fdba5526f265e649b9427c14a3bacc1edbbd2f0448e9d195dd259", func := "wayfinder/wayfinderlaw02.RootDivs", spec := "rootDivs", apart := false, narrowed := true }
def RootDivsUptoSaid : Prop := rootDivsUptoRow.holds Try.pinned (OpenSpec.upto rootDivsSpec)

/-- 'wayfinderlaw02.RootSquares', WHERE WHAT IT READS IS OF BULK AT MOST 1048576: true; the input reads as it did. -/
def rootSquaresUptoRow : OpenClaim := { program := "yteblielaojmfbaa", sum := "e8c318aacf1fdba5526f265e649b9427c14a3bacc1edbbd2f0448e9d195dd259", func := "wayfinder/wayfinderlaw02.RootSquares", spec := "rootSquares", apart := false, narrowed := true }
def RootSquaresUptoSaid : Prop := rootSquaresUptoRow.holds Try.pinned (OpenSpec.upto rootSquaresSpec)

/-- 'wayfinderlaw02.RootMuls', WHERE WHAT IT READS IS OF BULK AT MOST 1048576: true; the input reads as it did. -/
def rootMulsUptoRow : OpenClaim := { program := "yteblielaojmfbaa", sum := "e8c318aacf1fdba5526f265e649b9427c14a3bacc1edbbd2f0448e9d195dd259", func := "wayfinder/wayfinderlaw02.RootMuls", spec := "rootMuls", inPlace := ["math/bits.Add64"], apart := false, narrowed := true }
def RootMulsUptoSaid : Prop := rootMulsUptoRow.holds Try.pinned (OpenSpec.upto rootMulsSpec)

/-- 'wayfinderlaw02.RootNames', WHERE WHAT IT READS IS OF BULK AT MOST 1048576: true; the input reads as it did. -/
def rootNamesUptoRow : OpenClaim := { program := "yteblielaojmfbaa", sum := "e8c318aacf1fdba5526f265e649b9427c14a3bacc1edbbd2f0448e9d195dd259", func := "wayfinder/wayfinderlaw02.RootNames", spec := "rootNames", inPlace := ["math/bits.Add64"], apart := false, narrowed := true }
def RootNamesUptoSaid : Prop := rootNamesUptoRow.holds Try.pinned (OpenSpec.upto rootNamesSpec)

/-- 'wayfinderlaw02.RootCalls', WHERE WHAT IT READS IS OF BULK AT MOST 1048576: true; the input reads as it did. -/
def rootCallsUptoRow : OpenClaim := { program := "yteblielaojmfbaa", sum := "e8c318aacf1fdba5526f265e649b9427c14a3bacc1edbbd2f0448e9d195dd259", func := "wayfinder/wayfinderlaw02.RootCalls", spec := "rootCalls", inPlace := ["math/bits.Add64"], apart := false, narrowed := true }
def RootCallsUptoSaid : Prop := rootCallsUptoRow.holds Try.pinned (OpenSpec.upto rootCallsSpec)

end Rows
end Go.Proofs.Yteblielaojmfbaa
