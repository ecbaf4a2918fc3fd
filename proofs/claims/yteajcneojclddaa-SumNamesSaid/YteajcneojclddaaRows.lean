/-
  No cell of these rows narrows 'for every input' (looked for: loops, veiled, ifaces, maps, wideKeys, modest, calm, conditions, laid).
  DERIVED. THE GIVEN ROWS OF THIS SEAT. 6 by the template 'for every input the law returns true; each argument reads behind the call as it read before'; 0 by the template 'total and deterministic' (their statements: YteajcneojclddaaTotals.lean).
  GIVEN WITH THE SEED: the statements are not yours to turn. If you find one false, say at which input.
  Laid BY PROGRAM, IN A SANDBOX (cutbox-rows.mjs): the forced cells as the released guide's own fill.sh prints them over the translation 7131cd0059ef0d72… (all of the seat's roots in one cut). By AI agents, Wed Nov 11 2026. No macro, syntax, notation, axiom, sorry.
-/
import Derived.Test.YteajcneojclddaaChecked
import GoSem.Claim
import GoSem.ClaimJoined
import GoSem.ClaimMapViews
import Derived.JoinedTies
import Derived.KernelRfl
namespace Go.Proofs.Yteajcneojclddaa
/- THE CELL 'sum', in the pinned program and in every row, IS THE sha256 OF THE DUMP (.gsa) THAT YteajcneojclddaaProg.lean LOADS. Nothing in Lean hashes anything: it is a label: what it is worth is what the hold of that sum in a sandbox is worth. -/
noncomputable def Try.pinned : Pinned := { name := "yteajcneojclddaa", sum := "7131cd0059ef0d726e3749f24c4ea376cc472017655f43f2436fdc67c180612c", checked := Try.checked }
namespace Rows
def none {H : Type} : Left H := { results := [], args := [] }

/-- 'wayfinderlaw05.SumBursts': WHATEVER THE INPUT: true; the input reads as it did. -/
def sumBurstsSpec : ChangeSpec := { name := "sumBursts", fn := fun _ => fun
  | [d1, d2, d3] => { results := [.lit (.bool true)], args := [d1, d2, d3] }
  | _ => none }
def sumBurstsRow : OpenClaim := { program := "yteajcneojclddaa", sum := "7131cd0059ef0d726e3749f24c4ea376cc472017655f43f2436fdc67c180612c", func := "wayfinder/wayfinderlaw05.SumBursts", spec := "sumBursts", apart := false }
def SumBurstsSaid : Prop := sumBurstsRow.holds Try.pinned (OpenSpec.ofChange sumBurstsSpec)

/-- ITS FALSE NEIGHBOUR: 'it returns false'. Refute it at one input. -/
def sumBurstsWrong : ChangeSpec := { name := "sumBursts", fn := fun _ => fun
  | [d1, d2, d3] => { results := [.lit (.bool false)], args := [d1, d2, d3] }
  | _ => none }
def SumBurstsWrongFalsely : Prop := sumBurstsRow.holds Try.pinned (OpenSpec.ofChange sumBurstsWrong)

/-- 'wayfinderlaw05.SumLinear': WHATEVER THE INPUT: true; the input reads as it did. -/
def sumLinearSpec : ChangeSpec := { name := "sumLinear", fn := fun _ => fun
  | [d1, d2, d3] => { results := [.lit (.bool true)], args := [d1, d2, d3] }
  | _ => none }
def sumLinearRow : OpenClaim := { program := "yteajcneojclddaa", sum := "7131cd0059ef0d726e3749f24c4ea376cc472017655f43f2436fdc67c180612c", func := "wayfinder/wayfinderlaw05.SumLinear", spec := "sumLinear", apart := false }
def SumLinearSaid : Prop := sumLinearRow.holds Try.pinned (OpenSpec.ofChange sumLinearSpec)

/-- ITS FALSE NEIGHBOUR: 'it returns false'. Refute it at one input. -/
def sumLinearWrong : ChangeSpec := { name := "sumLinear", fn := fun _ => fun
  | [d1, d2, d3] => { results := [.lit (.bool false)], args := [d1, d2, d3] }
  | _ => none }
def SumLinearWrongFalsely : Prop := sumLinearRow.holds Try.pinned (OpenSpec.ofChange sumLinearWrong)

/-- 'wayfinderlaw05.SumBrackets': WHATEVER THE INPUT: true; the input reads as it did. -/
def sumBracketsSpec : ChangeSpec := { name := "sumBrackets", fn := fun _ => fun
  | [d1, d2, d3, d4, d5] => { results := [.lit (.bool true)], args := [d1, d2, d3, d4, d5] }
  | _ => none }
def sumBracketsRow : OpenClaim := { program := "yteajcneojclddaa", sum := "7131cd0059ef0d726e3749f24c4ea376cc472017655f43f2436fdc67c180612c", func := "wayfinder/wayfinderlaw05.SumBrackets", spec := "sumBrackets", apart := false }
def SumBracketsSaid : Prop := sumBracketsRow.holds Try.pinned (OpenSpec.ofChange sumBracketsSpec)

/-- ITS FALSE NEIGHBOUR: 'it returns false'. Refute it at one input. -/
def sumBracketsWrong : ChangeSpec := { name := "sumBrackets", fn := fun _ => fun
  | [d1, d2, d3, d4, d5] => { results := [.lit (.bool false)], args := [d1, d2, d3, d4, d5] }
  | _ => none }
def SumBracketsWrongFalsely : Prop := sumBracketsRow.holds Try.pinned (OpenSpec.ofChange sumBracketsWrong)

/-- 'wayfinderlaw05.SumNames': WHATEVER THE INPUT: true; the input reads as it did. -/
def sumNamesSpec : ChangeSpec := { name := "sumNames", fn := fun _ => fun
  | [] => { results := [.lit (.bool true)], args := [] }
  | _ => none }
def sumNamesRow : OpenClaim := { program := "yteajcneojclddaa", sum := "7131cd0059ef0d726e3749f24c4ea376cc472017655f43f2436fdc67c180612c", func := "wayfinder/wayfinderlaw05.SumNames", spec := "sumNames", apart := false }
def SumNamesSaid : Prop := sumNamesRow.holds Try.pinned (OpenSpec.ofChange sumNamesSpec)

/-- ITS FALSE NEIGHBOUR: 'it returns false'. Refute it at one input. -/
def sumNamesWrong : ChangeSpec := { name := "sumNames", fn := fun _ => fun
  | [] => { results := [.lit (.bool false)], args := [] }
  | _ => none }
def SumNamesWrongFalsely : Prop := sumNamesRow.holds Try.pinned (OpenSpec.ofChange sumNamesWrong)

/-- 'wayfinderlaw05.SumCalls': WHATEVER THE INPUT: true; the input reads as it did. -/
def sumCallsSpec : ChangeSpec := { name := "sumCalls", fn := fun _ => fun
  | [d1, d2, d3, d4] => { results := [.lit (.bool true)], args := [d1, d2, d3, d4] }
  | _ => none }
def sumCallsRow : OpenClaim := { program := "yteajcneojclddaa", sum := "7131cd0059ef0d726e3749f24c4ea376cc472017655f43f2436fdc67c180612c", func := "wayfinder/wayfinderlaw05.SumCalls", spec := "sumCalls", apart := false }
def SumCallsSaid : Prop := sumCallsRow.holds Try.pinned (OpenSpec.ofChange sumCallsSpec)

/-- ITS FALSE NEIGHBOUR: 'it returns false'. Refute it at one input. -/
def sumCallsWrong : ChangeSpec := { name := "sumCalls", fn := fun _ => fun
  | [d1, d2, d3, d4] => { results := [.lit (.bool false)], args := [d1, d2, d3, d4] }
  | _ => none }
def SumCallsWrongFalsely : Prop := sumCallsRow.holds Try.pinned (OpenSpec.ofChange sumCallsWrong)

/-- 'wayfinderlaw05.SumJoins': WHATEVER THE INPUT: true; the input reads as it did. -/
def sumJoinsSpec : ChangeSpec := { name := "sumJoins", fn := fun _ => fun
  | [d1, d2, d3, d4] => { results := [.lit (.bool true)], args := [d1, d2, d3, d4] }
  | _ => none }
def sumJoinsRow : OpenClaim := { program := "yteajcneojclddaa", sum := "7131cd0059ef0d726e3749f24c4ea376cc472017655f43f2436fdc67c180612c", func := "wayfinder/wayfinderlaw05.SumJoins", spec := "sumJoins", apart := false }
def SumJoinsSaid : Prop := sumJoinsRow.holds Try.pinned (OpenSpec.ofChange sumJoinsSpec)

/-- ITS FALSE NEIGHBOUR: 'it returns false'. Refute it at one input. -/
def sumJoinsWrong : ChangeSpec := { name := "sumJoins", fn := fun _ => fun
  | [d1, d2, d3, d4] => { results := [.lit (.bool false)], args := [d1, d2, d3, d4] }
  | _ => none }
def SumJoinsWrongFalsely : Prop := sumJoinsRow.holds Try.pinned (OpenSpec.ofChange sumJoinsWrong)

/- THE SECOND FORM. 'bulk': how many values and letters a reading holds, each counted each time it is reached (what is shared counts as often as it is met; a slice's spare places count too). A statement '..UptoSaid' is the law's where the arguments, and the package variables that the reading takes, are together of bulk at most 1048576: NARROWER than '..Said'. Prove '..Said' where nothing that the law and all that it calls make is longer than what came in: it says more and counts as full. Else prove '..UptoSaid'. A law counts once. -/
mutual
def uptoBulk {H : Type} : DataW H → Nat
  | .lit (.string bytes) => bytes.length + 1
  | .lit _ => 1
  | .nil => 1
  | .ptr d => uptoBulk d + 1
  | .slice elems spare => uptoBulkAll elems + uptoBulkAll spare + 1
  | .agg parts => uptoBulkAll parts + 1
  | .iface _ d => uptoBulk d + 1
  | .map entries => uptoBulkEntries entries + 1
  | .held _ => 1
def uptoBulkAll {H : Type} : List (DataW H) → Nat
  | [] => 0
  | d :: r => uptoBulk d + uptoBulkAll r
def uptoBulkEntries {H : Type} : List (Lit × DataW H) → Nat
  | [] => 0
  | x :: r => uptoBulkEntry x + uptoBulkEntries r
def uptoBulkEntry {H : Type} : Lit × DataW H → Nat
  | (.string bytes, d) => bytes.length + uptoBulk d + 1
  | (_, d) => uptoBulk d + 1
 end
def uptoSmall : (H : Type) → List (DataW H) → Bool := fun _ ds => decide (uptoBulkAll ds ≤ 1048576)
def OpenSpec.upto (s : _root_.Go.ChangeSpec) : _root_.Go.OpenSpec := { _root_.Go.OpenSpec.ofChange s with cond := some uptoSmall }

/-- 'wayfinderlaw05.SumBursts', WHERE WHAT IT READS IS OF BULK AT MOST 1048576: true; the input reads as it did. -/
def sumBurstsUptoRow : OpenClaim := { program := "yteajcneojclddaa", sum := "7131cd0059ef0d726e3749f24c4ea376cc472017655f43f2436fdc67c180612c", func := "wayfinder/wayfinderlaw05.SumBursts", spec := "sumBursts", apart := false, narrowed := true }
def SumBurstsUptoSaid : Prop := sumBurstsUptoRow.holds Try.pinned (OpenSpec.upto sumBurstsSpec)

/-- 'wayfinderlaw05.SumLinear', WHERE WHAT IT READS IS OF BULK AT MOST 1048576: true; the input reads as it did. -/
def sumLinearUptoRow : OpenClaim := { program := "yteajcneojclddaa", sum := "7131cd0059ef0d726e3749f24c4ea376cc472017655f43f2436fdc67c180612c", func := "wayfinder/wayfinderlaw05.SumLinear", spec := "sumLinear", apart := false, narrowed := true }
def SumLinearUptoSaid : Prop := sumLinearUptoRow.holds Try.pinned (OpenSpec.upto sumLinearSpec)

/-- 'wayfinderlaw05.SumBrackets', WHERE WHAT IT READS IS OF BULK AT MOST 1048576: true; the input reads as it did. -/
def sumBracketsUptoRow : OpenClaim := { program := "yteajcneojclddaa", sum := "7131cd0059ef0d726e3749f24c4ea376cc472017655f43f2436fdc67c180612c", func := "wayfinder/wayfinderlaw05.SumBrackets", spec := "sumBrackets", apart := false, narrowed := true }
def SumBracketsUptoSaid : Prop := sumBracketsUptoRow.holds Try.pinned (OpenSpec.upto sumBracketsSpec)

/-- 'wayfinderlaw05.SumNames', WHERE WHAT IT READS IS OF BULK AT MOST 1048576: true; the input reads as it did. -/
def sumNamesUptoRow : OpenClaim := { program := "yteajcneojclddaa", sum := "7131cd0059ef0d726e3749f24c4ea376cc472017655f43f2436fdc67c180612c", func := "wayfinder/wayfinderlaw05.SumNames", spec := "sumNames", apart := false, narrowed := true }
def SumNamesUptoSaid : Prop := sumNamesUptoRow.holds Try.pinned (OpenSpec.upto sumNamesSpec)

/-- 'wayfinderlaw05.SumCalls', WHERE WHAT IT READS IS OF BULK AT MOST 1048576: true; the input reads as it did. -/
def sumCallsUptoRow : OpenClaim := { program := "yteajcneojclddaa", sum := "7131cd0059ef0d726e3749f24c4ea376cc472017655f43f2436fdc67c180612c", func := "wayfinder/wayfinderlaw05.SumCalls", spec := "sumCalls", apart := false, narrowed := true }
def SumCallsUptoSaid : Prop := sumCallsUptoRow.holds Try.pinned (OpenSpec.upto sumCallsSpec)

/-- 'wayfinderlaw05.SumJoins', WHERE WHAT IT READS IS OF BULK AT MOST 1048576: true; the input reads as it did. -/
def sumJoinsUptoRow : OpenClaim := { program := "yteajcneojclddaa", sum := "7131cd0059ef0d726e3749f24c4ea376cc472017655f43f2436fdc67c180612c", func := "wayfinder/wayfinderlaw05.SumJoins", spec := "sumJoins", apart := false, narrowed := true }
def SumJoinsUptoSaid : Prop := sumJoinsUptoRow.holds Try.pinned (OpenSpec.upto sumJoinsSpec)

end Rows
end Go.Proofs.Yteajcneojclddaa
