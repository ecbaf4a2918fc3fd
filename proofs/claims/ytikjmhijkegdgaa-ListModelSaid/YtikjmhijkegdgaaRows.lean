/-
  No cell of these rows narrows 'for every input' (looked for: loops, veiled, ifaces, maps, wideKeys, modest, calm, conditions, laid).
  DERIVED. THE GIVEN ROWS OF THIS SEAT. 5 by the template 'for every input the law returns true; each argument reads behind the call as it read before'; 0 by the template 'total and deterministic' (their statements: YtikjmhijkegdgaaTotals.lean).
  GIVEN WITH THE SEED: the statements are not yours to turn. If you find one false, say at which input.
  Laid BY PROGRAM, IN A SANDBOX (cutbox-rows.mjs): the forced cells as the released guide's own fill.sh prints them over the translation 2e2e13bccbb89f80… (all of the seat's roots in one cut). By AI agents, Wed Nov 11 2026. No macro, syntax, notation, axiom, sorry.
-/
import Derived.Test.YtikjmhijkegdgaaChecked
import GoSem.Claim
import GoSem.ClaimJoined
import GoSem.ClaimMapViews
import Derived.JoinedTies
import Derived.KernelRfl
namespace Go.Proofs.Ytikjmhijkegdgaa
/- THE CELL 'sum', in the pinned program and in every row, IS THE sha256 OF THE DUMP (.gsa) THAT YtikjmhijkegdgaaProg.lean LOADS. Nothing in Lean hashes anything: it is a label: what it is worth is what the hold of that sum in a sandbox is worth. -/
noncomputable def Try.pinned : Pinned := { name := "ytikjmhijkegdgaa", sum := "2e2e13bccbb89f801b9668c058df17ff80b824c2e8f6a7a6b6ccb4f3a5d74847", checked := Try.checked }
namespace Rows
def none {H : Type} : Left H := { results := [], args := [] }

/-- 'wayfinderlaw18.ListModel': WHATEVER THE INPUT: true; the input reads as it did. -/
def listModelSpec : ChangeSpec := { name := "listModel", fn := fun _ => fun
  | [d1, d2] => { results := [.lit (.bool true)], args := [d1, d2] }
  | _ => none }
def listModelRow : OpenClaim := { program := "ytikjmhijkegdgaa", sum := "2e2e13bccbb89f801b9668c058df17ff80b824c2e8f6a7a6b6ccb4f3a5d74847", func := "wayfinder/wayfinderlaw18.ListModel", spec := "listModel", unfollowed := true, recurses := true, apart := false }
def ListModelSaid : Prop := listModelRow.holds Try.pinned (OpenSpec.ofChange listModelSpec)

/-- ITS FALSE NEIGHBOUR: 'it returns false'. Refute it at one input. -/
def listModelWrong : ChangeSpec := { name := "listModel", fn := fun _ => fun
  | [d1, d2] => { results := [.lit (.bool false)], args := [d1, d2] }
  | _ => none }
def ListModelWrongFalsely : Prop := listModelRow.holds Try.pinned (OpenSpec.ofChange listModelWrong)

/-- 'wayfinderlaw18.ListClones': WHATEVER THE INPUT: true; the input reads as it did. -/
def listClonesSpec : ChangeSpec := { name := "listClones", fn := fun _ => fun
  | [d1, d2, d3] => { results := [.lit (.bool true)], args := [d1, d2, d3] }
  | _ => none }
def listClonesRow : OpenClaim := { program := "ytikjmhijkegdgaa", sum := "2e2e13bccbb89f801b9668c058df17ff80b824c2e8f6a7a6b6ccb4f3a5d74847", func := "wayfinder/wayfinderlaw18.ListClones", spec := "listClones", inPlace := ["maps.clone"], unfollowed := true, recurses := true, apart := false }
def ListClonesSaid : Prop := listClonesRow.holds Try.pinned (OpenSpec.ofChange listClonesSpec)

/-- ITS FALSE NEIGHBOUR: 'it returns false'. Refute it at one input. -/
def listClonesWrong : ChangeSpec := { name := "listClones", fn := fun _ => fun
  | [d1, d2, d3] => { results := [.lit (.bool false)], args := [d1, d2, d3] }
  | _ => none }
def ListClonesWrongFalsely : Prop := listClonesRow.holds Try.pinned (OpenSpec.ofChange listClonesWrong)

/-- 'wayfinderlaw18.ListNames': WHATEVER THE INPUT: true; the input reads as it did. -/
def listNamesSpec : ChangeSpec := { name := "listNames", fn := fun _ => fun
  | [] => { results := [.lit (.bool true)], args := [] }
  | _ => none }
def listNamesRow : OpenClaim := { program := "ytikjmhijkegdgaa", sum := "2e2e13bccbb89f801b9668c058df17ff80b824c2e8f6a7a6b6ccb4f3a5d74847", func := "wayfinder/wayfinderlaw18.ListNames", spec := "listNames", inPlace := ["maps.clone"], unfollowed := true, recurses := true, apart := false }
def ListNamesSaid : Prop := listNamesRow.holds Try.pinned (OpenSpec.ofChange listNamesSpec)

/-- ITS FALSE NEIGHBOUR: 'it returns false'. Refute it at one input. -/
def listNamesWrong : ChangeSpec := { name := "listNames", fn := fun _ => fun
  | [] => { results := [.lit (.bool false)], args := [] }
  | _ => none }
def ListNamesWrongFalsely : Prop := listNamesRow.holds Try.pinned (OpenSpec.ofChange listNamesWrong)

/-- 'wayfinderlaw18.ListScript': WHATEVER THE INPUT: true; the input reads as it did. -/
def listScriptSpec : ChangeSpec := { name := "listScript", fn := fun _ => fun
  | [d1, d2] => { results := [.lit (.bool true)], args := [d1, d2] }
  | _ => none }
def listScriptRow : OpenClaim := { program := "ytikjmhijkegdgaa", sum := "2e2e13bccbb89f801b9668c058df17ff80b824c2e8f6a7a6b6ccb4f3a5d74847", func := "wayfinder/wayfinderlaw18.ListScript", spec := "listScript", inPlace := ["maps.clone"], unfollowed := true, recurses := true, apart := false }
def ListScriptSaid : Prop := listScriptRow.holds Try.pinned (OpenSpec.ofChange listScriptSpec)

/-- ITS FALSE NEIGHBOUR: 'it returns false'. Refute it at one input. -/
def listScriptWrong : ChangeSpec := { name := "listScript", fn := fun _ => fun
  | [d1, d2] => { results := [.lit (.bool false)], args := [d1, d2] }
  | _ => none }
def ListScriptWrongFalsely : Prop := listScriptRow.holds Try.pinned (OpenSpec.ofChange listScriptWrong)

/-- 'wayfinderlaw18.ListNil': WHATEVER THE INPUT: true; the input reads as it did. -/
def listNilSpec : ChangeSpec := { name := "listNil", fn := fun _ => fun
  | [d] => { results := [.lit (.bool true)], args := [d] }
  | _ => none }
def listNilRow : OpenClaim := { program := "ytikjmhijkegdgaa", sum := "2e2e13bccbb89f801b9668c058df17ff80b824c2e8f6a7a6b6ccb4f3a5d74847", func := "wayfinder/wayfinderlaw18.ListNil", spec := "listNil", inPlace := ["maps.clone"], unfollowed := true, recurses := true, apart := false }
def ListNilSaid : Prop := listNilRow.holds Try.pinned (OpenSpec.ofChange listNilSpec)

/-- ITS FALSE NEIGHBOUR: 'it returns false'. Refute it at one input. -/
def listNilWrong : ChangeSpec := { name := "listNil", fn := fun _ => fun
  | [d] => { results := [.lit (.bool false)], args := [d] }
  | _ => none }
def ListNilWrongFalsely : Prop := listNilRow.holds Try.pinned (OpenSpec.ofChange listNilWrong)

/- THE SECOND FORM. 'bulk': how many values and letters a reading holds, each counted each time it is reached (what is shared counts as often as it is met; a slice's spare places count too). A statement '..UptoSaid' is the law's where the arguments, and the package variables that the reading takes, are together of bulk at most 1048576: NARROWER than '..Said'. Prove '..Said' where nothing that the law and all that it calls make is longer than what came in: it says more and counts as full. Else prove '..UptoSaid'. A law counts once. -/
mutual
def uptoBulk {H : Type} : DataW H → Nat
  | .lit (.string bytes) => bytes.length + 1
  | .lit _ => 1
  | .nil => 1
  | .ptr d => uptoBulk d + 1
  | .slice elems spare => uptoBulkAll elems + uptoBulkAll spare + 1
  | .agg parts => uptoBulkAll parts + 1
  | .iface _ d => uptoBulk d + 1
  | .map entries => uptoBulkEntries entries + 1
  | .held _ => 1
def uptoBulkAll {H : Type} : List (DataW H) → Nat
  | [] => 0
  | d :: r => uptoBulk d + uptoBulkAll r
def uptoBulkEntries {H : Type} : List (Lit × DataW H) → Nat
  | [] => 0
  | x :: r => uptoBulkEntry x + uptoBulkEntries r
def uptoBulkEntry {H : Type} : Lit × DataW H → Nat
  | (.string bytes, d) => bytes.length + uptoBulk d + 1
  | (_, d) => uptoBulk d + 1
 end
def uptoSmall : (H : Type) → List (DataW H) → Bool := fun _ ds => decide (uptoBulkAll ds ≤ 1048576)
def OpenSpec.upto (s : _root_.Go.ChangeSpec) : _root_.Go.OpenSpec := { _root_.Go.OpenSpec.ofChange s with cond := some uptoSmall }

/-- 'wayfinderlaw18.ListModel', WHERE WHAT IT READS IS OF BULK AT MOST 1048576: true; the input reads as it did. -/
def listModelUptoRow : OpenClaim := { program := "ytikjmhijkegdgaa", sum := "2e2e13bccbb89f801b9668c058df17ff80b824c2e8f6a7a6b6ccb4f3a5d74847", func := "wayfinder/wayfinderlaw18.ListModel", spec := "listModel", unfollowed := true, recurses := true, apart := false, narrowed := true }
def ListModelUptoSaid : Prop := listModelUptoRow.holds Try.pinned (OpenSpec.upto listModelSpec)

/-- 'wayfinderlaw18.ListClones', WHERE WHAT IT READS IS OF BULK AT MOST 1048576: true; the input reads as it did. -/
def listClonesUptoRow : OpenClaim := { program := "ytikjmhijkegdgaa", sum := "2e2e13bccbb89f801b9668c058df17ff80b824c2e8f6a7a6b6ccb4f3a5d74847", func := "wayfinder/wayfinderlaw18.ListClones", spec := "listClones", inPlace := ["maps.clone"], unfollowed := true, recurses := true, apart := false, narrowed := true }
def ListClonesUptoSaid : Prop := listClonesUptoRow.holds Try.pinned (OpenSpec.upto listClonesSpec)

/-- 'wayfinderlaw18.ListNames', WHERE WHAT IT READS IS OF BULK AT MOST 1048576: true; the input reads as it did. -/
def listNamesUptoRow : OpenClaim := { program := "ytikjmhijkegdgaa", sum := "2e2e13bccbb89f801b9668c058df17ff80b824c2e8f6a7a6b6ccb4f3a5d74847", func := "wayfinder/wayfinderlaw18.ListNames", spec := "listNames", inPlace := ["maps.clone"], unfollowed := true, recurses := true, apart := false, narrowed := true }
def ListNamesUptoSaid : Prop := listNamesUptoRow.holds Try.pinned (OpenSpec.upto listNamesSpec)

/-- 'wayfinderlaw18.ListScript', WHERE WHAT IT READS IS OF BULK AT MOST 1048576: true; the input reads as it did. -/
def listScriptUptoRow : OpenClaim := { program := "ytikjmhijkegdgaa", sum := "2e2e13bccbb89f801b9668c058df17ff80b824c2e8f6a7a6b6ccb4f3a5d74847", func := "wayfinder/wayfinderlaw18.ListScript", spec := "listScript", inPlace := ["maps.clone"], unfollowed := true, recurses := true, apart := false, narrowed := true }
def ListScriptUptoSaid : Prop := listScriptUptoRow.holds Try.pinned (OpenSpec.upto listScriptSpec)

/-- 'wayfinderlaw18.ListNil', WHERE WHAT IT READS IS OF BULK AT MOST 1048576: true; the input reads as it did. -/
def listNilUptoRow : OpenClaim := { program := "ytikjmhijkegdgaa", sum := "2e2e13bccbb89f801b9668c058df17ff80b824c2e8f6a7a6b6ccb4f3a5d74847", func := "wayfinder/wayfinderlaw18.ListNil", spec := "listNil", inPlace := ["maps.clone"], unfollowed := true, recurses := true, apart := false, narrowed := true }
def ListNilUptoSaid : Prop := listNilUptoRow.holds Try.pinned (OpenSpec.upto listNilSpec)

end Rows
end Go.Proofs.Ytikjmhijkegdgaa
