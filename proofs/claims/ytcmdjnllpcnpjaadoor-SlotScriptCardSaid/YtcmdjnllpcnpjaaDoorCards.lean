/-
  DERIVED. GIVEN WITH THE SEED: THE CARDS: each row of YtcmdjnllpcnpjaaDoorRows.lean that lists a variable, with what it lists TIED to the program's text (the seventh form; the later family's looks); each row that meets fmt, with fmt's text TOLD by the authors' own Lean function (tested against real Go, not proved from fmt's source: count such statements apart). THE CARD IS WHAT COUNTS. Prove the row's statement (the work); the ties are given (YtcmdjnllpcnpjaaDoorTie.lean); close each card by the builder's one call (the guide's Derived/Test/ToyasCard.lean, 'card_holds'). Laid BY PROGRAM, IN A SANDBOX (cutbox-door.mjs). By AI agents, Wed Nov 11 2026. No macro, syntax, notation, axiom, sorry.
-/
import Derived.Test.YtcmdjnllpcnpjaaDoorRows
import GoSem.ClaimSeven
namespace Go.Proofs.YtcmdjnllpcnpjaaDoor
namespace Rows

/-- THE TIED CARD OF 'wayfinderlaw09.SlotLow'. -/
def slotLowCard : Claim7 := { stood := { row := slotLowRow, standIns := [], harness := (true, "7b38d63417c2c61ec48316213a80a816feee93acd9e229fce14201f29e9776ac"), looks := false }, kinds := [], alts := [], laidByText := true, laidKinds := [.data], laidTests := true, laidLooks := .later }
def SlotLowCardSaid : Prop := Claim7.holds Tryd.pinned (.plain (OpenSpec.ofChange slotLowSpec)) slotLowCard

/-- THE TIED CARD OF 'wayfinderlaw09.SlotKeeps'. -/
def slotKeepsCard : Claim7 := { stood := { row := slotKeepsRow, standIns := [], harness := (true, "7b38d63417c2c61ec48316213a80a816feee93acd9e229fce14201f29e9776ac"), looks := false }, kinds := [], alts := [], laidByText := true, laidKinds := [.data], laidTests := true, laidLooks := .later }
def SlotKeepsCardSaid : Prop := Claim7.holds Tryd.pinned (.plain (OpenSpec.ofChange slotKeepsSpec)) slotKeepsCard

/-- THE TIED CARD OF 'wayfinderlaw09.SlotNames'. -/
def slotNamesCard : Claim7 := { stood := { row := slotNamesRow, standIns := [], harness := (true, "7b38d63417c2c61ec48316213a80a816feee93acd9e229fce14201f29e9776ac"), looks := false }, kinds := [], alts := [], laidByText := true, laidKinds := [.data], laidTests := true, laidLooks := .later }
def SlotNamesCardSaid : Prop := Claim7.holds Tryd.pinned (.plain (OpenSpec.ofChange slotNamesSpec)) slotNamesCard

/-- THE TIED CARD OF 'wayfinderlaw09.SlotScript'. -/
def slotScriptCard : Claim7 := { stood := { row := slotScriptRow, standIns := [], harness := (true, "7b38d63417c2c61ec48316213a80a816feee93acd9e229fce14201f29e9776ac"), looks := false }, kinds := [], alts := [], laidByText := true, laidKinds := [.data], laidTests := true, laidLooks := .later }
def SlotScriptCardSaid : Prop := Claim7.holds Tryd.pinned (.plain (OpenSpec.ofChange slotScriptSpec)) slotScriptCard

/-- THE TIED CARD OF 'wayfinderlaw09.SlotNil'. -/
def slotNilCard : Claim7 := { stood := { row := slotNilRow, standIns := [], harness := (true, "7b38d63417c2c61ec48316213a80a816feee93acd9e229fce14201f29e9776ac"), looks := false }, kinds := [], alts := [], laidByText := true, laidKinds := [.data], laidTests := true, laidLooks := .later }
def SlotNilCardSaid : Prop := Claim7.holds Tryd.pinned (.plain (OpenSpec.ofChange slotNilSpec)) slotNilCard

/-- THE SECOND FORM's CARD OF 'wayfinderlaw09.SlotLow'. -/
def slotLowUptoCard : Claim7 := { stood := { row := slotLowUptoRow, standIns := [], harness := (true, "7b38d63417c2c61ec48316213a80a816feee93acd9e229fce14201f29e9776ac"), looks := false }, kinds := [], alts := [], laidByText := true, laidKinds := [.data], laidTests := true, laidLooks := .later }
def SlotLowUptoCardSaid : Prop := Claim7.holds Tryd.pinned (.plain (OpenSpec.upto slotLowSpec)) slotLowUptoCard

/-- THE SECOND FORM's CARD OF 'wayfinderlaw09.SlotKeeps'. -/
def slotKeepsUptoCard : Claim7 := { stood := { row := slotKeepsUptoRow, standIns := [], harness := (true, "7b38d63417c2c61ec48316213a80a816feee93acd9e229fce14201f29e9776ac"), looks := false }, kinds := [], alts := [], laidByText := true, laidKinds := [.data], laidTests := true, laidLooks := .later }
def SlotKeepsUptoCardSaid : Prop := Claim7.holds Tryd.pinned (.plain (OpenSpec.upto slotKeepsSpec)) slotKeepsUptoCard

/-- THE SECOND FORM's CARD OF 'wayfinderlaw09.SlotNames'. -/
def slotNamesUptoCard : Claim7 := { stood := { row := slotNamesUptoRow, standIns := [], harness := (true, "7b38d63417c2c61ec48316213a80a816feee93acd9e229fce14201f29e9776ac"), looks := false }, kinds := [], alts := [], laidByText := true, laidKinds := [.data], laidTests := true, laidLooks := .later }
def SlotNamesUptoCardSaid : Prop := Claim7.holds Tryd.pinned (.plain (OpenSpec.upto slotNamesSpec)) slotNamesUptoCard

/-- THE SECOND FORM's CARD OF 'wayfinderlaw09.SlotScript'. -/
def slotScriptUptoCard : Claim7 := { stood := { row := slotScriptUptoRow, standIns := [], harness := (true, "7b38d63417c2c61ec48316213a80a816feee93acd9e229fce14201f29e9776ac"), looks := false }, kinds := [], alts := [], laidByText := true, laidKinds := [.data], laidTests := true, laidLooks := .later }
def SlotScriptUptoCardSaid : Prop := Claim7.holds Tryd.pinned (.plain (OpenSpec.upto slotScriptSpec)) slotScriptUptoCard

/-- THE SECOND FORM's CARD OF 'wayfinderlaw09.SlotNil'. -/
def slotNilUptoCard : Claim7 := { stood := { row := slotNilUptoRow, standIns := [], harness := (true, "7b38d63417c2c61ec48316213a80a816feee93acd9e229fce14201f29e9776ac"), looks := false }, kinds := [], alts := [], laidByText := true, laidKinds := [.data], laidTests := true, laidLooks := .later }
def SlotNilUptoCardSaid : Prop := Claim7.holds Tryd.pinned (.plain (OpenSpec.upto slotNilSpec)) slotNilUptoCard
end Rows
end Go.Proofs.YtcmdjnllpcnpjaaDoor
