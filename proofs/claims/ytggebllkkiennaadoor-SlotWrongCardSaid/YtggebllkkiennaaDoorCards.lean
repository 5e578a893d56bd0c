/-
  DERIVED. GIVEN WITH THE SEED: THE CARDS: each row of YtggebllkkiennaaDoorRows.lean that lists a variable, with what it lists TIED to the program's text (the seventh form; the later family's looks); each row that meets fmt, with fmt's text TOLD by the authors' own Lean function (tested against real Go, not proved from fmt's source: count such statements apart). THE CARD IS WHAT COUNTS. Prove the row's statement (the work); the ties are given (YtggebllkkiennaaDoorTie.lean); close each card by the builder's one call (the guide's Derived/Test/ToyasCard.lean, 'card_holds'). Laid BY PROGRAM, IN A SANDBOX (cutbox-door.mjs). By AI agents, Wed Nov 11 2026. No macro, syntax, notation, axiom, sorry.
-/
import Derived.Test.YtggebllkkiennaaDoorRows
import GoSem.ClaimSeven
namespace Go.Proofs.YtggebllkkiennaaDoor
namespace Rows

/-- THE TIED CARD OF 'twistlocklaw08.SlotNames'. -/
def slotNamesCard : Claim7 := { stood := { row := slotNamesRow, standIns := [], harness := (true, "ad4a6fecfb1b5c2d9472760b50b6337824b778f3e330b6b988262b52b3852c2f"), looks := false }, kinds := [], alts := [], laidByText := true, laidKinds := [.widerDeep], laidTests := true, laidLooks := .later }
def SlotNamesCardSaid : Prop := Claim7.holds Tryd.pinned (.plain (OpenSpec.ofChange slotNamesSpec)) slotNamesCard

/-- THE TIED CARD OF 'twistlocklaw08.SlotBack'. -/
def slotBackCard : Claim7 := { stood := { row := slotBackRow, standIns := [], harness := (true, "ad4a6fecfb1b5c2d9472760b50b6337824b778f3e330b6b988262b52b3852c2f"), looks := false }, kinds := [], alts := [], laidByText := true, laidKinds := [.widerDeep], laidTests := true, laidLooks := .later }
def SlotBackCardSaid : Prop := Claim7.holds Tryd.pinned (.plain (OpenSpec.ofChange slotBackSpec)) slotBackCard

/-- THE TIED CARD OF 'twistlocklaw08.SlotAll'. -/
def slotAllCard : Claim7 := { stood := { row := slotAllRow, standIns := [], harness := (true, "ad4a6fecfb1b5c2d9472760b50b6337824b778f3e330b6b988262b52b3852c2f"), looks := false }, kinds := [], alts := [], laidByText := true, laidKinds := [.widerDeep], laidTests := true, laidLooks := .later }
def SlotAllCardSaid : Prop := Claim7.holds Tryd.pinned (.plain (OpenSpec.ofChange slotAllSpec)) slotAllCard

/-- THE TIED CARD OF 'twistlocklaw08.SlotHeld'. -/
def slotHeldCard : Claim7 := { stood := { row := slotHeldRow, standIns := [], harness := (true, "ad4a6fecfb1b5c2d9472760b50b6337824b778f3e330b6b988262b52b3852c2f"), looks := false }, kinds := [], alts := [], laidByText := true, laidKinds := [.widerDeep], laidTests := true, laidLooks := .later }
def SlotHeldCardSaid : Prop := Claim7.holds Tryd.pinned (.plain (OpenSpec.ofChange slotHeldSpec)) slotHeldCard

/-- THE TIED CARD OF 'twistlocklaw08.SlotWrong'. -/
def slotWrongCard : Claim7 := { stood := { row := slotWrongRow, standIns := [], harness := (true, "ad4a6fecfb1b5c2d9472760b50b6337824b778f3e330b6b988262b52b3852c2f"), looks := false }, kinds := [], alts := [], laidByText := true, laidKinds := [.widerDeep], laidTests := true, laidLooks := .later }
def SlotWrongCardSaid : Prop := Claim7.holds Tryd.pinned (.plain (OpenSpec.ofChange slotWrongSpec)) slotWrongCard

/-- THE TIED CARD OF 'twistlocklaw08.SlotTells'. -/
def slotTellsCard : Claim7 := { stood := { row := slotTellsRow, standIns := [], harness := (true, "ad4a6fecfb1b5c2d9472760b50b6337824b778f3e330b6b988262b52b3852c2f"), looks := false }, kinds := [], alts := [], laidByText := true, laidKinds := [.widerDeep], laidTests := true, laidLooks := .later }
def SlotTellsCardSaid : Prop := Claim7.holds Tryd.pinned (.plain (OpenSpec.ofChange slotTellsSpec)) slotTellsCard

/-- THE TIED CARD OF 'twistlocklaw08.SlotOrder'. -/
def slotOrderCard : Claim7 := { stood := { row := slotOrderRow, standIns := [], harness := (true, "ad4a6fecfb1b5c2d9472760b50b6337824b778f3e330b6b988262b52b3852c2f"), looks := false }, kinds := [], alts := [], laidByText := true, laidKinds := [.widerDeep], laidTests := true, laidLooks := .later }
def SlotOrderCardSaid : Prop := Claim7.holds Tryd.pinned (.plain (OpenSpec.ofChange slotOrderSpec)) slotOrderCard

/-- THE SECOND FORM's CARD OF 'twistlocklaw08.SlotNames'. -/
def slotNamesUptoCard : Claim7 := { stood := { row := slotNamesUptoRow, standIns := [], harness := (true, "ad4a6fecfb1b5c2d9472760b50b6337824b778f3e330b6b988262b52b3852c2f"), looks := false }, kinds := [], alts := [], laidByText := true, laidKinds := [.widerDeep], laidTests := true, laidLooks := .later }
def SlotNamesUptoCardSaid : Prop := Claim7.holds Tryd.pinned (.plain (OpenSpec.upto slotNamesSpec)) slotNamesUptoCard

/-- THE SECOND FORM's CARD OF 'twistlocklaw08.SlotBack'. -/
def slotBackUptoCard : Claim7 := { stood := { row := slotBackUptoRow, standIns := [], harness := (true, "ad4a6fecfb1b5c2d9472760b50b6337824b778f3e330b6b988262b52b3852c2f"), looks := false }, kinds := [], alts := [], laidByText := true, laidKinds := [.widerDeep], laidTests := true, laidLooks := .later }
def SlotBackUptoCardSaid : Prop := Claim7.holds Tryd.pinned (.plain (OpenSpec.upto slotBackSpec)) slotBackUptoCard

/-- THE SECOND FORM's CARD OF 'twistlocklaw08.SlotAll'. -/
def slotAllUptoCard : Claim7 := { stood := { row := slotAllUptoRow, standIns := [], harness := (true, "ad4a6fecfb1b5c2d9472760b50b6337824b778f3e330b6b988262b52b3852c2f"), looks := false }, kinds := [], alts := [], laidByText := true, laidKinds := [.widerDeep], laidTests := true, laidLooks := .later }
def SlotAllUptoCardSaid : Prop := Claim7.holds Tryd.pinned (.plain (OpenSpec.upto slotAllSpec)) slotAllUptoCard

/-- THE SECOND FORM's CARD OF 'twistlocklaw08.SlotHeld'. -/
def slotHeldUptoCard : Claim7 := { stood := { row := slotHeldUptoRow, standIns := [], harness := (true, "ad4a6fecfb1b5c2d9472760b50b6337824b778f3e330b6b988262b52b3852c2f"), looks := false }, kinds := [], alts := [], laidByText := true, laidKinds := [.widerDeep], laidTests := true, laidLooks := .later }
def SlotHeldUptoCardSaid : Prop := Claim7.holds Tryd.pinned (.plain (OpenSpec.upto slotHeldSpec)) slotHeldUptoCard

/-- THE SECOND FORM's CARD OF 'twistlocklaw08.SlotWrong'. -/
def slotWrongUptoCard : Claim7 := { stood := { row := slotWrongUptoRow, standIns := [], harness := (true, "ad4a6fecfb1b5c2d9472760b50b6337824b778f3e330b6b988262b52b3852c2f"), looks := false }, kinds := [], alts := [], laidByText := true, laidKinds := [.widerDeep], laidTests := true, laidLooks := .later }
def SlotWrongUptoCardSaid : Prop := Claim7.holds Tryd.pinned (.plain (OpenSpec.upto slotWrongSpec)) slotWrongUptoCard

/-- THE SECOND FORM's CARD OF 'twistlocklaw08.SlotTells'. -/
def slotTellsUptoCard : Claim7 := { stood := { row := slotTellsUptoRow, standIns := [], harness := (true, "ad4a6fecfb1b5c2d9472760b50b6337824b778f3e330b6b988262b52b3852c2f"), looks := false }, kinds := [], alts := [], laidByText := true, laidKinds := [.widerDeep], laidTests := true, laidLooks := .later }
def SlotTellsUptoCardSaid : Prop := Claim7.holds Tryd.pinned (.plain (OpenSpec.upto slotTellsSpec)) slotTellsUptoCard

/-- THE SECOND FORM's CARD OF 'twistlocklaw08.SlotOrder'. -/
def slotOrderUptoCard : Claim7 := { stood := { row := slotOrderUptoRow, standIns := [], harness := (true, "ad4a6fecfb1b5c2d9472760b50b6337824b778f3e330b6b988262b52b3852c2f"), looks := false }, kinds := [], alts := [], laidByText := true, laidKinds := [.widerDeep], laidTests := true, laidLooks := .later }
def SlotOrderUptoCardSaid : Prop := Claim7.holds Tryd.pinned (.plain (OpenSpec.upto slotOrderSpec)) slotOrderUptoCard
end Rows
end Go.Proofs.YtggebllkkiennaaDoor
