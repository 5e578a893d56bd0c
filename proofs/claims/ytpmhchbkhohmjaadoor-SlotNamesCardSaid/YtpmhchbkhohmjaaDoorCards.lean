/-
  DERIVED. GIVEN WITH THE SEED: THE CARDS: each row of YtpmhchbkhohmjaaDoorRows.lean that lists a variable, with what it lists TIED to the program's text (the seventh form; the later family's looks); each row that meets fmt, with fmt's text TOLD by the authors' own Lean function (tested against real Go, not proved from fmt's source: count such statements apart). THE CARD IS WHAT COUNTS. Prove the row's statement (the work); the ties are given (YtpmhchbkhohmjaaDoorTie.lean); close each card by the builder's one call (the guide's Derived/Test/ToyasCard.lean, 'card_holds'). Laid BY PROGRAM, IN A SANDBOX (cutbox-door.mjs). By AI agents, Wed Nov 11 2026. No macro, syntax, notation, axiom, sorry.
-/
import Derived.Test.YtpmhchbkhohmjaaDoorRows
import GoSem.ClaimSeven
namespace Go.Proofs.YtpmhchbkhohmjaaDoor
namespace Rows

/-- THE TIED CARD OF 'twistlocklaw08.SlotNames'. -/
def slotNamesCard : Claim7 := { stood := { row := slotNamesRow, standIns := [], harness := (true, "d49971d164b40734bd2ea359577b06a59c46badfcf37cda80d5cd9a318e6a452"), looks := false }, kinds := [], alts := [], laidByText := true, laidKinds := [.widerDeep], laidTests := true, laidLooks := .later }
def SlotNamesCardSaid : Prop := Claim7.holds Tryd.pinned (.plain (OpenSpec.ofChange slotNamesSpec)) slotNamesCard

/-- THE TIED CARD OF 'twistlocklaw08.SlotTells'. -/
def slotTellsCard : Claim7 := { stood := { row := slotTellsRow, standIns := [], harness := (true, "d49971d164b40734bd2ea359577b06a59c46badfcf37cda80d5cd9a318e6a452"), looks := false }, kinds := [], alts := [], laidByText := true, laidKinds := [.widerDeep], laidTests := true, laidLooks := .later }
def SlotTellsCardSaid : Prop := Claim7.holds Tryd.pinned (.plain (OpenSpec.ofChange slotTellsSpec)) slotTellsCard

/-- THE SECOND FORM's CARD OF 'twistlocklaw08.SlotNames'. -/
def slotNamesUptoCard : Claim7 := { stood := { row := slotNamesUptoRow, standIns := [], harness := (true, "d49971d164b40734bd2ea359577b06a59c46badfcf37cda80d5cd9a318e6a452"), looks := false }, kinds := [], alts := [], laidByText := true, laidKinds := [.widerDeep], laidTests := true, laidLooks := .later }
def SlotNamesUptoCardSaid : Prop := Claim7.holds Tryd.pinned (.plain (OpenSpec.upto slotNamesSpec)) slotNamesUptoCard

/-- THE SECOND FORM's CARD OF 'twistlocklaw08.SlotTells'. -/
def slotTellsUptoCard : Claim7 := { stood := { row := slotTellsUptoRow, standIns := [], harness := (true, "d49971d164b40734bd2ea359577b06a59c46badfcf37cda80d5cd9a318e6a452"), looks := false }, kinds := [], alts := [], laidByText := true, laidKinds := [.widerDeep], laidTests := true, laidLooks := .later }
def SlotTellsUptoCardSaid : Prop := Claim7.holds Tryd.pinned (.plain (OpenSpec.upto slotTellsSpec)) slotTellsUptoCard
end Rows
end Go.Proofs.YtpmhchbkhohmjaaDoor
