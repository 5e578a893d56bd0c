/-
  DERIVED. GIVEN WITH THE SEED: THE CARDS: each row of YtmhikcleekfbpaaGreatDoorRows.lean that lists a variable, with what it lists TIED to the program's text (the seventh form; the later family's looks); each row that meets fmt, with fmt's text TOLD by the authors' own Lean function (tested against real Go, not proved from fmt's source: count such statements apart). THE CARD IS WHAT COUNTS. Prove the row's statement (the work); the ties are given (YtmhikcleekfbpaaGreatDoorTie.lean); close each card by the builder's one call (the guide's Derived/Test/ToyasCard.lean, 'card_holds'). Laid BY PROGRAM, IN A SANDBOX (cutbox-door.mjs). By AI agents, Wed Nov 11 2026. No macro, syntax, notation, axiom, sorry.
-/
import Derived.Test.YtmhikcleekfbpaaGreatDoorRows
import GoSem.ClaimSeven
namespace Go.Proofs.YtmhikcleekfbpaaGreatDoor
namespace Rows

/-- THE TIED CARD OF 'twistlocklaw14.SegregateTells'. -/
def segregateTellsCard : Claim7 := { stood := { row := segregateTellsRow, standIns := [], harness := (true, "5e7fb83f8cf29e2736d2e705ba2da376a2e8bdc1c4386a30fae2d9ef93002fe2"), looks := false }, kinds := [], alts := [], laidByText := true, laidKinds := [.data, .data], laidTests := true, laidLooks := .later }
def SegregateTellsCardSaid : Prop := Claim7.holds Tryz.pinned (.plain (OpenSpec.ofChange segregateTellsSpec)) segregateTellsCard

/-- THE SECOND FORM's CARD OF 'twistlocklaw14.SegregateTells'. -/
def segregateTellsUptoCard : Claim7 := { stood := { row := segregateTellsUptoRow, standIns := [], harness := (true, "5e7fb83f8cf29e2736d2e705ba2da376a2e8bdc1c4386a30fae2d9ef93002fe2"), looks := false }, kinds := [], alts := [], laidByText := true, laidKinds := [.data, .data], laidTests := true, laidLooks := .later }
def SegregateTellsUptoCardSaid : Prop := Claim7.holds Tryz.pinned (.plain (OpenSpec.upto segregateTellsSpec)) segregateTellsUptoCard
end Rows
end Go.Proofs.YtmhikcleekfbpaaGreatDoor
