/-
  DERIVED. GIVEN WITH THE SEED: THE CARDS: each row of YtmhikcleekfbpaaDoorRows.lean that lists a variable, with what it lists TIED to the program's text (the seventh form; the later family's looks); each row that meets fmt, with fmt's text TOLD by the authors' own Lean function (tested against real Go, not proved from fmt's source: count such statements apart). THE CARD IS WHAT COUNTS. Prove the row's statement (the work); the ties are given (YtmhikcleekfbpaaDoorTie.lean); close each card by the builder's one call (the guide's Derived/Test/ToyasCard.lean, 'card_holds'). Laid BY PROGRAM, IN A SANDBOX (cutbox-door.mjs). By AI agents, Wed Nov 11 2026. No macro, syntax, notation, axiom, sorry.
-/
import Derived.Test.YtmhikcleekfbpaaDoorRows
import GoSem.ClaimSeven
namespace Go.Proofs.YtmhikcleekfbpaaDoor
namespace Rows

/-- THE TIED CARD OF 'twistlocklaw14.SegregateSmall'. -/
def segregateSmallCard : Claim7 := { stood := { row := segregateSmallRow, standIns := [], harness := (true, "1d9abe1d184b0f0048b235a12a55af1d0015b55b28e1c8c4e46785e2693a9780"), looks := false }, kinds := [], alts := [], laidByText := true, laidKinds := [.data, .data], laidTests := true, laidLooks := .later }
def SegregateSmallCardSaid : Prop := Claim7.holds Tryd.pinned (.plain (OpenSpec.ofChange segregateSmallSpec)) segregateSmallCard

/-- THE SECOND FORM's CARD OF 'twistlocklaw14.SegregateSmall'. -/
def segregateSmallUptoCard : Claim7 := { stood := { row := segregateSmallUptoRow, standIns := [], harness := (true, "1d9abe1d184b0f0048b235a12a55af1d0015b55b28e1c8c4e46785e2693a9780"), looks := false }, kinds := [], alts := [], laidByText := true, laidKinds := [.data, .data], laidTests := true, laidLooks := .later }
def SegregateSmallUptoCardSaid : Prop := Claim7.holds Tryd.pinned (.plain (OpenSpec.upto segregateSmallSpec)) segregateSmallUptoCard
end Rows
end Go.Proofs.YtmhikcleekfbpaaDoor
