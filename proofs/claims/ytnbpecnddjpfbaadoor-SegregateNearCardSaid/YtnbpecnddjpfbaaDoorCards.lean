/-
  DERIVED. GIVEN WITH THE SEED: THE CARDS: each row of YtnbpecnddjpfbaaDoorRows.lean that lists a variable, with what it lists TIED to the program's text (the seventh form; the later family's looks); each row that meets fmt, with fmt's text TOLD by the authors' own Lean function (tested against real Go, not proved from fmt's source: count such statements apart). THE CARD IS WHAT COUNTS. Prove the row's statement (the work); the ties are given (YtnbpecnddjpfbaaDoorTie.lean); close each card by the builder's one call (the guide's Derived/Test/ToyasCard.lean, 'card_holds'). Laid BY PROGRAM, IN A SANDBOX (cutbox-door.mjs). By AI agents, Wed Nov 11 2026. No macro, syntax, notation, axiom, sorry.
-/
import Derived.Test.YtnbpecnddjpfbaaDoorRows
import GoSem.ClaimSeven
namespace Go.Proofs.YtnbpecnddjpfbaaDoor
namespace Rows

/-- THE TIED CARD OF 'twistlocklaw14.SegregateSmall'. -/
def segregateSmallCard : Claim7 := { stood := { row := segregateSmallRow, standIns := [], harness := (true, "7e76c437cde06c6fb2aa17e35184e593a16daada8047fa7a0fc6778d88a1c330"), looks := false }, kinds := [], alts := [], laidByText := true, laidKinds := [.data, .data], laidTests := true, laidLooks := .later }
def SegregateSmallCardSaid : Prop := Claim7.holds Tryd.pinned (.plain (OpenSpec.ofChange segregateSmallSpec)) segregateSmallCard

/-- THE TIED CARD OF 'twistlocklaw14.SegregateFree'. -/
def segregateFreeCard : Claim7 := { stood := { row := segregateFreeRow, standIns := [], harness := (true, "7e76c437cde06c6fb2aa17e35184e593a16daada8047fa7a0fc6778d88a1c330"), looks := false }, kinds := [], alts := [], laidByText := true, laidKinds := [.data, .data], laidTests := true, laidLooks := .later }
def SegregateFreeCardSaid : Prop := Claim7.holds Tryd.pinned (.plain (OpenSpec.ofChange segregateFreeSpec)) segregateFreeCard

/-- THE TIED CARD OF 'twistlocklaw14.SegregateNear'. -/
def segregateNearCard : Claim7 := { stood := { row := segregateNearRow, standIns := [], harness := (true, "7e76c437cde06c6fb2aa17e35184e593a16daada8047fa7a0fc6778d88a1c330"), looks := false }, kinds := [], alts := [], laidByText := true, laidKinds := [.data, .data], laidTests := true, laidLooks := .later }
def SegregateNearCardSaid : Prop := Claim7.holds Tryd.pinned (.plain (OpenSpec.ofChange segregateNearSpec)) segregateNearCard

/-- THE TIED CARD OF 'twistlocklaw14.SegregateOrder'. -/
def segregateOrderCard : Claim7 := { stood := { row := segregateOrderRow, standIns := [], harness := (true, "7e76c437cde06c6fb2aa17e35184e593a16daada8047fa7a0fc6778d88a1c330"), looks := false }, kinds := [], alts := [], laidByText := true, laidKinds := [.data, .data], laidTests := true, laidLooks := .later }
def SegregateOrderCardSaid : Prop := Claim7.holds Tryd.pinned (.plain (OpenSpec.ofChange segregateOrderSpec)) segregateOrderCard

/-- THE TIED CARD OF 'twistlocklaw14.SegregateLess'. -/
def segregateLessCard : Claim7 := { stood := { row := segregateLessRow, standIns := [], harness := (true, "7e76c437cde06c6fb2aa17e35184e593a16daada8047fa7a0fc6778d88a1c330"), looks := false }, kinds := [], alts := [], laidByText := true, laidKinds := [.data, .data], laidTests := true, laidLooks := .later }
def SegregateLessCardSaid : Prop := Claim7.holds Tryd.pinned (.plain (OpenSpec.ofChange segregateLessSpec)) segregateLessCard

/-- THE TIED CARD OF 'twistlocklaw14.SegregatePairs'. -/
def segregatePairsCard : Claim7 := { stood := { row := segregatePairsRow, standIns := [], harness := (true, "7e76c437cde06c6fb2aa17e35184e593a16daada8047fa7a0fc6778d88a1c330"), looks := false }, kinds := [], alts := [], laidByText := true, laidKinds := [.data, .data], laidTests := true, laidLooks := .later }
def SegregatePairsCardSaid : Prop := Claim7.holds Tryd.pinned (.plain (OpenSpec.ofChange segregatePairsSpec)) segregatePairsCard

/-- THE SECOND FORM's CARD OF 'twistlocklaw14.SegregateSmall'. -/
def segregateSmallUptoCard : Claim7 := { stood := { row := segregateSmallUptoRow, standIns := [], harness := (true, "7e76c437cde06c6fb2aa17e35184e593a16daada8047fa7a0fc6778d88a1c330"), looks := false }, kinds := [], alts := [], laidByText := true, laidKinds := [.data, .data], laidTests := true, laidLooks := .later }
def SegregateSmallUptoCardSaid : Prop := Claim7.holds Tryd.pinned (.plain (OpenSpec.upto segregateSmallSpec)) segregateSmallUptoCard

/-- THE SECOND FORM's CARD OF 'twistlocklaw14.SegregateFree'. -/
def segregateFreeUptoCard : Claim7 := { stood := { row := segregateFreeUptoRow, standIns := [], harness := (true, "7e76c437cde06c6fb2aa17e35184e593a16daada8047fa7a0fc6778d88a1c330"), looks := false }, kinds := [], alts := [], laidByText := true, laidKinds := [.data, .data], laidTests := true, laidLooks := .later }
def SegregateFreeUptoCardSaid : Prop := Claim7.holds Tryd.pinned (.plain (OpenSpec.upto segregateFreeSpec)) segregateFreeUptoCard

/-- THE SECOND FORM's CARD OF 'twistlocklaw14.SegregateNear'. -/
def segregateNearUptoCard : Claim7 := { stood := { row := segregateNearUptoRow, standIns := [], harness := (true, "7e76c437cde06c6fb2aa17e35184e593a16daada8047fa7a0fc6778d88a1c330"), looks := false }, kinds := [], alts := [], laidByText := true, laidKinds := [.data, .data], laidTests := true, laidLooks := .later }
def SegregateNearUptoCardSaid : Prop := Claim7.holds Tryd.pinned (.plain (OpenSpec.upto segregateNearSpec)) segregateNearUptoCard

/-- THE SECOND FORM's CARD OF 'twistlocklaw14.SegregateOrder'. -/
def segregateOrderUptoCard : Claim7 := { stood := { row := segregateOrderUptoRow, standIns := [], harness := (true, "7e76c437cde06c6fb2aa17e35184e593a16daada8047fa7a0fc6778d88a1c330"), looks := false }, kinds := [], alts := [], laidByText := true, laidKinds := [.data, .data], laidTests := true, laidLooks := .later }
def SegregateOrderUptoCardSaid : Prop := Claim7.holds Tryd.pinned (.plain (OpenSpec.upto segregateOrderSpec)) segregateOrderUptoCard

/-- THE SECOND FORM's CARD OF 'twistlocklaw14.SegregateLess'. -/
def segregateLessUptoCard : Claim7 := { stood := { row := segregateLessUptoRow, standIns := [], harness := (true, "7e76c437cde06c6fb2aa17e35184e593a16daada8047fa7a0fc6778d88a1c330"), looks := false }, kinds := [], alts := [], laidByText := true, laidKinds := [.data, .data], laidTests := true, laidLooks := .later }
def SegregateLessUptoCardSaid : Prop := Claim7.holds Tryd.pinned (.plain (OpenSpec.upto segregateLessSpec)) segregateLessUptoCard

/-- THE SECOND FORM's CARD OF 'twistlocklaw14.SegregatePairs'. -/
def segregatePairsUptoCard : Claim7 := { stood := { row := segregatePairsUptoRow, standIns := [], harness := (true, "7e76c437cde06c6fb2aa17e35184e593a16daada8047fa7a0fc6778d88a1c330"), looks := false }, kinds := [], alts := [], laidByText := true, laidKinds := [.data, .data], laidTests := true, laidLooks := .later }
def SegregatePairsUptoCardSaid : Prop := Claim7.holds Tryd.pinned (.plain (OpenSpec.upto segregatePairsSpec)) segregatePairsUptoCard
end Rows
end Go.Proofs.YtnbpecnddjpfbaaDoor
