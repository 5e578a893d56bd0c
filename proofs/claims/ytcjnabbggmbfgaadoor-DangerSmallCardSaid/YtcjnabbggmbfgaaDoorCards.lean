/-
  DERIVED. GIVEN WITH THE SEED: THE CARDS: each row of YtcjnabbggmbfgaaDoorRows.lean that lists a variable, with what it lists TIED to the program's text (the seventh form; the later family's looks); each row that meets fmt, with fmt's text TOLD by the authors' own Lean function (tested against real Go, not proved from fmt's source: count such statements apart). THE CARD IS WHAT COUNTS. Prove the row's statement (the work); the ties are given (YtcjnabbggmbfgaaDoorTie.lean); close each card by the builder's one call (the guide's Derived/Test/ToyasCard.lean, 'card_holds'). Laid BY PROGRAM, IN A SANDBOX (cutbox-door.mjs). By AI agents, Wed Nov 11 2026. No macro, syntax, notation, axiom, sorry.
-/
import Derived.Test.YtcjnabbggmbfgaaDoorRows
import GoSem.ClaimSeven
namespace Go.Proofs.YtcjnabbggmbfgaaDoor
namespace Rows

/-- THE TIED CARD OF 'twistlocklaw13.DangerDivides'. -/
def dangerDividesCard : Claim7 := { stood := { row := dangerDividesRow, standIns := [], harness := (true, "3a7b0f76cfcc85e02c5b0fe11fb56f13c8dc0256620c231a13b11bf0256b0c43"), looks := false }, kinds := [], alts := [], laidByText := true, laidKinds := [.data], laidTests := true, laidLooks := .later }
def DangerDividesCardSaid : Prop := Claim7.holds Tryd.pinned (.plain (OpenSpec.ofChange dangerDividesSpec)) dangerDividesCard

/-- THE TIED CARD OF 'twistlocklaw13.DangerClashes'. -/
def dangerClashesCard : Claim7 := { stood := { row := dangerClashesRow, standIns := [], harness := (true, "3a7b0f76cfcc85e02c5b0fe11fb56f13c8dc0256620c231a13b11bf0256b0c43"), looks := false }, kinds := [], alts := [], laidByText := true, laidKinds := [.data], laidTests := true, laidLooks := .later }
def DangerClashesCardSaid : Prop := Claim7.holds Tryd.pinned (.plain (OpenSpec.ofChange dangerClashesSpec)) dangerClashesCard

/-- THE TIED CARD OF 'twistlocklaw13.DangerGrows'. -/
def dangerGrowsCard : Claim7 := { stood := { row := dangerGrowsRow, standIns := [], harness := (true, "3a7b0f76cfcc85e02c5b0fe11fb56f13c8dc0256620c231a13b11bf0256b0c43"), looks := false }, kinds := [], alts := [], laidByText := true, laidKinds := [.data], laidTests := true, laidLooks := .later }
def DangerGrowsCardSaid : Prop := Claim7.holds Tryd.pinned (.plain (OpenSpec.ofChange dangerGrowsSpec)) dangerGrowsCard

/-- THE TIED CARD OF 'twistlocklaw13.DangerTells'. -/
def dangerTellsCard : Claim7 := { stood := { row := dangerTellsRow, standIns := [], harness := (true, "3a7b0f76cfcc85e02c5b0fe11fb56f13c8dc0256620c231a13b11bf0256b0c43"), looks := false }, kinds := [], alts := [], laidByText := true, laidKinds := [.data, .data], laidTests := true, laidLooks := .later }
def DangerTellsCardSaid : Prop := Claim7.holds Tryd.pinned (.plain (OpenSpec.ofChange dangerTellsSpec)) dangerTellsCard

/-- THE TIED CARD OF 'twistlocklaw13.DangerSmall'. -/
def dangerSmallCard : Claim7 := { stood := { row := dangerSmallRow, standIns := [], harness := (true, "3a7b0f76cfcc85e02c5b0fe11fb56f13c8dc0256620c231a13b11bf0256b0c43"), looks := false }, kinds := [], alts := [], laidByText := true, laidKinds := [.data, .data], laidTests := true, laidLooks := .later }
def DangerSmallCardSaid : Prop := Claim7.holds Tryd.pinned (.plain (OpenSpec.ofChange dangerSmallSpec)) dangerSmallCard

/-- THE TIED CARD OF 'twistlocklaw13.DangerCodes'. -/
def dangerCodesCard : Claim7 := { stood := { row := dangerCodesRow, standIns := [], harness := (true, "3a7b0f76cfcc85e02c5b0fe11fb56f13c8dc0256620c231a13b11bf0256b0c43"), looks := false }, kinds := [], alts := [], laidByText := true, laidKinds := [.data, .data], laidTests := true, laidLooks := .later }
def DangerCodesCardSaid : Prop := Claim7.holds Tryd.pinned (.plain (OpenSpec.ofChange dangerCodesSpec)) dangerCodesCard

/-- THE SECOND FORM's CARD OF 'twistlocklaw13.DangerDivides'. -/
def dangerDividesUptoCard : Claim7 := { stood := { row := dangerDividesUptoRow, standIns := [], harness := (true, "3a7b0f76cfcc85e02c5b0fe11fb56f13c8dc0256620c231a13b11bf0256b0c43"), looks := false }, kinds := [], alts := [], laidByText := true, laidKinds := [.data], laidTests := true, laidLooks := .later }
def DangerDividesUptoCardSaid : Prop := Claim7.holds Tryd.pinned (.plain (OpenSpec.upto dangerDividesSpec)) dangerDividesUptoCard

/-- THE SECOND FORM's CARD OF 'twistlocklaw13.DangerClashes'. -/
def dangerClashesUptoCard : Claim7 := { stood := { row := dangerClashesUptoRow, standIns := [], harness := (true, "3a7b0f76cfcc85e02c5b0fe11fb56f13c8dc0256620c231a13b11bf0256b0c43"), looks := false }, kinds := [], alts := [], laidByText := true, laidKinds := [.data], laidTests := true, laidLooks := .later }
def DangerClashesUptoCardSaid : Prop := Claim7.holds Tryd.pinned (.plain (OpenSpec.upto dangerClashesSpec)) dangerClashesUptoCard

/-- THE SECOND FORM's CARD OF 'twistlocklaw13.DangerGrows'. -/
def dangerGrowsUptoCard : Claim7 := { stood := { row := dangerGrowsUptoRow, standIns := [], harness := (true, "3a7b0f76cfcc85e02c5b0fe11fb56f13c8dc0256620c231a13b11bf0256b0c43"), looks := false }, kinds := [], alts := [], laidByText := true, laidKinds := [.data], laidTests := true, laidLooks := .later }
def DangerGrowsUptoCardSaid : Prop := Claim7.holds Tryd.pinned (.plain (OpenSpec.upto dangerGrowsSpec)) dangerGrowsUptoCard

/-- THE SECOND FORM's CARD OF 'twistlocklaw13.DangerTells'. -/
def dangerTellsUptoCard : Claim7 := { stood := { row := dangerTellsUptoRow, standIns := [], harness := (true, "3a7b0f76cfcc85e02c5b0fe11fb56f13c8dc0256620c231a13b11bf0256b0c43"), looks := false }, kinds := [], alts := [], laidByText := true, laidKinds := [.data, .data], laidTests := true, laidLooks := .later }
def DangerTellsUptoCardSaid : Prop := Claim7.holds Tryd.pinned (.plain (OpenSpec.upto dangerTellsSpec)) dangerTellsUptoCard

/-- THE SECOND FORM's CARD OF 'twistlocklaw13.DangerSmall'. -/
def dangerSmallUptoCard : Claim7 := { stood := { row := dangerSmallUptoRow, standIns := [], harness := (true, "3a7b0f76cfcc85e02c5b0fe11fb56f13c8dc0256620c231a13b11bf0256b0c43"), looks := false }, kinds := [], alts := [], laidByText := true, laidKinds := [.data, .data], laidTests := true, laidLooks := .later }
def DangerSmallUptoCardSaid : Prop := Claim7.holds Tryd.pinned (.plain (OpenSpec.upto dangerSmallSpec)) dangerSmallUptoCard

/-- THE SECOND FORM's CARD OF 'twistlocklaw13.DangerCodes'. -/
def dangerCodesUptoCard : Claim7 := { stood := { row := dangerCodesUptoRow, standIns := [], harness := (true, "3a7b0f76cfcc85e02c5b0fe11fb56f13c8dc0256620c231a13b11bf0256b0c43"), looks := false }, kinds := [], alts := [], laidByText := true, laidKinds := [.data, .data], laidTests := true, laidLooks := .later }
def DangerCodesUptoCardSaid : Prop := Claim7.holds Tryd.pinned (.plain (OpenSpec.upto dangerCodesSpec)) dangerCodesUptoCard
end Rows
end Go.Proofs.YtcjnabbggmbfgaaDoor
