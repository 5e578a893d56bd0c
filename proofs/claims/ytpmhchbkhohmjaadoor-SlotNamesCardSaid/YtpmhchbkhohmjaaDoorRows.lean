/-
  NARROWER THAN 'FOR EVERY INPUT', by the rows' own cells (each row's printed sentence says how): SlotNames: laid · SlotTells: laid.
  DERIVED. THE GIVEN ROWS OF THIS SEAT. 2 by the template 'for every input the law returns true; each argument reads behind the call as it read before'; 0 by the template 'total and deterministic' (their statements: YtpmhchbkhohmjaaDoorTotals.lean).
  GIVEN WITH THE SEED: the statements are not yours to turn. If you find one false, say at which input.
  Laid BY PROGRAM, IN A SANDBOX (cutbox-rows.mjs): the forced cells as the released guide's own fill.sh prints them over the translation adc2df067de8bb62… (all of the seat's roots in one cut). By AI agents, Wed Nov 11 2026. No macro, syntax, notation, axiom, sorry.
-/
import Derived.Test.YtpmhchbkhohmjaaDoorChecked
import GoSem.Claim
import GoSem.ClaimJoined
import GoSem.ClaimMapViews
import Derived.JoinedTies
import Derived.KernelRfl
namespace Go.Proofs.YtpmhchbkhohmjaaDoor
/- THE CELL 'sum', in the pinned program and in every row, IS THE sha256 OF THE DUMP (.gsa) THAT YtpmhchbkhohmjaaDoorProg.lean LOADS. Nothing in Lean hashes anything: it is a label: what it is worth is what the hold of that sum in a sandbox is worth. -/
noncomputable def Tryd.pinned : Pinned := { name := "ytpmhchbkhohmjaadoor", sum := "adc2df067de8bb62356afcb73666f1220c106724a4538838fd8723ebf0f3844c", checked := Tryd.checked }
namespace Rows
def none {H : Type} : Left H := { results := [], args := [] }

/- WHAT THE LISTED PACKAGE-LEVEL VARIABLES READ AS WHEN THE CALL BEGINS. Each datum BY PROGRAM (the guide's laid-datum.mjs) off the statement by which the dump's own 'gosem.cut.vars' lays the variable. In a bare row this is a premise. The card (YtpmhchbkhohmjaaDoorCards.lean) ties it to the program's text. -/
def laid_twistlock_slot_quarter {H : Type} : DataW H := .agg [.lit (.int .i64 2), .lit (.int .i64 1), .lit (.int .i64 3)]

/-- 'twistlocklaw08.SlotNames': WHATEVER THE INPUT: true; the input reads as it did. -/
def slotNamesSpec : ChangeSpec := { name := "slotNames", fn := fun _ => fun
  | [d1, d2, d3] => { results := [.lit (.bool true)], args := [d1, d2, d3] }
  | _ => none }
def slotNamesRow : OpenClaim := { program := "ytpmhchbkhohmjaadoor", sum := "adc2df067de8bb62356afcb73666f1220c106724a4538838fd8723ebf0f3844c", func := "twistlock/twistlocklaw08.SlotNames", spec := "slotNames", unfollowed := true, recurses := true, named := ["twistlock/slot.quarter"], plainKeys := false, apart := false, laid := [("twistlock/slot.quarter", laid_twistlock_slot_quarter)] }
def SlotNamesSaid : Prop := slotNamesRow.holds Tryd.pinned (OpenSpec.ofChange slotNamesSpec)

/-- ITS FALSE NEIGHBOUR: 'it returns false'. Refute it at one input. -/
def slotNamesWrong : ChangeSpec := { name := "slotNames", fn := fun _ => fun
  | [d1, d2, d3] => { results := [.lit (.bool false)], args := [d1, d2, d3] }
  | _ => none }
def SlotNamesWrongFalsely : Prop := slotNamesRow.holds Tryd.pinned (OpenSpec.ofChange slotNamesWrong)

/-- 'twistlocklaw08.SlotTells': WHATEVER THE INPUT: true; the input reads as it did. -/
def slotTellsSpec : ChangeSpec := { name := "slotTells", fn := fun _ => fun
  | [d1, d2, d3, d4, d5] => { results := [.lit (.bool true)], args := [d1, d2, d3, d4, d5] }
  | _ => none }
def slotTellsRow : OpenClaim := { program := "ytpmhchbkhohmjaadoor", sum := "adc2df067de8bb62356afcb73666f1220c106724a4538838fd8723ebf0f3844c", func := "twistlock/twistlocklaw08.SlotTells", spec := "slotTells", unfollowed := true, recurses := true, named := ["twistlock/slot.quarter"], plainKeys := false, apart := false, laid := [("twistlock/slot.quarter", laid_twistlock_slot_quarter)] }
def SlotTellsSaid : Prop := slotTellsRow.holds Tryd.pinned (OpenSpec.ofChange slotTellsSpec)

/-- ITS FALSE NEIGHBOUR: 'it returns false'. Refute it at one input. -/
def slotTellsWrong : ChangeSpec := { name := "slotTells", fn := fun _ => fun
  | [d1, d2, d3, d4, d5] => { results := [.lit (.bool false)], args := [d1, d2, d3, d4, d5] }
  | _ => none }
def SlotTellsWrongFalsely : Prop := slotTellsRow.holds Tryd.pinned (OpenSpec.ofChange slotTellsWrong)

/- THE SECOND FORM. 'bulk': how many values and letters a reading holds, each counted each time it is reached (what is shared counts as often as it is met; a slice's spare places count too). A statement '..UptoSaid' is the law's where the arguments, and the package variables that the reading takes, are together of bulk at most 1048576: NARROWER than '..Said'. Prove '..Said' where nothing that the law and all that it calls make is longer than what came in: it says more and counts as full. Else prove '..UptoSaid'. A law counts once. -/
mutual
def uptoBulk {H : Type} : DataW H → Nat
  | .lit (.string bytes) => bytes.length + 1
  | .lit _ => 1
  | .nil => 1
  | .ptr d => uptoBulk d + 1
  | .slice elems spare => uptoBulkAll elems + uptoBulkAll spare + 1
  | .agg parts => uptoBulkAll parts + 1
  | .iface _ d => uptoBulk d + 1
  | .map entries => uptoBulkEntries entries + 1
  | .held _ => 1
def uptoBulkAll {H : Type} : List (DataW H) → Nat
  | [] => 0
  | d :: r => uptoBulk d + uptoBulkAll r
def uptoBulkEntries {H : Type} : List (Lit × DataW H) → Nat
  | [] => 0
  | x :: r => uptoBulkEntry x + uptoBulkEntries r
def uptoBulkEntry {H : Type} : Lit × DataW H → Nat
  | (.string bytes, d) => bytes.length + uptoBulk d + 1
  | (_, d) => uptoBulk d + 1
 end
def uptoSmall : (H : Type) → List (DataW H) → Bool := fun _ ds => decide (uptoBulkAll ds ≤ 1048576)
def OpenSpec.upto (s : _root_.Go.ChangeSpec) : _root_.Go.OpenSpec := { _root_.Go.OpenSpec.ofChange s with cond := some uptoSmall }

/-- 'twistlocklaw08.SlotNames', WHERE WHAT IT READS IS OF BULK AT MOST 1048576: true; the input reads as it did. -/
def slotNamesUptoRow : OpenClaim := { program := "ytpmhchbkhohmjaadoor", sum := "adc2df067de8bb62356afcb73666f1220c106724a4538838fd8723ebf0f3844c", func := "twistlock/twistlocklaw08.SlotNames", spec := "slotNames", unfollowed := true, recurses := true, named := ["twistlock/slot.quarter"], plainKeys := false, apart := false, laid := [("twistlock/slot.quarter", laid_twistlock_slot_quarter)], narrowed := true }
def SlotNamesUptoSaid : Prop := slotNamesUptoRow.holds Tryd.pinned (OpenSpec.upto slotNamesSpec)

/-- 'twistlocklaw08.SlotTells', WHERE WHAT IT READS IS OF BULK AT MOST 1048576: true; the input reads as it did. -/
def slotTellsUptoRow : OpenClaim := { program := "ytpmhchbkhohmjaadoor", sum := "adc2df067de8bb62356afcb73666f1220c106724a4538838fd8723ebf0f3844c", func := "twistlock/twistlocklaw08.SlotTells", spec := "slotTells", unfollowed := true, recurses := true, named := ["twistlock/slot.quarter"], plainKeys := false, apart := false, laid := [("twistlock/slot.quarter", laid_twistlock_slot_quarter)], narrowed := true }
def SlotTellsUptoSaid : Prop := slotTellsUptoRow.holds Tryd.pinned (OpenSpec.upto slotTellsSpec)

end Rows
end Go.Proofs.YtpmhchbkhohmjaaDoor
