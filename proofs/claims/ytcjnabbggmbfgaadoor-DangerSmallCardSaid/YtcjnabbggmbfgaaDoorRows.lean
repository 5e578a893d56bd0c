/-
  NARROWER THAN 'FOR EVERY INPUT', by the rows' own cells (each row's printed sentence says how): DangerDivides: laid · DangerClashes: laid · DangerGrows: laid · DangerTells: laid · DangerSmall: laid · DangerCodes: laid.
  DERIVED. THE GIVEN ROWS OF THIS SEAT. 6 by the template 'for every input the law returns true; each argument reads behind the call as it read before'; 0 by the template 'total and deterministic' (their statements: YtcjnabbggmbfgaaDoorTotals.lean).
  GIVEN WITH THE SEED: the statements are not yours to turn. If you find one false, say at which input.
  Laid BY PROGRAM, IN A SANDBOX (cutbox-rows.mjs): the forced cells as the released guide's own fill.sh prints them over the translation c55948996d980c47… (all of the seat's roots in one cut). By AI agents, Wed Nov 11 2026. No macro, syntax, notation, axiom, sorry.
-/
import Derived.Test.YtcjnabbggmbfgaaDoorChecked
import GoSem.Claim
import GoSem.ClaimJoined
import GoSem.ClaimMapViews
import Derived.JoinedTies
import Derived.KernelRfl
namespace Go.Proofs.YtcjnabbggmbfgaaDoor
/- THE CELL 'sum', in the pinned program and in every row, IS THE sha256 OF THE DUMP (.gsa) THAT YtcjnabbggmbfgaaDoorProg.lean LOADS. Nothing in Lean hashes anything: it is a label: what it is worth is what the hold of that sum in a sandbox is worth. -/
noncomputable def Tryd.pinned : Pinned := { name := "ytcjnabbggmbfgaadoor", sum := "c55948996d980c47015f3b1376bccb5a9900c0795795e1eceba4cb7f02f83e08", checked := Tryd.checked }
namespace Rows
def none {H : Type} : Left H := { results := [], args := [] }

/- WHAT THE LISTED PACKAGE-LEVEL VARIABLES READ AS WHEN THE CALL BEGINS. Each datum BY PROGRAM (the guide's laid-datum.mjs) off the statement by which the dump's own 'gosem.cut.vars' lays the variable. In a bare row this is a premise. The card (YtcjnabbggmbfgaaDoorCards.lean) ties it to the program's text. -/
def laid_twistlock_danger_table {H : Type} : DataW H := .agg [.agg [.lit (.int .u8 0), .lit (.int .u8 0), .lit (.int .u8 0), .lit (.int .u8 0), .lit (.int .u8 0), .lit (.int .u8 0), .lit (.int .u8 0), .lit (.int .u8 0), .lit (.int .u8 0), .lit (.int .u8 0)], .agg [.lit (.int .u8 0), .lit (.int .u8 0), .lit (.int .u8 3), .lit (.int .u8 3), .lit (.int .u8 3), .lit (.int .u8 3), .lit (.int .u8 2), .lit (.int .u8 2), .lit (.int .u8 2), .lit (.int .u8 0)], .agg [.lit (.int .u8 0), .lit (.int .u8 3), .lit (.int .u8 0), .lit (.int .u8 2), .lit (.int .u8 1), .lit (.int .u8 2), .lit (.int .u8 0), .lit (.int .u8 1), .lit (.int .u8 1), .lit (.int .u8 0)], .agg [.lit (.int .u8 0), .lit (.int .u8 3), .lit (.int .u8 2), .lit (.int .u8 0), .lit (.int .u8 1), .lit (.int .u8 2), .lit (.int .u8 0), .lit (.int .u8 2), .lit (.int .u8 1), .lit (.int .u8 0)], .agg [.lit (.int .u8 0), .lit (.int .u8 3), .lit (.int .u8 1), .lit (.int .u8 1), .lit (.int .u8 0), .lit (.int .u8 3), .lit (.int .u8 0), .lit (.int .u8 1), .lit (.int .u8 1), .lit (.int .u8 0)], .agg [.lit (.int .u8 0), .lit (.int .u8 3), .lit (.int .u8 2), .lit (.int .u8 2), .lit (.int .u8 3), .lit (.int .u8 1), .lit (.int .u8 1), .lit (.int .u8 1), .lit (.int .u8 2), .lit (.int .u8 0)], .agg [.lit (.int .u8 0), .lit (.int .u8 2), .lit (.int .u8 0), .lit (.int .u8 0), .lit (.int .u8 0), .lit (.int .u8 1), .lit (.int .u8 0), .lit (.int .u8 1), .lit (.int .u8 1), .lit (.int .u8 0)], .agg [.lit (.int .u8 0), .lit (.int .u8 2), .lit (.int .u8 1), .lit (.int .u8 2), .lit (.int .u8 1), .lit (.int .u8 1), .lit (.int .u8 1), .lit (.int .u8 0), .lit (.int .u8 2), .lit (.int .u8 0)], .agg [.lit (.int .u8 0), .lit (.int .u8 2), .lit (.int .u8 1), .lit (.int .u8 1), .lit (.int .u8 1), .lit (.int .u8 2), .lit (.int .u8 1), .lit (.int .u8 2), .lit (.int .u8 0), .lit (.int .u8 0)], .agg [.lit (.int .u8 0), .lit (.int .u8 0), .lit (.int .u8 0), .lit (.int .u8 0), .lit (.int .u8 0), .lit (.int .u8 0), .lit (.int .u8 0), .lit (.int .u8 0), .lit (.int .u8 0), .lit (.int .u8 0)]]
def laid_twistlock_danger_names {H : Type} : DataW H := .agg [.lit (.string [103, 101, 110, 101, 114, 97, 108]), .lit (.string [101, 120, 112, 108, 111, 115, 105, 118, 101, 115]), .lit (.string [103, 97, 115, 101, 115]), .lit (.string [102, 108, 97, 109, 109, 97, 98, 108, 101, 32, 108, 105, 113, 117, 105, 100, 115]), .lit (.string [102, 108, 97, 109, 109, 97, 98, 108, 101, 32, 115, 111, 108, 105, 100, 115]), .lit (.string [111, 120, 105, 100, 105, 115, 101, 114, 115]), .lit (.string [112, 111, 105, 115, 111, 110, 115]), .lit (.string [114, 97, 100, 105, 111, 97, 99, 116, 105, 118, 101, 115]), .lit (.string [99, 111, 114, 114, 111, 115, 105, 118, 101, 115]), .lit (.string [111, 116, 104, 101, 114, 115])]

/-- 'twistlocklaw13.DangerDivides': WHATEVER THE INPUT: true; the input reads as it did. -/
def dangerDividesSpec : ChangeSpec := { name := "dangerDivides", fn := fun _ => fun
  | [d] => { results := [.lit (.bool true)], args := [d] }
  | _ => none }
def dangerDividesRow : OpenClaim := { program := "ytcjnabbggmbfgaadoor", sum := "c55948996d980c47015f3b1376bccb5a9900c0795795e1eceba4cb7f02f83e08", func := "twistlock/twistlocklaw13.DangerDivides", spec := "dangerDivides", unfollowed := true, recurses := true, named := ["twistlock/danger.table"], apart := false, laid := [("twistlock/danger.table", laid_twistlock_danger_table)] }
def DangerDividesSaid : Prop := dangerDividesRow.holds Tryd.pinned (OpenSpec.ofChange dangerDividesSpec)

/-- ITS FALSE NEIGHBOUR: 'it returns false'. Refute it at one input. -/
def dangerDividesWrong : ChangeSpec := { name := "dangerDivides", fn := fun _ => fun
  | [d] => { results := [.lit (.bool false)], args := [d] }
  | _ => none }
def DangerDividesWrongFalsely : Prop := dangerDividesRow.holds Tryd.pinned (OpenSpec.ofChange dangerDividesWrong)

/-- 'twistlocklaw13.DangerClashes': WHATEVER THE INPUT: true; the input reads as it did. -/
def dangerClashesSpec : ChangeSpec := { name := "dangerClashes", fn := fun _ => fun
  | [d1, d2] => { results := [.lit (.bool true)], args := [d1, d2] }
  | _ => none }
def dangerClashesRow : OpenClaim := { program := "ytcjnabbggmbfgaadoor", sum := "c55948996d980c47015f3b1376bccb5a9900c0795795e1eceba4cb7f02f83e08", func := "twistlock/twistlocklaw13.DangerClashes", spec := "dangerClashes", unfollowed := true, recurses := true, named := ["twistlock/danger.table"], apart := false, laid := [("twistlock/danger.table", laid_twistlock_danger_table)] }
def DangerClashesSaid : Prop := dangerClashesRow.holds Tryd.pinned (OpenSpec.ofChange dangerClashesSpec)

/-- ITS FALSE NEIGHBOUR: 'it returns false'. Refute it at one input. -/
def dangerClashesWrong : ChangeSpec := { name := "dangerClashes", fn := fun _ => fun
  | [d1, d2] => { results := [.lit (.bool false)], args := [d1, d2] }
  | _ => none }
def DangerClashesWrongFalsely : Prop := dangerClashesRow.holds Tryd.pinned (OpenSpec.ofChange dangerClashesWrong)

/-- 'twistlocklaw13.DangerGrows': WHATEVER THE INPUT: true; the input reads as it did. -/
def dangerGrowsSpec : ChangeSpec := { name := "dangerGrows", fn := fun _ => fun
  | [d1, d2] => { results := [.lit (.bool true)], args := [d1, d2] }
  | _ => none }
def dangerGrowsRow : OpenClaim := { program := "ytcjnabbggmbfgaadoor", sum := "c55948996d980c47015f3b1376bccb5a9900c0795795e1eceba4cb7f02f83e08", func := "twistlock/twistlocklaw13.DangerGrows", spec := "dangerGrows", unfollowed := true, recurses := true, named := ["twistlock/danger.table"], apart := false, laid := [("twistlock/danger.table", laid_twistlock_danger_table)] }
def DangerGrowsSaid : Prop := dangerGrowsRow.holds Tryd.pinned (OpenSpec.ofChange dangerGrowsSpec)

/-- ITS FALSE NEIGHBOUR: 'it returns false'. Refute it at one input. -/
def dangerGrowsWrong : ChangeSpec := { name := "dangerGrows", fn := fun _ => fun
  | [d1, d2] => { results := [.lit (.bool false)], args := [d1, d2] }
  | _ => none }
def DangerGrowsWrongFalsely : Prop := dangerGrowsRow.holds Tryd.pinned (OpenSpec.ofChange dangerGrowsWrong)

/-- 'twistlocklaw13.DangerTells': WHATEVER THE INPUT: true; the input reads as it did. -/
def dangerTellsSpec : ChangeSpec := { name := "dangerTells", fn := fun _ => fun
  | [d1, d2, d3] => { results := [.lit (.bool true)], args := [d1, d2, d3] }
  | _ => none }
def dangerTellsRow : OpenClaim := { program := "ytcjnabbggmbfgaadoor", sum := "c55948996d980c47015f3b1376bccb5a9900c0795795e1eceba4cb7f02f83e08", func := "twistlock/twistlocklaw13.DangerTells", spec := "dangerTells", unfollowed := true, recurses := true, named := ["twistlock/danger.table", "twistlock/danger.names"], apart := false, laid := [("twistlock/danger.names", laid_twistlock_danger_names), ("twistlock/danger.table", laid_twistlock_danger_table)] }
def DangerTellsSaid : Prop := dangerTellsRow.holds Tryd.pinned (OpenSpec.ofChange dangerTellsSpec)

/-- ITS FALSE NEIGHBOUR: 'it returns false'. Refute it at one input. -/
def dangerTellsWrong : ChangeSpec := { name := "dangerTells", fn := fun _ => fun
  | [d1, d2, d3] => { results := [.lit (.bool false)], args := [d1, d2, d3] }
  | _ => none }
def DangerTellsWrongFalsely : Prop := dangerTellsRow.holds Tryd.pinned (OpenSpec.ofChange dangerTellsWrong)

/-- 'twistlocklaw13.DangerSmall': WHATEVER THE INPUT: true; the input reads as it did. -/
def dangerSmallSpec : ChangeSpec := { name := "dangerSmall", fn := fun _ => fun
  | [] => { results := [.lit (.bool true)], args := [] }
  | _ => none }
def dangerSmallRow : OpenClaim := { program := "ytcjnabbggmbfgaadoor", sum := "c55948996d980c47015f3b1376bccb5a9900c0795795e1eceba4cb7f02f83e08", func := "twistlock/twistlocklaw13.DangerSmall", spec := "dangerSmall", unfollowed := true, recurses := true, named := ["twistlock/danger.table", "twistlock/danger.names"], apart := false, laid := [("twistlock/danger.names", laid_twistlock_danger_names), ("twistlock/danger.table", laid_twistlock_danger_table)] }
def DangerSmallSaid : Prop := dangerSmallRow.holds Tryd.pinned (OpenSpec.ofChange dangerSmallSpec)

/-- ITS FALSE NEIGHBOUR: 'it returns false'. Refute it at one input. -/
def dangerSmallWrong : ChangeSpec := { name := "dangerSmall", fn := fun _ => fun
  | [] => { results := [.lit (.bool false)], args := [] }
  | _ => none }
def DangerSmallWrongFalsely : Prop := dangerSmallRow.holds Tryd.pinned (OpenSpec.ofChange dangerSmallWrong)

/-- 'twistlocklaw13.DangerCodes': WHATEVER THE INPUT: true; the input reads as it did. -/
def dangerCodesSpec : ChangeSpec := { name := "dangerCodes", fn := fun _ => fun
  | [d1, d2] => { results := [.lit (.bool true)], args := [d1, d2] }
  | _ => none }
def dangerCodesRow : OpenClaim := { program := "ytcjnabbggmbfgaadoor", sum := "c55948996d980c47015f3b1376bccb5a9900c0795795e1eceba4cb7f02f83e08", func := "twistlock/twistlocklaw13.DangerCodes", spec := "dangerCodes", unfollowed := true, recurses := true, named := ["twistlock/danger.table", "twistlock/danger.names"], apart := false, laid := [("twistlock/danger.names", laid_twistlock_danger_names), ("twistlock/danger.table", laid_twistlock_danger_table)] }
def DangerCodesSaid : Prop := dangerCodesRow.holds Tryd.pinned (OpenSpec.ofChange dangerCodesSpec)

/-- ITS FALSE NEIGHBOUR: 'it returns false'. Refute it at one input. -/
def dangerCodesWrong : ChangeSpec := { name := "dangerCodes", fn := fun _ => fun
  | [d1, d2] => { results := [.lit (.bool false)], args := [d1, d2] }
  | _ => none }
def DangerCodesWrongFalsely : Prop := dangerCodesRow.holds Tryd.pinned (OpenSpec.ofChange dangerCodesWrong)

/- THE SECOND FORM. 'bulk': how many values and letters a reading holds, each counted each time it is reached (what is shared counts as often as it is met; a slice's spare places count too). A statement '..UptoSaid' is the law's where the arguments, and the package variables that the reading takes, are together of bulk at most 1048576: NARROWER than '..Said'. Prove '..Said' where nothing that the law and all that it calls make is longer than what came in: it says more and counts as full. Else prove '..UptoSaid'. A law counts once. -/
mutual
def uptoBulk {H : Type} : DataW H → Nat
  | .lit (.string bytes) => bytes.length + 1
  | .lit _ => 1
  | .nil => 1
  | .ptr d => uptoBulk d + 1
  | .slice elems spare => uptoBulkAll elems + uptoBulkAll spare + 1
  | .agg parts => uptoBulkAll parts + 1
  | .iface _ d => uptoBulk d + 1
  | .map entries => uptoBulkEntries entries + 1
  | .held _ => 1
def uptoBulkAll {H : Type} : List (DataW H) → Nat
  | [] => 0
  | d :: r => uptoBulk d + uptoBulkAll r
def uptoBulkEntries {H : Type} : List (Lit × DataW H) → Nat
  | [] => 0
  | x :: r => uptoBulkEntry x + uptoBulkEntries r
def uptoBulkEntry {H : Type} : Lit × DataW H → Nat
  | (.string bytes, d) => bytes.length + uptoBulk d + 1
  | (_, d) => uptoBulk d + 1
 end
def uptoSmall : (H : Type) → List (DataW H) → Bool := fun _ ds => decide (uptoBulkAll ds ≤ 1048576)
def OpenSpec.upto (s : _root_.Go.ChangeSpec) : _root_.Go.OpenSpec := { _root_.Go.OpenSpec.ofChange s with cond := some uptoSmall }

/-- 'twistlocklaw13.DangerDivides', WHERE WHAT IT READS IS OF BULK AT MOST 1048576: true; the input reads as it did. -/
def dangerDividesUptoRow : OpenClaim := { program := "ytcjnabbggmbfgaadoor", sum := "c55948996d980c47015f3b1376bccb5a9900c0795795e1eceba4cb7f02f83e08", func := "twistlock/twistlocklaw13.DangerDivides", spec := "dangerDivides", unfollowed := true, recurses := true, named := ["twistlock/danger.table"], apart := false, laid := [("twistlock/danger.table", laid_twistlock_danger_table)], narrowed := true }
def DangerDividesUptoSaid : Prop := dangerDividesUptoRow.holds Tryd.pinned (OpenSpec.upto dangerDividesSpec)

/-- 'twistlocklaw13.DangerClashes', WHERE WHAT IT READS IS OF BULK AT MOST 1048576: true; the input reads as it did. -/
def dangerClashesUptoRow : OpenClaim := { program := "ytcjnabbggmbfgaadoor", sum := "c55948996d980c47015f3b1376bccb5a9900c0795795e1eceba4cb7f02f83e08", func := "twistlock/twistlocklaw13.DangerClashes", spec := "dangerClashes", unfollowed := true, recurses := true, named := ["twistlock/danger.table"], apart := false, laid := [("twistlock/danger.table", laid_twistlock_danger_table)], narrowed := true }
def DangerClashesUptoSaid : Prop := dangerClashesUptoRow.holds Tryd.pinned (OpenSpec.upto dangerClashesSpec)

/-- 'twistlocklaw13.DangerGrows', WHERE WHAT IT READS IS OF BULK AT MOST 1048576: true; the input reads as it did. -/
def dangerGrowsUptoRow : OpenClaim := { program := "ytcjnabbggmbfgaadoor", sum := "c55948996d980c47015f3b1376bccb5a9900c0795795e1eceba4cb7f02f83e08", func := "twistlock/twistlocklaw13.DangerGrows", spec := "dangerGrows", unfollowed := true, recurses := true, named := ["twistlock/danger.table"], apart := false, laid := [("twistlock/danger.table", laid_twistlock_danger_table)], narrowed := true }
def DangerGrowsUptoSaid : Prop := dangerGrowsUptoRow.holds Tryd.pinned (OpenSpec.upto dangerGrowsSpec)

/-- 'twistlocklaw13.DangerTells', WHERE WHAT IT READS IS OF BULK AT MOST 1048576: true; the input reads as it did. -/
def dangerTellsUptoRow : OpenClaim := { program := "ytcjnabbggmbfgaadoor", sum := "c55948996d980c47015f3b1376bccb5a9900c0795795e1eceba4cb7f02f83e08", func := "twistlock/twistlocklaw13.DangerTells", spec := "dangerTells", unfollowed := true, recurses := true, named := ["twistlock/danger.table", "twistlock/danger.names"], apart := false, laid := [("twistlock/danger.names", laid_twistlock_danger_names), ("twistlock/danger.table", laid_twistlock_danger_table)], narrowed := true }
def DangerTellsUptoSaid : Prop := dangerTellsUptoRow.holds Tryd.pinned (OpenSpec.upto dangerTellsSpec)

/-- 'twistlocklaw13.DangerSmall', WHERE WHAT IT READS IS OF BULK AT MOST 1048576: true; the input reads as it did. -/
def dangerSmallUptoRow : OpenClaim := { program := "ytcjnabbggmbfgaadoor", sum := "c55948996d980c47015f3b1376bccb5a9900c0795795e1eceba4cb7f02f83e08", func := "twistlock/twistlocklaw13.DangerSmall", spec := "dangerSmall", unfollowed := true, recurses := true, named := ["twistlock/danger.table", "twistlock/danger.names"], apart := false, laid := [("twistlock/danger.names", laid_twistlock_danger_names), ("twistlock/danger.table", laid_twistlock_danger_table)], narrowed := true }
def DangerSmallUptoSaid : Prop := dangerSmallUptoRow.holds Tryd.pinned (OpenSpec.upto dangerSmallSpec)

/-- 'twistlocklaw13.DangerCodes', WHERE WHAT IT READS IS OF BULK AT MOST 1048576: true; the input reads as it did. -/
def dangerCodesUptoRow : OpenClaim := { program := "ytcjnabbggmbfgaadoor", sum := "c55948996d980c47015f3b1376bccb5a9900c0795795e1eceba4cb7f02f83e08", func := "twistlock/twistlocklaw13.DangerCodes", spec := "dangerCodes", unfollowed := true, recurses := true, named := ["twistlock/danger.table", "twistlock/danger.names"], apart := false, laid := [("twistlock/danger.names", laid_twistlock_danger_names), ("twistlock/danger.table", laid_twistlock_danger_table)], narrowed := true }
def DangerCodesUptoSaid : Prop := dangerCodesUptoRow.holds Tryd.pinned (OpenSpec.upto dangerCodesSpec)

end Rows
end Go.Proofs.YtcjnabbggmbfgaaDoor
