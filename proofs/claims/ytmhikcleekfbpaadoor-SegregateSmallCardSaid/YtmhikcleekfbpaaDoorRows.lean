/-
  NARROWER THAN 'FOR EVERY INPUT', by the rows' own cells (each row's printed sentence says how): SegregateSmall: laid.
  DERIVED. THE GIVEN ROWS OF THIS SEAT. 1 by the template 'for every input the law returns true; each argument reads behind the call as it read before'; 0 by the template 'total and deterministic' (their statements: YtmhikcleekfbpaaDoorTotals.lean).
  GIVEN WITH THE SEED: the statements are not yours to turn. If you find one false, say at which input.
  Laid BY PROGRAM, IN A SANDBOX (cutbox-rows.mjs): the forced cells as the released guide's own fill.sh prints them over the translation 7710081620316d5f… (all of the seat's roots in one cut). By AI agents, Wed Nov 11 2026. No macro, syntax, notation, axiom, sorry.
-/
import Derived.Test.YtmhikcleekfbpaaDoorChecked
import GoSem.Claim
import GoSem.ClaimJoined
import GoSem.ClaimMapViews
import Derived.JoinedTies
import Derived.KernelRfl
namespace Go.Proofs.YtmhikcleekfbpaaDoor
/- THE CELL 'sum', in the pinned program and in every row, IS THE sha256 OF THE DUMP (.gsa) THAT YtmhikcleekfbpaaDoorProg.lean LOADS. Nothing in Lean hashes anything: it is a label: what it is worth is what the hold of that sum in a sandbox is worth. -/
noncomputable def Tryd.pinned : Pinned := { name := "ytmhikcleekfbpaadoor", sum := "7710081620316d5fa921cf5b7be16535014973fd0c0dc8929e4f6c8ac50e8008", checked := Tryd.checked }
namespace Rows
def none {H : Type} : Left H := { results := [], args := [] }

/- WHAT THE LISTED PACKAGE-LEVEL VARIABLES READ AS WHEN THE CALL BEGINS. Each datum BY PROGRAM (the guide's laid-datum.mjs) off the statement by which the dump's own 'gosem.cut.vars' lays the variable. In a bare row this is a premise. The card (YtmhikcleekfbpaaDoorCards.lean) ties it to the program's text. -/
def laid_twistlock_danger_names {H : Type} : DataW H := .agg [.lit (.string [103, 101, 110, 101, 114, 97, 108]), .lit (.string [101, 120, 112, 108, 111, 115, 105, 118, 101, 115]), .lit (.string [103, 97, 115, 101, 115]), .lit (.string [102, 108, 97, 109, 109, 97, 98, 108, 101, 32, 108, 105, 113, 117, 105, 100, 115]), .lit (.string [102, 108, 97, 109, 109, 97, 98, 108, 101, 32, 115, 111, 108, 105, 100, 115]), .lit (.string [111, 120, 105, 100, 105, 115, 101, 114, 115]), .lit (.string [112, 111, 105, 115, 111, 110, 115]), .lit (.string [114, 97, 100, 105, 111, 97, 99, 116, 105, 118, 101, 115]), .lit (.string [99, 111, 114, 114, 111, 115, 105, 118, 101, 115]), .lit (.string [111, 116, 104, 101, 114, 115])]
def laid_twistlock_danger_table {H : Type} : DataW H := .agg [.agg [.lit (.int .u8 0), .lit (.int .u8 0), .lit (.int .u8 0), .lit (.int .u8 0), .lit (.int .u8 0), .lit (.int .u8 0), .lit (.int .u8 0), .lit (.int .u8 0), .lit (.int .u8 0), .lit (.int .u8 0)], .agg [.lit (.int .u8 0), .lit (.int .u8 0), .lit (.int .u8 3), .lit (.int .u8 3), .lit (.int .u8 3), .lit (.int .u8 3), .lit (.int .u8 2), .lit (.int .u8 2), .lit (.int .u8 2), .lit (.int .u8 0)], .agg [.lit (.int .u8 0), .lit (.int .u8 3), .lit (.int .u8 0), .lit (.int .u8 2), .lit (.int .u8 1), .lit (.int .u8 2), .lit (.int .u8 0), .lit (.int .u8 1), .lit (.int .u8 1), .lit (.int .u8 0)], .agg [.lit (.int .u8 0), .lit (.int .u8 3), .lit (.int .u8 2), .lit (.int .u8 0), .lit (.int .u8 1), .lit (.int .u8 2), .lit (.int .u8 0), .lit (.int .u8 2), .lit (.int .u8 1), .lit (.int .u8 0)], .agg [.lit (.int .u8 0), .lit (.int .u8 3), .lit (.int .u8 1), .lit (.int .u8 1), .lit (.int .u8 0), .lit (.int .u8 3), .lit (.int .u8 0), .lit (.int .u8 1), .lit (.int .u8 1), .lit (.int .u8 0)], .agg [.lit (.int .u8 0), .lit (.int .u8 3), .lit (.int .u8 2), .lit (.int .u8 2), .lit (.int .u8 3), .lit (.int .u8 1), .lit (.int .u8 1), .lit (.int .u8 1), .lit (.int .u8 2), .lit (.int .u8 0)], .agg [.lit (.int .u8 0), .lit (.int .u8 2), .lit (.int .u8 0), .lit (.int .u8 0), .lit (.int .u8 0), .lit (.int .u8 1), .lit (.int .u8 0), .lit (.int .u8 1), .lit (.int .u8 1), .lit (.int .u8 0)], .agg [.lit (.int .u8 0), .lit (.int .u8 2), .lit (.int .u8 1), .lit (.int .u8 2), .lit (.int .u8 1), .lit (.int .u8 1), .lit (.int .u8 1), .lit (.int .u8 0), .lit (.int .u8 2), .lit (.int .u8 0)], .agg [.lit (.int .u8 0), .lit (.int .u8 2), .lit (.int .u8 1), .lit (.int .u8 1), .lit (.int .u8 1), .lit (.int .u8 2), .lit (.int .u8 1), .lit (.int .u8 2), .lit (.int .u8 0), .lit (.int .u8 0)], .agg [.lit (.int .u8 0), .lit (.int .u8 0), .lit (.int .u8 0), .lit (.int .u8 0), .lit (.int .u8 0), .lit (.int .u8 0), .lit (.int .u8 0), .lit (.int .u8 0), .lit (.int .u8 0), .lit (.int .u8 0)]]

/-- 'twistlocklaw14.SegregateSmall': WHATEVER THE INPUT: true; the input reads as it did. -/
def segregateSmallSpec : ChangeSpec := { name := "segregateSmall", fn := fun _ => fun
  | [] => { results := [.lit (.bool true)], args := [] }
  | _ => none }
def segregateSmallRow : OpenClaim := { program := "ytmhikcleekfbpaadoor", sum := "7710081620316d5fa921cf5b7be16535014973fd0c0dc8929e4f6c8ac50e8008", func := "twistlock/twistlocklaw14.SegregateSmall", spec := "segregateSmall", unfollowed := true, recurses := true, named := ["twistlock/danger.names", "twistlock/danger.table"], plainKeys := false, apart := false, laid := [("twistlock/danger.names", laid_twistlock_danger_names), ("twistlock/danger.table", laid_twistlock_danger_table)] }
def SegregateSmallSaid : Prop := segregateSmallRow.holds Tryd.pinned (OpenSpec.ofChange segregateSmallSpec)

/-- ITS FALSE NEIGHBOUR: 'it returns false'. Refute it at one input. -/
def segregateSmallWrong : ChangeSpec := { name := "segregateSmall", fn := fun _ => fun
  | [] => { results := [.lit (.bool false)], args := [] }
  | _ => none }
def SegregateSmallWrongFalsely : Prop := segregateSmallRow.holds Tryd.pinned (OpenSpec.ofChange segregateSmallWrong)

/- THE SECOND FORM. 'bulk': how many values and letters a reading holds, each counted each time it is reached (what is shared counts as often as it is met; a slice's spare places count too). A statement '..UptoSaid' is the law's where the arguments, and the package variables that the reading takes, are together of bulk at most 1048576: NARROWER than '..Said'. Prove '..Said' where nothing that the law and all that it calls make is longer than what came in: it says more and counts as full. Else prove '..UptoSaid'. A law counts once. -/
mutual
def uptoBulk {H : Type} : DataW H → Nat
  | .lit (.string bytes) => bytes.length + 1
  | .lit _ => 1
  | .nil => 1
  | .ptr d => uptoBulk d + 1
  | .slice elems spare => uptoBulkAll elems + uptoBulkAll spare + 1
  | .agg parts => uptoBulkAll parts + 1
  | .iface _ d => uptoBulk d + 1
  | .map entries => uptoBulkEntries entries + 1
  | .held _ => 1
def uptoBulkAll {H : Type} : List (DataW H) → Nat
  | [] => 0
  | d :: r => uptoBulk d + uptoBulkAll r
def uptoBulkEntries {H : Type} : List (Lit × DataW H) → Nat
  | [] => 0
  | x :: r => uptoBulkEntry x + uptoBulkEntries r
def uptoBulkEntry {H : Type} : Lit × DataW H → Nat
  | (.string bytes, d) => bytes.length + uptoBulk d + 1
  | (_, d) => uptoBulk d + 1
 end
def uptoSmall : (H : Type) → List (DataW H) → Bool := fun _ ds => decide (uptoBulkAll ds ≤ 1048576)
def OpenSpec.upto (s : _root_.Go.ChangeSpec) : _root_.Go.OpenSpec := { _root_.Go.OpenSpec.ofChange s with cond := some uptoSmall }

/-- 'twistlocklaw14.SegregateSmall', WHERE WHAT IT READS IS OF BULK AT MOST 1048576: true; the input reads as it did. -/
def segregateSmallUptoRow : OpenClaim := { program := "ytmhikcleekfbpaadoor", sum := "7710081620316d5fa921cf5b7be16535014973fd0c0dc8929e4f6c8ac50e8008", func := "twistlock/twistlocklaw14.SegregateSmall", spec := "segregateSmall", unfollowed := true, recurses := true, named := ["twistlock/danger.names", "twistlock/danger.table"], plainKeys := false, apart := false, laid := [("twistlock/danger.names", laid_twistlock_danger_names), ("twistlock/danger.table", laid_twistlock_danger_table)], narrowed := true }
def SegregateSmallUptoSaid : Prop := segregateSmallUptoRow.holds Tryd.pinned (OpenSpec.upto segregateSmallSpec)

end Rows
end Go.Proofs.YtmhikcleekfbpaaDoor
