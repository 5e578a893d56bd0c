/-
  No cell of these rows narrows 'for every input' (looked for: loops, veiled, ifaces, maps, wideKeys, modest, calm, conditions, laid).
  DERIVED. THE GIVEN ROWS OF THIS SEAT. 3 by the template 'for every input the law returns true; each argument reads behind the call as it read before'; 0 by the template 'total and deterministic' (their statements: YtmkplemdnglhmaaTotals.lean).
  GIVEN WITH THE SEED: the statements are not yours to turn. If you find one false, say at which input.
  Laid BY PROGRAM, IN A SANDBOX (cutbox-rows.mjs): the forced cells as the released guide's own fill.sh prints them over the translation 2b7df2054cf88155… (all of the seat's roots in one cut). By AI agents, Wed Nov 11 2026. No macro, syntax, notation, axiom, sorry.
-/
import Derived.Test.YtmkplemdnglhmaaChecked
import GoSem.Claim
import GoSem.ClaimJoined
import GoSem.ClaimMapViews
import Derived.JoinedTies
import Derived.KernelRfl
namespace Go.Proofs.Ytmkplemdnglhmaa
/- THE CELL 'sum', in the pinned program and in every row, IS THE sha256 OF THE DUMP (.gsa) THAT YtmkplemdnglhmaaProg.lean LOADS. Nothing in Lean hashes anything: it is a label: what it is worth is what the hold of that sum in a sandbox is worth. -/
noncomputable def Try.pinned : Pinned := { name := "ytmkplemdnglhmaa", sum := "2b7df2054cf88155f919a16247cc20b6a6fbc8920ccb7cb8f22cf9c17eb41e53", checked := Try.checked }
namespace Rows
def none {H : Type} : Left H := { results := [], args := [] }

/-- 'twistlocklaw10.StackSmall': WHATEVER THE INPUT: true; the input reads as it did. -/
def stackSmallSpec : ChangeSpec := { name := "stackSmall", fn := fun _ => fun
  | [] => { results := [.lit (.bool true)], args := [] }
  | _ => none }
def stackSmallRow : OpenClaim := { program := "ytmkplemdnglhmaa", sum := "2b7df2054cf88155f919a16247cc20b6a6fbc8920ccb7cb8f22cf9c17eb41e53", func := "twistlock/twistlocklaw10.StackSmall", spec := "stackSmall", unfollowed := true, recurses := true, plainKeys := false, apart := false }
def StackSmallSaid : Prop := stackSmallRow.holds Try.pinned (OpenSpec.ofChange stackSmallSpec)

/-- ITS FALSE NEIGHBOUR: 'it returns false'. Refute it at one input. -/
def stackSmallWrong : ChangeSpec := { name := "stackSmall", fn := fun _ => fun
  | [] => { results := [.lit (.bool false)], args := [] }
  | _ => none }
def StackSmallWrongFalsely : Prop := stackSmallRow.holds Try.pinned (OpenSpec.ofChange stackSmallWrong)

/-- 'twistlocklaw12.PlugSmall': WHATEVER THE INPUT: true; the input reads as it did. -/
def plugSmallSpec : ChangeSpec := { name := "plugSmall", fn := fun _ => fun
  | [] => { results := [.lit (.bool true)], args := [] }
  | _ => none }
def plugSmallRow : OpenClaim := { program := "ytmkplemdnglhmaa", sum := "2b7df2054cf88155f919a16247cc20b6a6fbc8920ccb7cb8f22cf9c17eb41e53", func := "twistlock/twistlocklaw12.PlugSmall", spec := "plugSmall", unfollowed := true, recurses := true, plainKeys := false, apart := false }
def PlugSmallSaid : Prop := plugSmallRow.holds Try.pinned (OpenSpec.ofChange plugSmallSpec)

/-- ITS FALSE NEIGHBOUR: 'it returns false'. Refute it at one input. -/
def plugSmallWrong : ChangeSpec := { name := "plugSmall", fn := fun _ => fun
  | [] => { results := [.lit (.bool false)], args := [] }
  | _ => none }
def PlugSmallWrongFalsely : Prop := plugSmallRow.holds Try.pinned (OpenSpec.ofChange plugSmallWrong)

/-- 'twistlocklaw11.LashSmall': WHATEVER THE INPUT: true; the input reads as it did. -/
def lashSmallSpec : ChangeSpec := { name := "lashSmall", fn := fun _ => fun
  | [] => { results := [.lit (.bool true)], args := [] }
  | _ => none }
def lashSmallRow : OpenClaim := { program := "ytmkplemdnglhmaa", sum := "2b7df2054cf88155f919a16247cc20b6a6fbc8920ccb7cb8f22cf9c17eb41e53", func := "twistlock/twistlocklaw11.LashSmall", spec := "lashSmall", unfollowed := true, recurses := true, plainKeys := false, apart := false }
def LashSmallSaid : Prop := lashSmallRow.holds Try.pinned (OpenSpec.ofChange lashSmallSpec)

/-- ITS FALSE NEIGHBOUR: 'it returns false'. Refute it at one input. -/
def lashSmallWrong : ChangeSpec := { name := "lashSmall", fn := fun _ => fun
  | [] => { results := [.lit (.bool false)], args := [] }
  | _ => none }
def LashSmallWrongFalsely : Prop := lashSmallRow.holds Try.pinned (OpenSpec.ofChange lashSmallWrong)

/- THE SECOND FORM. 'bulk': how many values and letters a reading holds, each counted each time it is reached (what is shared counts as often as it is met; a slice's spare places count too). A statement '..UptoSaid' is the law's where the arguments, and the package variables that the reading takes, are together of bulk at most 1048576: NARROWER than '..Said'. Prove '..Said' where nothing that the law and all that it calls make is longer than what came in: it says more and counts as full. Else prove '..UptoSaid'. A law counts once. -/
mutual
def uptoBulk {H : Type} : DataW H → Nat
  | .lit (.string bytes) => bytes.length + 1
  | .lit _ => 1
  | .nil => 1
  | .ptr d => uptoBulk d + 1
  | .slice elems spare => uptoBulkAll elems + uptoBulkAll spare + 1
  | .agg parts => uptoBulkAll parts + 1
  | .iface _ d => uptoBulk d + 1
  | .map entries => uptoBulkEntries entries + 1
  | .held _ => 1
def uptoBulkAll {H : Type} : List (DataW H) → Nat
  | [] => 0
  | d :: r => uptoBulk d + uptoBulkAll r
def uptoBulkEntries {H : Type} : List (Lit × DataW H) → Nat
  | [] => 0
  | x :: r => uptoBulkEntry x + uptoBulkEntries r
def uptoBulkEntry {H : Type} : Lit × DataW H → Nat
  | (.string bytes, d) => bytes.length + uptoBulk d + 1
  | (_, d) => uptoBulk d + 1
 end
def uptoSmall : (H : Type) → List (DataW H) → Bool := fun _ ds => decide (uptoBulkAll ds ≤ 1048576)
def OpenSpec.upto (s : _root_.Go.ChangeSpec) : _root_.Go.OpenSpec := { _root_.Go.OpenSpec.ofChange s with cond := some uptoSmall }

/-- 'twistlocklaw10.StackSmall', WHERE WHAT IT READS IS OF BULK AT MOST 1048576: true; the input reads as it did. -/
def stackSmallUptoRow : OpenClaim := { program := "ytmkplemdnglhmaa", sum := "2b7df2054cf88155f919a16247cc20b6a6fbc8920ccb7cb8f22cf9c17eb41e53", func := "twistlock/twistlocklaw10.StackSmall", spec := "stackSmall", unfollowed := true, recurses := true, plainKeys := false, apart := false, narrowed := true }
def StackSmallUptoSaid : Prop := stackSmallUptoRow.holds Try.pinned (OpenSpec.upto stackSmallSpec)

/-- 'twistlocklaw12.PlugSmall', WHERE WHAT IT READS IS OF BULK AT MOST 1048576: true; the input reads as it did. -/
def plugSmallUptoRow : OpenClaim := { program := "ytmkplemdnglhmaa", sum := "2b7df2054cf88155f919a16247cc20b6a6fbc8920ccb7cb8f22cf9c17eb41e53", func := "twistlock/twistlocklaw12.PlugSmall", spec := "plugSmall", unfollowed := true, recurses := true, plainKeys := false, apart := false, narrowed := true }
def PlugSmallUptoSaid : Prop := plugSmallUptoRow.holds Try.pinned (OpenSpec.upto plugSmallSpec)

/-- 'twistlocklaw11.LashSmall', WHERE WHAT IT READS IS OF BULK AT MOST 1048576: true; the input reads as it did. -/
def lashSmallUptoRow : OpenClaim := { program := "ytmkplemdnglhmaa", sum := "2b7df2054cf88155f919a16247cc20b6a6fbc8920ccb7cb8f22cf9c17eb41e53", func := "twistlock/twistlocklaw11.LashSmall", spec := "lashSmall", unfollowed := true, recurses := true, plainKeys := false, apart := false, narrowed := true }
def LashSmallUptoSaid : Prop := lashSmallUptoRow.holds Try.pinned (OpenSpec.upto lashSmallSpec)

end Rows
end Go.Proofs.Ytmkplemdnglhmaa
