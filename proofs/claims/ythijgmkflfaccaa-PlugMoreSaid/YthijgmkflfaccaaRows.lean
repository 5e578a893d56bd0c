/-
  No cell of these rows narrows 'for every input' (looked for: loops, veiled, ifaces, maps, wideKeys, modest, calm, conditions, laid).
  DERIVED. THE GIVEN ROWS OF THIS SEAT. 5 by the template 'for every input the law returns true; each argument reads behind the call as it read before'; 0 by the template 'total and deterministic' (their statements: YthijgmkflfaccaaTotals.lean).
  GIVEN WITH THE SEED: the statements are not yours to turn. If you find one false, say at which input.
  Laid BY PROGRAM, IN A SANDBOX (cutbox-rows.mjs): the forced cells as the released guide's own fill.sh prints them over the translation 92f6c2bd14e92fe1… (all of the seat's roots in one cut). By AI agents, Wed Nov 11 2026. No macro, syntax, notation, axiom, sorry.
-/
import Derived.Test.YthijgmkflfaccaaChecked
import GoSem.Claim
import GoSem.ClaimJoined
import GoSem.ClaimMapViews
import Derived.JoinedTies
import Derived.KernelRfl
namespace Go.Proofs.Ythijgmkflfaccaa
/- THE CELL 'sum', in the pinned program and in every row, IS THE sha256 OF THE DUMP (.gsa) THAT YthijgmkflfaccaaProg.lean LOADS. Nothing in Lean hashes anything: it is a label: what it is worth is what the hold of that sum in a sandbox is worth. -/
noncomputable def Try.pinned : Pinned := { name := "ythijgmkflfaccaa", sum := "92f6c2bd14e92fe1ae81d9ab999e459d5b199e50f152de5306efae5e441291ae", checked := Try.checked }
namespace Rows
def none {H : Type} : Left H := { results := [], args := [] }

/-- 'twistlocklaw12.PlugNames': WHATEVER THE INPUT: true; the input reads as it did. -/
def plugNamesSpec : ChangeSpec := { name := "plugNames", fn := fun _ => fun
  | [d1, d2, d3, d4, d5] => { results := [.lit (.bool true)], args := [d1, d2, d3, d4, d5] }
  | _ => none }
def plugNamesRow : OpenClaim := { program := "ythijgmkflfaccaa", sum := "92f6c2bd14e92fe1ae81d9ab999e459d5b199e50f152de5306efae5e441291ae", func := "twistlock/twistlocklaw12.PlugNames", spec := "plugNames", unfollowed := true, recurses := true, plainKeys := false, apart := false }
def PlugNamesSaid : Prop := plugNamesRow.holds Try.pinned (OpenSpec.ofChange plugNamesSpec)

/-- ITS FALSE NEIGHBOUR: 'it returns false'. Refute it at one input. -/
def plugNamesWrong : ChangeSpec := { name := "plugNames", fn := fun _ => fun
  | [d1, d2, d3, d4, d5] => { results := [.lit (.bool false)], args := [d1, d2, d3, d4, d5] }
  | _ => none }
def PlugNamesWrongFalsely : Prop := plugNamesRow.holds Try.pinned (OpenSpec.ofChange plugNamesWrong)

/-- 'twistlocklaw12.PlugSpare': WHATEVER THE INPUT: true; the input reads as it did. -/
def plugSpareSpec : ChangeSpec := { name := "plugSpare", fn := fun _ => fun
  | [d1, d2, d3, d4, d5, d6] => { results := [.lit (.bool true)], args := [d1, d2, d3, d4, d5, d6] }
  | _ => none }
def plugSpareRow : OpenClaim := { program := "ythijgmkflfaccaa", sum := "92f6c2bd14e92fe1ae81d9ab999e459d5b199e50f152de5306efae5e441291ae", func := "twistlock/twistlocklaw12.PlugSpare", spec := "plugSpare", unfollowed := true, recurses := true, plainKeys := false, apart := false }
def PlugSpareSaid : Prop := plugSpareRow.holds Try.pinned (OpenSpec.ofChange plugSpareSpec)

/-- ITS FALSE NEIGHBOUR: 'it returns false'. Refute it at one input. -/
def plugSpareWrong : ChangeSpec := { name := "plugSpare", fn := fun _ => fun
  | [d1, d2, d3, d4, d5, d6] => { results := [.lit (.bool false)], args := [d1, d2, d3, d4, d5, d6] }
  | _ => none }
def PlugSpareWrongFalsely : Prop := plugSpareRow.holds Try.pinned (OpenSpec.ofChange plugSpareWrong)

/-- 'twistlocklaw12.PlugMore': WHATEVER THE INPUT: true; the input reads as it did. -/
def plugMoreSpec : ChangeSpec := { name := "plugMore", fn := fun _ => fun
  | [d1, d2, d3, d4, d5, d6] => { results := [.lit (.bool true)], args := [d1, d2, d3, d4, d5, d6] }
  | _ => none }
def plugMoreRow : OpenClaim := { program := "ythijgmkflfaccaa", sum := "92f6c2bd14e92fe1ae81d9ab999e459d5b199e50f152de5306efae5e441291ae", func := "twistlock/twistlocklaw12.PlugMore", spec := "plugMore", unfollowed := true, recurses := true, plainKeys := false, apart := false }
def PlugMoreSaid : Prop := plugMoreRow.holds Try.pinned (OpenSpec.ofChange plugMoreSpec)

/-- ITS FALSE NEIGHBOUR: 'it returns false'. Refute it at one input. -/
def plugMoreWrong : ChangeSpec := { name := "plugMore", fn := fun _ => fun
  | [d1, d2, d3, d4, d5, d6] => { results := [.lit (.bool false)], args := [d1, d2, d3, d4, d5, d6] }
  | _ => none }
def PlugMoreWrongFalsely : Prop := plugMoreRow.holds Try.pinned (OpenSpec.ofChange plugMoreWrong)

/-- 'twistlocklaw12.PlugWrong': WHATEVER THE INPUT: true; the input reads as it did. -/
def plugWrongSpec : ChangeSpec := { name := "plugWrong", fn := fun _ => fun
  | [d1, d2, d3, d4, d5] => { results := [.lit (.bool true)], args := [d1, d2, d3, d4, d5] }
  | _ => none }
def plugWrongRow : OpenClaim := { program := "ythijgmkflfaccaa", sum := "92f6c2bd14e92fe1ae81d9ab999e459d5b199e50f152de5306efae5e441291ae", func := "twistlock/twistlocklaw12.PlugWrong", spec := "plugWrong", unfollowed := true, recurses := true, plainKeys := false, apart := false }
def PlugWrongSaid : Prop := plugWrongRow.holds Try.pinned (OpenSpec.ofChange plugWrongSpec)

/-- ITS FALSE NEIGHBOUR: 'it returns false'. Refute it at one input. -/
def plugWrongWrong : ChangeSpec := { name := "plugWrong", fn := fun _ => fun
  | [d1, d2, d3, d4, d5] => { results := [.lit (.bool false)], args := [d1, d2, d3, d4, d5] }
  | _ => none }
def PlugWrongWrongFalsely : Prop := plugWrongRow.holds Try.pinned (OpenSpec.ofChange plugWrongWrong)

/-- 'twistlocklaw12.PlugEnough': WHATEVER THE INPUT: true; the input reads as it did. -/
def plugEnoughSpec : ChangeSpec := { name := "plugEnough", fn := fun _ => fun
  | [d1, d2, d3, d4, d5] => { results := [.lit (.bool true)], args := [d1, d2, d3, d4, d5] }
  | _ => none }
def plugEnoughRow : OpenClaim := { program := "ythijgmkflfaccaa", sum := "92f6c2bd14e92fe1ae81d9ab999e459d5b199e50f152de5306efae5e441291ae", func := "twistlock/twistlocklaw12.PlugEnough", spec := "plugEnough", unfollowed := true, recurses := true, plainKeys := false, apart := false }
def PlugEnoughSaid : Prop := plugEnoughRow.holds Try.pinned (OpenSpec.ofChange plugEnoughSpec)

/-- ITS FALSE NEIGHBOUR: 'it returns false'. Refute it at one input. -/
def plugEnoughWrong : ChangeSpec := { name := "plugEnough", fn := fun _ => fun
  | [d1, d2, d3, d4, d5] => { results := [.lit (.bool false)], args := [d1, d2, d3, d4, d5] }
  | _ => none }
def PlugEnoughWrongFalsely : Prop := plugEnoughRow.holds Try.pinned (OpenSpec.ofChange plugEnoughWrong)

/- THE SECOND FORM. 'bulk': how many values and letters a reading holds, each counted each time it is reached (what is shared counts as often as it is met; a slice's spare places count too). A statement '..UptoSaid' is the law's where the arguments, and the package variables that the reading takes, are together of bulk at most 1048576: NARROWER than '..Said'. Prove '..Said' where nothing that the law and all that it calls make is longer than what came in: it says more and counts as full. Else prove '..UptoSaid'. A law counts once. -/
mutual
def uptoBulk {H : Type} : DataW H → Nat
  | .lit (.string bytes) => bytes.length + 1
  | .lit _ => 1
  | .nil => 1
  | .ptr d => uptoBulk d + 1
  | .slice elems spare => uptoBulkAll elems + uptoBulkAll spare + 1
  | .agg parts => uptoBulkAll parts + 1
  | .iface _ d => uptoBulk d + 1
  | .map entries => uptoBulkEntries entries + 1
  | .held _ => 1
def uptoBulkAll {H : Type} : List (DataW H) → Nat
  | [] => 0
  | d :: r => uptoBulk d + uptoBulkAll r
def uptoBulkEntries {H : Type} : List (Lit × DataW H) → Nat
  | [] => 0
  | x :: r => uptoBulkEntry x + uptoBulkEntries r
def uptoBulkEntry {H : Type} : Lit × DataW H → Nat
  | (.string bytes, d) => bytes.length + uptoBulk d + 1
  | (_, d) => uptoBulk d + 1
 end
def uptoSmall : (H : Type) → List (DataW H) → Bool := fun _ ds => decide (uptoBulkAll ds ≤ 1048576)
def OpenSpec.upto (s : _root_.Go.ChangeSpec) : _root_.Go.OpenSpec := { _root_.Go.OpenSpec.ofChange s with cond := some uptoSmall }

/-- 'twistlocklaw12.PlugNames', WHERE WHAT IT READS IS OF BULK AT MOST 1048576: true; the input reads as it did. -/
def plugNamesUptoRow : OpenClaim := { program := "ythijgmkflfaccaa", sum := "92f6c2bd14e92fe1ae81d9ab999e459d5b199e50f152de5306efae5e441291ae", func := "twistlock/twistlocklaw12.PlugNames", spec := "plugNames", unfollowed := true, recurses := true, plainKeys := false, apart := false, narrowed := true }
def PlugNamesUptoSaid : Prop := plugNamesUptoRow.holds Try.pinned (OpenSpec.upto plugNamesSpec)

/-- 'twistlocklaw12.PlugSpare', WHERE WHAT IT READS IS OF BULK AT MOST 1048576: true; the input reads as it did. -/
def plugSpareUptoRow : OpenClaim := { program := "ythijgmkflfaccaa", sum := "92f6c2bd14e92fe1ae81d9ab999e459d5b199e50f152de5306efae5e441291ae", func := "twistlock/twistlocklaw12.PlugSpare", spec := "plugSpare", unfollowed := true, recurses := true, plainKeys := false, apart := false, narrowed := true }
def PlugSpareUptoSaid : Prop := plugSpareUptoRow.holds Try.pinned (OpenSpec.upto plugSpareSpec)

/-- 'twistlocklaw12.PlugMore', WHERE WHAT IT READS IS OF BULK AT MOST 1048576: true; the input reads as it did. -/
def plugMoreUptoRow : OpenClaim := { program := "ythijgmkflfaccaa", sum := "92f6c2bd14e92fe1ae81d9ab999e459d5b199e50f152de5306efae5e441291ae", func := "twistlock/twistlocklaw12.PlugMore", spec := "plugMore", unfollowed := true, recurses := true, plainKeys := false, apart := false, narrowed := true }
def PlugMoreUptoSaid : Prop := plugMoreUptoRow.holds Try.pinned (OpenSpec.upto plugMoreSpec)

/-- 'twistlocklaw12.PlugWrong', WHERE WHAT IT READS IS OF BULK AT MOST 1048576: true; the input reads as it did. -/
def plugWrongUptoRow : OpenClaim := { program := "ythijgmkflfaccaa", sum := "92f6c2bd14e92fe1ae81d9ab999e459d5b199e50f152de5306efae5e441291ae", func := "twistlock/twistlocklaw12.PlugWrong", spec := "plugWrong", unfollowed := true, recurses := true, plainKeys := false, apart := false, narrowed := true }
def PlugWrongUptoSaid : Prop := plugWrongUptoRow.holds Try.pinned (OpenSpec.upto plugWrongSpec)

/-- 'twistlocklaw12.PlugEnough', WHERE WHAT IT READS IS OF BULK AT MOST 1048576: true; the input reads as it did. -/
def plugEnoughUptoRow : OpenClaim := { program := "ythijgmkflfaccaa", sum := "92f6c2bd14e92fe1ae81d9ab999e459d5b199e50f152de5306efae5e441291ae", func := "twistlock/twistlocklaw12.PlugEnough", spec := "plugEnough", unfollowed := true, recurses := true, plainKeys := false, apart := false, narrowed := true }
def PlugEnoughUptoSaid : Prop := plugEnoughUptoRow.holds Try.pinned (OpenSpec.upto plugEnoughSpec)

end Rows
end Go.Proofs.Ythijgmkflfaccaa
