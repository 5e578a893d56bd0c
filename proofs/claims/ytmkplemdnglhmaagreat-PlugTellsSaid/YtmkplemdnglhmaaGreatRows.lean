/-
  No cell of these rows narrows 'for every input' (looked for: loops, veiled, ifaces, maps, wideKeys, modest, calm, conditions, laid).
  DERIVED. THE GIVEN ROWS OF THIS SEAT. 3 by the template 'for every input the law returns true; each argument reads behind the call as it read before'; 0 by the template 'total and deterministic' (their statements: YtmkplemdnglhmaaGreatTotals.lean).
  GIVEN WITH THE SEED: the statements are not yours to turn. If you find one false, say at which input.
  Laid BY PROGRAM, IN A SANDBOX (cutbox-rows.mjs): the forced cells as the released guide's own fill.sh prints them over the translation 55fda4371be9e637… (all of the seat's roots in one cut). By AI agents, Wed Nov 11 2026. No macro, syntax, notation, axiom, sorry.
-/
import Derived.Test.YtmkplemdnglhmaaGreatChecked
import GoSem.Claim
import GoSem.ClaimJoined
import GoSem.ClaimMapViews
import Derived.JoinedTies
import Derived.KernelRfl
namespace Go.Proofs.YtmkplemdnglhmaaGreat
/- THE CELL 'sum', in the pinned program and in every row, IS THE sha256 OF THE DUMP (.gsa) THAT YtmkplemdnglhmaaGreatProg.lean LOADS. Nothing in Lean hashes anything: it is a label: what it is worth is what the hold of that sum in a sandbox is worth. -/
noncomputable def Tryz.pinned : Pinned := { name := "ytmkplemdnglhmaagreat", sum := "55fda4371be9e637d39ed5a9d5b55d7b9c670d3c775cf5b7f80b6856e7d7f442", checked := Tryz.checked }
namespace Rows
def none {H : Type} : Left H := { results := [], args := [] }

/-- 'twistlocklaw10.StackTells': WHATEVER THE INPUT: true; the input reads as it did. -/
def stackTellsSpec : ChangeSpec := { name := "stackTells", fn := fun _ => fun
  | [d1, d2, d3, d4] => { results := [.lit (.bool true)], args := [d1, d2, d3, d4] }
  | _ => none }
def stackTellsRow : OpenClaim := { program := "ytmkplemdnglhmaagreat", sum := "55fda4371be9e637d39ed5a9d5b55d7b9c670d3c775cf5b7f80b6856e7d7f442", func := "twistlock/twistlocklaw10.StackTells", spec := "stackTells", unfollowed := true, recurses := true, plainKeys := false, apart := false }
def StackTellsSaid : Prop := stackTellsRow.holds Tryz.pinned (OpenSpec.ofChange stackTellsSpec)

/-- ITS FALSE NEIGHBOUR: 'it returns false'. Refute it at one input. -/
def stackTellsWrong : ChangeSpec := { name := "stackTells", fn := fun _ => fun
  | [d1, d2, d3, d4] => { results := [.lit (.bool false)], args := [d1, d2, d3, d4] }
  | _ => none }
def StackTellsWrongFalsely : Prop := stackTellsRow.holds Tryz.pinned (OpenSpec.ofChange stackTellsWrong)

/-- 'twistlocklaw12.PlugTells': WHATEVER THE INPUT: true; the input reads as it did. -/
def plugTellsSpec : ChangeSpec := { name := "plugTells", fn := fun _ => fun
  | [d1, d2, d3, d4, d5] => { results := [.lit (.bool true)], args := [d1, d2, d3, d4, d5] }
  | _ => none }
def plugTellsRow : OpenClaim := { program := "ytmkplemdnglhmaagreat", sum := "55fda4371be9e637d39ed5a9d5b55d7b9c670d3c775cf5b7f80b6856e7d7f442", func := "twistlock/twistlocklaw12.PlugTells", spec := "plugTells", unfollowed := true, recurses := true, plainKeys := false, apart := false }
def PlugTellsSaid : Prop := plugTellsRow.holds Tryz.pinned (OpenSpec.ofChange plugTellsSpec)

/-- ITS FALSE NEIGHBOUR: 'it returns false'. Refute it at one input. -/
def plugTellsWrong : ChangeSpec := { name := "plugTells", fn := fun _ => fun
  | [d1, d2, d3, d4, d5] => { results := [.lit (.bool false)], args := [d1, d2, d3, d4, d5] }
  | _ => none }
def PlugTellsWrongFalsely : Prop := plugTellsRow.holds Tryz.pinned (OpenSpec.ofChange plugTellsWrong)

/-- 'twistlocklaw11.LashTells': WHATEVER THE INPUT: true; the input reads as it did. -/
def lashTellsSpec : ChangeSpec := { name := "lashTells", fn := fun _ => fun
  | [d1, d2, d3, d4] => { results := [.lit (.bool true)], args := [d1, d2, d3, d4] }
  | _ => none }
def lashTellsRow : OpenClaim := { program := "ytmkplemdnglhmaagreat", sum := "55fda4371be9e637d39ed5a9d5b55d7b9c670d3c775cf5b7f80b6856e7d7f442", func := "twistlock/twistlocklaw11.LashTells", spec := "lashTells", unfollowed := true, recurses := true, plainKeys := false, apart := false }
def LashTellsSaid : Prop := lashTellsRow.holds Tryz.pinned (OpenSpec.ofChange lashTellsSpec)

/-- ITS FALSE NEIGHBOUR: 'it returns false'. Refute it at one input. -/
def lashTellsWrong : ChangeSpec := { name := "lashTells", fn := fun _ => fun
  | [d1, d2, d3, d4] => { results := [.lit (.bool false)], args := [d1, d2, d3, d4] }
  | _ => none }
def LashTellsWrongFalsely : Prop := lashTellsRow.holds Tryz.pinned (OpenSpec.ofChange lashTellsWrong)

/- THE SECOND FORM. 'bulk': how many values and letters a reading holds, each counted each time it is reached (what is shared counts as often as it is met; a slice's spare places count too). A statement '..UptoSaid' is the law's where the arguments, and the package variables that the reading takes, are together of bulk at most 1048576: NARROWER than '..Said'. Prove '..Said' where nothing that the law and all that it calls make is longer than what came in: it says more and counts as full. Else prove '..UptoSaid'. A law counts once. -/
mutual
def uptoBulk {H : Type} : DataW H → Nat
  | .lit (.string bytes) => bytes.length + 1
  | .lit _ => 1
  | .nil => 1
  | .ptr d => uptoBulk d + 1
  | .slice elems spare => uptoBulkAll elems + uptoBulkAll spare + 1
  | .agg parts => uptoBulkAll parts + 1
  | .iface _ d => uptoBulk d + 1
  | .map entries => uptoBulkEntries entries + 1
  | .held _ => 1
def uptoBulkAll {H : Type} : List (DataW H) → Nat
  | [] => 0
  | d :: r => uptoBulk d + uptoBulkAll r
def uptoBulkEntries {H : Type} : List (Lit × DataW H) → Nat
  | [] => 0
  | x :: r => uptoBulkEntry x + uptoBulkEntries r
def uptoBulkEntry {H : Type} : Lit × DataW H → Nat
  | (.string bytes, d) => bytes.length + uptoBulk d + 1
  | (_, d) => uptoBulk d + 1
 end
def uptoSmall : (H : Type) → List (DataW H) → Bool := fun _ ds => decide (uptoBulkAll ds ≤ 1048576)
def OpenSpec.upto (s : _root_.Go.ChangeSpec) : _root_.Go.OpenSpec := { _root_.Go.OpenSpec.ofChange s with cond := some uptoSmall }

/-- 'twistlocklaw10.StackTells', WHERE WHAT IT READS IS OF BULK AT MOST 1048576: true; the input reads as it did. -/
def stackTellsUptoRow : OpenClaim := { program := "ytmkplemdnglhmaagreat", sum := "55fda4371be9e637d39ed5a9d5b55d7b9c670d3c775cf5b7f80b6856e7d7f442", func := "twistlock/twistlocklaw10.StackTells", spec := "stackTells", unfollowed := true, recurses := true, plainKeys := false, apart := false, narrowed := true }
def StackTellsUptoSaid : Prop := stackTellsUptoRow.holds Tryz.pinned (OpenSpec.upto stackTellsSpec)

/-- 'twistlocklaw12.PlugTells', WHERE WHAT IT READS IS OF BULK AT MOST 1048576: true; the input reads as it did. -/
def plugTellsUptoRow : OpenClaim := { program := "ytmkplemdnglhmaagreat", sum := "55fda4371be9e637d39ed5a9d5b55d7b9c670d3c775cf5b7f80b6856e7d7f442", func := "twistlock/twistlocklaw12.PlugTells", spec := "plugTells", unfollowed := true, recurses := true, plainKeys := false, apart := false, narrowed := true }
def PlugTellsUptoSaid : Prop := plugTellsUptoRow.holds Tryz.pinned (OpenSpec.upto plugTellsSpec)

/-- 'twistlocklaw11.LashTells', WHERE WHAT IT READS IS OF BULK AT MOST 1048576: true; the input reads as it did. -/
def lashTellsUptoRow : OpenClaim := { program := "ytmkplemdnglhmaagreat", sum := "55fda4371be9e637d39ed5a9d5b55d7b9c670d3c775cf5b7f80b6856e7d7f442", func := "twistlock/twistlocklaw11.LashTells", spec := "lashTells", unfollowed := true, recurses := true, plainKeys := false, apart := false, narrowed := true }
def LashTellsUptoSaid : Prop := lashTellsUptoRow.holds Tryz.pinned (OpenSpec.upto lashTellsSpec)

end Rows
end Go.Proofs.YtmkplemdnglhmaaGreat
