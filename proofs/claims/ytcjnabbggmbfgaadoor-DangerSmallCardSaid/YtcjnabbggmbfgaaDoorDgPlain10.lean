/-
  Plain mathematics of the reference's division, part 2: the best division of all patterns; it is that of the program (checked set by set in the kernel).
-/
import Derived.Test.YtcjnabbggmbfgaaDoorDgPlain9
import Derived.Test.YtcjnabbggmbfgaaDoorDgPlain3
namespace Go.Proofs.YtcjnabbggmbfgaaDoor
namespace Dg
/-- What 'best' does: f classes are left. -/
def bestF (cls : List Nat) (most : Nat) : Nat → List Nat → Nat → Option (List (List Nat))
  | 0, pat, many => if decide (most < many) || !okTo cls pat pat.length then none else groupsF cls pat many
  | f + 1, pat, many => if decide (most < many) || !okTo cls pat pat.length then none else
      (List.range (many + 1)).findSome? fun g => bestF cls most f (pat ++ [g]) (if g = many then many + 1 else many)
def rdivC (cs : List Nat) : List (List Nat) := ((List.range cs.length).findSome? fun m => bestF cs (m + 1) cs.length [] 0).getD []
theorem all_same : ∀ cs ∈ subs 9, rdivC cs = divideC cs := by decide +kernel
theorem rdiv_eq (p : List Nat) : rdivC (clsTo p 9) = divide p := all_same _ (clsTo_subs p 9)
end Dg
end Go.Proofs.YtcjnabbggmbfgaaDoor
