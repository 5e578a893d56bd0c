/-
  The divisions of all sets of classes are good (checked set by set in the kernel).
-/
import Derived.Test.YtcjnabbggmbfgaaDoorDgPlain3
namespace Go.Proofs.YtcjnabbggmbfgaaDoor
namespace Dg
theorem all_good : ∀ cs ∈ subs 9, Good cs (divideC cs) := by decide +kernel
theorem divide_good (p : List Nat) : Good (clsTo p 9) (divide p) := all_good _ (clsTo_subs p 9)
end Dg
end Go.Proofs.YtcjnabbggmbfgaaDoor
