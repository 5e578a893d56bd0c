/-
  The walk of twistlocklaw11.Lashed.
-/
import Derived.Test.YtmkplemdnglhmaaLaZ
import Derived.Test.YtmkplemdnglhmaaStR
namespace Go.Proofs.Ytmkplemdnglhmaa
open Go.RowKit

def fL (q : Nat) (_ : Col) : Int × Int × Int := (500000000, 500000000, 4000 * (q : Int))
theorem las_x (q : Nat) {x : Col} (hx : GoodCol x) : { x with lash := 4000 * (q : Int) } = limC (fL q) x := by
  unfold limC fL
  simp only
  rw [← hx.k20, show x.k40 = x.k20 from hx.k40.trans hx.k20.symm]
end Go.Proofs.Ytmkplemdnglhmaa
