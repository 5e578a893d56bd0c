/-
  The arguments of the laws of chapters 10 and 11, opened: weights, drops.
-/
import Derived.Test.YtmkplemdnglhmaaStO
namespace Go.Proofs.Ytmkplemdnglhmaa
open Go.ChangeShapes Go.WideShapes Go.ChangeAt Go.RowKit Go.Deep
section
variable {H : Type} {enc : TypeId × Value → H} {W : World}
end
end Go.Proofs.Ytmkplemdnglhmaa
