/-
  Walks of package ship: along, Under, Upon, Beside.
-/
import Derived.Test.YtggebllkkiennaaDoorShC
namespace Go.Proofs.YtggebllkkiennaaDoor
open Go.RowKit

def alongB (x : Cov) (deck : Bool) (c : Col) : Bool := c.deck == deck && covB x c

def alongF (s : Shp) (k : Int) (deck : Bool) : List Int :=
  if k < 0 ∨ (s.covs.length : Int) ≤ k then [] else pick (alongB (s.covs.getD k.toNat default) deck) s.cols

end Go.Proofs.YtggebllkkiennaaDoor
