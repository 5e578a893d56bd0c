/-
  Walks of package ship: Beside, Apart, Tallest, Places.
-/
import Derived.Test.YtggebllkkiennaaDoorShD
namespace Go.Proofs.YtggebllkkiennaaDoor
open Go.RowKit

def I64 (x : Int) : Prop := -9223372036854775808 ≤ x ∧ x ≤ 9223372036854775807
def besB (a c : Col) : Bool := c.bay == a.bay && (c.deck == a.deck && (decide (a.row < c.row) && (c.row - 1 == a.row) || decide (c.row < a.row) && (c.row + 1 == a.row)))

def besideF (s : Shp) (k : Int) : List Int :=
  if k < 0 ∨ (s.cols.length : Int) ≤ k then [] else pick (besB (s.cols.getD k.toNat default)) s.cols

end Go.Proofs.YtggebllkkiennaaDoor
