/-
  Walks of package ship: covers, CoverOf, along, Under, Upon.
-/
import Derived.Test.YtggebllkkiennaaDoorShB
import Derived.StillTailTactics
namespace Go.Proofs.YtggebllkkiennaaDoor
open Go.RowKit

def covB (x : Cov) (c : Col) : Bool := x.bay == c.bay && decide (0 < (pick (· == c.row) x.rows).length)

def coverOfF (s : Shp) (k : Int) : Int :=
  if k < 0 ∨ (s.cols.length : Int) ≤ k then -1 else
  match pick (fun x => covB x (s.cols.getD k.toNat default)) s.covs with
  | [] => -1
  | i :: _ => i
/-- The lists of a ship are short. -/
structure Few (s : Shp) : Prop where
  cols : s.cols.length ≤ 1000000
  covs : s.covs.length ≤ 1000000
  rows : ∀ x ∈ s.covs, x.rows.length ≤ 1000000
  plugs : ∀ x ∈ s.cols, x.plugs.length ≤ 1000000

end Go.Proofs.YtggebllkkiennaaDoor
