/-
  Walks of package stack: Below.
-/
import Derived.Test.YtnbpecnddjpfbaaDoorStF
namespace Go.Proofs.YtnbpecnddjpfbaaDoor
open Go.RowKit

def belowB (x y : Slt) : Bool := y.col == x.col && (decide (y.tier < x.tier) && (y.tier == x.tier - 1 && (y.half == x.half || (y.half == 0 || x.half == 0))))
end Go.Proofs.YtnbpecnddjpfbaaDoor
