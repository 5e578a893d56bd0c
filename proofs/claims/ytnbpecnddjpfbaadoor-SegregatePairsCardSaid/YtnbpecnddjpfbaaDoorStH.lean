/-
  Walks of package stack: the closures of Weigh.
-/
import Derived.Test.YtnbpecnddjpfbaaDoorStG
namespace Go.Proofs.YtnbpecnddjpfbaaDoor
open Go.RowKit

def halfB (col : Int) (half : Nat) (y : Slt) : Bool := y.col == col && y.half == half
def colB (col : Int) (y : Slt) : Bool := y.col == col
end Go.Proofs.YtnbpecnddjpfbaaDoor
