/-
  Walks of packages stow and stack: find, there; slices.IndexFunc over what is stowed.
-/
import Derived.Test.YtnbpecnddjpfbaaDoorStC
namespace Go.Proofs.YtnbpecnddjpfbaaDoor
open Go.RowKit

/-- A closure on what is stowed that reports p. -/
def StwFn (w : World) (l : List Stw) (fid : FuncId) (caps : Array Value) (p : Stw → Bool) : Prop :=
  ∀ (x : Stw) (w' : World), x ∈ l → Below w.heap.size w w' → Calls Tryd.prog fid (#[.agg (stwL x).toArray] ++ caps) w' (Ret w' (.bool (p x)))
def idS (id : Int) (x : Stw) : Bool := x.box == id
def thereB (s : Shp) (col : Int) : Bool := decide (0 ≤ col) && decide (col < s.cols.length)
end Go.Proofs.YtnbpecnddjpfbaaDoor
