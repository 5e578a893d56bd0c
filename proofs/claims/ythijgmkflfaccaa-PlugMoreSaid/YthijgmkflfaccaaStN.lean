/-
  Walks of package stack: Room.
-/
import Derived.Test.YthijgmkflfaccaaStM
namespace Go.Proofs.Ythijgmkflfaccaa
open Go.RowKit

def minI (a b : Int) : Int := if b < a then b else a
def maxI (a b : Int) : Int := if a < b then b else a
/-- What there is room for in a half. -/
def room1 (c : Col) (fore aft all : Int) (half : Nat) : Int := if half = 1 then minI (c.k40 - all) (c.k20 - fore) else if half = 2 then minI (c.k40 - all) (c.k20 - aft) else c.k40 - all
def room2 (c : Col) (fore aft all below tol : Int) (x : Slt) : Int := if c.deck && decide (0 < x.tier) then minI (room1 c fore aft all x.half) (below + tol) else room1 c fore aft all x.half
def roomK (s : Shp) (boxes : List Bx) (l : List Stw) (x : Slt) (k : Nat) : Int := maxI (room2 (s.cols.getD k default) (sumF boxes l (halfB k 1)) (sumF boxes l (halfB k 2)) (sumF boxes l (colB k)) (sumF boxes l (belowB x)) s.m0 x) 0
def roomF (s : Shp) (boxes : List Bx) (l : List Stw) (x : Slt) : Int := if thereB s x.col then roomK s boxes l x x.col.toNat else 0
end Go.Proofs.Ythijgmkflfaccaa
