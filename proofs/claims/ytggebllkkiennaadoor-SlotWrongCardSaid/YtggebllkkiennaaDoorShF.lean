/-
  Walks of package ship: Apart, Tallest, Places.
-/
import Derived.Test.YtggebllkkiennaaDoorShE
namespace Go.Proofs.YtggebllkkiennaaDoor
open Go.RowKit

def apartF (s : Shp) (a b : Int) : Int × Bool :=
  if (a < 0 ∨ b < 0) ∨ ((s.cols.length : Int) ≤ a ∨ (s.cols.length : Int) ≤ b) then (0, false) else
  let m := (s.cols.getD a.toNat default).bay
  let n := (s.cols.getD b.toNat default).bay
  if (m < 0 ∨ n < 0) ∨ (40 ≤ m ∨ 40 ≤ n) then (0, false) else if m < n then (n - m, true) else (m - n, true)

theorem prod_val {p : Int × Bool} {x : Int} {b : Bool} (h : p = (x, b)) : Value.tuple #[.int .i64 p.1, .bool p.2] = .tuple #[.int .i64 x, .bool b] := by rw [h]

end Go.Proofs.YtggebllkkiennaaDoor
