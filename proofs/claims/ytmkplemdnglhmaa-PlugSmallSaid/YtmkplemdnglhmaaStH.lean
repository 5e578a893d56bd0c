/-
  Walks of package stack: the closures of Weigh.
-/
import Derived.Test.YtmkplemdnglhmaaStG
namespace Go.Proofs.Ytmkplemdnglhmaa
open Go.RowKit

def halfB (col : Int) (half : Nat) (y : Slt) : Bool := y.col == col && y.half == half
def colB (col : Int) (y : Slt) : Bool := y.col == col
set_option maxRecDepth 100000 in
set_option maxHeartbeats 1000000 in
theorem weigh11 (col : Int) (half : Nat) (y : Slt) (g1 g2 : Nat) (w : World) (h1 : w.cell? ⟨g1, 0, none⟩ = some (.int .i64 col)) (h2 : w.cell? ⟨g2, 0, none⟩ = some (.int .u8 (half : Nat))) :
    Calls Try.prog 60 #[.agg (sltL y).toArray, .pointer (some ⟨g1, 0, none⟩), .pointer (some ⟨g2, 0, none⟩)] w (Ret w (.bool (halfB col half y))) := by
  obtain ⟨yc, yt, yh⟩ := y
  have HV : Hid (halfB col half ⟨yc, yt, yh⟩ = (yc == col && ((yh : Int) == (half : Int)))) := Lib.hid (by rw [int_beq]; rfl)
  have n1 := block_lt_of_cell h1
  have n2 := block_lt_of_cell h2
  simp only at n1 n2
  unfold sltL
  simp only
  cases e1 : (yc == col) <;> cases e2 : ((yh : Int) == (half : Int))
  all_goals
    go_enter Try.func60, Try.ntmps60
    go_wp2
    go_ret
    exact ⟨by rw [HV.out, e1, e2]; rfl, ba1 w _⟩
set_option maxRecDepth 100000 in
theorem weigh2 (col : Int) (y : Slt) (g1 : Nat) (w : World) (h1 : w.cell? ⟨g1, 0, none⟩ = some (.int .i64 col)) :
    Calls Try.prog 61 #[.agg (sltL y).toArray, .pointer (some ⟨g1, 0, none⟩)] w (Ret w (.bool (colB col y))) := by
  obtain ⟨yc, yt, yh⟩ := y
  have n1 := block_lt_of_cell h1
  simp only at n1
  unfold sltL colB
  simp only
  go_enter Try.func61, Try.ntmps61
  go_wp2
  go_ret
  exact ⟨rfl, ba1 w _⟩
set_option maxRecDepth 100000 in
theorem weigh1 (half : Nat) (g1 : Value) (w : World) :
    Calls Try.prog 59 #[.int .u8 (half : Nat), g1] w (fun e w' => e = .returned (.func (.func 60) #[] #[g1, .pointer (some ⟨w.heap.size, 0, none⟩)]) ∧ w' = w.alloc (.cells #[.int .u8 (half : Nat)] 5)) := by
  go_enter Try.func59, Try.ntmps59
  go_wp2
  go_ret
  exact ⟨rfl, rfl⟩
end Go.Proofs.Ytmkplemdnglhmaa
