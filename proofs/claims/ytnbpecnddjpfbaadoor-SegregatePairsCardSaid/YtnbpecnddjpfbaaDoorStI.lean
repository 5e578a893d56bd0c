/-
  Walks of package stack: Weigh.
-/
import Derived.Test.YtnbpecnddjpfbaaDoorStH
import Derived.Test.YtnbpecnddjpfbaaDoorQd
namespace Go.Proofs.YtnbpecnddjpfbaaDoor
open Go.RowKit

def klL (boxes : List Bx) (l : List Stw) (col : Int) : List Value := [.int .i64 (sumF boxes l (halfB col 1)), .int .i64 (sumF boxes l (halfB col 2)), .int .i64 (sumF boxes l (colB col))]
theorem set3 {W : World} {g : Nat} {t : TypeId} {cs : Array Value} (h : Bk W g t cs) (v0 v1 v2 : Value) (hz : cs.size = 3) : Bk (((W.setCell ⟨g, 0, none⟩ v0).setCell ⟨g, 1, none⟩ v1).setCell ⟨g, 2, none⟩ v2) g t #[v0, v1, v2] := by
  have h9 := ((h.set_ 0 v0).set_ 1 v1).set_ 2 v2
  have e : ∀ cs : Array Value, cs.size = 3 → ((cs.setIfInBounds 0 v0).setIfInBounds 1 v1).setIfInBounds 2 v2 = #[v0, v1, v2] := by
    rintro ⟨l⟩ hz
    match l, hz with
    | [_, _, _], _ => simp
  rw [e cs hz] at h9
  exact h9
theorem be_set3 {w W : World} {B g : Nat} (h : Below B w W) (hg : B ≤ g) (v0 v1 v2 : Value) : Below B w (((W.setCell ⟨g, 0, none⟩ v0).setCell ⟨g, 1, none⟩ v1).setCell ⟨g, 2, none⟩ v2) :=
  ((h.setCell (p := ⟨g, 0, none⟩) hg v0).setCell (p := ⟨g, 1, none⟩) hg v1).setCell (p := ⟨g, 2, none⟩) hg v2
end Go.Proofs.YtnbpecnddjpfbaaDoor
