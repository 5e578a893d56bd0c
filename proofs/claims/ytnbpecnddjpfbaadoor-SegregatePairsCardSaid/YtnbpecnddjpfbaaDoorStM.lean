/-
  Walks of package stack: Check.
-/
import Derived.Test.YtnbpecnddjpfbaaDoorStL
namespace Go.Proofs.YtnbpecnddjpfbaaDoor
open Go.RowKit

theorem own_ltT {α : Type} {T : Ty α} {e : TypeId} {w : World} {B : Nat} {v : Value} {l : List α} (h : OwnT T e w B v l) : ∀ g, v.ownBlock = some g → g < w.heap.size := by
  obtain ⟨xs, ho, _⟩ := h
  exact fun g hg => (ho.lt g hg).2
def checkF (s : Shp) (boxes : List Bx) (l : List Stw) (n : Nat) : List Flt := (List.range n).flatMap fun c => faultsF s boxes l c
theorem checkF_succ (s : Shp) (boxes : List Bx) (l : List Stw) (n : Nat) : checkF s boxes l (n + 1) = checkF s boxes l n ++ faultsF s boxes l n := by simp [checkF, List.range_succ]
theorem faultsF_len (s : Shp) (boxes : List Bx) (l : List Stw) (k : Nat) : (faultsF s boxes l k).length ≤ 3 + l.length := by
  unfold faultsF
  rw [List.length_append]
  have h1 := kindsTo_len (heavies s boxes l k) k 3
  have h2 := topsOf_len (topB (s.cols.getD k default).deck s.m0 boxes l k) k l
  omega
theorem checkF_len (s : Shp) (boxes : List Bx) (l : List Stw) : ∀ n, (checkF s boxes l n).length ≤ n * (3 + l.length)
  | 0 => by simp [checkF]
  | n + 1 => by
    rw [checkF_succ, List.length_append, Nat.succ_mul]
    have h1 := checkF_len s boxes l n
    have h2 := faultsF_len s boxes l n
    omega
/-- The faults of a whole state. -/
def checkL (s : Shp) (boxes : List Bx) (l : List Stw) : List Flt := if stowRight s boxes l then checkF s boxes l s.cols.length else []
end Go.Proofs.YtnbpecnddjpfbaaDoor
