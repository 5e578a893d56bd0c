/-
  Walks of package stack: the iterator that faults hands back, in the wide fence.
-/
import Derived.Sort.CutIn
import Derived.Test.YtnbpecnddjpfbaaDoorStJ
namespace Go.Proofs.YtnbpecnddjpfbaaDoor
open Go.RowKit Go.Shelf

structure Flt where
  col : Int
  kind : Nat
  box : Int
  deriving DecidableEq, Inhabited
def fltL (f : Flt) : List Value := [.int .i64 f.col, .int .u8 (f.kind : Nat), .int .i64 f.box]
/-- The first i kinds of weight that are too great. -/
def kindsTo (hv : List Bool) (col : Int) (i : Nat) : List Flt := (List.range i).filterMap fun j => if hv.getD j false then some ⟨col, 1 + j, 0⟩ else none
def heavies (s : Shp) (boxes : List Bx) (l : List Stw) (k : Nat) : List Bool :=
  [decide ((s.cols.getD k default).k20 < sumF boxes l (halfB k 1)), decide ((s.cols.getD k default).k20 < sumF boxes l (halfB k 2)), decide ((s.cols.getD k default).k40 < sumF boxes l (colB k))]
def topB (deck : Bool) (tol : Int) (boxes : List Bx) (l : List Stw) (k : Nat) (x : Stw) : Bool :=
  x.slot.col == (k : Int) && (deck && (decide (1 ≤ x.slot.tier) && decide (sumF boxes l (belowB x.slot) + tol < (findBx boxes x.box).1.kilos)))
def topsOf (p : Stw → Bool) (k : Nat) (l : List Stw) : List Flt := l.filterMap fun x => if p x then some ⟨k, 4, x.box⟩ else none
/-- The faults of a column. -/
def faultsF (s : Shp) (boxes : List Bx) (l : List Stw) (k : Nat) : List Flt := kindsTo (heavies s boxes l k) k 3 ++ topsOf (topB (s.cols.getD k default).deck s.m0 boxes l k) k l
theorem kindsTo_succ (hv : List Bool) (col : Int) (i : Nat) : kindsTo hv col (i + 1) = kindsTo hv col i ++ if hv.getD i false then [⟨col, 1 + i, 0⟩] else [] := by
  unfold kindsTo
  rw [List.range_succ, List.filterMap_append]
  cases h : hv.getD i false
  all_goals simp only [List.getD_eq_getElem?_getD] at h
  all_goals simp [h]
theorem kindsTo_len (hv : List Bool) (col : Int) (i : Nat) : (kindsTo hv col i).length ≤ i := by
  unfold kindsTo
  exact Nat.le_trans (List.length_filterMap_le _ _) (by simp)
theorem topsOf_succ (p : Stw → Bool) (k : Nat) (l : List Stw) {j : Nat} (h : j < l.length) : topsOf p k (l.take (j + 1)) = topsOf p k (l.take j) ++ if p (l.getD j default) then [⟨k, 4, (l.getD j default).box⟩] else [] := by
  unfold topsOf
  rw [List.take_succ_eq_append_getElem h, List.filterMap_append]
  have e : l.getD j default = l[j] := by simp [h]
  rw [e]
  cases hp : p l[j] <;> simp [hp]
theorem topsOf_len (p : Stw → Bool) (k : Nat) (l : List Stw) : (topsOf p k l).length ≤ l.length := List.length_filterMap_le _ _
theorem ite_no {c : Prop} [Decidable c] {a b : Prop} (h : ¬ c) (hb : b) : if c then a else b := by rw [if_neg h]; exact hb
attribute [local go_sem] Oper.semAt_some

end Go.Proofs.YtnbpecnddjpfbaaDoor
