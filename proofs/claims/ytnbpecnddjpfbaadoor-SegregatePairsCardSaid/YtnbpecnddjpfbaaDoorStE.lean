/-
  Walks of package stow: Above.
-/
import Derived.Test.YtnbpecnddjpfbaaDoorStD
namespace Go.Proofs.YtnbpecnddjpfbaaDoor
open Go.RowKit

def aboveL (l : List Stw) (y : Slt) : List Int := (l.filter fun x => overB x.slot y).map (·.box)
theorem above_take (l : List Stw) (y : Slt) {k : Nat} (h : k < l.length) : aboveL (l.take (k + 1)) y = aboveL (l.take k) y ++ if overB (l.getD k default).slot y then [(l.getD k default).box] else [] := by
  unfold aboveL
  rw [List.take_succ_eq_append_getElem h, List.filter_append, List.map_append]
  congr 1
  have : l.getD k default = l[k] := by simp [List.getD_eq_getElem?_getD, h]
  rw [this]
  simp only [List.filter_cons, List.filter_nil]
  cases overB l[k].slot y <;> rfl
theorem above_len (l : List Stw) (y : Slt) : (aboveL l y).length ≤ l.length := by unfold aboveL; rw [List.length_map]; exact List.length_filter_le _ _
/-- What Above leaves. -/
def AboveRet (w : World) (l : List Stw) (id : Int) (e : Ending) (w' : World) : Prop :=
  (idxF (idS id) l = -1 ∧ e = .returned (.tuple #[.slice none 0 0, .int .i64 6]) ∧ Below w.heap.size w w') ∨
  ∃ (at_ : Nat) (v : Value), at_ < l.length ∧ idxF (idS id) l = at_ ∧ e = .returned (.tuple #[v, .int .i64 0]) ∧ OwnT tInt 3 w' w.heap.size v (aboveL l (l.getD at_ default).slot) ∧ Below w.heap.size w w'
end Go.Proofs.YtnbpecnddjpfbaaDoor
