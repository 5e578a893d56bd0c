/-
  Walks of package stack: Faults, a range over a function.
-/
import Derived.Test.YtnbpecnddjpfbaaDoorStK
namespace Go.Proofs.YtnbpecnddjpfbaaDoor
open Go.RowKit Go.Shelf

def tFlt : Ty Flt where
  k := 3
  pos := by decide
  rd := fun _ _ cs x => cs = fltL x
  len := by rintro _ _ _ _ rfl; rfl
  one := by rintro _ _ _ _ rfl; rfl
  keep := fun h _ => h
  more := fun h _ => h
theorem flat_flt {w : World} {S : Nat → Prop} : ∀ l : List Flt, Flat tFlt w S (l.flatMap fltL) l
  | [] => rfl
  | x :: l => ⟨fltL x, l.flatMap fltL, rfl, rfl, flat_flt l⟩
attribute [local go_sem] Oper.semAt_some

end Go.Proofs.YtnbpecnddjpfbaaDoor
