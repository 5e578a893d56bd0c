/-
  Walk of twistlocklaw10.few.
-/
import Derived.Test.YtmkplemdnglhmaaStA
namespace Go.Proofs.Ytmkplemdnglhmaa
open Go.RowKit

/-- A ship, boxes and a state that are examined. -/
structure fewP10 (s : Shp) (boxes : List Bx) (l : List Stw) : Prop where
  cols : s.cols.length ≤ 20
  covs : s.covs.length ≤ 20
  nbx : boxes.length ≤ 40
  nst : l.length ≤ 30
  rows : ∀ x ∈ s.covs, x.rows.length ≤ 40
  each : ∀ c ∈ s.cols, c.plugs.length ≤ 12 ∧ c.tiers ≤ 12 ∧ (-1000000000000 ≤ c.k20 ∧ c.k20 ≤ 1000000000000) ∧ (-1000000000000 ≤ c.k40 ∧ c.k40 ≤ 1000000000000)
  kilos : ∀ b ∈ boxes, -1000000000000 ≤ b.kilos ∧ b.kilos ≤ 1000000000000
  tol : -1000000000000 ≤ s.m0 ∧ s.m0 ≤ 1000000000000
def FewRet10 (s : Shp) (boxes : List Bx) (l : List Stw) (w : World) (e : Ending) (w' : World) : Prop := ∃ b, e = .returned (.bool b) ∧ (b = true → fewP10 s boxes l) ∧ Below w.heap.size w w'
theorem all_memD {α : Type} {l : List α} {d : α} {p : α → Prop} (h : ∀ j, j < l.length → p (l.getD j d)) : ∀ x ∈ l, p x := fun x hx => by
  obtain ⟨i, hi, rfl⟩ := List.getElem_of_mem hx
  simpa [hi] using h i hi
def fairB (z : Int) : Bool := decide (-1000000000000 ≤ z) && decide (z ≤ 1000000000000)
end Go.Proofs.Ytmkplemdnglhmaa
