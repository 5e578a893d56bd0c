/-
  Walk of twistlocklaw12.few.
-/
import Derived.Test.YtmkplemdnglhmaaFw10
namespace Go.Proofs.Ytmkplemdnglhmaa
open Go.RowKit

/-- A ship, boxes and a state that are examined. -/
structure fewP12 (s : Shp) (boxes : List Bx) (l : List Stw) : Prop where
  cols : s.cols.length ≤ 20
  covs : s.covs.length ≤ 20
  nbx : boxes.length ≤ 40
  nst : l.length ≤ 30
  rows : ∀ x ∈ s.covs, x.rows.length ≤ 40
  each : ∀ c ∈ s.cols, c.plugs.length ≤ 12 ∧ c.tiers ≤ 12
def FewRet12 (s : Shp) (boxes : List Bx) (l : List Stw) (w : World) (e : Ending) (w' : World) : Prop := ∃ b, e = .returned (.bool b) ∧ (b = true → fewP12 s boxes l) ∧ Below w.heap.size w w'
end Go.Proofs.Ytmkplemdnglhmaa
