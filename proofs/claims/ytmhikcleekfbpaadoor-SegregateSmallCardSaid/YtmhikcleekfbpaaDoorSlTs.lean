/-
  An assertion: a slice that an operation has laid.
-/
import Derived.Test.YtmhikcleekfbpaaDoorQg
namespace Go.Proofs.YtmhikcleekfbpaaDoor
open Go.RowKit

/-- A slice that operation i has laid. -/
def As.slT {α : Type} (T : Ty α) (i : Nat) (l : List α) : As := ⟨[i], fun x w => ∃ A c, x i = .slice A l.length c ∧ l.length ≤ c ∧ SlT T w (Lt w.heap.size) A l, fun h ⟨A, c, e, r⟩ => ⟨A, c, (h i (by simp)).symm.trans e, r⟩, fun hb ⟨A, c, e, h1, h2⟩ => ⟨A, c, e, h1, h2.on hb⟩⟩
end Go.Proofs.YtmhikcleekfbpaaDoor
