/-
  Plain: bounds of the slots of a ship of few columns.
-/
import Derived.Test.YtmhikcleekfbpaaDoorSgP
namespace Go.Proofs.YtmhikcleekfbpaaDoor
open Go.RowKit

theorem halves_leG (size : Nat) : (halvesL size).length ≤ 2 := by unfold halvesL; split <;> (try split) <;> simp
theorem colSl_lenG (c size : Nat) : ∀ T, (colSlots c size T).length ≤ 2 * T
  | 0 => by simp [colSlots]
  | T + 1 => by
    have h1 := colSl_lenG c size T
    have h2 := halves_leG size
    rw [colSlots_succ, List.length_append]
    have h3 : (tierSlots c T size).length = (halvesL size).length := by simp [tierSlots]
    omega
theorem colsTo_lenG {s : Shp} (hT : ∀ c, tiersN s c ≤ 12) (size : Nat) : ∀ n, (colsTo s size n).length ≤ 24 * n
  | 0 => by simp [colsTo]
  | n + 1 => by
    have h1 := colsTo_lenG hT size n
    have h2 := colSl_lenG n size (tiersN s n)
    have h3 := hT n
    rw [colsTo_succ, List.length_append]
    omega
theorem all_leG {s : Shp} (hT : ∀ c, tiersN s c ≤ 12) (hc : s.cols.length ≤ 60) (size : Nat) : (allF s size).length ≤ 1000000 := by
  have h1 := colsTo_lenG hT size s.cols.length
  unfold allF
  omega
theorem tiers_leG {s : Shp} (h : ∀ c ∈ s.cols, c.tiers ≤ 12) (c : Nat) : tiersN s c ≤ 12 := by
  unfold tiersN
  by_cases hc : c < s.cols.length
  · have := h _ (getD_memD hc default)
    omega
  · rw [List.getD_eq_getElem?_getD, List.getElem?_eq_none (by omega)]
    decide
end Go.Proofs.YtmhikcleekfbpaaDoor
