/-
  Walks of the reference of chapter 07: Beside.
-/
import Derived.Test.YtpmhchbkhohmjaaDoorRfA
import Derived.Test.YtpmhchbkhohmjaaDoorB4
namespace Go.Proofs.YtpmhchbkhohmjaaDoor
open Go.RowKit

theorem besB_self (a : Col) : besB a a = false := by unfold besB; simp
theorem besB_no {a x : Col} (h : x.row = a.row ∨ (a.row < x.row ∧ a.row + 1 ≠ x.row) ∨ (x.row < a.row ∧ x.row + 1 ≠ a.row)) : besB a x = false := by
  unfold besB
  have : (decide (a.row < x.row) && (x.row - 1 == a.row) || decide (x.row < a.row) && (x.row + 1 == a.row)) = false := by
    simp only [Bool.or_eq_false_iff, Bool.and_eq_false_iff, decide_eq_false_iff_not, beq_eq_false_iff_ne]
    omega
  rw [this]; simp
theorem besB_yes {a x : Col} (h : (a.row < x.row ∧ a.row + 1 = x.row) ∨ (x.row < a.row ∧ x.row + 1 = a.row)) : besB a x = (x.bay == a.bay && x.deck == a.deck) := by
  unfold besB
  have : (decide (a.row < x.row) && (x.row - 1 == a.row) || decide (x.row < a.row) && (x.row + 1 == a.row)) = true := by
    simp only [Bool.or_eq_true, Bool.and_eq_true, decide_eq_true_eq, beq_iff_eq]
    omega
  rw [this]; simp
end Go.Proofs.YtpmhchbkhohmjaaDoor
