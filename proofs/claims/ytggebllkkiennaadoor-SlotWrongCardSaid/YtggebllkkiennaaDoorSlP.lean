/-
  Plain facts on the order of slots, and slots compared by '=='.
-/
import Derived.Test.YtggebllkkiennaaDoorSlD
import Derived.Laws.StructEq
namespace Go.Proofs.YtggebllkkiennaaDoor
open Go.RowKit

theorem cmpF_eq (a b : Slt) : cmpF a b = if a.col < b.col then -1 else if b.col < a.col then 1 else if a.tier < b.tier then -1 else if b.tier < a.tier then 1 else if a.half < b.half then -1 else if b.half < a.half then 1 else 0 := by
  unfold cmpF orF orF orF orF cmpZ
  simp only [Int.ofNat_lt]
  by_cases h1 : a.col < b.col <;> by_cases h2 : b.col < a.col <;> by_cases h3 : a.tier < b.tier <;> by_cases h4 : b.tier < a.tier <;> by_cases h5 : a.half < b.half <;> by_cases h6 : b.half < a.half <;> simp [h1, h2, h3, h4, h5, h6]
theorem cmpF_neg (a b : Slt) : cmpF b a = -cmpF a b := by
  rw [cmpF_eq, cmpF_eq]
  (repeat' split) <;> omega
theorem cmpF_three (a b : Slt) : cmpF a b = -1 ∨ cmpF a b = 0 ∨ cmpF a b = 1 := by
  rw [cmpF_eq]
  (repeat' split) <;> simp
theorem cmpF_zero (a b : Slt) : sltEq a b = (cmpF a b == 0) := by
  obtain ⟨ac, at_, ah⟩ := a
  obtain ⟨bc, bt, bh⟩ := b
  rw [cmpF_eq, Bool.eq_iff_iff]
  simp only [sltEq, Bool.and_eq_true, beq_iff_eq]
  (repeat' split) <;> simp <;> omega
theorem cmpF_lt (a b : Slt) : cmpF a b = -1 ↔ a.col < b.col ∨ a.col = b.col ∧ (a.tier < b.tier ∨ a.tier = b.tier ∧ a.half < b.half) := by
  rw [cmpF_eq]
  (repeat' split) <;> omega
theorem cmpF_trans (a b c : Slt) (h1 : cmpF a b = -1) (h2 : cmpF b c = -1) : cmpF a c = -1 := by
  rw [cmpF_lt] at *
  omega
theorem run_eql_slt (x y : Slt) (W : World) : (binOp .eql 34 (.agg (sltL x).toArray) (.agg (sltL y).toArray)).run Tryd.prog W = .ok (.bool (sltEq x y)) W := by
  obtain ⟨xc, xt, xh⟩ := x
  obtain ⟨yc, yt, yh⟩ := y
  unfold sltL sltEq
  simp only
  rw [← int_beq]
  cases e1 : (xc == yc) <;> cases e2 : (xt == yt) <;> cases e3 : ((xh : Int) == (yh : Int)) <;> simp [go_sem, e1, e2, e3]
theorem meet_symm (a b : Slt) : meetB b a = meetB a b := by
  rw [Bool.eq_iff_iff]
  simp only [meetB, sharesB, Bool.and_eq_true, Bool.or_eq_true, beq_iff_eq]
  omega
theorem meet_self (a : Slt) : meetB a a = true := by simp [meetB, sharesB]
theorem over_self (a : Slt) : overB a a = false := by simp [overB]
theorem over_not (a b : Slt) (h : overB a b = true) : meetB a b = false ∧ overB b a = false ∧ cmpF a b = 1 := by
  simp only [overB, Bool.and_eq_true, beq_iff_eq, decide_eq_true_eq] at h
  obtain ⟨h1, h2, h3⟩ := h
  refine ⟨?_, ?_, ?_⟩
  · simp only [meetB, Bool.and_eq_false_iff, beq_eq_false_iff_ne]; right; left; omega
  · simp only [overB, Bool.and_eq_false_iff, decide_eq_false_iff_not]; right; left; omega
  · rw [cmpF_eq, if_neg (by omega), if_neg (by omega), if_neg (by omega), if_pos (by omega)]
theorem over_pass (a b c : Slt) (h1 : overB a b = true) (h2 : overB b c = true) (h3 : overB a c = false) : b.half = 0 ∧ a.half ≠ c.half ∧ a.half ≠ 0 ∧ c.half ≠ 0 := by
  simp only [overB, sharesB, Bool.and_eq_true, Bool.or_eq_true, beq_iff_eq, decide_eq_true_eq, Bool.and_eq_false_iff, Bool.or_eq_false_iff, beq_eq_false_iff_ne, decide_eq_false_iff_not] at h1 h2 h3
  omega
end Go.Proofs.YtggebllkkiennaaDoor
