/-
  Plain facts for PlugSpare.
-/
import Derived.Test.YthijgmkflfaccaaPlU
namespace Go.Proofs.Ythijgmkflfaccaa
open Go.RowKit

/-- The reefer that is put into a spare slot. -/
def rb900 (sz : Nat) : Bx := ⟨900, ⟨#[]⟩, sz, false, 1, 0, 1, 0, true⟩
theorem Ld.no900 {s : Shp} {bs : List Bx} {st : List Stw} (h : Ld s bs st) : ∀ b ∈ bs, b.id ≠ 900 := fun b hb => by have := h.box b hb; omega
theorem pf_more {s : Shp} {bs : List Bx} {st : List Stw} (h : Ld s bs st) {sz : Nat} {x : Slt} (hp : pluggedB s x.col x.tier = true) : pfF s (bs ++ [rb900 sz]) (st ++ [(⟨900, x⟩ : Stw)]) = pfF s bs st := by
  have h1 : ∀ y ∈ st, cuB s (bs ++ [rb900 sz]) y = cuB s bs y := fun y hy => by
    unfold cuB coldB
    rw [findBx_more (h.box_at hy).1]
  have h2 : cuB s (bs ++ [rb900 sz]) ⟨900, x⟩ = false := by
    unfold cuB unfedB
    simp only
    rw [hp]; simp
  rw [pf_eq, pf_eq, List.filter_append]
  have h3 : [(⟨900, x⟩ : Stw)].filter (cuB s (bs ++ [rb900 sz])) = [] := by simp [h2]
  rw [h3, List.append_nil, List.filter_congr h1]
/-- A slot of the ship for a size has a plug as its tier has. -/
theorem at_all {s : Shp} {sz : Nat} (hz : sz = 20 ∨ sz = 40) {x : Slt} (hx : x ∈ allF s sz) : atF s x = pluggedB s x.col x.tier := by
  have h1 := right_mem.2 hx
  unfold atF
  have h3 : (slotRight s x 20 || slotRight s x 40) = true := by
    rcases hz with rfl | rfl
    · rw [h1]; simp
    · rw [h1]; simp
  rw [h3]; simp
theorem filter_at {α : Type} [Inhabited α] (p : α → Bool) {l : List α} {k : Nat} (hk : k < l.length) (hc : p (l.getD k default) = true) :
    ((l.take k).filter p).length < (l.filter p).length ∧ (l.filter p).getD ((l.take k).filter p).length default = l.getD k default := by
  have e : l = l.take k ++ (l.getD k default :: l.drop (k + 1)) := by
    have h1 : l.getD k default = l[k] := by simp [hk]
    rw [h1, ← List.drop_eq_getElem_cons hk, List.take_append_drop]
  have e2 : l.filter p = (l.take k).filter p ++ (l.getD k default :: (l.drop (k + 1)).filter p) := by
    conv => lhs; rw [e]
    rw [List.filter_append, List.filter_cons, if_pos hc]
  rw [e2]
  refine ⟨by simp, ?_⟩
  rw [List.getD_eq_getElem?_getD, List.getElem?_append_right (by simp)]
  simp
theorem all_in {s : Shp} (hl : Lm s) {sz : Nat} {x : Slt} (hx : x ∈ allF s sz) : (0 ≤ x.col ∧ x.col < s.cols.length) ∧ (0 ≤ x.tier ∧ x.tier < 5) ∧ x.half < 3 := by
  obtain ⟨c, t, h1, h2, h3, h4, h5⟩ := mem_all.1 hx
  have := hl.tiersN c
  refine ⟨by omega, by omega, ?_⟩
  unfold halvesL at h5
  split at h5
  · simp at h5; omega
  · split at h5
    · simp at h5; omega
    · simp at h5
theorem any_all (p : Stw → Bool) (l : List Stw) : (!l.any p) = l.all fun y => !p y := by
  induction l with
  | nil => rfl
  | cons x l ih => simp only [List.any_cons, List.all_cons, Bool.not_or, ih]
theorem all_takeD {α : Type} (p : α → Bool) {l : List α} {k : Nat} (h : k < l.length) (d : α) : (l.take (k + 1)).all p = ((l.take k).all p && p (l.getD k d)) := by
  rw [List.take_succ_eq_append_getElem h, List.all_append]; simp [h]
end Go.Proofs.Ythijgmkflfaccaa
