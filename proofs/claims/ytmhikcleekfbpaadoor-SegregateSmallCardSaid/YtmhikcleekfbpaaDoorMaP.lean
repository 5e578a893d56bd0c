/-
  Plain: the states of many: a ship of 21 columns, 210 boxes, the first n of them in their slots.
-/
import Derived.Test.YtmhikcleekfbpaaDoorSgP
import Derived.Test.YtmhikcleekfbpaaDoorRhA
namespace Go.Proofs.YtmhikcleekfbpaaDoor
open Go.RowKit

def bxi (f : Nat → Nat) (i : Nat) : Bx := ⟨(i : Int) + 1, ⟨#[]⟩, 40, false, 0, 0, 0, f i, false⟩
def bxM (f : Nat → Nat) (m : Nat) : List Bx := (List.range m).map (bxi f)
def slM (i : Nat) : Slt := ⟨(i : Int) / 10, (i : Int) % 10, 0⟩
def swM (i : Nat) : Stw := ⟨(i : Int) + 1, slM i⟩
def stM (n : Nat) : List Stw := (List.range n).map swM
def colM (n : Nat) : Col := ⟨(n : Int), 0, false, 10, 0, 0, 0, 0, [], 0, 0, 0⟩
def clM (n : Nat) : List Col := (List.range n).map colM
def shM : Shp := shp0 (clM 21) []
/-- The classes of a box at a number. -/
def f0M (i : Nat) : Nat := 1 + (i / 10 + i % 10) % 9
def setM (f : Nat → Nat) (k v : Nat) (i : Nat) : Nat := if i = k then v else f i
theorem bxM_len (f : Nat → Nat) (m : Nat) : (bxM f m).length = m := by unfold bxM; simp
theorem stM_len (n : Nat) : (stM n).length = n := by unfold stM; simp
theorem bxM_succ (f : Nat → Nat) (m : Nat) : bxM f (m + 1) = bxM f m ++ [bxi f m] := by unfold bxM; rw [List.range_succ, List.map_append]; rfl
theorem stM_succ (n : Nat) : stM (n + 1) = stM n ++ [swM n] := by unfold stM; rw [List.range_succ, List.map_append]; rfl
theorem clM_succ (n : Nat) : clM (n + 1) = clM n ++ [colM n] := by unfold clM; rw [List.range_succ, List.map_append]; rfl
theorem bxM_at (f : Nat → Nat) {m i : Nat} (h : i < m) (d : Bx) : (bxM f m).getD i d = bxi f i := by unfold bxM; simp [h]
theorem stM_at {n i : Nat} (h : i < n) (d : Stw) : (stM n).getD i d = swM i := by unfold stM; simp [h]
theorem stM_take {n m : Nat} (h : n ≤ m) : (stM m).take n = stM n := by
  unfold stM
  rw [← List.map_take, List.take_range, Nat.min_eq_left h]
theorem bxM_set (f : Nat → Nat) {m k : Nat} (_h : k < m) (v : Nat) : (bxM f m).set k (bxi (setM f k v) k) = bxM (setM f k v) m := by
  refine List.ext_getElem (by simp [bxM]) fun i h1 h2 => ?_
  rw [List.getElem_set]
  by_cases e : k = i
  · subst e; simp [bxM]
  · have e2 : ¬ i = k := fun h' => e h'.symm
    simp [bxM, e, e2, bxi, setM]
theorem find_M (f : Nat → Nat) {m i : Nat} (h : i < m) : findBx (bxM f m) ((i : Int) + 1) = (bxi f i, true) := by
  have h1 : ∀ j, j < i → idB ((i : Int) + 1) ((bxM f m).getD j zBx) = false := fun j hj => by
    rw [bxM_at f (show j < m by omega)]
    show ((j : Int) + 1 == (i : Int) + 1) = false
    rw [beq_eq_false_iff_ne]; omega
  have h2 : idB ((i : Int) + 1) ((bxM f m).getD i zBx) = true := by
    rw [bxM_at f h]
    show ((i : Int) + 1 == (i : Int) + 1) = true
    simp
  rw [findBx_at (k := i) (by rw [bxM_len]; exact h) h1 h2, bxM_at f h]
theorem find_M_no (f : Nat → Nat) {m : Nat} {id : Int} (h : (m : Int) < id) : (findBx (bxM f m) id).2 = false := by
  have h1 : ∀ j, j < (bxM f m).length → idB id ((bxM f m).getD j zBx) = false := fun j hj => by
    rw [bxM_len] at hj
    rw [bxM_at f hj]
    show ((j : Int) + 1 == id) = false
    rw [beq_eq_false_iff_ne]; omega
  rw [findBx_no h1]
theorem cls_M (f : Nat → Nat) {m i : Nat} (h : i < m) : clsF (bxM f m) ((i : Int) + 1) = f i := by
  unfold clsF
  rw [find_M f h]
  rfl
theorem shM_right : rightF shM = true := by decide +kernel
theorem slotM (i : Fin 210) : slotRight shM (slM i.val) 40 = true := by revert i; decide +kernel
theorem fitsM (boxes : List Bx) (l : List Stw) {c : Nat} (hc : c < 21) : fitsF shM boxes l c = true := by
  have h1 : ∀ c : Fin 21, (shM.cols.getD c.val default).height = 0 := by decide +kernel
  have h2 := h1 ⟨c, hc⟩
  simp only at h2
  unfold fitsF
  rw [h2]
  simp
theorem stow_M (f : Nat → Nat) {n : Nat} (hn : n ≤ 210) : stowRight shM (bxM f 210) (stM n) = true := by
  refine stowRight_parts.2 ⟨shM_right, fun i hi => ?_, fun c hc => fitsM _ _ (by simpa [shM, shp0, clM] using hc)⟩
  rw [stM_len] at hi
  unfold stowAt
  have e1 : (stM n).getD i default = swM i := stM_at hi _
  have e2 : findBx (bxM f 210) (swM i).box = (bxi f i, true) := find_M f (by omega)
  rw [e1, e2]
  simp only [Bool.and_eq_true, Bool.or_eq_true, decide_eq_true_eq, List.all_eq_true, List.mem_range]
  refine ⟨⟨⟨⟨trivial, ?_⟩, slotM ⟨i, by omega⟩⟩, ?_⟩, fun k hk => ?_⟩
  · by_cases h0 : i = 0
    · exact .inl h0
    · right
      rw [stM_at (by omega)]
      show ((i - 1 : Nat) : Int) + 1 < (i : Int) + 1
      omega
  · unfold heldB hasB
    show (decide ((i : Int) % 10 ≤ 0) || _) = true
    by_cases h0 : i % 10 = 0
    · rw [decide_eq_true (by omega), Bool.true_or]
    · rw [Bool.or_eq_true, Bool.or_eq_true]
      right; left
      rw [List.any_eq_true]
      refine ⟨slM (i - 1), ?_, ?_⟩
      · unfold stM
        rw [List.map_map, List.mem_map]
        exact ⟨i - 1, List.mem_range.2 (by omega), rfl⟩
      · have e : slM (i - 1) = ⟨(swM i).slot.col, (swM i).slot.tier - 1, (swM i).slot.half⟩ := by
          show (⟨((i - 1 : Nat) : Int) / 10, ((i - 1 : Nat) : Int) % 10, 0⟩ : Slt) = ⟨(i : Int) / 10, (i : Int) % 10 - 1, 0⟩
          congr 1 <;> omega
        rw [e]
        unfold sltEq
        simp
  · rw [stM_at (by omega)]
    show (!((i : Int) / 10 == (k : Int) / 10 && ((i : Int) % 10 == (k : Int) % 10 && sharesB 0 0))) = true
    simp only [Bool.not_eq_true', Bool.and_eq_false_iff, beq_eq_false_iff_ne]
    omega
theorem gds_M (f : Nat → Nat) {n : Nat} (hn : n ≤ 210) : gdsF (bxM f 210) (stM n) = (List.range n).map fun i => ⟨swM i, f i⟩ := by
  unfold gdsF stM
  rw [List.map_map]
  refine List.map_congr_left fun i hi => ?_
  have := List.mem_range.1 hi
  show (⟨swM i, clsF (bxM f 210) ((i : Int) + 1)⟩ : Gd) = _
  rw [cls_M f (by omega)]
theorem goods_M (f : Nat → Nat) {n : Nat} (hn : n ≤ 210) : (goodsF (bxM f 210) (stM n)).length = ((List.range n).filter fun i => decide (0 < f i)).length := by
  unfold goodsF
  rw [gds_M f hn, List.filter_map, List.length_map]
  rfl
theorem over_M (f : Nat → Nat) {n : Nat} (hn : n ≤ 210) : ((stM n).any (overB9 (bxM f 210)) = true) ↔ ∃ i, i < n ∧ 9 < f i := by
  rw [List.any_eq_true]
  unfold stM overB9
  constructor
  · rintro ⟨x, hx, h⟩
    obtain ⟨i, hi, rfl⟩ := List.mem_map.1 hx
    have := List.mem_range.1 hi
    refine ⟨i, this, ?_⟩
    have h2 : clsF (bxM f 210) (swM i).box = f i := cls_M f (by omega)
    rw [h2, decide_eq_true_eq] at h
    exact h
  · rintro ⟨i, hi, h⟩
    refine ⟨swM i, List.mem_map.2 ⟨i, List.mem_range.2 hi, rfl⟩, ?_⟩
    have h2 : clsF (bxM f 210) (swM i).box = f i := cls_M f (by omega)
    rw [h2, decide_eq_true_eq]
    exact h
/-- Classes that are dangerous, all of them. -/
def OkM (f : Nat → Nat) : Prop := ∀ i, i < 210 → 1 ≤ f i ∧ f i ≤ 9
theorem ok_f0 : OkM f0M := fun i _ => by unfold f0M; omega
theorem ok_one {f : Nat → Nat} (h : OkM f) (k : Nat) : OkM (setM f k 1) := fun i hi => by
  have := h i hi
  unfold setM
  split <;> omega
theorem setM_set (f : Nat → Nat) (k a b : Nat) : setM (setM f k a) k b = setM f k b := funext fun i => by
  unfold setM
  split <;> rfl
theorem derr_ok {f : Nat → Nat} (h : OkM f) {n : Nat} (hn : n ≤ 210) : dErr shM (bxM f 210) (stM n) = if n ≤ 200 then 0 else 5 := by
  unfold dErr
  rw [if_pos (stow_M f hn), if_neg (fun h9 => by obtain ⟨i, hi, h2⟩ := (over_M f hn).1 h9; have := h i (by omega); omega), goods_M f hn,
    List.filter_eq_self.2 (fun i hi => by have := h i (by have := List.mem_range.1 hi; omega); simp; omega), List.length_range]
  by_cases h2 : n ≤ 200
  · rw [if_neg (by omega), if_pos h2]
  · rw [if_pos (by omega), if_neg h2]
theorem derr_ten {f : Nat → Nat} {n : Nat} (hn : n ≤ 210) (h0 : 0 < n) : dErr shM (bxM (setM f (n - 1) 10) 210) (stM n) = 130 := by
  unfold dErr
  rw [if_pos (stow_M _ hn), if_pos ((over_M _ hn).2 ⟨n - 1, by omega, by unfold setM; rw [if_pos rfl]; decide⟩)]
theorem derr_zero {f : Nat → Nat} (h : OkM f) {n : Nat} (hn : n ≤ 210) (h0 : 0 < n) : dErr shM (bxM (setM f (n - 1) 0) 210) (stM n) = if n ≤ 201 then 0 else 5 := by
  unfold dErr
  rw [if_pos (stow_M _ hn), if_neg (fun h9 => by
    obtain ⟨i, hi, h2⟩ := (over_M _ hn).1 h9
    have := h i (by omega)
    unfold setM at h2
    split at h2 <;> omega), goods_M _ hn]
  have e : n = (n - 1) + 1 := by omega
  have e2 : ((List.range n).filter fun i => decide (0 < setM f (n - 1) 0 i)).length = n - 1 := by
    rw [e, List.range_succ, List.filter_append]
    simp only [Nat.add_sub_cancel]
    rw [List.filter_eq_self.2 (fun i hi => by
      have h1 := List.mem_range.1 hi
      have := h i (by omega)
      unfold setM
      rw [if_neg (by omega)]
      simp; omega)]
    simp [setM]
  rw [e2]
  by_cases h2 : n ≤ 201
  · rw [if_neg (by omega), if_pos h2]
  · rw [if_pos (by omega), if_neg h2]
theorem oerr_one {f : Nat → Nat} (h : OkM f) {n : Nat} (hn : n ≤ 210) : oErr shM (bxM f 210) (stM n) 1 = if n ≤ 200 then 0 else 5 := by
  unfold oErr
  rw [derr_ok h hn]
  have h1 : findBx (bxM f 210) 1 = (bxi f 0, true) := find_M f (i := 0) (by decide)
  have h2 : clsF (bxM f 210) 1 = f 0 := cls_M f (i := 0) (by decide)
  have h3 := h 0 (by decide)
  by_cases h4 : n ≤ 200
  · rw [if_pos h4, if_pos rfl, h1, h2, if_pos rfl, if_neg (by omega)]
  · rw [if_neg h4, if_neg (by decide)]
theorem oerr_none {f : Nat → Nat} (h : OkM f) {n : Nat} (hn : n ≤ 210) : oErr shM (bxM f 210) (stM n) 999 = if n ≤ 200 then 6 else 5 := by
  unfold oErr
  rw [derr_ok h hn, find_M_no f (m := 210) (by decide)]
  by_cases h4 : n ≤ 200
  · rw [if_pos h4, if_pos rfl, if_pos h4]; rfl
  · rw [if_neg h4, if_neg (by decide), if_neg h4]
end Go.Proofs.YtmhikcleekfbpaaDoor
