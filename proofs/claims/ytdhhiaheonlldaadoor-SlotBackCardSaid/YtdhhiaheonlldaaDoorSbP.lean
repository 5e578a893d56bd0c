/-
  Plain facts for SlotBack: a ship that Built makes stays right in later bays and rows.
-/
import Derived.Test.YtdhhiaheonlldaaDoorB3
namespace Go.Proofs.YtdhhiaheonlldaaDoor
open Go.RowKit

theorem once_nodupS (L : List (Int × Int × Int)) : once L = true ↔ L.Nodup := by
  constructor
  · intro h
    rw [List.nodup_iff_count]
    intro a
    unfold once at h
    rw [List.all_eq_true] at h
    by_cases ha : a ∈ L
    · simpa using h a ha
    · rw [List.count_eq_zero_of_not_mem ha]; omega
  · exact once_of_nodup
def shiftC (b r : Int) (c : Col) : Col := { c with bay := c.bay + b, row := c.row + r }
def shiftX (b r : Int) (x : Cov) : Cov := ⟨x.bay + b, x.rows.map (· + r)⟩
def shiftS (b r : Int) (s : Shp) : Shp := { s with cols := s.cols.map (shiftC b r), covs := s.covs.map (shiftX b r) }
def shiftK (b r : Int) (k : Int × Int × Int) : Int × Int × Int := (k.1 + b, k.2.1 + r, k.2.2)
theorem shift_keyC (b r : Int) (c : Col) : keyC (shiftC b r c) = shiftK b r (keyC c) := rfl
theorem shift_keysX (b r : Int) (x : Cov) : keysX (shiftX b r x) = (keysX x).map (shiftK b r) := by
  unfold keysX shiftX
  simp only [List.map_map]
  rfl
theorem shift_keys (b r : Int) (s : Shp) : keysOf (shiftS b r s) = (keysOf s).map (shiftK b r) := by
  unfold keysOf shiftS
  simp only [List.map_append, List.map_map, List.flatMap_map, List.map_flatMap]
  congr 1
  apply congrArg (fun f => s.covs.flatMap f)
  funext x
  exact shift_keysX b r x
theorem shiftK_inj (b r : Int) : ∀ x y, shiftK b r x = shiftK b r y → x = y := by
  rintro ⟨a, c, d⟩ ⟨a', c', d'⟩ h
  simp only [shiftK, Prod.mk.injEq] at h ⊢
  omega
theorem shift_colOK {b r : Int} (hb : 0 ≤ b ∧ b ≤ 35) (hr : 0 ≤ r ∧ r ≤ 26) {c : Col} (h : GoodCol c) (h2 : colOK c = true) (hb2 : c.bay ≤ 4) (hr2 : c.row ≤ 4) : colOK (shiftC b r c) = true := by
  unfold colOK at h2 ⊢
  rw [Bool.and_eq_true] at h2 ⊢
  refine ⟨?_, ?_⟩
  · have : ∀ i, plugOK (shiftC b r c) i = plugOK c i := fun i => rfl
    rw [funext this]
    exact h2.1
  · have h3 := h2.2
    unfold spans inB at h3 ⊢
    unfold shiftC
    simp only [List.all_cons, List.all_nil, Bool.and_eq_true, Bool.not_eq_true', Bool.or_eq_false_iff, decide_eq_false_iff_not, Bool.and_true] at h3 ⊢
    omega
theorem cov_cases : ∀ x ∈ allTo 5, ∃ k : Nat, k < 5 ∧ (x = ⟨(k : Int), [0, 1]⟩ ∨ x = ⟨(k : Int), [2, 3, 4]⟩) := by
  intro x hx
  simp only [allTo, List.nil_append, List.cons_append, List.mem_cons, List.not_mem_nil, or_false] at hx
  rcases hx with h | h | h | h | h | h | h | h | h | h <;> subst h
  · exact ⟨0, by decide, .inl rfl⟩
  · exact ⟨0, by decide, .inr rfl⟩
  · exact ⟨1, by decide, .inl rfl⟩
  · exact ⟨1, by decide, .inr rfl⟩
  · exact ⟨2, by decide, .inl rfl⟩
  · exact ⟨2, by decide, .inr rfl⟩
  · exact ⟨3, by decide, .inl rfl⟩
  · exact ⟨3, by decide, .inr rfl⟩
  · exact ⟨4, by decide, .inl rfl⟩
  · exact ⟨4, by decide, .inr rfl⟩
theorem shift_covOK {b r : Int} (hb : 0 ≤ b ∧ b ≤ 35) (hr : 0 ≤ r ∧ r ≤ 26) {x : Cov} (h : x ∈ allTo 5) : covOK (shiftX b r x) = true := by
  obtain ⟨k, hk, rfl | rfl⟩ := cov_cases x h
  · unfold covOK shiftX
    simp [List.range_succ, rowOK]
    omega
  · unfold covOK shiftX
    simp [List.range_succ, rowOK]
    omega
theorem shift_right {b r : Int} (hb : 0 ≤ b ∧ b ≤ 35) (hr : 0 ≤ r ∧ r ≤ 26) {s : Shp} (h : Bu s) : rightF (shiftS b r s) = true := by
  have h0 := h.right
  have hlen := h.sub.length_le
  unfold rightF at h0 ⊢
  simp only [Bool.and_eq_true, decide_eq_true_eq] at h0 ⊢
  obtain ⟨h1, h2, h3, h4⟩ := h0
  refine ⟨?_, ?_, ?_, ?_⟩
  · show 1 ≤ (s.cols.map (shiftC b r)).length ∧ (s.cols.map (shiftC b r)).length ≤ 200 ∧ (s.covs.map (shiftX b r)).length ≤ 40
    rw [List.length_map, List.length_map]
    exact h1
  · show (s.cols.map (shiftC b r)).all colOK = true
    rw [List.all_map, List.all_eq_true]
    intro c hc
    exact shift_colOK hb hr (h.cols.1 c hc) (List.all_eq_true.1 h2 c hc) (h.cols.1 c hc).bay.2 (h.cols.1 c hc).row.2
  · show (s.covs.map (shiftX b r)).all covOK = true
    rw [List.all_map, List.all_eq_true]
    intro x hx
    exact shift_covOK hb hr (h.sub.subset hx)
  · rw [shift_keys]
    rw [once_nodupS] at h4 ⊢
    unfold List.Nodup at h4 ⊢
    rw [List.pairwise_map]
    exact h4.imp fun hne he => hne (shiftK_inj b r _ _ he)
theorem shift_few {b r : Int} {s : Shp} (h : Few s) : Few (shiftS b r s) := by
  refine ⟨?_, ?_, ?_, ?_⟩
  · show (s.cols.map _).length ≤ _
    rw [List.length_map]; exact h.cols
  · show (s.covs.map _).length ≤ _
    rw [List.length_map]; exact h.covs
  · intro x hx
    obtain ⟨y, hy, rfl⟩ := List.mem_map.1 (show x ∈ s.covs.map (shiftX b r) from hx)
    show (y.rows.map _).length ≤ _
    rw [List.length_map]; exact h.rows y hy
  · intro c hc
    obtain ⟨y, hy, rfl⟩ := List.mem_map.1 (show c ∈ s.cols.map (shiftC b r) from hc)
    exact h.plugs y hy
theorem shift_ints {b r : Int} (hb : 0 ≤ b ∧ b ≤ 35) (hr : 0 ≤ r ∧ r ≤ 26) {s : Shp} (h : Bu s) : Ints (shiftS b r s) := by
  refine ⟨fun c hc => ?_⟩
  obtain ⟨y, hy, rfl⟩ := List.mem_map.1 (show c ∈ s.cols.map (shiftC b r) from hc)
  have g := h.cols.1 y hy
  have h1 := g.bay; have h2 := g.row
  refine ⟨?_, ?_, (good_i64 g).2.2⟩
  · show I64 (y.bay + b)
    unfold I64
    omega
  · show I64 (y.row + r)
    unfold I64
    omega
/-- The columns as the first loop leaves them behind i rounds, the covers as the second one does, the rows of a cover as the inner one does. -/
def shiftTo {α : Type} (f : α → α) (l : List α) (i : Nat) : List α := (l.take i).map f ++ l.drop i
theorem shiftTo_zero {α : Type} (f : α → α) (l : List α) : shiftTo f l 0 = l := by simp [shiftTo]
theorem shiftTo_all {α : Type} (f : α → α) (l : List α) : shiftTo f l l.length = l.map f := by simp [shiftTo]
theorem shiftTo_len {α : Type} (f : α → α) (l : List α) (i : Nat) : (shiftTo f l i).length = l.length := by
  simp only [shiftTo, List.length_append, List.length_map, List.length_take, List.length_drop]
  omega
theorem shiftTo_at {α : Type} (f : α → α) (l : List α) {i : Nat} (hi : i < l.length) (d : α) : (shiftTo f l i).getD i d = l.getD i d := by
  unfold shiftTo
  rw [List.getD_eq_getElem?_getD, List.getElem?_append_right (by simp; omega)]
  simp [hi, show min i l.length = i by omega]
theorem shiftTo_succ {α : Type} (f : α → α) (l : List α) {i : Nat} (hi : i < l.length) (d : α) : shiftTo f l (i + 1) = (shiftTo f l i).set i (f (l.getD i d)) := by
  apply List.ext_getElem?
  intro j
  unfold shiftTo
  rw [List.getElem?_set]
  by_cases h1 : j < i
  · rw [if_neg (by omega), List.getElem?_append_left (by simp; omega), List.getElem?_append_left (by simp; omega)]
    simp [h1, show j < i + 1 by omega]
  · by_cases h2 : i = j
    · subst h2
      rw [if_pos rfl, List.getElem?_append_left (by simp; omega), if_pos (by simp; omega)]
      simp [hi]
    · rw [if_neg h2, List.getElem?_append_right (by simp; omega), List.getElem?_append_right (by simp; omega)]
      simp only [List.getElem?_drop, List.length_map, List.length_take]
      congr 1
      omega
end Go.Proofs.YtdhhiaheonlldaaDoor
