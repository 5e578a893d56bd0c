/-
  Plain facts for StackLess: a state without one of its boxes.
-/
import Derived.Test.YtncfakkajknhaaaStYa
namespace Go.Proofs.Ytncfakkajknhaaa
open Go.RowKit

/-- A list without the element at an index. -/
def lessL {α : Type} (l : List α) (i : Nat) : List α := l.take i ++ l.drop (i + 1)
theorem lessL_len {α : Type} (l : List α) {i : Nat} (h : i < l.length) : (lessL l i).length = l.length - 1 := by
  unfold lessL
  simp
  omega
theorem lessL_at {α : Type} (l : List α) {i : Nat} (h : i < l.length) (j : Nat) (d : α) : (lessL l i).getD j d = l.getD (if j < i then j else j + 1) d := by
  unfold lessL
  simp only [List.getD_eq_getElem?_getD]
  congr 1
  have hl : (l.take i).length = i := by simp; omega
  by_cases hj : j < i
  · rw [if_pos hj, List.getElem?_append_left (by omega), List.getElem?_take_of_lt hj]
  · rw [if_neg hj, List.getElem?_append_right (by omega), List.getElem?_drop, hl]
    congr 1
    omega
theorem lessL_mem {α : Type} {l : List α} {i : Nat} (h : i < l.length) (d : α) {x : α} (hx : x ∈ lessL l i) : ∃ j, j < l.length ∧ j ≠ i ∧ l.getD j d = x := by
  obtain ⟨j, hj, e⟩ := getD_ofmem hx d
  rw [lessL_len l h] at hj
  rw [lessL_at l h] at e
  refine ⟨_, ?_, ?_, e⟩ <;> split <;> omega
theorem lessL_sub {α : Type} {l : List α} {i : Nat} {x : α} (hx : x ∈ lessL l i) : x ∈ l := by
  unfold lessL at hx
  rcases List.mem_append.1 hx with h | h
  · exact List.mem_of_mem_take h
  · exact List.mem_of_mem_drop h
theorem lessL_of {α : Type} {l : List α} {i j : Nat} (h : i < l.length) (hj : j < l.length) (hne : j ≠ i) (d : α) : l.getD j d ∈ lessL l i := by
  unfold lessL
  rcases Nat.lt_or_ge j i with h' | h'
  · refine List.mem_append.2 (.inl ?_)
    rw [List.mem_take_iff_getElem]
    refine ⟨j, by omega, ?_⟩
    simp [hj]
  · refine List.mem_append.2 (.inr ?_)
    rw [List.mem_drop_iff_getElem]
    refine ⟨j - (i + 1), by omega, ?_⟩
    have e : i + 1 + (j - (i + 1)) = j := by omega
    simp [List.getD_eq_getElem?_getD, hj, e]
theorem idx_at {α : Type} {p : α → Bool} {l : List α} {k : Nat} (h : idxF p l = (k : Int)) (d : α) : k < l.length ∧ p (l.getD k d) = true := by
  unfold idxF at h
  cases h2 : l.findIdx? p with
  | none => rw [h2] at h; simp at h
  | some i =>
    rw [h2] at h
    obtain ⟨hi, hp, _⟩ := List.findIdx?_eq_some_iff_getElem.1 h2
    obtain rfl : i = k := by simp at h; omega
    exact ⟨hi, by simpa [List.getD_eq_getElem?_getD, hi] using hp⟩
theorem idx_neg {α : Type} {p : α → Bool} {l : List α} (h : idxF p l = -1) : ∀ x ∈ l, p x = false := by
  unfold idxF at h
  cases h2 : l.findIdx? p with
  | none => exact List.findIdx?_eq_none_iff.1 h2
  | some i => rw [h2] at h; simp at h
/-- A box of a state is found at its own place. -/
theorem Ld.idx {s : Shp} {bs : List Bx} {st : List Stw} (h : Ld s bs st) {k a : Nat} (hk : k < st.length) (ha : idxF (idS (st.getD k default).box) st = (a : Int)) : a = k := by
  obtain ⟨h1, h2⟩ := idx_at ha default
  have h3 : (st.getD a default).box = (st.getD k default).box := by simpa [idS] using h2
  rcases Nat.lt_trichotomy a k with h' | h' | h'
  · have := h.asc h' hk; omega
  · exact h'
  · have := h.asc h' h1; omega
theorem Ld.noneg {s : Shp} {bs : List Bx} {st : List Stw} (_ : Ld s bs st) {k : Nat} (hk : k < st.length) : idxF (idS (st.getD k default).box) st ≠ -1 := fun h => by
  have := idx_neg h _ (getD_memD hk default)
  simp [idS] at this
theorem above_nil {l : List Stw} {y : Slt} (h : aboveL l y = []) : ∀ x ∈ l, overB x.slot y = false := fun x hx => by
  unfold aboveL at h
  rw [List.map_eq_nil_iff, List.filter_eq_nil_iff] at h
  simpa using h x hx
theorem belowB_over {x y : Slt} (h : belowB x y = true) : overB x y = true := by
  have := over_below x y
  rw [h] at this
  simp only [Bool.and_eq_true] at this
  exact this.1
theorem has_less {x : Slt} {l : List Stw} {i : Nat} {half : Nat} (hi : i < l.length) (hno : overB x (l.getD i default).slot = false) (hh : half = x.half ∨ x.half = 0) (h : hasB x (l.map (·.slot)) half = true) : hasB x ((lessL l i).map (·.slot)) half = true := by
  unfold hasB at h ⊢
  obtain ⟨z, hz, e⟩ := List.any_eq_true.1 h
  obtain ⟨y, hy, rfl⟩ := List.mem_map.1 hz
  obtain ⟨j, hj, rfl⟩ := getD_ofmem hy default
  refine List.any_eq_true.2 ⟨_, List.mem_map.2 ⟨_, lessL_of hi hj ?_ default, rfl⟩, e⟩
  rintro rfl
  have e' := (sltEq_iff _ _).1 e
  rw [← e'] at hno
  have : overB x ⟨x.col, x.tier - 1, half⟩ = true := by
    unfold overB sharesB
    simp only [Bool.and_eq_true, Bool.or_eq_true, decide_eq_true_eq, beq_iff_eq]
    exact ⟨trivial, by omega, by omega⟩
  rw [this] at hno
  cases hno
theorem held_less {x : Slt} {l : List Stw} {i : Nat} (hi : i < l.length) (hno : overB x (l.getD i default).slot = false) (h : heldB x (l.map (·.slot)) = true) : heldB x ((lessL l i).map (·.slot)) = true := by
  unfold heldB at h ⊢
  simp only [Bool.or_eq_true, Bool.and_eq_true, decide_eq_true_eq, beq_iff_eq] at h ⊢
  rcases h with h | h | ⟨h, h1, h2⟩
  · exact .inl h
  · exact .inr (.inl (has_less hi hno (.inl rfl) h))
  · exact .inr (.inr ⟨h, has_less hi hno (.inr h) h1, has_less hi hno (.inr h) h2⟩)
/-- Without a box upon which none stands a state stays right. -/
theorem less_right {s : Shp} {bs : List Bx} {st : List Stw} (hl : Lm s) (h : Ld s bs st) {i : Nat} (hi : i < st.length) (hno : aboveL st (st.getD i default).slot = []) : stowRight s bs (lessL st i) = true := by
  have hr := stowRight_parts.1 h.right
  refine stowRight_parts.2 ⟨hr.1, fun j hj => ?_, fun c hc => ?_⟩
  · rw [lessL_len st hi] at hj
    generalize hj' : (if j < i then j else j + 1) = j'
    have hjl : j' < st.length := by rw [← hj']; split <;> omega
    have h1 := hr.2.1 j' hjl
    unfold stowAt at h1 ⊢
    rw [lessL_at st hi j, hj']
    simp only [Bool.and_eq_true] at h1 ⊢
    obtain ⟨⟨⟨⟨a1, a2⟩, a3⟩, a4⟩, a5⟩ := h1
    refine ⟨⟨⟨⟨a1, ?_⟩, a3⟩, held_less hi (above_nil hno _ (getD_memD hjl default)) a4⟩, ?_⟩
    · rw [Bool.or_eq_true, decide_eq_true_eq, decide_eq_true_eq]
      by_cases hj0 : j = 0
      · exact .inl hj0
      · right
        rw [lessL_at st hi]
        refine h.asc ?_ hjl
        rw [← hj']
        (repeat' split) <;> omega
    · rw [List.all_eq_true] at a5 ⊢
      intro k hk
      have hk := List.mem_range.1 hk
      rw [lessL_at st hi]
      refine a5 _ (List.mem_range.2 ?_)
      rw [← hj']
      (repeat' split) <;> omega
  · unfold fitsF
    have := hl.at_ hc
    simp only [Bool.or_eq_true, decide_eq_true_eq]
    left
    omega
theorem less_ld {s : Shp} {bs : List Bx} {st : List Stw} (hl : Lm s) (h : Ld s bs st) {i : Nat} (hi : i < st.length) (hno : aboveL st (st.getD i default).slot = []) : Ld s bs (lessL st i) :=
  ⟨less_right hl h hi hno, h.nine, by have := h.stlen; rw [lessL_len st hi]; omega, h.box, h.ids⟩
theorem sumF_less (bs : List Bx) {st : List Stw} {i : Nat} (hi : i < st.length) (p : Slt → Bool) : sumF bs st p = sumF bs (lessL st i) p + kgOf bs p (st.getD i default) := by
  unfold sumF lessL
  have e : st = st.take i ++ (st.getD i default) :: st.drop (i + 1) := by
    conv => lhs; rw [← List.take_append_drop i st]
    congr 1
    rw [List.drop_eq_getElem_cons hi]
    simp [hi]
  conv => lhs; rw [e]
  simp only [List.map_append, List.sum_append, List.map_cons, List.sum_cons]
  omega
theorem kg_pos {s : Shp} {bs : List Bx} {st : List Stw} (h : Ld s bs st) {x : Stw} (hx : x ∈ st) (p : Slt → Bool) : 0 ≤ kgOf bs p x := by
  unfold kgOf
  split
  · have := h.box _ (h.box_at hx).2.1
    omega
  · exact Int.le_refl _
theorem mem_kinds {hv : List Bool} {col : Int} {i j : Nat} (hj : j < i) (hh : hv.getD j false = true) : (⟨col, 1 + j, 0⟩ : Flt) ∈ kindsTo hv col i := by
  unfold kindsTo
  exact List.mem_filterMap.2 ⟨j, List.mem_range.2 hj, by rw [if_pos hh]⟩
/-- No new faults. -/
theorem less_faults {s : Shp} {bs : List Bx} {st : List Stw} (h : Ld s bs st) {i : Nat} (hi : i < st.length) (hno : aboveL st (st.getD i default).slot = []) {n : Nat} {f : Flt} (hf : f ∈ checkF s bs (lessL st i) n) : f ∈ checkF s bs st n := by
  obtain ⟨c, hc, hm⟩ := mem_check.1 hf
  refine mem_check.2 ⟨c, hc, ?_⟩
  have hp : ∀ p, sumF bs (lessL st i) p ≤ sumF bs st p := fun p => by
    have h1 := sumF_less bs hi p
    have h2 := kg_pos h (getD_memD hi default) p
    omega
  unfold faultsF at hm ⊢
  rcases List.mem_append.1 hm with hm | hm
  · refine List.mem_append.2 (.inl ?_)
    obtain ⟨h1, h2, h3, h4, h5⟩ := kinds_mem hm
    obtain ⟨fc, fk, fx⟩ := f
    simp only at h1 h2 h3 h4 h5
    subst h1 h2
    obtain ⟨j, rfl⟩ : ∃ j, fk = 1 + j := ⟨fk - 1, by omega⟩
    refine mem_kinds (by omega) ?_
    rw [show 1 + j - 1 = j by omega] at h5
    unfold heavies at h5 ⊢
    have h6 := hp (halfB c 1)
    have h7 := hp (halfB c 2)
    have h8 := hp (colB c)
    obtain rfl | rfl | rfl : j = 0 ∨ j = 1 ∨ j = 2 := by omega
    all_goals
      simp at h5 ⊢
      omega
  · refine List.mem_append.2 (.inr ?_)
    unfold topsOf at hm ⊢
    obtain ⟨x, hx, e⟩ := List.mem_filterMap.1 hm
    refine List.mem_filterMap.2 ⟨x, lessL_sub hx, ?_⟩
    have e2 : topB (s.cols.getD c default).deck s.m0 bs st c x = topB (s.cols.getD c default).deck s.m0 bs (lessL st i) c x := by
      have h1 := sumF_less bs hi (belowB x.slot)
      have h2 : kgOf bs (belowB x.slot) (st.getD i default) = 0 := by
        unfold kgOf
        rw [if_neg]
        intro h3
        have := belowB_over h3
        rw [above_nil hno x (lessL_sub hx)] at this
        cases this
      unfold topB
      rw [h1, h2]
      simp
    rw [e2]
    exact e
theorem less_has {s : Shp} {bs : List Bx} {st : List Stw} (h : Ld s bs st) {i : Nat} (hi : i < st.length) (hno : aboveL st (st.getD i default).slot = []) {n : Nat} {f : Flt} (hf : f ∈ checkF s bs (lessL st i) n) : hasF (checkF s bs st n) f = true := (hasF_iff _ _).2 (less_faults h hi hno hf)
end Go.Proofs.Ytncfakkajknhaaa
