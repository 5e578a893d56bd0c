/-
  Plain facts on ships with limits and their loaded states.
-/
import Derived.Test.YtmkplemdnglhmaaStN
namespace Go.Proofs.Ytmkplemdnglhmaa
open Go.RowKit

/-- A ship as Built makes it, whose columns have limits of their own. -/
structure Lm (s : Shp) : Prop where
  right : rightF s = true
  few : Few s
  ints : Ints s
  one : 1 ≤ s.cols.length
  twelve : s.cols.length ≤ 12
  col : ∀ c ∈ s.cols, 2 ≤ c.tiers ∧ c.tiers ≤ 5 ∧ c.height = 0 ∧ 0 ≤ c.k20 ∧ c.k20 ≤ 500000000 ∧ 0 ≤ c.k40 ∧ c.k40 ≤ 500000000 ∧ 0 ≤ c.lash ∧ c.lash ≤ 1000000000000
  tol : 0 ≤ s.m0 ∧ s.m0 ≤ 25500
theorem Lm.at_ {s : Shp} (h : Lm s) {k : Nat} (hk : k < s.cols.length) : 2 ≤ (s.cols.getD k default).tiers ∧ (s.cols.getD k default).tiers ≤ 5 ∧ (s.cols.getD k default).height = 0 ∧ 0 ≤ (s.cols.getD k default).k20 ∧ (s.cols.getD k default).k20 ≤ 500000000 ∧ 0 ≤ (s.cols.getD k default).k40 ∧ (s.cols.getD k default).k40 ≤ 500000000 ∧ 0 ≤ (s.cols.getD k default).lash ∧ (s.cols.getD k default).lash ≤ 1000000000000 := h.col _ (getD_memD hk default)
theorem Lm.short {s : Shp} (h : Lm s) : s.cols.length ≤ 1000000 := by have := h.twelve; omega
theorem Lm.tol2 {s : Shp} (h : Lm s) : -1000000000000 ≤ s.m0 ∧ s.m0 ≤ 1000000000000 := by have := h.tol; omega
theorem Lm.tiersN {s : Shp} (h : Lm s) (c : Nat) : tiersN s c ≤ 5 := by
  unfold Proofs.Ytmkplemdnglhmaa.tiersN
  by_cases hc : c < s.cols.length
  · have := h.at_ hc; omega
  · rw [List.getD_eq_getElem?_getD, List.getElem?_eq_none (by omega)]; decide
theorem halves_le (size : Nat) : (halvesL size).length ≤ 2 := by unfold halvesL; split <;> (try split) <;> simp
theorem colsTo_few {s : Shp} (h : Lm s) (size : Nat) : ∀ n, (colsTo s size n).length ≤ 10 * n
  | 0 => by simp [colsTo]
  | n + 1 => by
    rw [colsTo_succ, List.length_append]
    have h1 := colsTo_few h size n
    have h2 : (colSlots n size (Proofs.Ytmkplemdnglhmaa.tiersN s n)).length = Proofs.Ytmkplemdnglhmaa.tiersN s n * (halvesL size).length := by
      generalize Proofs.Ytmkplemdnglhmaa.tiersN s n = T
      induction T with
      | zero => simp [colSlots]
      | succ T ih => rw [colSlots_succ, List.length_append, ih, Nat.succ_mul]; simp [tierSlots]
    have h3 := Nat.mul_le_mul (h.tiersN n) (halves_le size)
    omega
theorem Lm.all {s : Shp} (h : Lm s) (size : Nat) : (allF s size).length ≤ 1000000 := by
  have h1 := colsTo_few h size s.cols.length
  have h2 := h.twelve
  unfold allF
  omega
/-- Columns with other limits. -/
def limC (f : Col → Int × Int × Int) (c : Col) : Col := { c with k20 := (f c).1, k40 := (f c).2.1, lash := (f c).2.2 }
def limS (f : Col → Int × Int × Int) (m0 : Int) (s : Shp) : Shp := { s with cols := s.cols.map (limC f), m0 := m0 }
theorem good_lim {c : Col} (h : GoodCol c) (f : Col → Int × Int × Int) (hf : 0 ≤ (f c).1 ∧ (f c).1 ≤ 500000000 ∧ 0 ≤ (f c).2.1 ∧ (f c).2.1 ≤ 500000000 ∧ 0 ≤ (f c).2.2 ∧ (f c).2.2 ≤ 1000000000000) : colOK (limC f c) = true := by
  have h1 := h.bay; have h2 := h.row; have h3 := h.tiers; have h4 := h.x; have h5 := h.y; have h6 := h.z
  unfold colOK spans limC
  simp only
  rw [h.plugs, h.height, h6]
  simp [inB]
  split <;> omega
theorem lim_right {s : Shp} (h : Bu s) (f : Col → Int × Int × Int) (m0 : Int) (hf : ∀ c, 0 ≤ (f c).1 ∧ (f c).1 ≤ 500000000 ∧ 0 ≤ (f c).2.1 ∧ (f c).2.1 ≤ 500000000 ∧ 0 ≤ (f c).2.2 ∧ (f c).2.2 ≤ 1000000000000) : rightF (limS f m0 s) = true := by
  have hr := h.right
  unfold rightF at hr ⊢
  simp only [Bool.and_eq_true, decide_eq_true_eq] at hr ⊢
  refine ⟨by simpa [limS] using hr.1, ?_, hr.2.2.1, ?_⟩
  · rw [List.all_eq_true]
    intro c hc
    obtain ⟨c0, h0, rfl⟩ := List.mem_map.1 hc
    exact good_lim (h.cols.1 c0 h0) f (hf c0)
  · have he : keysOf (limS f m0 s) = keysOf s := by
      unfold keysOf limS
      simp only [List.map_map]
      rfl
    rw [he]
    exact hr.2.2.2
theorem lim_lm {s : Shp} (h : Bu s) (f : Col → Int × Int × Int) (m0 : Int) (hf : ∀ c, 0 ≤ (f c).1 ∧ (f c).1 ≤ 500000000 ∧ 0 ≤ (f c).2.1 ∧ (f c).2.1 ≤ 500000000 ∧ 0 ≤ (f c).2.2 ∧ (f c).2.2 ≤ 1000000000000) (hm : 0 ≤ m0 ∧ m0 ≤ 25500) : Lm (limS f m0 s) := by
  refine ⟨lim_right h f m0 hf, ⟨?_, h.Few.covs, h.Few.rows, ?_⟩, ⟨?_⟩, ?_, ?_, ?_, hm⟩
  · have := h.few; simp [limS]; omega
  · intro c hc
    obtain ⟨c0, h0, rfl⟩ := List.mem_map.1 hc
    exact h.Few.plugs c0 h0
  · intro c hc
    obtain ⟨c0, h0, rfl⟩ := List.mem_map.1 hc
    exact h.ints.cols c0 h0
  · simpa [limS] using h.one
  · simpa [limS] using h.few
  · intro c hc
    obtain ⟨c0, h0, rfl⟩ := List.mem_map.1 hc
    have hg := h.cols.1 c0 h0
    have ht := hg.tiers
    have := hf c0
    refine ⟨ht.1, ht.2, hg.height, ?_⟩
    exact this
/-- A loaded state. -/
structure Ld (s : Shp) (bs : List Bx) (st : List Stw) : Prop where
  right : stowRight s bs st = true
  nine : bs.length ≤ 9
  stlen : st.length ≤ 9
  box : ∀ b ∈ bs, (b.size = 40 ∨ b.size = 20) ∧ 1000 ≤ b.kilos ∧ b.kilos ≤ 26500 ∧ 5 ≤ b.id ∧ b.id ≤ 45
  ids : (bs.map (·.id)).Nodup
theorem loaded_ld {s : Shp} (h : rightF s = true) (ds : List Drp) (hd : ∀ d ∈ ds, d.col < 256 ∧ d.kilos < 256) : Ld s (loadedF s ds 9).1 (loadedF s ds 9).2 := by
  unfold loadedF
  have hn : min ds.length 9 ≤ 9 := Nat.min_le_right _ _
  have hn2 : min ds.length 9 ≤ ds.length := Nat.min_le_left _ _
  generalize min ds.length 9 = n at *
  refine ⟨load_right h ds n, ?_, Nat.le_trans (load_len s ds n) hn, ?_, load_nodup s ds n⟩
  · rw [load_boxes]; simpa using hn
  · intro b hb
    rw [load_boxes] at hb
    obtain ⟨i, hi, rfl⟩ := List.mem_map.1 hb
    have hi' := List.mem_range.1 hi
    have := hd _ (getD_memD (l := ds) (k := i) (by omega) default)
    unfold dropB
    refine ⟨?_, ?_⟩
    · simp only; split <;> simp
    · simp only; omega
theorem Ld.kg {s : Shp} {bs : List Bx} {st : List Stw} (h : Ld s bs st) : KgOK bs := fun b hb => by have := (h.box b hb).2.1; have := (h.box b hb).2.2.1; omega
theorem Ld.bl {s : Shp} {bs : List Bx} {st : List Stw} (h : Ld s bs st) : bs.length ≤ 1000000 := by have := h.nine; omega
theorem Ld.sl {s : Shp} {bs : List Bx} {st : List Stw} (h : Ld s bs st) : st.length ≤ 1000000 := by have := h.stlen; omega
theorem Ld.at_ {s : Shp} {bs : List Bx} {st : List Stw} (h : Ld s bs st) {i : Nat} (hi : i < st.length) : stowAt s bs st i = true := (stowRight_parts.1 h.right).2.1 i hi
/-- The box in a place of a loaded state. -/
theorem Ld.box_at {s : Shp} {bs : List Bx} {st : List Stw} (h : Ld s bs st) {x : Stw} (hx : x ∈ st) : (findBx bs x.box).2 = true ∧ (findBx bs x.box).1 ∈ bs ∧ (findBx bs x.box).1.id = x.box := by
  have h1 := stow_found h.right x hx
  obtain ⟨b, hb⟩ : ∃ b, findBx bs x.box = (b, true) := ⟨(findBx bs x.box).1, by rw [← h1]⟩
  rw [hb]
  exact ⟨rfl, find_some hb⟩
theorem slot_in {s : Shp} {x : Slt} {size : Nat} (h : slotRight s x size = true) : 0 ≤ x.col ∧ x.col < s.cols.length ∧ 0 ≤ x.tier ∧ x.tier < (s.cols.getD x.col.toNat default).tiers ∧ x.half ∈ halvesL size := by
  unfold slotRight at h
  simp only [Bool.and_eq_true, decide_eq_true_eq, List.any_eq_true, beq_iff_eq] at h
  obtain ⟨h1, h2, h3, h4, y, h5, h6⟩ := h
  exact ⟨h1, h2, h3, h4, h6 ▸ h5⟩
theorem Ld.slot {s : Shp} {bs : List Bx} {st : List Stw} (h : Ld s bs st) {x : Stw} (hx : x ∈ st) : slotRight s x.slot (findBx bs x.box).1.size = true := by
  obtain ⟨i, hi, rfl⟩ := List.getElem_of_mem hx
  have := h.at_ hi
  unfold stowAt at this
  simp only [Bool.and_eq_true] at this
  simpa [List.getD_eq_getElem?_getD, hi] using this.1.1.2
theorem Ld.tier {s : Shp} {bs : List Bx} {st : List Stw} (hl : Lm s) (h : Ld s bs st) {x : Stw} (hx : x ∈ st) : 0 ≤ x.slot.tier ∧ x.slot.tier < 5 ∧ 0 ≤ x.slot.col ∧ x.slot.col < s.cols.length ∧ x.slot.half < 3 := by
  have h1 := slot_in (h.slot hx)
  have h2 := hl.at_ (k := x.slot.col.toNat) (by omega)
  refine ⟨h1.2.2.1, by omega, h1.1, h1.2.1, ?_⟩
  have h3 := h1.2.2.2.2
  unfold halvesL at h3
  split at h3
  · simp at h3; omega
  · split at h3
    · simp at h3; omega
    · simp at h3
theorem Ld.max {s : Shp} {bs : List Bx} {st : List Stw} (hl : Lm s) (h : Ld s bs st) : ∀ x ∈ st, x.slot.tier ≤ 9223372036854775807 := fun x hx => by have := h.tier hl hx; omega
/-- A state with one box more that cannot stand there. -/
theorem stow_bad {s : Shp} {bs : List Bx} {l : List Stw} {x : Stw} (h : (findBx bs x.box).2 = false ∨ slotRight s x.slot (findBx bs x.box).1.size = false) : stowRight s bs (l ++ [x]) = false := by
  cases hr : stowRight s bs (l ++ [x]) with
  | false => rfl
  | true =>
    have := (stowRight_parts.1 hr).2.1 l.length (by simp)
    unfold stowAt at this
    simp only [Bool.and_eq_true] at this
    have he : (l ++ [x]).getD l.length default = x := by simp
    rw [he] at this
    rcases h with h | h
    · rw [h] at this; simp at this
    · rw [h] at this; simp at this
theorem idx_append_new {bs : List Bx} {id : Int} (h : ∀ b ∈ bs, b.id ≠ id) (b : Bx) : findBx (bs ++ [b]) id = if b.id = id then (b, true) else (zBx, false) := by
  unfold findBx idxF
  rw [List.findIdx?_append, List.findIdx?_eq_none_iff.2 (fun x hx => by unfold idB; simpa using h x hx)]
  by_cases hb : b.id = id
  · have h1 : idB id b = true := by unfold idB; simpa using hb
    simp [List.findIdx?_cons, h1, hb]
  · have h1 : idB id b = false := by unfold idB; simpa using hb
    simp [List.findIdx?_cons, h1, hb]
theorem find_none_of {bs : List Bx} {id : Int} (h : ∀ b ∈ bs, b.id ≠ id) : findBx bs id = (zBx, false) := by
  unfold findBx idxF
  rw [List.findIdx?_eq_none_iff.2 (fun x hx => by unfold idB; simpa using h x hx)]
  rfl
theorem sumF_zero {bs : List Bx} {l : List Stw} {p : Slt → Bool} (h : ∀ x ∈ l, p x.slot = false) : sumF bs l p = 0 := by
  induction l with
  | nil => rfl
  | cons x l ih =>
    have h1 := ih fun y hy => h y (by simp [hy])
    have h2 := h x (by simp)
    unfold sumF at *
    rw [List.map_cons, List.sum_cons, h1]
    unfold kgOf
    rw [h2]
    simp
theorem klL_zero {bs : List Bx} {l : List Stw} {col : Int} (h : ∀ x ∈ l, x.slot.col ≠ col) : klL bs l col = [.int .i64 0, .int .i64 0, .int .i64 0] := by
  unfold klL
  rw [sumF_zero (p := halfB col 1), sumF_zero (p := halfB col 2), sumF_zero (p := colB col)]
  · intro x hx; unfold colB; simpa using h x hx
  · intro x hx; unfold halfB; simp [h x hx]
  · intro x hx; unfold halfB; simp [h x hx]
end Go.Proofs.Ytmkplemdnglhmaa
