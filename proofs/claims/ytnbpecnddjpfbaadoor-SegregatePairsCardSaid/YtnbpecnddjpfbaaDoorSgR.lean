/-
  Loaded states with classes (chapter 14), in plain Lean.
-/
import Derived.Test.YtnbpecnddjpfbaaDoorSgM
import Derived.Test.YtnbpecnddjpfbaaDoorSgQ
import Derived.Test.YtnbpecnddjpfbaaDoorStO
namespace Go.Proofs.YtnbpecnddjpfbaaDoor
open Go.RowKit

def clsB (cs : List Nat) (i : Nat) (b : Bx) : Bx := if i < cs.length then { b with cls := cs.getD i 0 % 10 } else b
/-- The boxes, the first k with their classes. -/
def clsTo (cs : List Nat) (bs : List Bx) (k : Nat) : List Bx := (List.range bs.length).map fun i => if i < k then clsB cs i (bs.getD i zBx) else bs.getD i zBx
theorem clsTo_len (cs : List Nat) (bs : List Bx) (k : Nat) : (clsTo cs bs k).length = bs.length := by unfold clsTo; simp
theorem clsTo_get (cs : List Nat) (bs : List Bx) (k : Nat) {i : Nat} (h : i < bs.length) : (clsTo cs bs k)[i]? = some (if i < k then clsB cs i (bs.getD i zBx) else bs.getD i zBx) := by
  unfold clsTo
  rw [List.getElem?_map, List.getElem?_range h]
  rfl
theorem clsTo_zero (cs : List Nat) (bs : List Bx) : clsTo cs bs 0 = bs := by
  refine List.ext_getElem? fun i => ?_
  by_cases h : i < bs.length
  · rw [clsTo_get cs bs 0 h, if_neg (by omega)]; simp [h]
  · rw [List.getElem?_eq_none (by rw [clsTo_len]; omega), List.getElem?_eq_none (by omega)]
theorem clsTo_at (cs : List Nat) (bs : List Bx) {k : Nat} (h : k < bs.length) : (clsTo cs bs k)[k]? = some (bs.getD k zBx) := by
  rw [clsTo_get cs bs k h, if_neg (by omega)]
theorem clsTo_set (cs : List Nat) (bs : List Bx) {k : Nat} (h : k < bs.length) : (clsTo cs bs k).set k (clsB cs k (bs.getD k zBx)) = clsTo cs bs (k + 1) := by
  refine List.ext_getElem? fun i => ?_
  by_cases hi : i < bs.length
  · rw [clsTo_get cs bs (k + 1) hi, List.getElem?_set]
    by_cases hik : k = i
    · subst hik
      rw [if_pos rfl, if_pos (by rw [clsTo_len]; exact h), if_pos (by omega)]
    · rw [if_neg hik, clsTo_get cs bs k hi]
      by_cases h2 : i < k
      · rw [if_pos h2, if_pos (by omega)]
      · rw [if_neg h2, if_neg (by omega)]
  · rw [List.getElem?_eq_none (by rw [List.length_set, clsTo_len]; omega), List.getElem?_eq_none (by rw [clsTo_len]; omega)]
theorem clsTo_skip (cs : List Nat) (bs : List Bx) {k : Nat} (h : k < bs.length) (hc : ¬ k < cs.length) : clsTo cs bs k = clsTo cs bs (k + 1) := by
  rw [← clsTo_set cs bs h]
  have : clsB cs k (bs.getD k zBx) = bs.getD k zBx := by unfold clsB; rw [if_neg hc]
  rw [this]
  refine (List.ext_getElem? fun i => ?_).symm
  rw [List.getElem?_set]
  by_cases hik : k = i
  · subst hik
    rw [if_pos rfl, if_pos (by rw [clsTo_len]; exact h), clsTo_at cs bs h]
  · rw [if_neg hik]
/-- Boxes alike but for their classes. -/
def AllLike (bs bs' : List Bx) : Prop := bs'.length = bs.length ∧ ∀ i, i < bs.length → (bs'.getD i zBx).id = (bs.getD i zBx).id ∧ (bs'.getD i zBx).size = (bs.getD i zBx).size ∧ (bs'.getD i zBx).high = (bs.getD i zBx).high
theorem clsTo_like (cs : List Nat) (bs : List Bx) (k : Nat) : AllLike bs (clsTo cs bs k) := by
  refine ⟨clsTo_len _ _ _, fun i hi => ?_⟩
  have : (clsTo cs bs k).getD i zBx = if i < k then clsB cs i (bs.getD i zBx) else bs.getD i zBx := by
    rw [List.getD_eq_getElem?_getD, clsTo_get cs bs k hi]; rfl
  rw [this]
  unfold clsB
  (repeat' split) <;> exact ⟨rfl, rfl, rfl⟩
theorem like_ids {bs bs' : List Bx} (h : AllLike bs bs') : bs'.map (·.id) = bs.map (·.id) := by
  refine List.ext_getElem? fun i => ?_
  rw [List.getElem?_map, List.getElem?_map]
  by_cases hi : i < bs.length
  · have h1 := (h.2 i hi).1
    have hi' : i < bs'.length := by rw [h.1]; exact hi
    rw [List.getD_eq_getElem?_getD, List.getD_eq_getElem?_getD, List.getElem?_eq_getElem hi, List.getElem?_eq_getElem hi'] at h1
    rw [List.getElem?_eq_getElem hi, List.getElem?_eq_getElem hi']
    simpa using h1
  · have hl := h.1
    rw [List.getElem?_eq_none (by omega), List.getElem?_eq_none (by omega)]
theorem idx_ids (l : List Bx) (id : Int) : idxF (idB id) l = idxF (fun z => z == id) (l.map (·.id)) := by
  unfold idxF
  rw [List.findIdx?_map]
  rfl
theorem idx_lt {l : List Bx} {id : Int} (h : ¬ idxF (idB id) l < 0) : (idxF (idB id) l).toNat < l.length := by
  rcases idx_cases (idB id) l with e | ⟨k, hk, e⟩
  · rw [e] at h; omega
  · rw [e]; simpa using hk
theorem find_like {bs bs' : List Bx} (h : AllLike bs bs') (id : Int) : (findBx bs' id).2 = (findBx bs id).2 ∧ (findBx bs' id).1.size = (findBx bs id).1.size ∧ (findBx bs' id).1.high = (findBx bs id).1.high := by
  have hi : idxF (idB id) bs' = idxF (idB id) bs := by rw [idx_ids, idx_ids, like_ids h]
  unfold findBx
  rw [hi]
  by_cases hn : idxF (idB id) bs < 0
  · rw [if_pos hn, if_pos hn]; exact ⟨rfl, rfl, rfl⟩
  · rw [if_neg hn, if_neg hn]
    have := h.2 _ (idx_lt hn)
    exact ⟨rfl, this.2.1, this.2.2⟩
theorem right_like {bs bs' : List Bx} (h : AllLike bs bs') (s : Shp) (l : List Stw) : stowRight s bs' l = stowRight s bs l := by
  have h1 : stowAt s bs' l = stowAt s bs l := by
    funext i
    obtain ⟨a, b, _⟩ := find_like h (l.getD i default).box
    unfold stowAt
    rw [a, b]
  have h2 : htOf bs' = htOf bs := by
    funext col half x
    obtain ⟨a, _, c⟩ := find_like h x.box
    unfold htOf tallB
    rw [a, c]
  have h3 : fitsF s bs' l = fitsF s bs l := by
    funext c
    unfold fitsF heightF
    rw [h2]
  unfold stowRight
  rw [h1, h3]
/-- A loaded state with classes. -/
structure Sd (s : Shp) (bs : List Bx) (st : List Stw) : Prop where
  right : stowRight s bs st = true
  blen : bs.length ≤ 12
  slen : st.length ≤ 12
  size : ∀ b ∈ bs, b.size = 40 ∨ b.size = 20
  cls : ∀ b ∈ bs, b.cls < 10
  ids : (bs.map (·.id)).Nodup
theorem loaded_sd {s : Shp} (h : rightF s = true) (ds : List Drp) (cs : List Nat) : Sd s (clsTo cs (loadedF s ds 12).1 (loadedF s ds 12).1.length) (loadedF s ds 12).2 := by
  unfold loadedF
  have hn : min ds.length 12 ≤ 12 := Nat.min_le_right _ _
  generalize min ds.length 12 = n at *
  have hb := load_boxes s ds n
  have hlen : (loadTo s ds n).1.length = n := by rw [hb]; simp
  have hlk := clsTo_like cs (loadTo s ds n).1 (loadTo s ds n).1.length
  refine ⟨?_, by rw [clsTo_len, hlen]; exact hn, Nat.le_trans (load_len s ds n) hn, ?_, ?_, ?_⟩
  · rw [right_like hlk]; exact load_right h ds n
  · intro b hbm
    obtain ⟨i, hi, rfl⟩ := List.getElem_of_mem hbm
    have hi' : i < (loadTo s ds n).1.length := by rw [clsTo_len] at hi; exact hi
    have h1 := (hlk.2 i hi').2.1
    rw [List.getD_eq_getElem?_getD, List.getElem?_eq_getElem hi] at h1
    simp only [Option.getD_some] at h1
    rw [h1, hb]
    have : i < n := by omega
    simp only [List.getD_eq_getElem?_getD, List.getElem?_map, List.getElem?_range this, Option.map_some, Option.getD_some]
    unfold dropB
    simp only
    split <;> simp
  · intro b hbm
    unfold clsTo at hbm
    obtain ⟨i, hi, rfl⟩ := List.mem_map.1 hbm
    have hi := List.mem_range.1 hi
    rw [if_pos hi]
    have : i < n := by omega
    have h0 : ((loadTo s ds n).1.getD i zBx).cls = 0 := by
      rw [hb]
      simp only [List.getD_eq_getElem?_getD, List.getElem?_map, List.getElem?_range this, Option.map_some, Option.getD_some]
      rfl
    unfold clsB
    split
    · show _ % 10 < 10; omega
    · rw [h0]; decide
  · rw [like_ids hlk]; exact load_nodup s ds n
theorem Sd.at_ {s : Shp} {bs : List Bx} {st : List Stw} (h : Sd s bs st) {i : Nat} (hi : i < st.length) : stowAt s bs st i = true := (stowRight_parts.1 h.right).2.1 i hi
theorem Sd.found {s : Shp} {bs : List Bx} {st : List Stw} (h : Sd s bs st) {x : Stw} (hx : x ∈ st) : (findBx bs x.box).2 = true := stow_found h.right x hx
theorem cls_lt {bs : List Bx} (h : ∀ b ∈ bs, b.cls < 10) (id : Int) : clsF bs id < 10 := by
  unfold clsF findBx
  split
  · decide
  · rename_i hn
    exact h _ (getD_memD (idx_lt hn) zBx)
theorem Sd.derr {s : Shp} {bs : List Bx} {st : List Stw} (h : Sd s bs st) : dErr s bs st = 0 := by
  unfold dErr
  rw [if_pos h.right, if_neg, if_neg]
  · have h1 := goods_len bs st
    have h2 := h.slen
    omega
  · rw [Bool.not_eq_true, List.any_eq_false]
    intro x _
    unfold overB9
    have := cls_lt h.cls x.box
    simp only [decide_eq_true_eq]
    omega
theorem stow_rising {s : Shp} {bs : List Bx} {st : List Stw} (h : stowRight s bs st = true) : (st.map (·.box)).Pairwise (· < ·) := by
  have h1 : ∀ i, i + 1 < st.length → (st.getD i default).box < (st.getD (i + 1) default).box := fun i hi => by
    have := (stowRight_parts.1 h).2.1 (i + 1) hi
    unfold stowAt at this
    simp only [Bool.and_eq_true, Bool.or_eq_true, decide_eq_true_eq] at this
    rcases this.1.1.1.2 with h2 | h2
    · omega
    · simpa using h2
  have h2 : ∀ n i, i + n + 1 < st.length → (st.getD i default).box < (st.getD (i + n + 1) default).box := fun n => by
    induction n with
    | zero => exact fun i hi => h1 i hi
    | succ n ih =>
      intro i hi
      have a := ih i (by omega)
      have b := h1 (i + n + 1) (by omega)
      rw [show i + (n + 1) + 1 = i + n + 1 + 1 by omega]
      omega
  rw [List.pairwise_iff_getElem]
  intro i j hi hj hij
  simp only [List.length_map] at hi hj
  have := h2 (j - i - 1) i (by omega)
  rw [show i + (j - i - 1) + 1 = j by omega] at this
  simpa [List.getD_eq_getElem?_getD, hi, hj] using this
theorem gds_boxes (bs : List Bx) (st : List Stw) : (gdsF bs st).map (·.st.box) = st.map (·.box) := by
  unfold gdsF
  rw [List.map_map]
  rfl
theorem Sd.nodup {s : Shp} {bs : List Bx} {st : List Stw} (h : Sd s bs st) : ((gdsF bs st).map (·.st.box)).Nodup := by
  rw [gds_boxes]
  exact (stow_rising h.right).imp fun h => by omega
theorem slot_in14 {s : Shp} {x : Slt} {size : Nat} (h : slotRight s x size = true) : 0 ≤ x.col ∧ x.col < s.cols.length ∧ 0 ≤ x.tier ∧ x.tier < (s.cols.getD x.col.toNat default).tiers ∧ x.half ∈ halvesL size := by
  unfold slotRight at h
  simp only [Bool.and_eq_true, decide_eq_true_eq, List.any_eq_true, beq_iff_eq] at h
  obtain ⟨h1, h2, h3, h4, y, h5, h6⟩ := h
  exact ⟨h1, h2, h3, h4, h6 ▸ h5⟩
theorem Sd.slot {s : Shp} {bs : List Bx} {st : List Stw} (h : Sd s bs st) {x : Stw} (hx : x ∈ st) : slotRight s x.slot (findBx bs x.box).1.size = true := by
  obtain ⟨i, hi, rfl⟩ := List.getElem_of_mem hx
  have := h.at_ hi
  unfold stowAt at this
  simp only [Bool.and_eq_true] at this
  simpa [List.getD_eq_getElem?_getD, hi] using this.1.1.2
theorem Sd.tier {s : Shp} {bs : List Bx} {st : List Stw} (hb : Bu s) (h : Sd s bs st) {x : Stw} (hx : x ∈ st) : 0 ≤ x.slot.tier ∧ x.slot.tier < 5 ∧ 0 ≤ x.slot.col ∧ x.slot.col < s.cols.length := by
  have h1 := slot_in14 (h.slot hx)
  have h2 := (hb.col (i := x.slot.col.toNat) (by omega)).tiers
  omega
theorem Sd.near_symm {s : Shp} {bs : List Bx} {st : List Stw} (hb : Bu s) (h : Sd s bs st) : ∀ a ∈ gdsF bs st, ∀ b ∈ gdsF bs st, nr s a b = nr s b a := fun a ha b hb' => by
  obtain ⟨x, _, rfl⟩ := List.mem_map.1 ha
  obtain ⟨y, _, rfl⟩ := List.mem_map.1 hb'
  unfold nr codeG
  rw [near_eq hb.cs, near_eq hb.cs, nearR_symm]
  rw [Dg.tab_symm _ _ (cls_lt h.cls _) (cls_lt h.cls _)]
/-- The clashes of a state are those of all its boxes: those of class 0 are never near. -/
theorem clash_all {s : Shp} (hc : Cs s) {bs : List Bx} {st : List Stw} (h : ∀ b ∈ bs, b.cls < 10) : clashF s bs st = (pairsG (gdsF bs st)).filterMap (clB s) := by
  unfold clashF goodsF
  have hcl : ∀ p ∈ pairsG (gdsF bs st), p.1.cls < 10 ∧ p.2.cls < 10 := by
    rintro ⟨a, b⟩ hp
    obtain ⟨h1, h2⟩ := sub_mem (mem_pairsG hp)
    obtain ⟨x, _, rfl⟩ := List.mem_map.1 h1
    obtain ⟨y, _, rfl⟩ := List.mem_map.1 h2
    exact ⟨cls_lt h _, cls_lt h _⟩
  refine (pairsG_filter dngB (clB s) (fun a b hab => ?_) _).symm
  rw [clB_eq]
  have h0 : codeG a b = 0 := by
    unfold codeG
    unfold dngB at hab
    simp only [decide_eq_false_iff_not] at hab
    by_cases hx : a.cls < 10 ∧ b.cls < 10
    · rcases Dg.tab_zero _ _ hx.1 hx.2 with h | h
      · exact h
      · omega
    · exact tab_out hx
  unfold nr
  rw [h0, near_eq hc, nearR_zero]
  rfl
end Go.Proofs.YtnbpecnddjpfbaaDoor
