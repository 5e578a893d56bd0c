/-
  Plain laws for SegregateLess and SegregatePairs: a state without a box, what a clash names.
-/
import Derived.Test.YtnbpecnddjpfbaaDoorSgT
namespace Go.Proofs.YtnbpecnddjpfbaaDoor
open Go.RowKit

def less14 (st : List Stw) (i : Nat) : List Stw := st.take i ++ st.drop (i + 1)
theorem less14_len {st : List Stw} {i : Nat} (h : i < st.length) : (less14 st i).length + 1 = st.length := by
  unfold less14
  rw [List.length_append, List.length_take, List.length_drop]
  omega
theorem less14_mem {st : List Stw} {i : Nat} {x : Stw} (h : x ∈ less14 st i) : x ∈ st := by
  unfold less14 at h
  rcases List.mem_append.1 h with h | h
  · exact List.mem_of_mem_take h
  · exact List.mem_of_mem_drop h
theorem filter_not14 {α : Type} (key : α → Int) (l : List α) (hn : (l.map key).Nodup) {i : Nat} (h : i < l.length) (d : α) : l.take i ++ l.drop (i + 1) = l.filter fun y => key y != key (l.getD i d) := by
  have hx : l.getD i d = l[i] := by simp [h]
  have e1 : l = l.take i ++ l[i] :: l.drop (i + 1) := by rw [← List.drop_eq_getElem_cons h, List.take_append_drop]
  rw [hx]
  have hn2 := hn
  rw [e1, List.map_append, List.map_cons, List.nodup_append] at hn2
  obtain ⟨_, h2, h3⟩ := hn2
  rw [List.nodup_cons] at h2
  have hf : l.filter (fun y => key y != key l[i]) = (l.take i).filter (fun y => key y != key l[i]) ++ (l.drop (i + 1)).filter (fun y => key y != key l[i]) := by
    conv => lhs; arg 2; rw [e1]
    rw [List.filter_append, List.filter_cons_of_neg (by simp)]
  rw [hf]
  congr 1
  · refine (List.filter_eq_self.2 fun y hy => ?_).symm
    have := h3 (key y) (List.mem_map.2 ⟨y, hy, rfl⟩) (key l[i]) (List.mem_cons_self ..)
    simpa using this
  · refine (List.filter_eq_self.2 fun y hy => ?_).symm
    have : key y ≠ key l[i] := fun e => h2.1 (List.mem_map.2 ⟨y, hy, e⟩)
    simpa using this
theorem gds_less {bs : List Bx} {st : List Stw} (hn : (st.map (·.box)).Nodup) {i : Nat} (h : i < st.length) : gdsF bs (less14 st i) = (gdsF bs st).filter fun g => g.st.box != (st.getD i default).box := by
  unfold less14
  rw [filter_not14 (·.box) st hn h default]
  unfold gdsF
  rw [List.filter_map]
  rfl
theorem Sd.boxes {s : Shp} {bs : List Bx} {st : List Stw} (h : Sd s bs st) : (st.map (·.box)).Nodup := (stow_rising h.right).imp fun h => by omega
/-- The clashes without a box. -/
theorem Sd.less {s : Shp} (hb : Bu s) {bs : List Bx} {st : List Stw} (h : Sd s bs st) {i : Nat} (hi : i < st.length) : clashF s bs (less14 st i) = (clashF s bs st).filter fun c => c.a != (st.getD i default).box && c.b != (st.getD i default).box := by
  rw [clash_all hb.cs h.cls, clash_all hb.cs h.cls, clash_less, gds_less h.boxes hi]
theorem Sd.less_err {s : Shp} {bs : List Bx} {st : List Stw} (h : Sd s bs st) {i : Nat} (hi : i < st.length) : dErr s bs (less14 st i) = 2 ∨ dErr s bs (less14 st i) = 0 := by
  unfold dErr
  split
  · refine .inr ?_
    rw [if_neg, if_neg]
    · have h1 := goods_len bs (less14 st i)
      have h2 := less14_len hi
      have h3 := h.slen
      omega
    · rw [Bool.not_eq_true, List.any_eq_false]
      intro x _
      unfold overB9
      have := cls_lt h.cls x.box
      simp only [decide_eq_true_eq]
      omega
  · exact .inl rfl
theorem clash_fact {s : Shp} (hb : Bu s) {bs : List Bx} {st : List Stw} (h : Sd s bs st) : ∀ c ∈ clashF s bs st, (0 < clsF bs c.a ∧ clsF bs c.a < 9) ∧ (0 < clsF bs c.b ∧ clsF bs c.b < 9) ∧ c.a < c.b ∧ 0 < c.code ∧ c.code < 256 := fun c hc => by
  rw [clash_all hb.cs h.cls] at hc
  obtain ⟨a, b, h1, h2, h3, h4, h5⟩ := clash_ids s hc
  obtain ⟨ha, hb'⟩ := sub_mem h1
  obtain ⟨x, hx, rfl⟩ := List.mem_map.1 ha
  obtain ⟨y, hy, rfl⟩ := List.mem_map.1 hb'
  have hlt : x.box < y.box := by
    have h6 : [x.box, y.box].Sublist (st.map (·.box)) := by
      have := h1.map (fun g : Gd => g.st.box)
      rw [gds_boxes] at this
      exact this
    have := (stow_rising h.right).sublist h6
    simpa using this
  have hc0 : codeG ⟨x, clsF bs x.box⟩ ⟨y, clsF bs y.box⟩ ≠ 0 := fun e => by
    unfold nr at h5
    rw [e, near_eq hb.cs, nearR_zero] at h5
    cases h5
  rw [h2, h3, h4]
  have hcx := cls_lt h.cls x.box
  have hcy := cls_lt h.cls y.box
  have h8 := tab_lt (clsF bs x.box) (clsF bs y.box)
  rcases Dg.tab_zero _ _ hcx hcy with h7 | h7
  · exact absurd h7 hc0
  · simp only
    have : 0 < codeG ⟨x, clsF bs x.box⟩ ⟨y, clsF bs y.box⟩ := Nat.pos_of_ne_zero hc0
    exact ⟨⟨h7.1, h7.2.2.1⟩, ⟨h7.2.1, h7.2.2.2⟩, hlt, this, h8⟩
theorem pairsG_len {α : Type} (l : List α) : (pairsG l).length ≤ l.length * l.length := by
  cases l with
  | nil => simp [pairsG]
  | cons a l =>
    rw [← pairsTo_all a]
    exact pairsTo_len a _ _
theorem clash_len (s : Shp) {bs : List Bx} {st : List Stw} (h : st.length ≤ 12) : (clashF s bs st).length ≤ 144 := by
  unfold clashF
  have h1 := fm_len (clB s) (pairsG (goodsF bs st))
  have h2 := pairsG_len (goodsF bs st)
  have h3 := goods_len bs st
  have h4 : (goodsF bs st).length * (goodsF bs st).length ≤ 12 * 12 := Nat.mul_le_mul (by omega) (by omega)
  omega
end Go.Proofs.YtnbpecnddjpfbaaDoor
