/-
  Plain facts on ships that Built makes, without a column or a cover.
-/
import Derived.Test.YtggebllkkiennaaDoorShQ
namespace Go.Proofs.YtggebllkkiennaaDoor
open Go.RowKit

theorem cols_sub {l m : List Col} (h : Cols l) (hs : m.Sublist l) : Cols m := ⟨fun c hc => h.1 c (hs.subset hc), h.2.sublist (hs.map keyC)⟩
def cutAt {α : Type} (l : List α) (k : Nat) : List α := l.take k ++ l.drop (k + 1)
theorem cutAt_sub {α : Type} (l : List α) (k : Nat) : (cutAt l k).Sublist l := by
  unfold cutAt; rw [← List.eraseIdx_eq_take_drop_succ]; exact List.eraseIdx_sublist l k
theorem cutAt_len {α : Type} (l : List α) (k : Nat) (h : k < l.length) : (cutAt l k).length = l.length - 1 := by
  unfold cutAt; simp; omega
def lessC (s : Shp) (k : Nat) : Shp := { s with cols := cutAt s.cols k }
def lessV (s : Shp) (k : Nat) : Shp := { s with covs := cutAt s.covs k }
theorem lessC_eq {s : Shp} (h : Bu s) (k : Nat) : lessC s k = shp0 (cutAt s.cols k) s.covs := by
  unfold lessC; rw [h.eq]; rfl
theorem lessC_right {s : Shp} (h : Bu s) {k : Nat} (hk : k < s.cols.length) : rightF (lessC s k) = decide (1 < s.cols.length) := by
  rw [lessC_eq h]
  have hl := cutAt_len s.cols k hk
  by_cases h1 : 1 < s.cols.length
  · rw [decide_eq_true h1]
    exact built_right (cols_sub h.cols (cutAt_sub _ _)) ⟨by omega, by have := h.few; omega⟩ h.sub
  · rw [decide_eq_false h1]
    unfold rightF
    have : (cutAt s.cols k).length = 0 := by omega
    simp [shp0, this]
theorem lessC_few {s : Shp} (h : Bu s) (k : Nat) : Few (lessC s k) := by
  rw [lessC_eq h]
  exact built_few (cols_sub h.cols (cutAt_sub _ _)) (Nat.le_trans (cutAt_sub s.cols k).length_le h.few) h.sub
theorem lessC_ints {s : Shp} (h : Bu s) (k : Nat) : Ints (lessC s k) := by
  rw [lessC_eq h]; exact built_ints (cols_sub h.cols (cutAt_sub _ _))
theorem lessC_short {s : Shp} (h : Bu s) (k : Nat) : (lessC s k).cols.length ≤ 1000000 := by
  have := (cutAt_sub s.cols k).length_le; have := h.few; show (cutAt s.cols k).length ≤ _; omega
theorem lessV_bu {s : Shp} (h : Bu s) (k : Nat) : Bu (lessV s k) :=
  ⟨h.cols, h.one, h.few, (cutAt_sub s.covs k).trans h.sub, by
    have e : lessV s k = lessV (shp0 s.cols s.covs) k := by rw [← h.eq]
    rw [e]; rfl⟩
def sum2 (l : List Col) : Int := (l.map fun c => 2 * c.tiers).sum
theorem sum2_append (l m : List Col) : sum2 (l ++ m) = sum2 l + sum2 m := by simp [sum2]
theorem sum2_bd {l : List Col} (h : ∀ c ∈ l, GoodCol c) : 0 ≤ sum2 l ∧ sum2 l ≤ 10 * l.length := by
  induction l with
  | nil => simp [sum2]
  | cons c l ih =>
    have h1 := ih fun x hx => h x (by simp [hx])
    have h2 := (h c (by simp)).tiers
    simp only [sum2, List.map_cons, List.sum_cons, List.length_cons] at h1 ⊢
    omega
theorem places_sum {l : List Col} (h : ∀ c ∈ l, GoodCol c) (hl : l.length ≤ 1000000) : ∀ n, n ≤ l.length → placesTo l n = sum2 (l.take n)
  | 0, _ => by simp [placesTo, sum2]
  | n + 1, hn => by
    have ih := places_sum h hl n (by omega)
    have hb := sum2_bd (l := l.take n) fun c hc => h c (List.mem_of_mem_take hc)
    have hlt : (l.take n).length ≤ n := List.length_take_le _ _
    have ht := (h (l.getD n default) (getD_memD (by omega) default)).tiers
    unfold placesTo
    rw [ih, List.take_succ_eq_append_getElem (by omega), sum2_append]
    have e : l.getD n default = l[n]'(by omega) := by simp [show n < l.length by omega]
    rw [e] at ht ⊢
    rw [IntWalk.wrap64_in (2 * (l[n]'(by omega)).tiers) (by omega)]
    rw [IntWalk.wrap64_in _ (by omega)]
    simp [sum2]
theorem places_all {l : List Col} (h : ∀ c ∈ l, GoodCol c) (hl : l.length ≤ 1000000) : placesTo l l.length = sum2 l := by
  rw [places_sum h hl _ (Nat.le_refl _), List.take_length]
theorem sum2_cut {l : List Col} {k : Nat} (hk : k < l.length) : sum2 (cutAt l k) = sum2 l - 2 * (l.getD k default).tiers := by
  have e : l = l.take k ++ l[k] :: l.drop (k + 1) := by rw [← List.drop_eq_getElem_cons hk, List.take_append_drop]
  have e2 : l.getD k default = l[k] := by simp [hk]
  have e3 : sum2 l = sum2 (l.take k) + (2 * l[k].tiers + sum2 (l.drop (k + 1))) := by
    have := congrArg sum2 e
    rw [sum2_append, show l[k] :: l.drop (k + 1) = [l[k]] ++ l.drop (k + 1) from rfl, sum2_append] at this
    rw [this]; simp [sum2]
  unfold cutAt
  rw [e2, sum2_append, e3]
  omega
theorem lessC_places {s : Shp} (h : Bu s) {k : Nat} (hk : k < s.cols.length) :
    placesTo (lessC s k).cols (lessC s k).cols.length = placesTo s.cols s.cols.length - 2 * (s.cols.getD k default).tiers ∧ 0 ≤ placesTo s.cols s.cols.length ∧ placesTo s.cols s.cols.length ≤ 120 := by
  have hg := h.cols.1
  have hf := h.few
  have hc : ∀ c ∈ cutAt s.cols k, GoodCol c := fun c hc => hg c ((cutAt_sub _ _).subset hc)
  have hb := sum2_bd hg
  rw [places_all hg (by omega), show (lessC s k).cols = cutAt s.cols k from rfl, places_all hc (by have := (cutAt_sub s.cols k).length_le; omega), sum2_cut hk]
  exact ⟨rfl, hb.1, by omega⟩
theorem tall_ge {l : List Col} : ∀ n, ∀ i, i < n → (l.getD i default).tiers ≤ tallTo l n
  | 0, i, h => by omega
  | n + 1, i, h => by
    unfold tallTo
    by_cases e : i = n
    · subst e; split
      · exact Int.le_refl _
      · rename_i h'; omega
    · have := tall_ge (l := l) n i (by omega)
      split
      · rename_i h'; rcases h' with h' | h' <;> omega
      · exact this
theorem tall_le {l : List Col} (y : Int) (hy : 0 ≤ y) : ∀ n, (∀ i, i < n → (l.getD i default).tiers ≤ y) → tallTo l n ≤ y
  | 0, _ => hy
  | n + 1, h => by
    have := tall_le y hy n fun i hi => h i (by omega)
    unfold tallTo
    split
    · exact h n (by omega)
    · exact this
theorem mem_getD {l : List Col} {c : Col} (h : c ∈ l) : ∃ i, i < l.length ∧ l.getD i default = c := by
  obtain ⟨i, hi, rfl⟩ := List.getElem_of_mem h
  exact ⟨i, hi, by simp [hi]⟩
theorem lessC_tall {s : Shp} (h : Bu s) (k : Nat) : tallTo (lessC s k).cols (lessC s k).cols.length ≤ tallTo s.cols s.cols.length := by
  refine tall_le _ ?_ _ fun i hi => ?_
  · have := tall_ge (l := s.cols) s.cols.length 0 h.one
    have := (h.col h.one).tiers
    omega
  · have hm : (lessC s k).cols.getD i default ∈ s.cols := (cutAt_sub s.cols k).subset (getD_memD hi default)
    obtain ⟨j, hj, e⟩ := mem_getD hm
    rw [← e]; exact tall_ge _ _ hj
theorem findB_key (a c : Col) : findB a.bay a.row a.deck c = true ↔ keyC c = keyC a := by
  unfold findB keyC
  cases a.deck <;> cases c.deck <;> simp
theorem find_at {s : Shp} (h : Bu s) {i : Nat} (hi : i < s.cols.length) : findF s (s.cols.getD i default).bay (s.cols.getD i default).row (s.cols.getD i default).deck = ((i : Int), true) := by
  obtain ⟨L, hL⟩ := pick_first (findB (s.cols.getD i default).bay (s.cols.getD i default).row (s.cols.getD i default).deck) s.cols default i hi ((findB_key _ _).2 rfl) fun j hj => by
    rw [Bool.eq_false_iff]; intro hc
    have := cols_inj h.cols (by omega) hi ((findB_key _ _).1 hc)
    omega
  unfold findF
  rw [hL]
theorem find_in {s : Shp} {bay row : Int} {deck : Bool} : (findF s bay row deck).2 = s.cols.any (findB bay row deck) := by
  unfold findF
  cases hp : pick (findB bay row deck) s.cols with
  | nil =>
    symm; rw [List.any_eq_false]
    intro c hc hb
    obtain ⟨i, hi, rfl⟩ := mem_getD hc
    have := (mem_pick (findB bay row deck) default (i : Int) s.cols).2 ⟨i, hi, rfl, hb⟩
    rw [hp] at this; cases this
  | cons x L =>
    symm; rw [List.any_eq_true]
    obtain ⟨m, hm, _, hb⟩ := (mem_pick (findB bay row deck) default x s.cols).1 (by rw [hp]; simp)
    exact ⟨_, getD_memD hm default, hb⟩
theorem lessC_find {s : Shp} (h : Bu s) {k i : Nat} (hk : k < s.cols.length) (hi : i < s.cols.length) :
    (findF (lessC s k) (s.cols.getD i default).bay (s.cols.getD i default).row (s.cols.getD i default).deck).2 = decide (i ≠ k) := by
  rw [find_in, Bool.eq_iff_iff, List.any_eq_true, decide_eq_true_iff]
  have hd : (s.cols.map keyC).Nodup := h.cols.2
  have e : s.cols = s.cols.take k ++ s.cols[k] :: s.cols.drop (k + 1) := by rw [← List.drop_eq_getElem_cons hk, List.take_append_drop]
  have ek : s.cols.getD k default = s.cols[k] := by simp [hk]
  constructor
  · rintro ⟨c, hc, hb⟩ rfl
    have hb := (findB_key _ _).1 hb
    rw [ek] at hb
    rw [e, List.map_append, List.map_cons] at hd
    have hc' : c ∈ s.cols.take i ∨ c ∈ s.cols.drop (i + 1) := List.mem_append.1 hc
    rw [List.nodup_append] at hd
    obtain ⟨_, h2, h3⟩ := hd
    rw [List.nodup_cons] at h2
    rcases hc' with hc | hc
    · exact h3 (keyC c) (List.mem_map_of_mem hc) (keyC s.cols[i]) (by simp) hb
    · exact h2.1 (by rw [← hb]; exact List.mem_map_of_mem hc)
  · intro hne
    refine ⟨s.cols.getD i default, ?_, (findB_key _ _).2 rfl⟩
    show _ ∈ cutAt s.cols k
    unfold cutAt
    rw [List.mem_append]
    rcases Nat.lt_or_gt_of_ne hne with h' | h'
    · left; rw [List.mem_take_iff_getElem]; exact ⟨i, by omega, by simp [hi]⟩
    · right; rw [List.mem_drop_iff_getElem]; exact ⟨i - (k + 1), by omega, by simp [hi, show k + 1 + (i - (k + 1)) = i by omega]⟩
end Go.Proofs.YtggebllkkiennaaDoor
