/-
  Plain facts for the reference of chapter 07: what it checks is what Right checks.
-/
import Derived.Test.YtpmhchbkhohmjaaDoorRfD
namespace Go.Proofs.YtpmhchbkhohmjaaDoor
open Go.RowKit

/-- The plug i of a column, as the reference checks it. -/
def plugR (c : Col) (i : Nat) : Bool := !(decide (c.plugs.getD i 0 < 0) || decide (c.tiers ≤ c.plugs.getD i 0)) && !(decide (0 < i) && decide (c.plugs.getD i 0 ≤ c.plugs.getD (i - 1) 0))
def limR (c : Col) : Bool :=
  withinB c.bay 0 39 && (withinB c.row 0 30 && (withinB c.tiers 1 10 && (withinB c.height 0 40000 && ((withinB c.k20 0 500000000 && (withinB c.k40 0 500000000 && withinB c.lash 0 1000000000000)) && (withinB c.x (-500000) 500000 && (withinB c.y (-500000) 500000 && withinB c.z (-500000) 500000))))))
def colR (c : Col) : Bool := (List.range c.plugs.length).all (plugR c) && limR c
theorem lim_spans (c : Col) : limR c = (spans c).all inB := by
  unfold limR spans withinB
  rw [Bool.eq_iff_iff]
  simp only [Bool.and_eq_true, decide_eq_true_eq, List.all_cons, List.all_nil, inB, Bool.and_true, Bool.not_eq_true', Bool.or_eq_false_iff, decide_eq_false_iff_not]
  omega
theorem colR_eq (c : Col) : colR c = colOK c := by
  unfold colR colOK
  rw [lim_spans]
  by_cases ht : 1 ≤ c.tiers ∧ c.tiers ≤ 10
  · have : ∀ i, plugR c i = plugOK c i := fun i => by
      unfold plugR plugOK
      rw [IntWalk.wrap64_in _ (by omega), Bool.eq_iff_iff]
      simp only [inB, Bool.and_eq_true, Bool.not_eq_true', Bool.or_eq_false_iff, decide_eq_false_iff_not, Bool.and_eq_false_iff]
      omega
    rw [funext this]
  · have : (spans c).all inB = false := by
      rw [List.all_eq_false]
      refine ⟨(c.tiers, 1, 10), by simp [spans], ?_⟩
      simp only [inB, Bool.not_eq_true, Bool.not_eq_false', Bool.or_eq_true, decide_eq_true_eq]
      omega
    rw [this]; simp
/-- The first i columns, as the reference checks them. -/
def okTo (s : Shp) (i : Nat) : Prop := ∀ a, a < i → colOK (s.cols.getD a default) = true ∧ ∀ b, b < a → keyC (s.cols.getD b default) ≠ keyC (s.cols.getD a default)
def covTo (s : Shp) (i : Nat) : Prop := ∀ a, a < i → covOK (s.covs.getD a default) = true ∧ ∀ r ∈ (s.covs.getD a default).rows, ∀ b, b < a → ¬ ((s.covs.getD b default).bay = (s.covs.getD a default).bay ∧ r ∈ (s.covs.getD b default).rows)
theorem once_nodup (L : List (Int × Int × Int)) : once L = true ↔ L.Nodup := by
  constructor
  · intro h
    rw [List.nodup_iff_count]
    intro a
    unfold once at h
    rw [List.all_eq_true] at h
    by_cases ha : a ∈ L
    · simpa using h a ha
    · rw [List.count_eq_zero_of_not_mem ha]; omega
  · exact once_of_nodup
theorem pairwise_getD {α : Type} (R : α → α → Prop) (d : α) : ∀ (l : List α), l.Pairwise R ↔ ∀ a, a < l.length → ∀ b, b < a → R (l.getD b d) (l.getD a d) := by
  intro l
  rw [List.pairwise_iff_getElem]
  constructor
  · intro h a ha b hb
    have := h b a (by omega) ha hb
    simpa [ha, show b < l.length by omega] using this
  · intro h i j hi hj hij
    have := h j hj i hij
    simpa [hi, hj] using this
theorem rows_nodup {x : Cov} (h : covOK x = true) : x.rows.Nodup := by
  unfold covOK at h
  rw [Bool.and_eq_true, List.all_eq_true] at h
  have hs : ∀ i, 0 < i → i < x.rows.length → x.rows.getD (i - 1) 0 < x.rows.getD i 0 := fun i h0 hi => by
    have := h.2 i (by simpa using hi)
    unfold rowOK at this
    simp only [Bool.not_eq_true', Bool.or_eq_false_iff, Bool.and_eq_false_iff, decide_eq_false_iff_not] at this
    omega
  have hl : ∀ a b, b < a → a < x.rows.length → x.rows.getD b 0 < x.rows.getD a 0 := by
    intro a
    induction a with
    | zero => intro b hb; omega
    | succ a ih =>
      intro b hb ha
      have h1 := hs (a + 1) (by omega) ha
      rw [Nat.add_sub_cancel] at h1
      by_cases e : b = a
      · rw [e]; exact h1
      · exact Int.lt_trans (ih b (by omega) (by omega)) h1
  unfold List.Nodup
  rw [pairwise_getD _ 0]
  intro a ha b hb
  have := hl a b hb ha
  omega
theorem mem_keysX {x : Cov} {k : Int × Int × Int} : k ∈ keysX x ↔ k.1 = x.bay ∧ k.2.1 ∈ x.rows ∧ k.2.2 = 2 := by
  unfold keysX
  rw [List.mem_map]
  constructor
  · rintro ⟨r, hr, rfl⟩; exact ⟨rfl, hr, rfl⟩
  · rintro ⟨h1, h2, h3⟩; exact ⟨k.2.1, h2, by rw [← h1, ← h3]⟩
theorem keysX_nodup {x : Cov} (h : x.rows.Nodup) : (keysX x).Nodup := by
  unfold keysX
  exact nodup_map_on h fun a _ b _ e => by simpa using e
theorem keys_iff {s : Shp} (hc : ∀ x ∈ s.covs, x.rows.Nodup) : (keysOf s).Nodup ↔ (∀ a, a < s.cols.length → ∀ b, b < a → keyC (s.cols.getD b default) ≠ keyC (s.cols.getD a default)) ∧
    (∀ a, a < s.covs.length → ∀ r ∈ (s.covs.getD a default).rows, ∀ b, b < a → ¬ ((s.covs.getD b default).bay = (s.covs.getD a default).bay ∧ r ∈ (s.covs.getD b default).rows)) := by
  unfold keysOf
  rw [List.nodup_append]
  have hd : ∀ a ∈ s.cols.map keyC, ∀ b ∈ s.covs.flatMap keysX, a ≠ b := by
    intro a ha b hb e
    subst e
    obtain ⟨c, _, rfl⟩ := List.mem_map.1 ha
    obtain ⟨x, _, hx⟩ := List.mem_flatMap.1 hb
    have := (mem_keysX.1 hx).2.2
    unfold keyC at this
    simp only at this
    split at this <;> omega
  have h1 : (s.cols.map keyC).Nodup ↔ ∀ a, a < s.cols.length → ∀ b, b < a → keyC (s.cols.getD b default) ≠ keyC (s.cols.getD a default) := by
    unfold List.Nodup
    rw [List.pairwise_map, pairwise_getD _ default]
  have h2 : (s.covs.flatMap keysX).Nodup ↔ ∀ a, a < s.covs.length → ∀ r ∈ (s.covs.getD a default).rows, ∀ b, b < a → ¬ ((s.covs.getD b default).bay = (s.covs.getD a default).bay ∧ r ∈ (s.covs.getD b default).rows) := by
    unfold List.Nodup
    rw [List.pairwise_flatMap, pairwise_getD _ default]
    constructor
    · rintro ⟨_, h⟩ a ha r hr b hb ⟨e1, e2⟩
      exact h a ha b hb ((s.covs.getD a default).bay, r, 2) (mem_keysX.2 ⟨e1.symm, e2, rfl⟩) _ (mem_keysX.2 ⟨rfl, hr, rfl⟩) rfl
    · intro h
      refine ⟨fun x hx => keysX_nodup (hc x hx), fun a ha b hb x hx y hy e => ?_⟩
      subst e
      have p := mem_keysX.1 hx
      have q := mem_keysX.1 hy
      exact h a ha x.2.1 q.2.1 b hb ⟨p.1.symm.trans q.1, p.2.1⟩
  rw [h1, h2]
  exact ⟨fun h => ⟨h.1, h.2.1⟩, fun h => ⟨h.1, h.2, hd⟩⟩
theorem all_getD {α : Type} (d : α) (p : α → Bool) (l : List α) : l.all p = true ↔ ∀ a, a < l.length → p (l.getD a d) = true := by
  rw [List.all_eq_true]
  constructor
  · intro h a ha; exact h _ (getD_memD ha d)
  · intro h x hx
    obtain ⟨i, hi, rfl⟩ := List.getElem_of_mem hx
    have := h i hi
    simpa [hi] using this
theorem right_iff (s : Shp) : rightF s = true ↔ (1 ≤ s.cols.length ∧ s.cols.length ≤ 200 ∧ s.covs.length ≤ 40) ∧ okTo s s.cols.length ∧ covTo s s.covs.length := by
  unfold rightF okTo covTo
  rw [Bool.and_eq_true, Bool.and_eq_true, Bool.and_eq_true, decide_eq_true_eq, all_getD default, all_getD default, once_nodup]
  constructor
  · rintro ⟨h1, h2, h3, h4⟩
    have hc : ∀ x ∈ s.covs, x.rows.Nodup := fun x hx => by
      obtain ⟨i, hi, rfl⟩ := List.getElem_of_mem hx
      have := h3 i hi
      exact rows_nodup (by simpa [hi] using this)
    obtain ⟨k1, k2⟩ := (keys_iff hc).1 h4
    exact ⟨h1, fun a ha => ⟨h2 a ha, k1 a ha⟩, fun a ha => ⟨h3 a ha, k2 a ha⟩⟩
  · rintro ⟨h1, h2, h3⟩
    have hc : ∀ x ∈ s.covs, x.rows.Nodup := fun x hx => by
      obtain ⟨i, hi, rfl⟩ := List.getElem_of_mem hx
      have := (h3 i hi).1
      exact rows_nodup (by simpa [hi] using this)
    exact ⟨h1, fun a ha => (h2 a ha).1, fun a ha => (h3 a ha).1, (keys_iff hc).2 ⟨fun a ha => (h2 a ha).2, fun a ha => (h3 a ha).2⟩⟩
theorem right_no_cols {s : Shp} {a : Nat} (ha : a < s.cols.length) (h : colOK (s.cols.getD a default) = false) : rightF s = false := by
  rw [Bool.eq_false_iff]; intro h'
  have := (((right_iff s).1 h').2.1 a ha).1
  rw [h] at this; cases this
theorem right_no_keys {s : Shp} {a b : Nat} (ha : a < s.cols.length) (hb : b < a) (h : keyC (s.cols.getD b default) = keyC (s.cols.getD a default)) : rightF s = false := by
  rw [Bool.eq_false_iff]; intro h'
  exact (((right_iff s).1 h').2.1 a ha).2 b hb h
theorem right_no_covs {s : Shp} {a : Nat} (ha : a < s.covs.length) (h : covOK (s.covs.getD a default) = false) : rightF s = false := by
  rw [Bool.eq_false_iff]; intro h'
  have := (((right_iff s).1 h').2.2 a ha).1
  rw [h] at this; cases this
theorem right_no_rows {s : Shp} {a b : Nat} (ha : a < s.covs.length) (hb : b < a) {r : Int} (hr : r ∈ (s.covs.getD a default).rows) (h1 : (s.covs.getD b default).bay = (s.covs.getD a default).bay) (h2 : r ∈ (s.covs.getD b default).rows) : rightF s = false := by
  rw [Bool.eq_false_iff]; intro h'
  exact (((right_iff s).1 h').2.2 a ha).2 r hr b hb ⟨h1, h2⟩
end Go.Proofs.YtpmhchbkhohmjaaDoor
