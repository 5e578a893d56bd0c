/-
  Plain facts for StackRoom: a box more, in a slot that is free.
-/
import Derived.Test.YtncfakkajknhaaaStZ
namespace Go.Proofs.Ytncfakkajknhaaa
open Go.RowKit

/-- A slot that meets none of a state, and is held. -/
def freeB (st : List Stw) (x : Slt) : Bool := heldB x (st.map (·.slot)) && (st.map (·.slot)).all fun y => !meetB x y
def freeF (s : Shp) (st : List Stw) (size : Nat) : List Slt := (allF s size).filter (freeB st)
theorem free_in {s : Shp} {st : List Stw} {size : Nat} {x : Slt} (h : x ∈ freeF s st size) : slotRight s x size = true ∧ heldB x (st.map (·.slot)) = true ∧ ∀ y ∈ st, meetB x y.slot = false := by
  unfold freeF at h
  obtain ⟨h1, h2⟩ := List.mem_filter.1 h
  unfold freeB at h2
  simp only [Bool.and_eq_true, List.all_eq_true] at h2
  refine ⟨right_mem.2 h1, h2.1, fun y hy => ?_⟩
  have := h2.2 _ (List.mem_map.2 ⟨y, hy, rfl⟩)
  simpa using this
theorem has_more {x : Slt} {l : List Slt} {half : Nat} (m : List Slt) (h : hasB x l half = true) : hasB x (l ++ m) half = true := by
  unfold hasB at h ⊢
  rw [List.any_append, h]
  rfl
theorem held_more {x : Slt} {l : List Slt} (m : List Slt) (h : heldB x l = true) : heldB x (l ++ m) = true := by
  unfold heldB at h ⊢
  simp only [Bool.or_eq_true, Bool.and_eq_true, decide_eq_true_eq, beq_iff_eq] at h ⊢
  rcases h with h | h | ⟨h, h1, h2⟩
  · exact .inl h
  · exact .inr (.inl (has_more m h))
  · exact .inr (.inr ⟨h, has_more m h1, has_more m h2⟩)
theorem getD_left {α : Type} (l m : List α) {i : Nat} (h : i < l.length) (d : α) : (l ++ m).getD i d = l.getD i d := by
  simp [List.getD_eq_getElem?_getD, List.getElem?_append_left h]
theorem Ld.id900 {s : Shp} {bs : List Bx} {st : List Stw} (h : Ld s bs st) : ∀ b ∈ bs, b.id ≠ 900 := fun b hb => by have := (h.box b hb).2.2.2; omega
theorem find900 {s : Shp} {bs : List Bx} {st : List Stw} (h : Ld s bs st) {b : Bx} (hb : b.id = 900) : findBx (bs ++ [b]) 900 = (b, true) := by
  rw [idx_append_new h.id900, if_pos hb]
/-- A box more, in a free slot: the state is right. -/
theorem room_right {s : Shp} {bs : List Bx} {st : List Stw} (hl : Lm s) (h : Ld s bs st) {b : Bx} {x : Slt} (hb : b.id = 900) (hx : x ∈ freeF s st b.size) : stowRight s (bs ++ [b]) (st ++ [⟨900, x⟩]) = true := by
  obtain ⟨f1, f2, f3⟩ := free_in hx
  have hr := stowRight_parts.1 h.right
  refine stowRight_parts.2 ⟨hr.1, fun i hi => ?_, fun c hc => ?_⟩
  · rw [List.length_append, List.length_singleton] at hi
    rcases Nat.lt_or_ge i st.length with hlt | hge
    · have h1 := hr.2.1 i hlt
      have hf := stowAt_found h1
      unfold stowAt at h1 ⊢
      rw [getD_left _ _ hlt, findBx_more hf]
      simp only [Bool.and_eq_true] at h1 ⊢
      obtain ⟨⟨⟨⟨a1, a2⟩, a3⟩, a4⟩, a5⟩ := h1
      refine ⟨⟨⟨⟨a1, ?_⟩, a3⟩, ?_⟩, ?_⟩
      · rw [getD_left _ _ (by omega)]
        exact a2
      · rw [List.map_append]
        exact held_more _ a4
      · rw [List.all_eq_true] at a5 ⊢
        intro k hk
        have := a5 k hk
        rw [getD_left _ _ (by have := List.mem_range.1 hk; omega)]
        exact this
    · obtain rfl : i = st.length := by omega
      have e : (st ++ [(⟨900, x⟩ : Stw)]).getD st.length default = ⟨900, x⟩ := by simp
      unfold stowAt
      rw [e]
      simp only
      rw [find900 h hb]
      simp only [Bool.and_eq_true]
      refine ⟨⟨⟨⟨trivial, ?_⟩, f1⟩, ?_⟩, ?_⟩
      · rw [Bool.or_eq_true, decide_eq_true_eq, decide_eq_true_eq]
        rcases Nat.eq_zero_or_pos st.length with h0 | h0
        · exact .inl h0
        · right
          rw [getD_left _ _ (by omega)]
          have h1 := h.box_at (getD_memD (l := st) (k := st.length - 1) (by omega) default)
          have h2 := (h.box _ h1.2.1).2.2.2
          omega
      · rw [List.map_append]
        exact held_more _ f2
      · rw [List.all_eq_true]
        intro k hk
        have hk := List.mem_range.1 hk
        rw [getD_left _ _ hk]
        have h1 := f3 _ (getD_memD hk default)
        rw [h1]
        rfl
  · unfold fitsF
    have := hl.at_ hc
    simp only [Bool.or_eq_true, decide_eq_true_eq]
    left
    omega
theorem room_ld {s : Shp} {bs : List Bx} {st : List Stw} (h : Ld s bs st) {b : Bx} (hb : b.kilos ≤ 1000000000000 ∧ -1000000000000 ≤ b.kilos) : KgOK (bs ++ [b]) := fun c hc => by
  rcases List.mem_append.1 hc with hc | hc
  · exact h.kg c hc
  · obtain rfl : c = b := by simpa using hc
    omega
theorem kgOf_more {bs : List Bx} {p : Slt → Bool} {y : Stw} (h : (findBx bs y.box).2 = true) (m : List Bx) : kgOf (bs ++ m) p y = kgOf bs p y := by
  unfold kgOf
  rw [findBx_more h]
theorem sumF_more {s : Shp} {bs : List Bx} {st : List Stw} (h : Ld s bs st) {b : Bx} (hb : b.id = 900) (x : Slt) (p : Slt → Bool) : sumF (bs ++ [b]) (st ++ [⟨900, x⟩]) p = sumF bs st p + if p x then b.kilos else 0 := by
  unfold sumF
  rw [List.map_append, List.sum_append]
  congr 1
  · congr 1
    exact List.map_congr_left fun y hy => kgOf_more (h.box_at hy).1 _
  · simp only [List.map_cons, List.map_nil, List.sum_cons, List.sum_nil, Int.add_zero]
    unfold kgOf
    simp only
    rw [find900 h hb]
/-- No box of a state stands upon a free slot. -/
theorem none_upon {s : Shp} {bs : List Bx} {st : List Stw} (h : Ld s bs st) {x : Slt} {size : Nat} (hx : x ∈ freeF s st size) {y : Stw} (hy : y ∈ st) : belowB y.slot x = false := by
  obtain ⟨f1, _, f3⟩ := free_in hx
  have hs := slot_in f1
  have hh3 : x.half = 0 ∨ x.half = 1 ∨ x.half = 2 := by
    have h3 := hs.2.2.2.2
    unfold halvesL at h3
    split at h3
    · simp at h3; omega
    · split at h3
      · simp at h3; omega
      · simp at h3
  cases hb : belowB y.slot x with
  | false => rfl
  | true =>
    exfalso
    unfold belowB at hb
    simp only [Bool.and_eq_true, Bool.or_eq_true, decide_eq_true_eq, beq_iff_eq] at hb
    obtain ⟨b1, b2, b3, b4⟩ := hb
    have no : ∀ half : Nat, hasB y.slot (st.map (·.slot)) half = true → (x.half = half ∨ x.half = 0 ∨ half = 0) → False := fun half hh hq => by
      unfold hasB at hh
      obtain ⟨z, hz, e⟩ := List.any_eq_true.1 hh
      obtain ⟨u, hu, rfl⟩ := List.mem_map.1 hz
      have e := (sltEq_iff _ _).1 e
      have hm := f3 u hu
      rw [← e] at hm
      have : meetB x ⟨y.slot.col, y.slot.tier - 1, half⟩ = true := by
        unfold meetB sharesB
        simp only [Bool.and_eq_true, Bool.or_eq_true, beq_iff_eq]
        exact ⟨b1, b3, hq⟩
      rw [this] at hm
      cases hm
    have hheld := h.held hy
    unfold heldB at hheld
    simp only [Bool.or_eq_true, Bool.and_eq_true, decide_eq_true_eq, beq_iff_eq] at hheld
    rcases hheld with h1 | h1 | ⟨h1, h2, h3⟩
    · omega
    · exact no _ h1 b4
    · rcases hh3 with h4 | h4 | h4
      · exact no _ h2 (.inr (.inl h4))
      · exact no _ h2 (.inl h4)
      · exact no _ h3 (.inl h4)
theorem kinds_nil {a b c : Bool} {col : Int} : kindsTo [a, b, c] col 3 = [] ↔ a = false ∧ b = false ∧ c = false := by
  cases a <;> cases b <;> cases c <;> simp [kindsTo, List.range_succ]
theorem tops_nil {p : Stw → Bool} {k : Nat} {l : List Stw} : topsOf p k l = [] ↔ ∀ y ∈ l, p y = false := by
  unfold topsOf
  rw [List.filterMap_eq_nil_iff]
  constructor
  · intro h y hy
    have := h y hy
    cases hp : p y with
    | false => rfl
    | true => rw [hp] at this; simp at this
  · intro h y hy
    rw [h y hy]
    rfl
theorem faults_nil {s : Shp} {bs : List Bx} {l : List Stw} {k : Nat} : faultsF s bs l k = [] ↔ (sumF bs l (halfB k 1) ≤ (s.cols.getD k default).k20 ∧ sumF bs l (halfB k 2) ≤ (s.cols.getD k default).k20 ∧ sumF bs l (colB k) ≤ (s.cols.getD k default).k40) ∧
    ∀ y ∈ l, topB (s.cols.getD k default).deck s.m0 bs l k y = false := by
  unfold faultsF heavies
  rw [List.append_eq_nil_iff, kinds_nil, tops_nil]
  simp only [decide_eq_false_iff_not, Int.not_lt]
/-- The stage's theorem: no fault exactly if the box has no more kilos than there is room for. -/
theorem room_exact {s : Shp} {bs : List Bx} {st : List Stw} (h : Ld s bs st) {b : Bx} {x : Slt} {k : Nat} (hb : b.id = 900) (hx : x ∈ freeF s st b.size) (hk : x.col = (k : Int)) (hno : faultsF s bs st k = []) (hpos : 0 < b.kilos) :
    faultsF s (bs ++ [b]) (st ++ [⟨900, x⟩]) k = [] ↔ b.kilos ≤ roomF s bs st x := by
  obtain ⟨f1, _, _⟩ := free_in hx
  have hs := slot_in f1
  have hth : thereB s x.col = true := by unfold thereB; simp; omega
  have hn := faults_nil.1 hno
  have ht : ∀ y ∈ st ++ [(⟨900, x⟩ : Stw)], topB (s.cols.getD k default).deck s.m0 (bs ++ [b]) (st ++ [⟨900, x⟩]) k y = if y.box = 900 then (s.cols.getD k default).deck && (decide (1 ≤ x.tier) && decide (sumF bs st (belowB x) + s.m0 < b.kilos)) else topB (s.cols.getD k default).deck s.m0 bs st k y := fun y hy => by
    rcases List.mem_append.1 hy with hy | hy
    · have h1 := h.box_at hy
      have h2 := (h.box _ h1.2.1).2.2.2
      rw [if_neg (by omega)]
      unfold topB
      rw [sumF_more h hb, none_upon h hx hy, findBx_more h1.1]
      simp
    · obtain rfl : y = ⟨900, x⟩ := by simpa using hy
      rw [if_pos rfl]
      unfold topB
      simp only
      rw [sumF_more h hb, find900 h hb, show belowB x x = false by unfold belowB; simp, hk]
      simp
  rw [faults_nil, sumF_more h hb, sumF_more h hb, sumF_more h hb]
  unfold roomF
  rw [hth, if_pos rfl, hk, Int.toNat_natCast]
  have key : (∀ y ∈ st ++ [(⟨900, x⟩ : Stw)], topB (s.cols.getD k default).deck s.m0 (bs ++ [b]) (st ++ [⟨900, x⟩]) k y = false) ↔ ((s.cols.getD k default).deck && (decide (1 ≤ x.tier) && decide (sumF bs st (belowB x) + s.m0 < b.kilos))) = false := by
    constructor
    · intro h1
      have := h1 ⟨900, x⟩ (by simp)
      rw [ht _ (by simp), if_pos rfl] at this
      exact this
    · intro h1 y hy
      rw [ht y hy]
      split
      · exact h1
      · rename_i hne
        rcases List.mem_append.1 hy with hy | hy
        · exact hn.2 y hy
        · obtain rfl : y = ⟨900, x⟩ := by simpa using hy
          exact absurd rfl hne
  rw [key]
  have hcol : ∀ half, halfB k half x = (x.half == half) := fun half => by unfold halfB; rw [hk]; simp
  have hc2 : colB k x = true := by unfold colB; rw [hk]; simp
  rw [hcol, hcol, hc2]
  obtain ⟨n1, n2, n3⟩ := hn.1
  unfold roomK room2 room1 maxI minI
  generalize sumF bs st (halfB k 1) = s1 at *
  generalize sumF bs st (halfB k 2) = s2 at *
  generalize sumF bs st (colB k) = s3 at *
  generalize sumF bs st (belowB x) = s4 at *
  generalize s.cols.getD k default = cl at *
  have hh3 : x.half = 0 ∨ x.half = 1 ∨ x.half = 2 := by
    have h3 := hs.2.2.2.2
    unfold halvesL at h3
    split at h3
    · simp at h3; omega
    · split at h3
      · simp at h3; omega
      · simp at h3
  have ht1 : decide (1 ≤ x.tier) = decide (0 < x.tier) := decide_eq_decide.2 (by omega)
  rw [ht1]
  rcases hh3 with e | e | e
  all_goals
    rw [e]
    cases cl.deck <;> by_cases h0 : 0 < x.tier
    all_goals
      simp [h0]
      (repeat' split) <;> omega
theorem room_bd {s : Shp} {bs : List Bx} {st : List Stw} (hl : Lm s) (h : Ld s bs st) (x : Slt) : 0 ≤ roomF s bs st x ∧ roomF s bs st x ≤ 500000000 := by
  unfold roomF
  split
  · rename_i hth
    unfold thereB at hth
    simp only [Bool.and_eq_true, decide_eq_true_eq] at hth
    have hc := hl.at_ (k := x.col.toNat) (by omega)
    have hp : 0 ≤ sumF bs st (colB x.col.toNat) := by
      have : ∀ l : List Stw, (∀ y ∈ l, 0 ≤ kgOf bs (colB x.col.toNat) y) → 0 ≤ sumF bs l (colB x.col.toNat) := fun l => by
        induction l with
        | nil => intro _; exact Int.le_refl _
        | cons y l ih =>
          intro hq
          rw [sumF_cons]
          have h1 := ih fun z hz => hq z (by simp [hz])
          have h2 := hq y (by simp)
          omega
      exact this st fun y hy => kg_pos h hy _
    unfold roomK room2 room1 maxI minI
    (repeat' split) <;> omega
  · omega
theorem free_len {s : Shp} (hl : Lm s) (st : List Stw) (size : Nat) : (freeF s st size).length ≤ 1000000 := Nat.le_trans (List.length_filter_le _ _) (hl.all size)
end Go.Proofs.Ytncfakkajknhaaa
