/-
  Plain facts for PlugEnough: the state that is fed, and how many tiers reefers need.
-/
import Derived.Test.YthijgmkflfaccaaPsP
namespace Go.Proofs.Ythijgmkflfaccaa
open Go.RowKit

/-- x is not taken away for the box id, as far as the boxes of l tell. -/
def keepI (id : Int) (x : Stw) (l : List Stw) : Bool := l.all fun y => !(y.box == id && (x.box == id || overB x.slot y.slot))
def keepP (s : Shp) (bs : List Bx) (st : List Stw) (x : Stw) : Bool := (pfF s bs st).all fun id => keepI id x st
def fedF (s : Shp) (bs : List Bx) (st : List Stw) : List Stw := st.filter (keepP s bs st)
theorem keep_no {s : Shp} {bs : List Bx} {st : List Stw} {x y : Stw} {id : Int} (h : keepP s bs st x = true) (hi : id ∈ pfF s bs st) (hy : y ∈ st) (he : y.box = id) : x.box ≠ id ∧ overB x.slot y.slot = false := by
  have h1 := List.all_eq_true.1 h id hi
  have h2 := List.all_eq_true.1 h1 y hy
  rw [Bool.not_eq_true', Bool.and_eq_false_iff] at h2
  rcases h2 with h2 | h2
  · simp [he] at h2
  · rw [Bool.or_eq_false_iff] at h2
    exact ⟨by simpa using h2.1, h2.2⟩
theorem keep_bad {s : Shp} {bs : List Bx} {st : List Stw} {x : Stw} (h : keepP s bs st x = false) : ∃ id y, id ∈ pfF s bs st ∧ y ∈ st ∧ y.box = id ∧ (x.box = id ∨ overB x.slot y.slot = true) := by
  unfold keepP keepI at h
  rw [List.all_eq_false] at h
  obtain ⟨id, hi, h⟩ := h
  have h' : (st.all fun y => !(y.box == id && (x.box == id || overB x.slot y.slot))) = false := by simpa using h
  rw [List.all_eq_false] at h'
  obtain ⟨y, hy, h2⟩ := h'
  have h3 : (y.box == id && (x.box == id || overB x.slot y.slot)) = true := by
    cases hq : (y.box == id && (x.box == id || overB x.slot y.slot)) with
    | true => rfl
    | false => rw [hq] at h2; simp at h2
  rw [Bool.and_eq_true, Bool.or_eq_true] at h3
  exact ⟨id, y, hi, hy, by simpa using h3.1, by simpa using h3.2⟩
theorem over_parts {a b : Slt} : overB a b = true ↔ a.col = b.col ∧ b.tier < a.tier ∧ sharesB a.half b.half = true := by
  unfold overB
  simp only [Bool.and_eq_true, beq_iff_eq, decide_eq_true_eq]
theorem shares_zero (b : Nat) : sharesB 0 b = true := by unfold sharesB; simp
/-- What holds a box that is kept is kept. -/
theorem fed_has {s : Shp} {bs : List Bx} {st : List Stw} {x : Stw} (hk : keepP s bs st x = true) {half : Nat} (hh : half = x.slot.half ∨ x.slot.half = 0) (h : hasB x.slot (st.map (·.slot)) half = true) : hasB x.slot ((fedF s bs st).map (·.slot)) half = true := by
  unfold hasB at h ⊢
  rw [List.any_eq_true] at h ⊢
  obtain ⟨z, hz, he⟩ := h
  obtain ⟨y, hy, rfl⟩ := List.mem_map.1 hz
  refine ⟨y.slot, List.mem_map.2 ⟨y, ?_, rfl⟩, he⟩
  have e := (sltEq_iff _ _).1 he
  unfold fedF
  rw [List.mem_filter]
  refine ⟨hy, ?_⟩
  have hsh : ∀ c : Nat, sharesB half c = true → sharesB x.slot.half c = true := fun c hc => by
    rcases hh with rfl | h0
    · exact hc
    · rw [h0]; exact shares_zero c
  have hxy : overB x.slot y.slot = true := by
    rw [over_parts, ← e]
    refine ⟨rfl, by simp only; omega, hsh half ?_⟩
    unfold sharesB; simp
  cases hq : keepP s bs st y with
  | true => rfl
  | false =>
    obtain ⟨id, z, hi, hz', hzb, hor⟩ := keep_bad hq
    rcases hor with hor | hor
    · have := (keep_no hk hi hy hor).2
      rw [hxy] at this; cases this
    · have h2 := (keep_no hk hi hz' hzb).2
      rw [over_parts] at hor hxy
      have : overB x.slot z.slot = true := by
        rw [over_parts]
        refine ⟨hxy.1.trans hor.1, by omega, hsh _ ?_⟩
        rw [← e] at hor
        exact hor.2.2
      rw [this] at h2; cases h2
theorem fed_held {s : Shp} {bs : List Bx} {st : List Stw} {x : Stw} (hk : keepP s bs st x = true) (h : heldB x.slot (st.map (·.slot)) = true) : heldB x.slot ((fedF s bs st).map (·.slot)) = true := by
  unfold heldB at h ⊢
  simp only [Bool.or_eq_true, Bool.and_eq_true, beq_iff_eq] at h ⊢
  rcases h with h | h | ⟨h0, h1, h2⟩
  · exact .inl h
  · exact .inr (.inl (fed_has hk (.inl rfl) h))
  · exact .inr (.inr ⟨h0, fed_has hk (.inr h0) h1, fed_has hk (.inr h0) h2⟩)
/-- A right state, box by box. -/
theorem stow_iff {s : Shp} {bs : List Bx} {l : List Stw} : stowRight s bs l = true ↔ rightF s = true ∧ (∀ x ∈ l, (findBx bs x.box).2 = true ∧ slotRight s x.slot (findBx bs x.box).1.size = true ∧ heldB x.slot (l.map (·.slot)) = true) ∧
    l.Pairwise (fun a b => a.box < b.box) ∧ l.Pairwise (fun a b => meetB b.slot a.slot = false) ∧ ∀ c, c < s.cols.length → fitsF s bs l c = true := by
  rw [stowRight_parts]
  refine ⟨fun ⟨h1, h2, h3⟩ => ⟨h1, fun x hx => ?_, ?_, ?_, h3⟩, fun ⟨h1, h2, h3, h4, h5⟩ => ⟨h1, fun i hi => ?_, h5⟩⟩
  · obtain ⟨i, hi, rfl⟩ := List.getElem_of_mem hx
    have := h2 i hi
    unfold stowAt at this
    simp only [Bool.and_eq_true] at this
    rw [show l.getD i default = l[i] by simp [hi]] at this
    exact ⟨this.1.1.1.1, this.1.1.2, this.1.2⟩
  · have key : ∀ (n i : Nat), i + n + 1 < l.length → (l.getD i default).box < (l.getD (i + n + 1) default).box := by
      intro n
      induction n with
      | zero =>
        intro i hi
        have := h2 (i + 0 + 1) hi
        unfold stowAt at this
        simp only [Bool.and_eq_true, Bool.or_eq_true, decide_eq_true_eq] at this
        have := this.1.1.1.2.resolve_left (by omega)
        simpa using this
      | succ n ih =>
        intro i hi
        have h4 := ih i (by omega)
        have := h2 (i + (n + 1) + 1) hi
        unfold stowAt at this
        simp only [Bool.and_eq_true, Bool.or_eq_true, decide_eq_true_eq] at this
        have := this.1.1.1.2.resolve_left (by omega)
        rw [show i + (n + 1) + 1 - 1 = i + n + 1 by omega] at this
        omega
    rw [List.pairwise_iff_getElem]
    intro i j hi hj hij
    have := key (j - i - 1) i (by omega)
    rw [show i + (j - i - 1) + 1 = j by omega] at this
    simpa [hi, hj] using this
  · rw [List.pairwise_iff_getElem]
    intro i j hi hj hij
    have := h2 j hj
    unfold stowAt at this
    simp only [Bool.and_eq_true] at this
    have := List.all_eq_true.1 this.2 i (List.mem_range.2 hij)
    simpa [hi, hj] using this
  · have hx := h2 l[i] (List.getElem_mem hi)
    unfold stowAt
    rw [show l.getD i default = l[i] by simp [hi]]
    simp only [Bool.and_eq_true, Bool.or_eq_true, decide_eq_true_eq]
    refine ⟨⟨⟨⟨hx.1, ?_⟩, hx.2.1⟩, hx.2.2⟩, ?_⟩
    · rcases Nat.eq_zero_or_pos i with h0 | h0
      · exact .inl h0
      · refine .inr ?_
        have := (List.pairwise_iff_getElem.1 h3) (i - 1) i (by omega) hi (by omega)
        simpa [List.getD_eq_getElem?_getD, show i - 1 < l.length by omega] using this
    · rw [List.all_eq_true]
      intro k hk
      have hk' := List.mem_range.1 hk
      have := (List.pairwise_iff_getElem.1 h4) k i (by omega) hi hk'
      rw [show l.getD k default = l[k] by simp [show k < l.length by omega], this]; rfl
theorem fed_ld {s : Shp} {bs : List Bx} {st : List Stw} (hl : Lm s) (h : Ld s bs st) : Ld s bs (fedF s bs st) := by
  obtain ⟨h1, h2, h3, h4, _⟩ := stow_iff.1 h.right
  refine ⟨stow_iff.2 ⟨h1, fun x hx => ?_, h3.filter _, h4.filter _, fun c hc => ?_⟩, h.nine, Nat.le_trans (List.length_filter_le _ _) h.stlen, h.box, h.ids⟩
  · obtain ⟨hx1, hx2⟩ := List.mem_filter.1 hx
    obtain ⟨q1, q2, q3⟩ := h2 x hx1
    exact ⟨q1, q2, fed_held hx2 q3⟩
  · unfold fitsF
    have := (hl.at_ hc).2.2.1
    rw [this]
    simp
theorem fed_pf {s : Shp} {bs : List Bx} {st : List Stw} : pfF s bs (fedF s bs st) = [] := by
  rw [pf_eq, List.map_eq_nil_iff, List.filter_eq_nil_iff]
  intro x hx hc
  obtain ⟨hx1, hx2⟩ := List.mem_filter.1 hx
  have hi : x.box ∈ pfF s bs st := by
    rw [pf_eq]
    exact List.mem_map.2 ⟨x, List.mem_filter.2 ⟨hx1, hc⟩, rfl⟩
  exact (keep_no hx2 hi hx1 rfl).1 rfl
theorem sum_parts {α : Type} (f : α → Nat) (p : α → Bool) : ∀ l : List α, (l.map f).sum = ((l.filter p).map f).sum + ((l.filter fun x => !p x).map f).sum
  | [] => rfl
  | x :: l => by
    have ih := sum_parts f p l
    simp only [List.filter_cons]
    cases hp : p x with
    | true => simp [hp, ih]; omega
    | false => simp [hp, ih]; omega
theorem sum_keys {α : Type} (f : α → Nat) (key : α → Int × Int) : ∀ (P : List (Int × Int)) (l : List α), (∀ x ∈ l, key x ∈ P) → (∀ p ∈ P, ((l.filter fun x => key x == p).map f).sum ≤ 2) → (l.map f).sum ≤ 2 * P.length
  | [], l, h, _ => by
    cases l with
    | nil => simp
    | cons x l => exact absurd (h x (by simp)) (by simp)
  | p :: P, l, h, h2 => by
    rw [sum_parts f (fun x => key x == p) l]
    have h3 := h2 p (by simp)
    have ih := sum_keys f key P (l.filter fun x => !(key x == p)) (fun x hx => by
      obtain ⟨hx1, hx2⟩ := List.mem_filter.1 hx
      have := h x hx1
      rw [List.mem_cons] at this
      refine this.resolve_left fun e => ?_
      rw [e] at hx2; simp at hx2) (fun q hq => by
      have := h2 q (by simp [hq])
      refine Nat.le_trans ?_ this
      rw [List.filter_filter]
      have e := sum_parts f (fun x => !(key x == p)) (l.filter fun x => key x == q)
      rw [e, List.filter_filter]
      have e2 : (l.filter fun x => (key x == q) && !(key x == p)) = l.filter fun x => (!(key x == p)) && key x == q := by
        congr 1; funext x; rw [Bool.and_comm]
      rw [e2]
      exact Nat.le_add_right _ _)
    rw [List.length_cons]
    omega
/-- What a box in a slot takes of its tier. -/
def wtS (x : Stw) : Nat := if x.slot.half = 0 then 2 else 1
theorem wt_tier : ∀ l : List Stw, (∀ x ∈ l, x.slot.half < 3) → l.Pairwise (fun a b => sharesB b.slot.half a.slot.half = false) → (l.map wtS).sum ≤ 2
  | [], _, _ => by simp
  | [a], _, _ => by simp only [List.map_cons, List.map_nil, List.sum_cons, List.sum_nil]; unfold wtS; split <;> omega
  | a :: b :: l, h, hp => by
    have hab : sharesB b.slot.half a.slot.half = false := (List.pairwise_cons.1 hp).1 b (by simp)
    have nz : ∀ p q : Nat, sharesB p q = false → p ≠ q ∧ p ≠ 0 ∧ q ≠ 0 := fun p q h => by
      unfold sharesB at h
      simp only [Bool.or_eq_false_iff, beq_eq_false_iff_ne] at h
      exact ⟨h.1, h.2.1, h.2.2⟩
    have n1 := nz _ _ hab
    cases l with
    | nil =>
      simp only [List.map_cons, List.map_nil, List.sum_cons, List.sum_nil]
      unfold wtS
      rw [if_neg n1.2.2, if_neg n1.2.1]
      omega
    | cons c l =>
      exfalso
      have hac : sharesB c.slot.half a.slot.half = false := (List.pairwise_cons.1 hp).1 c (by simp)
      have hbc : sharesB c.slot.half b.slot.half = false := (List.pairwise_cons.1 (List.pairwise_cons.1 hp).2).1 c (by simp)
      have n2 := nz _ _ hac
      have n3 := nz _ _ hbc
      have h1 := h a (by simp)
      have h2 := h b (by simp)
      have h3 := h c (by simp)
      omega
theorem wt_sum (l : List Stw) : (l.map wtS).sum = 2 * (l.filter fun x => x.slot.half == 0).length + (l.filter fun x => !(x.slot.half == 0)).length := by
  induction l with
  | nil => rfl
  | cons x l ih =>
    simp only [List.map_cons, List.sum_cons, List.filter_cons, ih]
    unfold wtS
    by_cases h : x.slot.half = 0
    · simp [h]; omega
    · simp [h]; omega
/-- In a right state without faults the reefers need at most as many tiers as have a plug. -/
theorem demand_le {s : Shp} {bs : List Bx} {st : List Stw} (hl : Lm s) (h : Ld s bs st) (h0 : pfF s bs st = []) : demF (coldF bs st) ≤ (supF s : Nat) := by
  obtain ⟨_, h2, _, h4, _⟩ := stow_iff.1 h.right
  have hpl : ∀ x ∈ st.filter (coldB bs), (x.slot.col, x.slot.tier) ∈ pairsF s := fun x hx => by
    obtain ⟨hx1, hx2⟩ := List.mem_filter.1 hx
    rw [pf_eq, List.map_eq_nil_iff, List.filter_eq_nil_iff] at h0
    have := h0 x hx1
    unfold cuB unfedB at this
    rw [hx2] at this
    have h5 : pluggedB s x.slot.col x.slot.tier = true := by simpa using this
    unfold pluggedB at h5
    simpa using h5
  have hw := sum_keys wtS (fun x => (x.slot.col, x.slot.tier)) (pairsF s) (st.filter (coldB bs)) hpl (fun p _ => by
    refine wt_tier _ (fun x hx => ?_) ?_
    · have hx1 := (List.mem_filter.1 (List.mem_filter.1 hx).1).1
      exact (h.tier hl hx1).2.2.2.2
    · have := (h4.filter (coldB bs)).filter fun x => (x.slot.col, x.slot.tier) == p
      refine this.imp_of_mem fun {a b} ha hb hm => ?_
      have e1 : (a.slot.col, a.slot.tier) = p := by simpa using (List.mem_filter.1 ha).2
      have e2 : (b.slot.col, b.slot.tier) = p := by simpa using (List.mem_filter.1 hb).2
      rw [← e1] at e2
      injection e2 with e2 e3
      unfold meetB at hm
      rw [e2, e3] at hm
      simpa using hm)
  rw [wt_sum] at hw
  have hsz : ∀ x ∈ st.filter (coldB bs), reefB 40 (findBx bs x.box).1 = (x.slot.half == 0) ∧ reefB 20 (findBx bs x.box).1 = !(x.slot.half == 0) := fun x hx => by
    obtain ⟨hx1, hx2⟩ := List.mem_filter.1 hx
    have hs := (slot_in (h.slot hx1)).2.2.2.2
    have hb := (h.box _ (h.box_at hx1).2.1).1
    unfold coldB at hx2
    unfold reefB
    rw [hx2]
    rcases hb with hb | hb
    · rw [hb] at hs ⊢
      simp [halvesL] at hs
      simp [hs]
    · rw [hb] at hs ⊢
      simp [halvesL] at hs
      rcases hs with hs | hs <;> simp [hs]
  have e40 : ((coldF bs st).filter (reefB 40)).length = ((st.filter (coldB bs)).filter fun x => x.slot.half == 0).length := by
    unfold coldF
    rw [List.filter_map, List.length_map]
    congr 1
    exact List.filter_congr fun x hx => (hsz x hx).1
  have e20 : ((coldF bs st).filter (reefB 20)).length = ((st.filter (coldB bs)).filter fun x => !(x.slot.half == 0)).length := by
    unfold coldF
    rw [List.filter_map, List.length_map]
    congr 1
    exact List.filter_congr fun x hx => (hsz x hx).2
  unfold demF supF
  rw [e40, e20]
  omega
end Go.Proofs.Ythijgmkflfaccaa
