/-
  Plain facts for StackTops.
-/
import Derived.Test.YtncfakkajknhaaaStX
namespace Go.Proofs.Ytncfakkajknhaaa
open Go.RowKit

theorem over_below (x y : Slt) : (overB x y && y.tier == x.tier - 1) = belowB x y := by
  unfold overB belowB sharesB
  rw [Bool.eq_iff_iff]
  simp only [Bool.and_eq_true, Bool.or_eq_true, beq_iff_eq, decide_eq_true_eq]
  constructor
  · rintro ⟨⟨h1, h2, h3⟩, h4⟩
    exact ⟨h1.symm, h2, h4, by omega⟩
  · rintro ⟨h1, h2, h3, h4⟩
    exact ⟨⟨h1.symm, h2, by omega⟩, h3⟩
theorem Ld.asc {s : Shp} {bs : List Bx} {st : List Stw} (h : Ld s bs st) {i : Nat} : ∀ {j : Nat}, i < j → j < st.length → (st.getD i default).box < (st.getD j default).box
  | 0, hij, _ => absurd hij (Nat.not_lt_zero _)
  | j + 1, hij, hj => by
    have h1 := h.at_ hj
    unfold stowAt at h1
    simp only [Bool.and_eq_true] at h1
    have h2 := h1.1.1.1.2
    rw [Nat.add_sub_cancel] at h2
    have h3 : (st.getD j default).box < (st.getD (j + 1) default).box := by
      rw [Bool.or_eq_true, decide_eq_true_eq, decide_eq_true_eq] at h2
      rcases h2 with h2 | h2
      · omega
      · exact h2
    rcases Nat.lt_succ_iff_lt_or_eq.1 hij with h' | h'
    · have := h.asc h' (by omega)
      omega
    · rw [h']; exact h3
theorem getD_ofmem {α : Type} {l : List α} {x : α} (h : x ∈ l) (d : α) : ∃ i, i < l.length ∧ l.getD i d = x := by
  obtain ⟨i, hi, rfl⟩ := List.getElem_of_mem h
  exact ⟨i, hi, by simp [List.getD_eq_getElem?_getD, hi]⟩
theorem Ld.uniq {s : Shp} {bs : List Bx} {st : List Stw} (h : Ld s bs st) {x y : Stw} (hx : x ∈ st) (hy : y ∈ st) (e : x.box = y.box) : x = y := by
  obtain ⟨i, hi, rfl⟩ := getD_ofmem hx default
  obtain ⟨j, hj, rfl⟩ := getD_ofmem hy default
  rcases Nat.lt_trichotomy i j with h' | h' | h'
  · have := h.asc h' hj; omega
  · rw [h']
  · have := h.asc h' hi; omega
theorem mem_check {s : Shp} {bs : List Bx} {st : List Stw} {n : Nat} {f : Flt} : f ∈ checkF s bs st n ↔ ∃ c, c < n ∧ f ∈ faultsF s bs st c := by
  unfold checkF
  simp only [List.mem_flatMap, List.mem_range]
def wantTop (s : Shp) (bs : List Bx) (st : List Stw) (x : Stw) : Bool :=
  (s.cols.getD x.slot.col.toNat default).deck && (decide (0 < x.slot.tier) && decide (sumF bs st (belowB x.slot) + s.m0 < (findBx bs x.box).1.kilos))
theorem top_told {s : Shp} {bs : List Bx} {st : List Stw} (hl : Lm s) (h : Ld s bs st) {x : Stw} (hx : x ∈ st) : hasF (checkF s bs st s.cols.length) ⟨x.slot.col, 4, x.box⟩ = wantTop s bs st x := by
  rw [Bool.eq_iff_iff, hasF_iff, mem_check]
  have ht := h.tier hl hx
  obtain ⟨k, hk⟩ : ∃ k : Nat, x.slot.col = k := ⟨x.slot.col.toNat, by omega⟩
  unfold wantTop
  rw [hk, Int.toNat_natCast]
  simp only [Bool.and_eq_true, decide_eq_true_eq]
  constructor
  · rintro ⟨c, hc, hm⟩
    unfold faultsF at hm
    rcases List.mem_append.1 hm with hm | hm
    · obtain ⟨_, _, _, h4, _⟩ := kinds_mem hm
      simp only at h4
      omega
    · obtain ⟨h1, h2, y, hy, hp, e⟩ := tops_mem hm
      simp only at h1 e
      obtain rfl := h.uniq hx hy e
      obtain rfl : k = c := by omega
      unfold topB at hp
      simp only [Bool.and_eq_true, decide_eq_true_eq, beq_iff_eq] at hp
      exact ⟨hp.2.1, by omega, hp.2.2.2⟩
  · rintro ⟨h1, h2, h3⟩
    refine ⟨k, by omega, ?_⟩
    unfold faultsF topsOf
    refine List.mem_append.2 (.inr (List.mem_filterMap.2 ⟨x, hx, ?_⟩))
    have : topB (s.cols.getD k default).deck s.m0 bs st k x = true := by
      unfold topB
      simp only [Bool.and_eq_true, decide_eq_true_eq, beq_iff_eq]
      exact ⟨hk, h1, by omega, h3⟩
    rw [if_pos this]
/-- The boxes with the same kilos. -/
def eqBx (b : Bx) : Bx := { b with kilos := 12345 }
def eqTo (bs : List Bx) (k : Nat) : List Bx := (bs.take k).map eqBx ++ bs.drop k
theorem eqTo_len (bs : List Bx) (k : Nat) : (eqTo bs k).length = bs.length := by unfold eqTo; simp; omega
theorem eqTo_at (bs : List Bx) {k : Nat} (h : k < bs.length) : (eqTo bs k)[k]? = some (bs.getD k default) := by
  unfold eqTo
  rw [List.getElem?_append_right (by simp; omega)]
  simp [Nat.min_eq_left (Nat.le_of_lt h), h]
theorem eqTo_set (bs : List Bx) {k : Nat} (h : k < bs.length) : (eqTo bs k).set k (eqBx (bs.getD k default)) = eqTo bs (k + 1) := by
  unfold eqTo
  rw [List.set_append_right _ _ (by simp; omega)]
  rw [show k - ((bs.take k).map eqBx).length = 0 by simp; omega, List.drop_eq_getElem_cons h, List.set_cons_zero, List.take_succ_eq_append_getElem h, List.map_append, List.append_assoc]
  simp [h]
theorem eqTo_all (bs : List Bx) : eqTo bs bs.length = bs.map eqBx := by unfold eqTo; simp
theorem eqTo_zero (bs : List Bx) : eqTo bs 0 = bs := by unfold eqTo; simp
theorem find_eq (bs : List Bx) (id : Int) : findBx (bs.map eqBx) id = if (findBx bs id).2 then (eqBx (findBx bs id).1, true) else (zBx, false) := by
  have e : idxF (idB id) (bs.map eqBx) = idxF (idB id) bs := by
    unfold idxF
    rw [List.findIdx?_map]
    rfl
  unfold findBx
  rw [e]
  rcases idx_cases (idB id) bs with h | ⟨k, hk, h⟩
  · rw [h]; simp
  · have hn : ¬ ((k : Int) < 0) := by omega
    simp only [h, if_neg hn, Int.toNat_natCast]
    simp [List.getD_eq_getElem?_getD, hk]
theorem eq_right {s : Shp} {bs : List Bx} {st : List Stw} (h : stowRight s bs st = true) : stowRight s (bs.map eqBx) st = true := by
  have hf := stow_found h
  obtain ⟨h1, h2, h3⟩ := stowRight_parts.1 h
  refine stowRight_parts.2 ⟨h1, fun i hi => ?_, fun c hc => ?_⟩
  · have := h2 i hi
    have hh := hf _ (getD_memD hi default)
    unfold stowAt at this ⊢
    rw [find_eq, if_pos hh]
    rw [hh] at this
    exact this
  · have := h3 c hc
    have hh : ∀ half, heightF (bs.map eqBx) st c half = heightF bs st c half := fun half => by
      unfold heightF
      congr 1
      refine List.map_congr_left fun x hx => ?_
      unfold htOf
      rw [find_eq, if_pos (hf x hx), hf x hx]
      rfl
    unfold fitsF at this ⊢
    rw [hh, hh]
    exact this
theorem eq_kg (bs : List Bx) : KgOK (bs.map eqBx) := fun b hb => by
  obtain ⟨c, _, rfl⟩ := List.mem_map.1 hb
  unfold eqBx
  simp only
  omega
theorem sumF_mem {bs : List Bx} {p : Slt → Bool} : ∀ {l : List Stw}, (∀ x ∈ l, 0 ≤ (findBx bs x.box).1.kilos) → ∀ {y : Stw}, y ∈ l → p y.slot = true → (findBx bs y.box).1.kilos ≤ sumF bs l p := by
  have h0 : ∀ l : List Stw, (∀ x ∈ l, 0 ≤ (findBx bs x.box).1.kilos) → 0 ≤ sumF bs l p := fun l => by
    induction l with
    | nil => intro _; exact Int.le_refl _
    | cons x l ih =>
      intro h
      rw [sumF_cons]
      have h1 := ih fun y hy => h y (by simp [hy])
      have h2 := h x (by simp)
      unfold kgOf
      split <;> omega
  intro l
  induction l with
  | nil => intro _ y hy; cases hy
  | cons x l ih =>
    intro h y hy hp
    rw [sumF_cons]
    have h2 := h x (by simp)
    rcases List.mem_cons.1 hy with rfl | hy
    · have h1 := h0 l fun z hz => h z (by simp [hz])
      unfold kgOf
      rw [if_pos hp]
      omega
    · have h1 := ih (fun z hz => h z (by simp [hz])) hy hp
      unfold kgOf
      split <;> omega
theorem held_below {x : Slt} {st : List Stw} (h : heldB x (st.map (·.slot)) = true) (ht : 1 ≤ x.tier) : ∃ y ∈ st, belowB x y.slot = true := by
  have hb : ∀ half : Nat, hasB x (st.map (·.slot)) half = true → (half = x.half ∨ x.half = 0) → ∃ y ∈ st, belowB x y.slot = true := fun half h1 h2 => by
    unfold hasB at h1
    obtain ⟨z, hz, e⟩ := List.any_eq_true.1 h1
    obtain ⟨y, hy, rfl⟩ := List.mem_map.1 hz
    have e := (sltEq_iff _ _).1 e
    refine ⟨y, hy, ?_⟩
    rw [← e]
    unfold belowB
    simp only [Bool.and_eq_true, Bool.or_eq_true, decide_eq_true_eq, beq_iff_eq]
    exact ⟨trivial, by omega, trivial, by omega⟩
  unfold heldB at h
  simp only [Bool.or_eq_true, Bool.and_eq_true, decide_eq_true_eq, beq_iff_eq] at h
  rcases h with h | h | ⟨h, h1, _⟩
  · omega
  · exact hb _ h (.inl rfl)
  · exact hb _ h1 (.inr h)
theorem Ld.held {s : Shp} {bs : List Bx} {st : List Stw} (h : Ld s bs st) {x : Stw} (hx : x ∈ st) : heldB x.slot (st.map (·.slot)) = true := by
  obtain ⟨i, hi, rfl⟩ := getD_ofmem hx default
  have := h.at_ hi
  unfold stowAt at this
  simp only [Bool.and_eq_true] at this
  exact this.1.2
/-- With equal kilos no box is heavier than what is below. -/
theorem no_top {s : Shp} {bs : List Bx} {st : List Stw} (hl : Lm s) (h : Ld s bs st) {n : Nat} {f : Flt} (hf : f ∈ checkF s (bs.map eqBx) st n) : 1 ≤ f.kind ∧ f.kind < 4 := by
  obtain ⟨c, hc, hm⟩ := mem_check.1 hf
  unfold faultsF at hm
  rcases List.mem_append.1 hm with hm | hm
  · obtain ⟨_, _, h3, h4, _⟩ := kinds_mem hm
    omega
  · obtain ⟨h1, h2, x, hx, hp, e⟩ := tops_mem hm
    exfalso
    unfold topB at hp
    simp only [Bool.and_eq_true, decide_eq_true_eq, beq_iff_eq] at hp
    obtain ⟨_, _, ht, hk⟩ := hp
    have hk12 : ∀ y ∈ st, (findBx (bs.map eqBx) y.box).1.kilos = 12345 := fun y hy => by
      rw [find_eq, if_pos (h.box_at hy).1]
      rfl
    obtain ⟨y, hy, hb⟩ := held_below (h.held hx) ht
    have hs := sumF_mem (bs := bs.map eqBx) (p := belowB x.slot) (fun z hz => by rw [hk12 z hz]; omega) hy hb
    rw [hk12 y hy] at hs
    rw [hk12 x hx] at hk
    have := hl.tol
    omega
end Go.Proofs.Ytncfakkajknhaaa
