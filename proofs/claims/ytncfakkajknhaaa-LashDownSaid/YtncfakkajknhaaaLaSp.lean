/-
  Plain facts for LashSums: heights and moments from below.
-/
import Derived.Test.YtncfakkajknhaaaLaFb
import Derived.Test.YtncfakkajknhaaaLaG
import Derived.Test.YtncfakkajknhaaaStRp
namespace Go.Proofs.Ytncfakkajknhaaa
open Go.RowKit

theorem meet_comm (a b : Slt) : meetB a b = meetB b a := by
  unfold meetB sharesB
  rw [Bool.eq_iff_iff]
  simp only [Bool.and_eq_true, Bool.or_eq_true, beq_iff_eq]
  omega
theorem Ld.apart {s : Shp} {bs : List Bx} {st : List Stw} (h : Ld s bs st) {i k : Nat} (hi : i < st.length) (hk : k < st.length) (hne : i ≠ k) : meetB (st.getD i default).slot (st.getD k default).slot = false := by
  have key : ∀ {i k : Nat}, i < st.length → k < i → meetB (st.getD i default).slot (st.getD k default).slot = false := fun {i k} hi hk => by
    have := h.at_ hi
    unfold stowAt at this
    simp only [Bool.and_eq_true, List.all_eq_true] at this
    have := this.2 k (List.mem_range.2 hk)
    simpa using this
  rcases Nat.lt_or_gt_of_ne hne with hlt | hlt
  · rw [meet_comm]
    exact key hk hlt
  · exact key hi hlt
/-- What those that a test names add up to. -/
def sumI (p : Stw → Bool) (f : Stw → Int) (l : List Stw) : Int := (l.map fun y => if p y then f y else 0).sum
theorem sumI_cons (p : Stw → Bool) (f : Stw → Int) (y : Stw) (l : List Stw) : sumI p f (y :: l) = (if p y then f y else 0) + sumI p f l := by unfold sumI; rw [List.map_cons, List.sum_cons]
theorem sumI_none {p : Stw → Bool} (f : Stw → Int) : ∀ {l : List Stw}, (∀ y ∈ l, p y = false) → sumI p f l = 0
  | [], _ => rfl
  | y :: l, h => by
    rw [sumI_cons, sumI_none f fun z hz => h z (by simp [hz]), h y (by simp)]
    rfl
theorem sumI_one {p : Stw → Bool} (f : Stw → Int) : ∀ {l : List Stw} {j : Nat}, j < l.length → p (l.getD j default) = true → (∀ i, i < l.length → i ≠ j → p (l.getD i default) = false) → sumI p f l = f (l.getD j default)
  | [], _, hj, _, _ => by simp at hj
  | y :: l, 0, _, h1, h2 => by
    rw [sumI_cons, sumI_none f fun z hz => ?_]
    · have h1' : p y = true := h1
      rw [h1', if_pos rfl, Int.add_zero]
      rfl
    · obtain ⟨i, hi, rfl⟩ := getD_ofmem hz default
      exact h2 (i + 1) (by simpa using hi) (by omega)
  | y :: l, j + 1, hj, h1, h2 => by
    have h0 : p y = false := h2 0 (by simp) (by omega)
    rw [sumI_cons, h0, sumI_one f (l := l) (j := j) (by simpa using hj) h1 fun i hi hne => h2 (i + 1) (by simpa using hi) (by omega)]
    simp
theorem sumI_split {p q r : Stw → Bool} (f : Stw → Int) : ∀ {l : List Stw}, (∀ y ∈ l, r y = (p y || q y) ∧ (p y && q y) = false) → sumI r f l = sumI p f l + sumI q f l
  | [], _ => rfl
  | y :: l, h => by
    rw [sumI_cons, sumI_cons, sumI_cons, sumI_split f fun z hz => h z (by simp [hz])]
    obtain ⟨h1, h2⟩ := h y (by simp)
    rw [h1]
    cases hp : p y <;> cases hq : q y
    · simp
    · simp; omega
    · simp; omega
    · rw [hp, hq] at h2; cases h2
theorem sumI_congr {p q : Stw → Bool} {f g : Stw → Int} : ∀ {l : List Stw}, (∀ y ∈ l, (if p y then f y else 0) = if q y then g y else 0) → sumI p f l = sumI q g l
  | [], _ => rfl
  | y :: l, h => by
    rw [sumI_cons, sumI_cons, sumI_congr fun z hz => h z (by simp [hz]), h y (by simp)]
theorem half_sum {bs : List Bx} (c : Int) (hf : Nat) (g : Slt × Bx → Int) : ∀ {l : List Stw}, (∀ y ∈ l, (findBx bs y.box).2 = true) → ((halfL bs l c hf).map g).sum = sumI (fun y => inHalf c hf y.slot) (fun y => g (y.slot, (findBx bs y.box).1)) l
  | [], _ => rfl
  | y :: l, h => by
    have ih := half_sum (bs := bs) c hf g (l := l) fun z hz => h z (by simp [hz])
    rw [sumI_cons, ← ih]
    unfold halfL
    rw [List.filterMap_cons]
    unfold halfOf
    rw [h y (by simp), Bool.and_true]
    cases inHalf c hf y.slot
    · simp
    · simp
/-- The height of a half of a column below a tier. -/
def hgtF (bs : List Bx) (st : List Stw) (c : Int) (hf : Nat) (t : Int) : Int := sumI (fun y => inHalf c hf y.slot && decide (y.slot.tier < t)) (fun y => tallB (findBx bs y.box).1) st
/-- The moment of a half of a column, of the tiers below one. -/
def momT (bs : List Bx) (st : List Stw) (c : Int) (hf : Nat) (t : Int) : Int := sumI (fun y => inHalf c hf y.slot && decide (y.slot.tier < t)) (fun y => (findBx bs y.box).1.kilos * liftF bs st y.slot) st
/-- A slot is in a half of a column, in a tier. -/
def inT (c : Int) (hf : Nat) (t : Int) (y : Slt) : Bool := y.col == c && (y.tier == t && (y.half == hf || y.half == 0))
theorem inT_split (c : Int) (hf : Nat) (t : Int) (y : Slt) : (inHalf c hf y && decide (y.tier < t + 1)) = ((inHalf c hf y && decide (y.tier < t)) || inT c hf t y) ∧ ((inHalf c hf y && decide (y.tier < t)) && inT c hf t y) = false := by
  unfold inHalf inT
  constructor
  · rw [Bool.eq_iff_iff]
    simp only [Bool.and_eq_true, Bool.or_eq_true, beq_iff_eq, decide_eq_true_eq]
    omega
  · rw [Bool.eq_false_iff]
    simp only [Ne, Bool.and_eq_true, Bool.or_eq_true, beq_iff_eq, decide_eq_true_eq]
    omega
theorem inT_meet {c : Int} {hf : Nat} {t : Int} {x y : Slt} (hx : inT c hf t x = true) (hy : inT c hf t y = true) : meetB x y = true := by
  unfold inT at hx hy
  unfold meetB sharesB
  simp only [Bool.and_eq_true, Bool.or_eq_true, beq_iff_eq] at hx hy ⊢
  omega
theorem step_no {st : List Stw} (f : Stw → Int) {c : Int} {hf : Nat} {t : Int} (h : ∀ i, i < st.length → inT c hf t (st.getD i default).slot = false) : sumI (fun y => inHalf c hf y.slot && decide (y.slot.tier < t + 1)) f st = sumI (fun y => inHalf c hf y.slot && decide (y.slot.tier < t)) f st := by
  rw [sumI_split (q := fun y => inT c hf t y.slot) f fun y _ => inT_split c hf t y.slot, sumI_none (p := fun y => inT c hf t y.slot) f fun y hy => ?_, Int.add_zero]
  obtain ⟨i, hi, rfl⟩ := getD_ofmem hy default
  exact h i hi
theorem step_yes {s : Shp} {bs : List Bx} {st : List Stw} (hL : Ld s bs st) (f : Stw → Int) {c : Int} {hf : Nat} {t : Int} {j : Nat} (hj : j < st.length) (h : inT c hf t (st.getD j default).slot = true) : sumI (fun y => inHalf c hf y.slot && decide (y.slot.tier < t + 1)) f st = sumI (fun y => inHalf c hf y.slot && decide (y.slot.tier < t)) f st + f (st.getD j default) := by
  rw [sumI_split (q := fun y => inT c hf t y.slot) f fun y _ => inT_split c hf t y.slot, sumI_one (p := fun y => inT c hf t y.slot) f hj h fun i hi hne => ?_]
  cases hq : inT c hf t (st.getD i default).slot with
  | false => rfl
  | true =>
    have h1 := hL.apart hi hj hne
    rw [inT_meet hq h] at h1
    cases h1
theorem hgt_zero {s : Shp} {bs : List Bx} {st : List Stw} (hl : Lm s) (h : Ld s bs st) (c : Int) (hf : Nat) : hgtF bs st c hf 0 = 0 := sumI_none _ fun y hy => by
  have := (h.tier hl hy).1
  rw [show decide (y.slot.tier < 0) = false from decide_eq_false (by omega), Bool.and_false]
theorem mom_zero {s : Shp} {bs : List Bx} {st : List Stw} (hl : Lm s) (h : Ld s bs st) (c : Int) (hf : Nat) : momT bs st c hf 0 = 0 := sumI_none _ fun y hy => by
  have := (h.tier hl hy).1
  rw [show decide (y.slot.tier < 0) = false from decide_eq_false (by omega), Bool.and_false]
theorem liftH_hgt {s : Shp} {bs : List Bx} {st : List Stw} (h : Ld s bs st) {x : Slt} {hf : Nat} (hx : x.half = hf ∨ x.half = 0) : liftH bs st x hf = hgtF bs st x.col hf x.tier := by
  unfold liftH hgtF
  rw [half_sum _ _ _ fun y hy => (h.box_at hy).1]
  refine sumI_congr fun y _ => ?_
  unfold liftP
  simp only
  cases hi : inHalf x.col hf y.slot with
  | false => rfl
  | true =>
    have ho : overB x y.slot = decide (y.slot.tier < x.tier) := by
      unfold inHalf at hi
      unfold overB sharesB
      simp only [Bool.and_eq_true, Bool.or_eq_true, beq_iff_eq] at hi
      rw [Bool.eq_iff_iff]
      simp only [Bool.and_eq_true, Bool.or_eq_true, beq_iff_eq, decide_eq_true_eq]
      omega
    rw [ho]
    simp
theorem hgt_bd {s : Shp} {bs : List Bx} {st : List Stw} (h : Ld s bs st) (c : Int) (hf : Nat) (t : Int) : 0 ≤ hgtF bs st c hf t ∧ hgtF bs st c hf t ≤ 26064 := by
  have e := liftH_hgt h (x := ⟨c, t, hf⟩) (hf := hf) (.inl rfl)
  have b := liftH_bd bs st ⟨c, t, hf⟩ hf
  have := h.stlen
  rw [e] at b
  simp only at b
  omega
theorem held_has {s : Shp} {bs : List Bx} {st : List Stw} {y : Stw} {half : Nat} (hh : hasB y.slot (st.map (·.slot)) half = true) : ∃ j, j < st.length ∧ (st.getD j default).slot = ⟨y.slot.col, y.slot.tier - 1, half⟩ := by
  unfold hasB at hh
  obtain ⟨z, hz, e⟩ := List.any_eq_true.1 hh
  obtain ⟨u, hu, rfl⟩ := List.mem_map.1 hz
  have e := (sltEq_iff _ _).1 e
  obtain ⟨j, hj, rfl⟩ := getD_ofmem hu default
  exact ⟨j, hj, e.symm⟩
theorem low_tall {s : Shp} {bs : List Bx} {st : List Stw} (h : Ld s bs st) (hb : LowB bs) {z : Stw} (hz : z ∈ st) (hh : z.slot.half ≠ 0) : tallB (findBx bs z.box).1 = 2591 := by
  have h1 := (slot_in (h.slot hz)).2.2.2.2
  have h2 := h.box_at hz
  unfold halvesL at h1
  split at h1
  · simp at h1; omega
  · split at h1
    · rename_i h20
      unfold tallB
      rw [hb _ h2.2.1 (by simpa using h20)]
      rfl
    · simp at h1
/-- Below a box of 20 feet there are such boxes alone. -/
theorem fore_low {s : Shp} {bs : List Bx} {st : List Stw} (hl : Lm s) (h : Ld s bs st) (hb : LowB bs) {c : Int} {hf : Nat} (hf0 : hf ≠ 0) : ∀ (n : Nat) (y : Stw), y ∈ st → y.slot.col = c → y.slot.tier = n → y.slot.half = hf → hgtF bs st c hf n = 2591 * n
  | 0, _, _, _, _, _ => by rw [Int.ofNat_zero, hgt_zero hl h]; rfl
  | n + 1, y, hy, hc, ht, hh => by
    have hheld := h.held hy
    unfold heldB at hheld
    simp only [Bool.or_eq_true, Bool.and_eq_true, decide_eq_true_eq, beq_iff_eq] at hheld
    rcases hheld with h1 | h1 | ⟨h1, _, _⟩
    · omega
    · obtain ⟨j, hj, e⟩ := held_has (s := s) (bs := bs) h1
      have ih := fore_low hl h hb (c := c) (hf := hf) hf0 n _ (getD_memD hj default) (by rw [e]; exact hc) (by rw [e]; simp only; omega) (by rw [e]; exact hh)
      have hs := step_yes h (fun y => tallB (findBx bs y.box).1) (c := c) (hf := hf) (t := n) hj (by rw [e]; unfold inT; simp only [Bool.and_eq_true, Bool.or_eq_true, beq_iff_eq]; omega)
      have ht := low_tall h hb (getD_memD hj default) (by rw [e]; simp only; omega)
      unfold hgtF at ih ⊢
      rw [show ((n + 1 : Nat) : Int) = (n : Int) + 1 by omega, hs, ih, ht]
      omega
    · omega
/-- Below a box of 40 feet both halves are as high. -/
theorem whole_eq {s : Shp} {bs : List Bx} {st : List Stw} (hl : Lm s) (h : Ld s bs st) (hb : LowB bs) {c : Int} : ∀ (n : Nat) (y : Stw), y ∈ st → y.slot.col = c → y.slot.tier = n → y.slot.half = 0 → hgtF bs st c 1 n = hgtF bs st c 2 n
  | 0, _, _, _, _, _ => by rw [Int.ofNat_zero, hgt_zero hl h, hgt_zero hl h]
  | n + 1, y, hy, hc, ht, hh => by
    have hheld := h.held hy
    unfold heldB at hheld
    simp only [Bool.or_eq_true, Bool.and_eq_true, decide_eq_true_eq, beq_iff_eq] at hheld
    have st1 : ∀ {hf j : Nat}, j < st.length → inT c hf n (st.getD j default).slot = true → hgtF bs st c hf ((n + 1 : Nat) : Int) = hgtF bs st c hf n + tallB (findBx bs (st.getD j default).box).1 := fun {hf j} hj hi => by
      rw [show ((n + 1 : Nat) : Int) = (n : Int) + 1 by omega]
      exact step_yes h (fun y => tallB (findBx bs y.box).1) hj hi
    have one : ∀ {j half hf : Nat}, (st.getD j default).slot = ⟨y.slot.col, y.slot.tier - 1, half⟩ → (half = hf ∨ half = 0) → inT c hf n (st.getD j default).slot = true := fun {j half hf} e hq => by
      rw [e]; unfold inT; simp only [Bool.and_eq_true, Bool.or_eq_true, beq_iff_eq]; omega
    rcases hheld with h1 | h1 | ⟨h1, h2, h3⟩
    · omega
    · obtain ⟨j, hj, e⟩ := held_has (s := s) (bs := bs) h1
      have ih := whole_eq hl h hb (c := c) n _ (getD_memD hj default) (by rw [e]; exact hc) (by rw [e]; simp only; omega) (by rw [e]; exact hh)
      rw [st1 hj (one (hf := 1) e (.inr hh)), st1 hj (one (hf := 2) e (.inr hh)), ih]
    · obtain ⟨j, hj, e⟩ := held_has (s := s) (bs := bs) h2
      obtain ⟨k, hk, e2⟩ := held_has (s := s) (bs := bs) h3
      have i1 := fore_low hl h hb (c := c) (hf := 1) (by decide) n _ (getD_memD hj default) (by rw [e]; exact hc) (by rw [e]; simp only; omega) (by rw [e])
      have i2 := fore_low hl h hb (c := c) (hf := 2) (by decide) n _ (getD_memD hk default) (by rw [e2]; exact hc) (by rw [e2]; simp only; omega) (by rw [e2])
      rw [st1 hj (one (hf := 1) e (.inl rfl)), st1 hk (one (hf := 2) e2 (.inl rfl)), i1, i2, low_tall h hb (getD_memD hj default) (by rw [e]; simp), low_tall h hb (getD_memD hk default) (by rw [e2]; simp)]
/-- A box stands as high as the half below it. -/
theorem lift_hgt {s : Shp} {bs : List Bx} {st : List Stw} (hl : Lm s) (h : Ld s bs st) (hb : LowB bs) {c : Int} {hf : Nat} {t : Int} (h12 : hf = 1 ∨ hf = 2) {y : Stw} (hy : y ∈ st) (hin : inT c hf t y.slot = true) : liftF bs st y.slot = hgtF bs st c hf t := by
  unfold inT at hin
  simp only [Bool.and_eq_true, Bool.or_eq_true, beq_iff_eq] at hin
  obtain ⟨h1, h2, h3⟩ := hin
  have ht := (h.tier hl hy).1
  have g0 := fun q => (hgt_bd h c q t).1
  unfold liftF liftTo hvL
  by_cases h0 : y.slot.half = 0
  · have w1 := whole_eq hl h hb (c := c) y.slot.tier.toNat y hy h1 (by omega) h0
    rw [show ((y.slot.tier.toNat : Nat) : Int) = t by omega] at w1
    have l1 := liftH_hgt h (x := y.slot) (hf := 1) (.inr h0)
    have l2 := liftH_hgt h (x := y.slot) (hf := 2) (.inr h0)
    rw [h1, h2] at l1 l2
    have p1 := g0 1
    have p2 := g0 2
    rw [if_pos h0]
    simp only [List.length_cons, List.length_nil, List.take, List.foldl, l1, l2, w1]
    rcases h12 with rfl | rfl
    · rw [w1]
      (repeat' split) <;> omega
    · (repeat' split) <;> omega
  · have hh : y.slot.half = hf := by omega
    have l1 := liftH_hgt h (x := y.slot) (hf := hf) (.inl hh)
    rw [h1, h2] at l1
    have p1 := g0 hf
    rw [if_neg h0, hh]
    simp only [List.length_cons, List.length_nil, List.take, List.foldl, l1]
    split <;> omega
theorem all_below {s : Shp} {bs : List Bx} {st : List Stw} (h : Ld s bs st) {c : Nat} {hf : Nat} (f : Stw → Int) : sumI (fun y => inHalf c hf y.slot && decide (y.slot.tier < (s.cols.getD c default).tiers)) f st = sumI (fun y => inHalf c hf y.slot) f st := by
  refine sumI_congr fun y hy => ?_
  cases hi : inHalf c hf y.slot with
  | false => rfl
  | true =>
    have h1 := slot_in (h.slot hy)
    unfold inHalf at hi
    simp only [Bool.and_eq_true, beq_iff_eq] at hi
    have e : y.slot.col.toNat = c := by omega
    rw [e] at h1
    rw [decide_eq_true h1.2.2.2.1]
    rfl
theorem hgt_all {s : Shp} {bs : List Bx} {st : List Stw} (h : Ld s bs st) (c hf : Nat) : hgtF bs st c hf (s.cols.getD c default).tiers = heightF bs st c hf := by
  unfold hgtF
  rw [all_below h]
  unfold heightF sumI
  congr 1
  refine List.map_congr_left fun y hy => ?_
  unfold htOf inHalf
  rw [(h.box_at hy).1, if_pos rfl]
theorem mom_all {s : Shp} {bs : List Bx} {st : List Stw} (h : Ld s bs st) (c hf : Nat) : momT bs st c hf (s.cols.getD c default).tiers = momentF bs st c hf := by
  unfold momT
  rw [all_below h]
  unfold momentF
  rw [half_sum _ _ _ fun y hy => (h.box_at hy).1]
theorem sumI_bd {p : Stw → Bool} {f : Stw → Int} (M : Int) (hM : 0 ≤ M) : ∀ {l : List Stw}, (∀ y ∈ l, -M ≤ f y ∧ f y ≤ M) → -(M * l.length) ≤ sumI p f l ∧ sumI p f l ≤ M * l.length
  | [], _ => by simp [sumI]
  | y :: l, h => by
    have ih := sumI_bd (p := p) (f := f) M hM (l := l) fun z hz => h z (by simp [hz])
    have h1 := h y (by simp)
    rw [sumI_cons, List.length_cons, show M * ((l.length + 1 : Nat) : Int) = M * l.length + M by rw [Int.natCast_succ, Int.mul_add, Int.mul_one]]
    split <;> omega
theorem mom_bd {s : Shp} {bs : List Bx} {st : List Stw} (h : Ld s bs st) (c : Int) (hf : Nat) (t : Int) : -52128000000000000 ≤ momT bs st c hf t ∧ momT bs st c hf t ≤ 52128000000000000 := by
  have b := sumI_bd (p := fun y => inHalf c hf y.slot && decide (y.slot.tier < t)) (f := fun y => (findBx bs y.box).1.kilos * liftF bs st y.slot) 5792000000000000 (by omega) (l := st) fun y hy => by
    have h1 := (h.box _ (h.box_at hy).2.1).2
    have h2 := lift_bd bs (l := st) (by have := h.stlen; omega) y.slot
    exact mul_bd (by omega) (by omega) h2.1 h2.2
  have := h.stlen
  unfold momT
  omega
end Go.Proofs.Ytncfakkajknhaaa
