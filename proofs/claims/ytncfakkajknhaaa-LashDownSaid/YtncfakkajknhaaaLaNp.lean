/-
  Plain facts for LashDown: two boxes of a half of a column exchanged.
-/
import Derived.Test.YtncfakkajknhaaaLaSp
namespace Go.Proofs.Ytncfakkajknhaaa
open Go.RowKit

/-- A state in which two boxes have changed their places. -/
def swapL (st : List Stw) (i k : Nat) : List Stw := (st.set i ⟨(st.getD i default).box, (st.getD k default).slot⟩).set k ⟨(st.getD k default).box, (st.getD i default).slot⟩
def sw (i k j : Nat) : Nat := if j = k then i else if j = i then k else j
theorem swap_len (st : List Stw) (i k : Nat) : (swapL st i k).length = st.length := by simp [swapL]
theorem swap_getD {st : List Stw} {i k : Nat} (hne : i ≠ k) {j : Nat} (hj : j < st.length) : (swapL st i k).getD j default = ⟨(st.getD j default).box, (st.getD (sw i k j) default).slot⟩ := by
  unfold swapL sw
  rw [List.getD_eq_getElem?_getD, List.getElem?_set]
  by_cases h1 : k = j
  · subst h1
    rw [if_pos rfl, if_pos (by simpa using hj), if_pos rfl]
    rfl
  · rw [if_neg h1, if_neg (Ne.symm h1), List.getElem?_set]
    by_cases h2 : i = j
    · subst h2
      rw [if_pos rfl, if_pos hj, if_pos rfl]
      rfl
    · rw [if_neg h2, if_neg (Ne.symm h2)]
      rw [← List.getD_eq_getElem?_getD]
theorem sw_lt {i k j n : Nat} (hi : i < n) (hk : k < n) (hj : j < n) : sw i k j < n := by unfold sw; (repeat' split) <;> omega
theorem sw_sw {i k j : Nat} : sw i k (sw i k j) = j := by unfold sw; (repeat' split) <;> omega
theorem sw_ne {i k j m : Nat} (h : j ≠ m) : sw i k j ≠ sw i k m := by unfold sw; (repeat' split) <;> omega
theorem swap_mem {st : List Stw} {i k : Nat} (hne : i ≠ k) (hi : i < st.length) (hk : k < st.length) (z : Slt) : z ∈ (swapL st i k).map (·.slot) ↔ z ∈ st.map (·.slot) := by
  constructor
  · intro h
    obtain ⟨y, hy, rfl⟩ := List.mem_map.1 h
    obtain ⟨j, hj, rfl⟩ := getD_ofmem hy default
    rw [swap_len] at hj
    rw [swap_getD hne hj]
    exact List.mem_map.2 ⟨_, getD_memD (sw_lt hi hk hj) default, rfl⟩
  · intro h
    obtain ⟨y, hy, rfl⟩ := List.mem_map.1 h
    obtain ⟨j, hj, rfl⟩ := getD_ofmem hy default
    refine List.mem_map.2 ⟨(swapL st i k).getD (sw i k j) default, getD_memD (by rw [swap_len]; exact sw_lt hi hk hj) default, ?_⟩
    rw [swap_getD hne (sw_lt hi hk hj), sw_sw]
theorem has_congr {l m : List Slt} (h : ∀ z, z ∈ l ↔ z ∈ m) (x : Slt) (half : Nat) : hasB x l half = hasB x m half := by
  unfold hasB
  rw [Bool.eq_iff_iff, List.any_eq_true, List.any_eq_true]
  exact ⟨fun ⟨z, hz, e⟩ => ⟨z, (h z).1 hz, e⟩, fun ⟨z, hz, e⟩ => ⟨z, (h z).2 hz, e⟩⟩
theorem held_congr {l m : List Slt} (h : ∀ z, z ∈ l ↔ z ∈ m) (x : Slt) : heldB x l = heldB x m := by
  unfold heldB
  rw [has_congr h, has_congr h, has_congr h]
/-- Boxes of one size may change their places. -/
theorem swap_right {s : Shp} {bs : List Bx} {st : List Stw} (hl : Lm s) (h : Ld s bs st) {i k : Nat} (hne : i ≠ k) (hi : i < st.length) (hk : k < st.length) (hsz : (findBx bs (st.getD i default).box).1.size = (findBx bs (st.getD k default).box).1.size) : stowRight s bs (swapL st i k) = true := by
  have hr := stowRight_parts.1 h.right
  refine stowRight_parts.2 ⟨hr.1, fun j hj => ?_, fun c hc => ?_⟩
  · rw [swap_len] at hj
    have h1 := h.at_ hj
    have hsl := h.slot (getD_memD (sw_lt hi hk hj) default)
    have hhe := h.held (getD_memD (sw_lt hi hk hj) default)
    unfold stowAt at h1 ⊢
    rw [swap_getD hne hj]
    simp only [Bool.and_eq_true] at h1 ⊢
    obtain ⟨⟨⟨⟨a1, a2⟩, a3⟩, a4⟩, a5⟩ := h1
    refine ⟨⟨⟨⟨a1, ?_⟩, ?_⟩, ?_⟩, ?_⟩
    · rw [swap_getD hne (by omega)]
      exact a2
    · have e : (findBx bs (st.getD (sw i k j) default).box).1.size = (findBx bs (st.getD j default).box).1.size := by
        unfold sw
        split
        · rename_i e; rw [e]; exact hsz
        · split
          · rename_i e; rw [e]; exact hsz.symm
          · rfl
      rw [e] at hsl
      exact hsl
    · rw [held_congr (swap_mem hne hi hk)]
      exact hhe
    · rw [List.all_eq_true]
      intro m hm
      have hm := List.mem_range.1 hm
      rw [swap_getD hne (by omega)]
      simp only
      rw [h.apart (sw_lt hi hk hj) (sw_lt hi hk (by omega)) (sw_ne (by omega))]
      rfl
  · unfold fitsF
    have := hl.at_ hc
    simp only [Bool.or_eq_true, decide_eq_true_eq]
    left
    omega
theorem sumI_set (p : Stw → Bool) (f : Stw → Int) : ∀ {l : List Stw} {i : Nat} (u : Stw), i < l.length → sumI p f (l.set i u) = sumI p f l - (if p (l.getD i default) then f (l.getD i default) else 0) + if p u then f u else 0
  | [], _, _, h => by simp at h
  | y :: l, 0, u, _ => by
    rw [List.set_cons_zero, sumI_cons, sumI_cons]
    show _ = (if p y then f y else 0) + sumI p f l - (if p y then f y else 0) + _
    omega
  | y :: l, i + 1, u, h => by
    rw [List.set_cons_succ, sumI_cons, sumI_cons, sumI_set p f u (by simpa using h)]
    show _ = (if p y then f y else 0) + sumI p f l - (if p (l.getD i default) then f (l.getD i default) else 0) + _
    omega
theorem sumI_swap {p : Stw → Bool} {f : Stw → Int} {st : List Stw} {i k : Nat} (hne : i ≠ k) (hi : i < st.length) (hk : k < st.length) :
    sumI p f (swapL st i k) = sumI p f st - (if p (st.getD i default) then f (st.getD i default) else 0) - (if p (st.getD k default) then f (st.getD k default) else 0) + (if p ⟨(st.getD i default).box, (st.getD k default).slot⟩ then f ⟨(st.getD i default).box, (st.getD k default).slot⟩ else 0) + if p ⟨(st.getD k default).box, (st.getD i default).slot⟩ then f ⟨(st.getD k default).box, (st.getD i default).slot⟩ else 0 := by
  unfold swapL
  rw [sumI_set p f _ (by rw [List.length_set]; exact hk), sumI_set p f _ hi]
  have e : (st.set i (⟨(st.getD i default).box, (st.getD k default).slot⟩ : Stw)).getD k default = st.getD k default := by
    rw [List.getD_eq_getElem?_getD, List.getElem?_set, if_neg hne, ← List.getD_eq_getElem?_getD]
  rw [e]
  omega
theorem swap_found {s : Shp} {bs : List Bx} {st : List Stw} (h : Ld s bs st) {i k : Nat} (hne : i ≠ k) : ∀ y ∈ swapL st i k, (findBx bs y.box).2 = true := fun y hy => by
  obtain ⟨j, hj, rfl⟩ := getD_ofmem hy default
  rw [swap_len] at hj
  rw [swap_getD hne hj]
  exact (h.box_at (getD_memD hj default)).1
theorem swap_liftH {s : Shp} {bs : List Bx} {st : List Stw} (h : Ld s bs st) {i k : Nat} (hne : i ≠ k) (hi : i < st.length) (hk : k < st.length) (hh : (findBx bs (st.getD i default).box).1.high = (findBx bs (st.getD k default).box).1.high) (z : Slt) (hf : Nat) : liftH bs (swapL st i k) z hf = liftH bs st z hf := by
  unfold liftH
  rw [half_sum _ _ _ (swap_found h hne), half_sum _ _ _ fun y hy => (h.box_at hy).1, sumI_swap hne hi hk]
  unfold liftP
  simp only
  have e : tallB (findBx bs (st.getD i default).box).1 = tallB (findBx bs (st.getD k default).box).1 := by unfold tallB; rw [hh]
  rw [e]
  omega
theorem swap_lift {s : Shp} {bs : List Bx} {st : List Stw} (h : Ld s bs st) {i k : Nat} (hne : i ≠ k) (hi : i < st.length) (hk : k < st.length) (hh : (findBx bs (st.getD i default).box).1.high = (findBx bs (st.getD k default).box).1.high) (z : Slt) : liftF bs (swapL st i k) z = liftF bs st z := by
  unfold liftF liftTo
  congr 1
  funext a q
  rw [swap_liftH h hne hi hk hh]
theorem sumI_lt {p q : Stw → Bool} {f : Stw → Int} : ∀ {l : List Stw} {j : Nat}, j < l.length → (∀ y ∈ l, (if p y then f y else 0) ≤ if q y then f y else 0) → (if p (l.getD j default) then f (l.getD j default) else 0) < (if q (l.getD j default) then f (l.getD j default) else 0) → sumI p f l < sumI q f l
  | [], _, h, _, _ => by simp at h
  | y :: l, 0, _, h1, h2 => by
    have h3 : (if p y then f y else 0) < (if q y then f y else 0) := h2
    have key : ∀ m : List Stw, (∀ y ∈ m, (if p y then f y else 0) ≤ if q y then f y else 0) → sumI p f m ≤ sumI q f m := fun m => by
      induction m with
      | nil => intro _; exact Int.le_refl _
      | cons z m ih =>
        intro hq
        rw [sumI_cons, sumI_cons]
        have := ih fun u hu => hq u (by simp [hu])
        have := hq z (by simp)
        omega
    have := key l fun z hz => h1 z (by simp [hz])
    rw [sumI_cons, sumI_cons]
    omega
  | y :: l, j + 1, hj, h1, h2 => by
    have := sumI_lt (p := p) (q := q) (f := f) (l := l) (j := j) (by simpa using hj) (fun z hz => h1 z (by simp [hz])) h2
    have := h1 y (by simp)
    rw [sumI_cons, sumI_cons]
    omega
/-- The higher of two boxes of a half stands higher. -/
theorem lift_up {s : Shp} {bs : List Bx} {st : List Stw} (hl : Lm s) (h : Ld s bs st) (hb : LowB bs) {i k : Nat} (hi : i < st.length) (hk : k < st.length) (hc : (st.getD i default).slot.col = (st.getD k default).slot.col) (hh : (st.getD i default).slot.half = (st.getD k default).slot.half) (ht : (st.getD i default).slot.tier < (st.getD k default).slot.tier) :
    liftF bs st (st.getD i default).slot < liftF bs st (st.getD k default).slot := by
  have h3 := (h.tier hl (getD_memD hi default)).2.2.2.2
  obtain ⟨hf, h12, hq⟩ : ∃ hf, (hf = 1 ∨ hf = 2) ∧ ((st.getD i default).slot.half = hf ∨ (st.getD i default).slot.half = 0) := by
    by_cases h0 : (st.getD i default).slot.half = 0
    · exact ⟨1, .inl rfl, .inr h0⟩
    · exact ⟨_, by omega, .inl rfl⟩
  have in1 : inT (st.getD i default).slot.col hf (st.getD i default).slot.tier (st.getD i default).slot = true := by unfold inT; simpa using hq
  have in2 : inT (st.getD i default).slot.col hf (st.getD k default).slot.tier (st.getD k default).slot = true := by unfold inT; rw [hc, ← hh]; simpa using hq
  rw [lift_hgt hl h hb h12 (getD_memD hi default) in1, lift_hgt hl h hb h12 (getD_memD hk default) in2]
  unfold hgtF
  have ta : ∀ b : Bx, 2591 ≤ tallB b := fun b => by unfold tallB; split <;> omega
  refine sumI_lt hi (fun y _ => ?_) ?_
  · have := ta (findBx bs y.box).1
    cases inHalf (st.getD i default).slot.col hf y.slot with
    | false => simp
    | true =>
      simp only [Bool.true_and, decide_eq_true_eq]
      (repeat' split) <;> omega
  · have := ta (findBx bs (st.getD i default).box).1
    have hin : inHalf (st.getD i default).slot.col hf (st.getD i default).slot = true := by unfold inHalf; simpa using hq
    rw [hin]
    simp only [Bool.true_and, decide_eq_true_eq]
    rw [if_neg (by omega), if_pos ht]
    omega
/-- The stage's statement: what the moments become. -/
theorem swap_moment {s : Shp} {bs : List Bx} {st : List Stw} (hl : Lm s) (h : Ld s bs st) (hb : LowB bs) {i k : Nat} (hi : i < st.length) (hk : k < st.length) (hc : (st.getD i default).slot.col = (st.getD k default).slot.col) (hh : (st.getD i default).slot.half = (st.getD k default).slot.half) (ht : (st.getD i default).slot.tier < (st.getD k default).slot.tier)
    (hg : (findBx bs (st.getD i default).box).1.high = (findBx bs (st.getD k default).box).1.high) (hkg : (findBx bs (st.getD i default).box).1.kilos < (findBx bs (st.getD k default).box).1.kilos) (hf : Nat) :
    if (st.getD i default).slot.half = hf ∨ (st.getD i default).slot.half = 0 then momentF bs (swapL st i k) (st.getD i default).slot.col hf < momentF bs st (st.getD i default).slot.col hf else momentF bs (swapL st i k) (st.getD i default).slot.col hf = momentF bs st (st.getD i default).slot.col hf := by
  have hne : i ≠ k := fun e => by rw [e] at ht; omega
  have hup := lift_up hl h hb hi hk hc hh ht
  unfold momentF
  rw [half_sum _ _ _ (swap_found h hne), half_sum _ _ _ fun y hy => (h.box_at hy).1, sumI_swap hne hi hk]
  simp only [swap_lift h hne hi hk hg]
  have e2 : inHalf (st.getD i default).slot.col hf (st.getD k default).slot = inHalf (st.getD i default).slot.col hf (st.getD i default).slot := by unfold inHalf; rw [hc, hh]
  have e1 : inHalf (st.getD i default).slot.col hf (st.getD i default).slot = decide ((st.getD i default).slot.half = hf ∨ (st.getD i default).slot.half = 0) := by
    unfold inHalf
    rw [Bool.eq_iff_iff]
    simp
  rw [e2, e1]
  by_cases hq : (st.getD i default).slot.half = hf ∨ (st.getD i default).slot.half = 0
  · rw [if_pos hq]
    simp only [decide_eq_true hq, if_true]
    generalize (findBx bs (st.getD i default).box).1.kilos = ka at *
    generalize (findBx bs (st.getD k default).box).1.kilos = kb at *
    generalize liftF bs st (st.getD i default).slot = lx at *
    generalize liftF bs st (st.getD k default).slot = ly at *
    have hm : 0 < (kb - ka) * (ly - lx) := Int.mul_pos (by omega) (by omega)
    rw [Int.sub_mul, Int.mul_sub, Int.mul_sub] at hm
    generalize sumI _ _ st = S at *
    omega
  · rw [if_neg hq]
    simp only [decide_eq_false hq, Bool.false_eq_true, if_false]
    omega
end Go.Proofs.Ytncfakkajknhaaa
