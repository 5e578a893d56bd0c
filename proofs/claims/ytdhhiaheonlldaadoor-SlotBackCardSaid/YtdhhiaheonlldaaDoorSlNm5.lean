/-
  Names of slots, there and back: plain facts.
-/
import Derived.Test.YtdhhiaheonlldaaDoorB5
import Derived.Test.YtdhhiaheonlldaaDoorB3
namespace Go.Proofs.YtdhhiaheonlldaaDoor
open Go.RowKit

theorem right_nodup {s : Shp} (h : rightF s = true) : (s.cols.map keyC).Nodup := by
  unfold rightF at h
  simp only [Bool.and_eq_true] at h
  have ho := h.2.2.2
  unfold once at ho
  have hn : (keysOf s).Nodup := by
    rw [List.nodup_iff_count]
    intro a
    by_cases ha : a ∈ keysOf s
    · simpa using List.all_eq_true.1 ho a ha
    · rw [List.count_eq_zero_of_not_mem ha]; omega
  unfold keysOf at hn
  exact (List.nodup_append.1 hn).1
theorem right_col {s : Shp} (h : rightF s = true) {k : Nat} (hk : k < s.cols.length) : 0 ≤ (s.cols.getD k default).bay ∧ (s.cols.getD k default).bay ≤ 39 ∧ 0 ≤ (s.cols.getD k default).row ∧ (s.cols.getD k default).row ≤ 30 := by
  have hc : colOK (s.cols.getD k default) = true := by
    unfold rightF at h
    simp only [Bool.and_eq_true] at h
    exact List.all_eq_true.1 h.2.1 _ (getD_memD hk default)
  have hsp : (spans (s.cols.getD k default)).all inB = true := by
    unfold colOK at hc; rw [Bool.and_eq_true] at hc; exact hc.2
  clear hc
  generalize s.cols.getD k default = c at *
  unfold spans at hsp
  simp only [List.all_cons, inB, Bool.and_eq_true, Bool.not_eq_true', Bool.or_eq_false_iff, decide_eq_false_iff_not] at hsp
  omega
theorem nodup_at {α β : Type} {f : α → β} {l : List α} (h : (l.map f).Nodup) {d : α} {i j : Nat} (hi : i < l.length) (hj : j < l.length) (he : f (l.getD i d) = f (l.getD j d)) : i = j := by
  have h1 : (l.map f)[i]'(by simpa using hi) = (l.map f)[j]'(by simpa using hj) := by
    simp only [List.getElem_map]
    simpa [hi, hj] using he
  exact (List.getElem_inj h).1 h1
theorem findF_some {s : Shp} {a b : Int} {d : Bool} (h : (findF s a b d).2 = true) : ∃ k : Nat, k < s.cols.length ∧ (findF s a b d).1 = (k : Int) ∧ findB a b d (s.cols.getD k default) = true := by
  unfold findF at h ⊢
  cases hp : pick (findB a b d) s.cols with
  | nil => rw [hp] at h; cases h
  | cons i L =>
    have hi : i ∈ pick (findB a b d) s.cols := by rw [hp]; simp
    obtain ⟨m, h1, h2, h3⟩ := (mem_pick _ default _ _).1 hi
    exact ⟨m, h1, h2, h3⟩
theorem findF_at {s : Shp} {a b : Int} {d : Bool} (h : (s.cols.map keyC).Nodup) {k : Nat} (hk : k < s.cols.length) (hf : findB a b d (s.cols.getD k default) = true) : findF s a b d = ((k : Int), true) := by
  have hm : (k : Int) ∈ pick (findB a b d) s.cols := (mem_pick _ default _ _).2 ⟨k, hk, rfl, hf⟩
  unfold findF
  cases hp : pick (findB a b d) s.cols with
  | nil => rw [hp] at hm; cases hm
  | cons i L =>
    have hi : i ∈ pick (findB a b d) s.cols := by rw [hp]; simp
    obtain ⟨m, h1, h2, h3⟩ := (mem_pick _ default _ _).1 hi
    have he : keyC (s.cols.getD m default) = keyC (s.cols.getD k default) := by
      unfold findB at h3 hf
      simp only [Bool.and_eq_true, beq_iff_eq] at h3 hf
      unfold keyC
      rw [h3.1, h3.2.1, h3.2.2, hf.1, hf.2.1, hf.2.2]
    have := nodup_at h h1 hk he
    subst this
    simp [h2]
/-- Seven digits as a text. -/
def dig7 (d0 d1 d2 d3 d4 d5 d6 : Nat) : List Nat := [48 + d0, 48 + d1, 48 + d2, 48 + d3, 48 + d4, 48 + d5, 48 + d6]
theorem byteAt_strN {l : List Nat} (h : ∀ x ∈ l, x < 256) {i : Nat} (hi : i < l.length) : byteAt (strN l) i = l.getD i 0 := by
  unfold byteAt strN strOfNums
  have hx := h _ (getD_memD hi 0)
  simp [hi] at hx ⊢
  omega
theorem dig7_small {d0 d1 d2 d3 d4 d5 d6 : Nat} (h : d0 ≤ 9 ∧ d1 ≤ 9 ∧ d2 ≤ 9 ∧ d3 ≤ 9 ∧ d4 ≤ 9 ∧ d5 ≤ 9 ∧ d6 ≤ 9) : ∀ x ∈ dig7 d0 d1 d2 d3 d4 d5 d6, x < 256 := by
  intro x hx
  simp only [dig7, List.mem_cons, List.not_mem_nil, or_false] at hx
  omega
theorem dig7_ok {d0 d1 d2 d3 d4 d5 d6 : Nat} (h : d0 ≤ 9 ∧ d1 ≤ 9 ∧ d2 ≤ 9 ∧ d3 ≤ 9 ∧ d4 ≤ 9 ∧ d5 ≤ 9 ∧ d6 ≤ 9) (nm : ByteArray) (hn : nm = strN (dig7 d0 d1 d2 d3 d4 d5 d6)) :
    nm.size = 7 ∧ (List.range 7).all (digOK nm) = true ∧ dN nm 0 = d0 ∧ dN nm 1 = d1 ∧ dN nm 2 = d2 ∧ dN nm 3 = d3 ∧ dN nm 4 = d4 ∧ dN nm 5 = d5 ∧ dN nm 6 = d6 := by
  have hb : ∀ i, i < 7 → byteAt nm i = (dig7 d0 d1 d2 d3 d4 d5 d6).getD i 0 := fun i hi => by rw [hn]; exact byteAt_strN (dig7_small h) hi
  have b0 := hb 0 (by omega)
  have b1 := hb 1 (by omega)
  have b2 := hb 2 (by omega)
  have b3 := hb 3 (by omega)
  have b4 := hb 4 (by omega)
  have b5 := hb 5 (by omega)
  have b6 := hb 6 (by omega)
  simp [dig7] at b0 b1 b2 b3 b4 b5 b6
  refine ⟨by rw [hn]; exact strN_size _, ?_, ?_, ?_, ?_, ?_, ?_, ?_, ?_⟩
  · rw [List.all_eq_true]
    intro i hi
    have hi : i < 7 := by simpa using hi
    unfold digOK
    rcases (by omega : i = 0 ∨ i = 1 ∨ i = 2 ∨ i = 3 ∨ i = 4 ∨ i = 5 ∨ i = 6) with rfl | rfl | rfl | rfl | rfl | rfl | rfl
    · rw [b0]; simp; omega
    · rw [b1]; simp; omega
    · rw [b2]; simp; omega
    · rw [b3]; simp; omega
    · rw [b4]; simp; omega
    · rw [b5]; simp; omega
    · rw [b6]; simp; omega
  all_goals unfold dN
  · rw [b0]; omega
  · rw [b1]; omega
  · rw [b2]; omega
  · rw [b3]; omega
  · rw [b4]; omega
  · rw [b5]; omega
  · rw [b6]; omega
theorem nums_dig (n r t : Nat) : num3 n ++ num2 r ++ num2 t = dig7 (n / 100 % 10) (n / 10 % 10) (n % 10) (r / 10 % 10) (r % 10) (t / 10 % 10) (t % 10) := by
  simp [num3, num2, dig7, dg]
theorem hq_le {h : Nat} (hh : h < 3) : 1 ≤ qOf h ∧ qOf h ≤ 3 ∧ hOf (qOf h) = h := by
  rcases (by omega : h = 0 ∨ h = 1 ∨ h = 2) with rfl | rfl | rfl <;> simp [qOf, hOf]
theorem dig3 {n : Nat} (h : n ≤ 999) : 100 * (n / 100 % 10) + 10 * (n / 10 % 10) + n % 10 = n := by
  have e : n / 10 / 10 = n / 100 := by rw [Nat.div_div_eq_div_mul]
  omega
/-- A right slot is found by its name. -/
theorem find_of_name {s : Shp} {x : Slt} {size : Nat} (hr : rightF s = true) (hx : slotRight s x size = true) : findSF s (strN (nameL s x)) = (x, 0) := by
  obtain ⟨k, t, hxc, hk, hxt, ht9, htt, hh3, b, r, hb, hb39, hrw, hr30⟩ := right_slot hr hx
  obtain ⟨xc, xt, xh⟩ := x
  simp only at hxc hxt hh3
  subst hxc hxt
  obtain ⟨q1, q3, hqh⟩ := hq_le hh3
  have hname : nameL s ⟨(k : Int), (t : Int), xh⟩ = num3 (4 * b + qOf xh) ++ num2 r ++ num2 ((2 * (t + 1) + if (s.cols.getD k default).deck then 80 else 0) % 100) := by
    unfold nameL
    simp only [Int.toNat_natCast]
    rw [hb, hrw]; rfl
  rw [hname, nums_dig]
  generalize hdk : (s.cols.getD k default).deck = dk at *
  generalize hT : (2 * (t + 1) + if dk then 80 else 0) = T at *
  have hTb : T = 2 * (t + 1) + (if dk then 80 else 0) := hT.symm
  generalize hN : 4 * b + qOf xh = n at *
  have hn : n ≤ 999 := by omega
  obtain ⟨h7, hall, e0, e1, e2, e3, e4, e5, e6⟩ := dig7_ok (d0 := n / 100 % 10) (d1 := n / 10 % 10) (d2 := n % 10) (d3 := r / 10 % 10) (d4 := r % 10) (d5 := T % 100 / 10 % 10) (d6 := T % 100 % 10) (by omega) _ rfl
  generalize strN (dig7 (n / 100 % 10) (n / 10 % 10) (n % 10) (r / 10 % 10) (r % 10) (T % 100 / 10 % 10) (T % 100 % 10)) = nm at *
  have hp : placeN nm = n := by unfold placeN; rw [e0, e1, e2]; exact dig3 hn
  have hrN : rowN nm = r := by unfold rowN; rw [e3, e4]; omega
  have hl : lastN nm = T % 100 := by unfold lastN; rw [e5, e6]; omega
  have hT2 : T % 2 = 0 ∧ 2 ≤ T ∧ T ≤ 100 ∧ (dk = false → T ≤ 20) ∧ (dk = true → 82 ≤ T) := by cases dk <;> simp at hTb ⊢ <;> omega
  have htn : tierN nm = T := by
    unfold tierN
    rw [hl]
    split <;> omega
  have hdec : decide (80 < tierN nm) = dk := by
    rw [htn]
    cases dk
    · simp; have := hT2.2.2.2.1 rfl; omega
    · simp; have := hT2.2.2.2.2 rfl; omega
  have hlev : levN nm = t := by
    unfold levN
    rw [htn]
    cases dk
    · have := hT2.2.2.2.1 rfl
      rw [if_neg (by omega)]; simp at hTb; omega
    · have := hT2.2.2.2.2 rfl
      rw [if_pos (by omega)]; simp at hTb; omega
  have hbad : ¬ badN nm := by
    unfold badN
    rw [hp, htn]
    cases dk
    · have := hT2.2.2.2.1 rfl; omega
    · have := hT2.2.2.2.2 rfl; omega
  have hff : findF s ((placeN nm / 4 : Nat) : Int) ((rowN nm : Nat) : Int) (decide (80 < tierN nm)) = ((k : Int), true) := by
    refine findF_at (right_nodup hr) hk ?_
    unfold findB
    rw [hb, hrw, hdk, hdec, hp, hrN]
    simp
    omega
  unfold findSF
  rw [if_neg (by rw [hr]; simp), if_neg (by omega), if_neg (by rw [hall]; simp), if_neg hbad]
  unfold findGood
  simp only [hff]
  rw [if_neg (by
    rintro (h | h)
    · cases h
    · simp only [Int.toNat_natCast] at h; rw [hlev] at h; omega)]
  rw [hlev, hp, show n % 4 = qOf xh by omega, hqh]
theorem num_back {n d0 d1 d2 : Nat} (h0 : d0 ≤ 9) (h1 : d1 ≤ 9) (h2 : d2 ≤ 9) (hn : n = 100 * d0 + 10 * d1 + d2) : n / 100 % 10 = d0 ∧ n / 10 % 10 = d1 ∧ n % 10 = d2 := by
  subst hn
  refine ⟨?_, ?_, ?_⟩ <;> omega
theorem num_back2 {n d0 d1 : Nat} (h0 : d0 ≤ 9) (h1 : d1 ≤ 9) (hn : n = 10 * d0 + d1) : n / 10 % 10 = d0 ∧ n % 10 = d1 := by
  subst hn
  refine ⟨?_, ?_⟩ <;> omega
/-- Seven bytes that are digits are the text of their digits. -/
theorem text_back {nm : ByteArray} (h7 : nm.size = 7) (hd : ∀ i, i < 7 → digOK nm i = true) : strN (dig7 (dN nm 0) (dN nm 1) (dN nm 2) (dN nm 3) (dN nm 4) (dN nm 5) (dN nm 6)) = nm := by
  have hb : ∀ i, i < 7 → byteAt nm i = 48 + dN nm i := fun i hi => by
    have := hd i hi
    unfold digOK at this
    simp only [Bool.and_eq_true, decide_eq_true_eq] at this
    unfold dN; omega
  apply ByteArray.ext
  apply Array.ext
  · show (strN _).size = nm.size
    rw [strN_size, h7]; rfl
  · intro i h1 h2
    have h2 : i < nm.size := h2
    have hi : i < 7 := by omega
    have hbi := hb i hi
    have e1 : byteAt nm i = (nm.data[i]'(by exact h2)).toNat := by
      unfold byteAt Array.getD
      rw [dif_pos (show i < nm.data.size from h2)]
      rfl
    rw [e1] at hbi
    have e2 : (strN (dig7 (dN nm 0) (dN nm 1) (dN nm 2) (dN nm 3) (dN nm 4) (dN nm 5) (dN nm 6))).data[i] = UInt8.ofNat (48 + dN nm i) := by
      rcases (by omega : i = 0 ∨ i = 1 ∨ i = 2 ∨ i = 3 ∨ i = 4 ∨ i = 5 ∨ i = 6) with rfl | rfl | rfl | rfl | rfl | rfl | rfl <;> rfl
    refine Eq.trans e2 ?_
    rw [← hbi]
    simp
theorem hOf_back {q : Nat} (h1 : 1 ≤ q) (h3 : q ≤ 3) : qOf (hOf q) = q ∧ hOf q < 3 := by
  rcases (by omega : q = 1 ∨ q = 2 ∨ q = 3) with rfl | rfl | rfl <;> simp [qOf, hOf]
/-- What is found has the text as its name. -/
theorem name_of_find {s : Shp} {nm : ByteArray} {y : Slt} (h : findSF s nm = (y, 0)) : nameF s y = (nameL s y, 0) ∧ strN (nameL s y) = nm := by
  unfold findSF at h
  by_cases hr : rightF s = false
  · rw [if_pos hr] at h; cases h
  rw [if_neg hr] at h
  by_cases h7 : nm.size ≠ 7
  · rw [if_pos h7] at h; cases h
  rw [if_neg h7] at h
  by_cases ha : (List.range 7).all (digOK nm) = false
  · rw [if_pos ha] at h; cases h
  rw [if_neg ha] at h
  by_cases hb : badN nm
  · rw [if_pos hb] at h; cases h
  rw [if_neg hb] at h
  have hr : rightF s = true := by simpa using hr
  have h7 : nm.size = 7 := by omega
  have ha : (List.range 7).all (digOK nm) = true := by simpa using ha
  have hd : ∀ i, i < 7 → digOK nm i = true := fun i hi => List.all_eq_true.1 ha i (by simpa using hi)
  have hdn : ∀ i, i < 7 → dN nm i ≤ 9 := fun i hi => by
    have := hd i hi
    unfold digOK at this
    simp only [Bool.and_eq_true, decide_eq_true_eq] at this
    unfold dN; omega
  have htx := text_back h7 hd
  have a0 := hdn 0 (by omega)
  have a1 := hdn 1 (by omega)
  have a2 := hdn 2 (by omega)
  have a3 := hdn 3 (by omega)
  have a4 := hdn 4 (by omega)
  have a5 := hdn 5 (by omega)
  have a6 := hdn 6 (by omega)
  have hp : placeN nm = 100 * dN nm 0 + 10 * dN nm 1 + dN nm 2 := rfl
  have hrw : rowN nm = 10 * dN nm 3 + dN nm 4 := rfl
  have hla : lastN nm = 10 * dN nm 5 + dN nm 6 := rfl
  have hti : tierN nm = if lastN nm = 0 then 100 else lastN nm := rfl
  have hle : levN nm = (if 80 < tierN nm then tierN nm - 80 else tierN nm) / 2 - 1 := rfl
  have hbd : ¬ (placeN nm % 4 = 0 ∨ tierN nm % 2 = 1 ∨ (20 < tierN nm ∧ tierN nm < 82)) := hb
  clear hb hd hdn ha
  unfold findGood at h
  simp only at h
  generalize hf : findF s ((placeN nm / 4 : Nat) : Int) ((rowN nm : Nat) : Int) (decide (80 < tierN nm)) = r at h
  by_cases hc : r.2 = false ∨ (s.cols.getD r.1.toNat default).tiers ≤ (levN nm : Int)
  · rw [if_pos hc] at h; cases h
  rw [if_neg hc] at h
  have hy : y = ⟨r.1, (levN nm : Int), hOf (placeN nm % 4)⟩ := by injection h with h1 _; exact h1.symm
  have hr2 : r.2 = true := by
    cases hh : r.2 with
    | true => rfl
    | false => exact absurd (Or.inl hh) hc
  obtain ⟨k, hk, hk1, hfb⟩ := findF_some (s := s) (a := ((placeN nm / 4 : Nat) : Int)) (b := ((rowN nm : Nat) : Int)) (d := decide (80 < tierN nm)) (by rw [hf]; exact hr2)
  rw [hf] at hk1
  rw [hk1] at hy hc
  simp only [Int.toNat_natCast] at hc
  have htl : ((levN nm : Nat) : Int) < (s.cols.getD k default).tiers := by
    rcases Int.lt_or_le ((levN nm : Nat) : Int) (s.cols.getD k default).tiers with h1 | h1
    · exact h1
    · exact absurd (Or.inr h1) hc
  unfold findB at hfb
  simp only [Bool.and_eq_true, beq_iff_eq] at hfb
  obtain ⟨g1, g2, g3⟩ := hfb
  have hq : 1 ≤ placeN nm % 4 ∧ placeN nm % 4 ≤ 3 := by omega
  obtain ⟨hqb, hh3⟩ := hOf_back hq.1 hq.2
  have hsr : slotRight s y 20 = true ∨ slotRight s y 40 = true := by
    rw [hy]
    unfold slotRight
    simp only [Int.toNat_natCast, Bool.and_eq_true, decide_eq_true_eq]
    by_cases h0 : hOf (placeN nm % 4) = 0
    · right; refine ⟨by omega, by omega, by omega, htl, by rw [h0]; rfl⟩
    · left; refine ⟨by omega, by omega, by omega, htl, ?_⟩
      rcases (by omega : hOf (placeN nm % 4) = 1 ∨ hOf (placeN nm % 4) = 2) with h1 | h1 <;> rw [h1] <;> rfl
  refine ⟨?_, ?_⟩
  · unfold nameF
    rw [if_neg (by rw [hr]; simp), if_neg (by rintro ⟨e1, e2⟩; rcases hsr with e | e <;> simp [e] at e1 e2)]
  · have hT : (2 * (levN nm + 1) + if (s.cols.getD k default).deck then 80 else 0) = tierN nm := by
      rw [g3, hle]
      have ht2 : 2 ≤ tierN nm := by
        rcases Nat.eq_zero_or_pos (lastN nm) with hl0 | hl0
        · rw [if_pos hl0] at hti; omega
        · rw [if_neg (by omega)] at hti; omega
      by_cases h80 : 80 < tierN nm
      · rw [if_pos h80, decide_eq_true h80, if_pos rfl]; omega
      · rw [if_neg h80, decide_eq_false h80, if_neg (by simp)]; omega
    have hnm : nameL s y = num3 (placeN nm) ++ num2 (rowN nm) ++ num2 (lastN nm) := by
      rw [hy]
      unfold nameL
      simp only [Int.toNat_natCast]
      rw [g1, g2, hT, hqb]
      simp only [Int.toNat_natCast]
      rw [show 4 * (placeN nm / 4) + placeN nm % 4 = placeN nm by omega, show tierN nm % 100 = lastN nm by rw [hti]; split <;> omega]
    obtain ⟨p0, p1, p2⟩ := num_back a0 a1 a2 hp
    obtain ⟨p3, p4⟩ := num_back2 a3 a4 hrw
    obtain ⟨p5, p6⟩ := num_back2 a5 a6 hla
    rw [hnm, nums_dig, p0, p1, p2, p3, p4, p5, p6]
    exact htx
end Go.Proofs.YtdhhiaheonlldaaDoor
