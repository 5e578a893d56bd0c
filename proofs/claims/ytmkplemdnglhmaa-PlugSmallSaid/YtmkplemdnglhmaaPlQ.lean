/-
  Ships with plugs, boxes with reefers: plain facts.
-/
import Derived.Test.YtmkplemdnglhmaaPlZ
import Derived.Test.YtmkplemdnglhmaaStR
namespace Go.Proofs.Ytmkplemdnglhmaa
open Go.RowKit

/-- The tiers of a column that get a plug. -/
def pgL (bt : Nat → Bool) (i : Nat) (T : Int) : List Int := ((List.range T.toNat).filter fun t : Nat => bt ((5 * i + t) % 64)).map fun t : Nat => (t : Int)
def pgC (bt : Nat → Bool) (i : Nat) (c : Col) : Col := { c with plugs := pgL bt i c.tiers }
/-- The columns of which the first k have plugs. -/
def pgTo (bt : Nat → Bool) (l : List Col) (k : Nat) : List Col := (List.range l.length).map fun i => if i < k then pgC bt i (l.getD i default) else l.getD i default
theorem pgTo_len (bt : Nat → Bool) (l : List Col) (k : Nat) : (pgTo bt l k).length = l.length := by simp [pgTo]
theorem pgTo_at (bt : Nat → Bool) (l : List Col) {k i : Nat} (h : i < l.length) : (pgTo bt l k)[i]? = some (if i < k then pgC bt i (l.getD i default) else l.getD i default) := by
  unfold pgTo
  rw [List.getElem?_map, List.getElem?_range h]; rfl
theorem pgTo_zero (bt : Nat → Bool) (l : List Col) : pgTo bt l 0 = l := by
  apply List.ext_getElem?
  intro i
  by_cases h : i < l.length
  · rw [pgTo_at bt l h]; simp [h]
  · rw [List.getElem?_eq_none (by rw [pgTo_len]; omega), List.getElem?_eq_none (by omega)]
theorem pgTo_set (bt : Nat → Bool) (l : List Col) {k : Nat} (h : k < l.length) : (pgTo bt l k).set k (pgC bt k (l.getD k default)) = pgTo bt l (k + 1) := by
  apply List.ext_getElem?
  intro i
  rw [List.getElem?_set]
  by_cases hi : i < l.length
  · rw [pgTo_at bt l hi, pgTo_at bt l hi, pgTo_len]
    by_cases e : k = i
    · subst e; simp [hi]
    · rw [if_neg e]
      by_cases hk : i < k
      · rw [if_pos hk, if_pos (by omega)]
      · rw [if_neg hk, if_neg (by omega)]
  · have e : k ≠ i := by omega
    rw [if_neg e, List.getElem?_eq_none (by rw [pgTo_len]; omega), List.getElem?_eq_none (by rw [pgTo_len]; omega)]
/-- The plugs of the first t tiers. -/
def pgN (bt : Nat → Bool) (i t : Nat) : List Int := ((List.range t).filter fun t : Nat => bt ((5 * i + t) % 64)).map fun t : Nat => (t : Int)
theorem pgN_zero (bt : Nat → Bool) (i : Nat) : pgN bt i 0 = [] := rfl
theorem pgN_succ (bt : Nat → Bool) (i t : Nat) : pgN bt i (t + 1) = pgN bt i t ++ if bt ((5 * i + t) % 64) then [(t : Int)] else [] := by
  unfold pgN
  rw [List.range_succ, List.filter_append, List.map_append]
  congr 1
  simp only [List.filter_cons, List.filter_nil]
  split <;> rfl
theorem pgN_len (bt : Nat → Bool) (i t : Nat) : (pgN bt i t).length ≤ t := by
  unfold pgN
  have := List.length_filter_le (fun t => bt ((5 * i + t) % 64)) (List.range t)
  simpa using this
theorem pgL_eq (bt : Nat → Bool) (i : Nat) (T : Int) : pgL bt i T = pgN bt i T.toNat := rfl
theorem mem_pgL {bt : Nat → Bool} {i : Nat} {T t : Int} : t ∈ pgL bt i T ↔ 0 ≤ t ∧ t < T ∧ bt ((5 * i + t.toNat) % 64) = true := by
  unfold pgL
  simp only [List.mem_map, List.mem_filter, List.mem_range]
  constructor
  · rintro ⟨k, ⟨h1, h2⟩, rfl⟩
    exact ⟨by omega, by omega, by simpa using h2⟩
  · rintro ⟨h1, h2, h3⟩
    exact ⟨t.toNat, ⟨by omega, h3⟩, by omega⟩
theorem pgL_sorted (bt : Nat → Bool) (i : Nat) (T : Int) : (pgL bt i T).Pairwise (· < ·) := by
  unfold pgL
  rw [List.pairwise_map]
  exact (List.Pairwise.filter _ List.pairwise_lt_range).imp fun h => by omega
theorem pgL_ok (bt : Nat → Bool) (i : Nat) (c : Col) (hT : 1 ≤ c.tiers ∧ c.tiers ≤ 100) : (List.range (pgC bt i c).plugs.length).all (plugOK (pgC bt i c)) = true := by
  rw [List.all_eq_true]
  intro k hk
  have hk' : k < (pgL bt i c.tiers).length := List.mem_range.1 hk
  have h1 := pgL_sorted bt i c.tiers
  have h2 := mem_pgL.1 (getD_memD hk' 0)
  have h3 : 0 < k → (pgL bt i c.tiers).getD (k - 1) 0 < (pgL bt i c.tiers).getD k 0 := fun h0 => by
    have := (List.pairwise_iff_getElem.1 h1) (k - 1) k (by omega) hk' (by omega)
    rw [List.getD_eq_getElem?_getD, List.getD_eq_getElem?_getD, List.getElem?_eq_getElem hk', List.getElem?_eq_getElem (show k - 1 < _ by omega)]
    exact this
  have hw : wrap64 (c.tiers - 1) = c.tiers - 1 := IntWalk.wrap64_in _ (by omega)
  unfold plugOK
  show (inB ((pgL bt i c.tiers).getD k 0, 0, wrap64 (c.tiers - 1)) && !(decide (0 < k) && decide ((pgL bt i c.tiers).getD k 0 ≤ (pgL bt i c.tiers).getD (k - 1) 0))) = true
  rw [hw]
  generalize (pgL bt i c.tiers).getD k 0 = a at *
  generalize (pgL bt i c.tiers).getD (k - 1) 0 = b at *
  simp [inB]
  refine ⟨by omega, ?_⟩
  rcases Nat.eq_zero_or_pos k with h0 | h0
  · exact .inl h0
  · exact .inr (h3 h0)
/-- The ship with plugs. -/
def pgS (bt : Nat → Bool) (s : Shp) : Shp := { s with cols := pgTo bt s.cols s.cols.length }
theorem pgS_get (bt : Nat → Bool) (s : Shp) {i : Nat} (h : i < s.cols.length) : (pgS bt s).cols.getD i default = pgC bt i (s.cols.getD i default) := by
  unfold pgS
  rw [List.getD_eq_getElem?_getD]
  show ((pgTo bt s.cols s.cols.length)[i]?).getD default = _
  rw [pgTo_at bt s.cols h, if_pos h]; rfl
theorem pgS_len (bt : Nat → Bool) (s : Shp) : (pgS bt s).cols.length = s.cols.length := pgTo_len _ _ _
theorem mem_pgS {bt : Nat → Bool} {s : Shp} {c : Col} (h : c ∈ (pgS bt s).cols) : ∃ i, i < s.cols.length ∧ c = pgC bt i (s.cols.getD i default) := by
  obtain ⟨i, hi, rfl⟩ := List.getElem_of_mem h
  have hi' : i < s.cols.length := by rw [pgS_len] at hi; exact hi
  refine ⟨i, hi', ?_⟩
  have := pgS_get bt s hi'
  rw [List.getD_eq_getElem?_getD, List.getElem?_eq_getElem hi] at this
  exact this
theorem pgS_right {bt : Nat → Bool} {s : Shp} (h : Bu s) : rightF (pgS bt s) = true := by
  have hr := h.right
  unfold rightF at hr ⊢
  simp only [Bool.and_eq_true, decide_eq_true_eq] at hr ⊢
  refine ⟨by rw [pgS_len]; exact hr.1, ?_, hr.2.2.1, ?_⟩
  · rw [List.all_eq_true]
    intro c hc
    obtain ⟨i, hi, rfl⟩ := mem_pgS hc
    have hg := h.col hi
    have ht := hg.tiers
    have h0 := List.all_eq_true.1 hr.2.1 _ (getD_memD hi default)
    unfold colOK at h0 ⊢
    rw [Bool.and_eq_true] at h0 ⊢
    exact ⟨pgL_ok bt i _ (by omega), h0.2⟩
  · have he : keysOf (pgS bt s) = keysOf s := by
      unfold keysOf
      congr 1
      apply List.ext_getElem?
      intro i
      rw [List.getElem?_map, List.getElem?_map]
      by_cases hi : i < s.cols.length
      · have h1 : (pgS bt s).cols[i]? = some (pgC bt i (s.cols.getD i default)) := by
          show (pgTo bt s.cols s.cols.length)[i]? = _
          rw [pgTo_at bt s.cols hi, if_pos hi]
        rw [h1, List.getElem?_eq_getElem hi]
        simp [pgC, keyC, hi]
      · rw [List.getElem?_eq_none (by rw [pgS_len]; omega), List.getElem?_eq_none (by omega)]
    rw [he]
    exact hr.2.2.2
theorem pg_lm {bt : Nat → Bool} {s : Shp} (h : Bu s) : Lm (pgS bt s) := by
  refine ⟨pgS_right h, ⟨?_, h.Few.covs, h.Few.rows, ?_⟩, ⟨?_⟩, ?_, ?_, ?_, ?_⟩
  · have := h.few; rw [pgS_len]; omega
  · intro c hc
    obtain ⟨i, hi, rfl⟩ := mem_pgS hc
    have ht := (h.col hi).tiers
    show (pgL bt i _).length ≤ _
    rw [pgL_eq]
    have := pgN_len bt i (s.cols.getD i default).tiers.toNat
    omega
  · intro c hc
    obtain ⟨i, hi, rfl⟩ := mem_pgS hc
    have := h.ints.cols _ (getD_memD hi default)
    exact this
  · rw [pgS_len]; exact h.one
  · rw [pgS_len]; exact h.few
  · intro c hc
    obtain ⟨i, hi, rfl⟩ := mem_pgS hc
    have hg := h.col hi
    have ht := hg.tiers
    refine ⟨ht.1, ht.2, hg.height, ?_⟩
    show 0 ≤ (s.cols.getD i default).k20 ∧ _
    have h1 := hg.k20; have h2 := hg.k40; have h3 := hg.lash
    simp only [pgC]
    omega
  · show 0 ≤ s.m0 ∧ _
    rw [h.eq]
    show (0 : Int) ≤ 0 ∧ (0 : Int) ≤ 25500
    omega
/-- Each tier's plug is as its bit says. -/
def Pg (bt : Nat → Bool) (s : Shp) : Prop := ∀ i, i < s.cols.length → (s.cols.getD i default).plugs = pgL bt i (s.cols.getD i default).tiers
theorem pgS_pg (bt : Nat → Bool) (s : Shp) : Pg bt (pgS bt s) := fun i hi => by
  rw [pgS_get bt s (by rw [pgS_len] at hi; exact hi)]; rfl
theorem Pg.at_ {bt : Nat → Bool} {s : Shp} (h : Pg bt s) {i t : Nat} (hi : i < s.cols.length) (ht : (t : Int) < (s.cols.getD i default).tiers) : pluggedB s i t = bt ((5 * i + t) % 64) := by
  rw [Bool.eq_iff_iff, plugged_iff]
  constructor
  · rintro ⟨k, hk, e, h0, h1, h2⟩
    obtain rfl : i = k := by omega
    rw [h i hk] at h2
    have := (mem_pgL.1 h2).2.2
    simpa using this
  · intro hb
    refine ⟨i, hi, rfl, by omega, ht, ?_⟩
    rw [h i hi]
    exact mem_pgL.2 ⟨by omega, ht, by simpa using hb⟩
/-- Boxes but for their reefers. -/
def nr (b : Bx) : Bx := { b with reefer := false }
theorem nr_idx {bs bs' : List Bx} (h : bs'.map nr = bs.map nr) (id : Int) : idxF (idB id) bs' = idxF (idB id) bs := by
  have key : ∀ l : List Bx, l.findIdx? (idB id) = (l.map nr).findIdx? (idB id) := fun l => by
    rw [List.findIdx?_map]; rfl
  unfold idxF
  rw [key bs', key bs, h]
theorem nr_find {bs bs' : List Bx} (h : bs'.map nr = bs.map nr) (id : Int) : (findBx bs' id).2 = (findBx bs id).2 ∧ nr (findBx bs' id).1 = nr (findBx bs id).1 := by
  unfold findBx
  rw [nr_idx h id]
  split
  · exact ⟨rfl, rfl⟩
  · refine ⟨rfl, ?_⟩
    have hl : bs'.length = bs.length := by have := congrArg List.length h; simpa using this
    generalize (idxF (idB id) bs).toNat = k
    have e := congrArg (fun l => l[k]?) h
    simp only [List.getElem?_map] at e
    simp only [List.getD_eq_getElem?_getD]
    by_cases hk : k < bs.length
    · rw [List.getElem?_eq_getElem hk, List.getElem?_eq_getElem (by omega)] at e ⊢
      simpa using e
    · rw [List.getElem?_eq_none (by omega), List.getElem?_eq_none (by omega)]
theorem nr_size {b b' : Bx} (h : nr b' = nr b) : b'.size = b.size ∧ b'.high = b.high ∧ b'.id = b.id ∧ b'.kilos = b.kilos := by
  obtain ⟨b0, b1, b2, b3, b4, b5, b6, b7, b8⟩ := b
  obtain ⟨c0, c1, c2, c3, c4, c5, c6, c7, c8⟩ := b'
  simp [nr] at h
  simp [h]
theorem nr_right {s : Shp} {bs bs' : List Bx} {st : List Stw} (h : bs'.map nr = bs.map nr) : stowRight s bs' st = stowRight s bs st := by
  have h1 : ∀ i, stowAt s bs' st i = stowAt s bs st i := fun i => by
    unfold stowAt
    have h2 := nr_find h (st.getD i default).box
    rw [h2.1, (nr_size h2.2).1]
  have h3 : ∀ col half, heightF bs' st col half = heightF bs st col half := fun col half => by
    unfold heightF
    congr 1
    refine List.map_congr_left fun x _ => ?_
    unfold htOf
    have h2 := nr_find h x.box
    rw [h2.1]
    have h4 : tallB (findBx bs' x.box).1 = tallB (findBx bs x.box).1 := by unfold tallB; rw [(nr_size h2.2).2.1]
    rw [h4]
  have h5 : ∀ c, fitsF s bs' st c = fitsF s bs st c := fun c => by unfold fitsF; rw [h3, h3]
  unfold stowRight
  congr 1
  congr 1
  · exact congrArg (List.all _) (funext h1)
  · exact congrArg (List.all _) (funext h5)
theorem nr_ld {s : Shp} {bs bs' : List Bx} {st : List Stw} (h : bs'.map nr = bs.map nr) (hd : Ld s bs st) : Ld s bs' st := by
  have hl : bs'.length = bs.length := by have := congrArg List.length h; simpa using this
  refine ⟨by rw [nr_right h]; exact hd.right, by rw [hl]; exact hd.nine, hd.stlen, fun b hb => ?_, ?_⟩
  · have hm : nr b ∈ bs.map nr := by rw [← h]; exact List.mem_map.2 ⟨b, hb, rfl⟩
    obtain ⟨b0, h0, e⟩ := List.mem_map.1 hm
    have hs := nr_size e
    have := hd.box b0 h0
    omega
  · have e : bs'.map (·.id) = bs.map (·.id) := by
      have := congrArg (List.map (·.id)) h
      rw [List.map_map, List.map_map] at this
      exact this
    rw [e]; exact hd.ids
/-- The first k boxes have reefers as a function says. -/
def rfB (q : Bool) (b : Bx) : Bx := { b with reefer := q }
theorem nr_set {bs bs0 : List Bx} (h : bs.map nr = bs0.map nr) {k : Nat} (q : Bool) : (bs.set k (rfB q (bs.getD k zBx))).map nr = bs0.map nr := by
  rw [List.map_set, ← h]
  apply List.ext_getElem?
  intro i
  rw [List.getElem?_set]
  split
  · rename_i e
    subst e
    by_cases hk : k < bs.length
    · simp [hk, rfB, nr]
    · simp [hk]
  · rfl
end Go.Proofs.Ytmkplemdnglhmaa
