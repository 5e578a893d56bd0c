/-
  Plain facts for PlugWrong.
-/
import Derived.Test.YthijgmkflfaccaaPsP
namespace Go.Proofs.Ythijgmkflfaccaa
open Go.RowKit

def b900w : Bx := ⟨900, ⟨#[]⟩, 40, false, 1, 0, 1, 0, false⟩
def bad12 (far none : Int) : List Stw := [⟨900, far, 0, 0⟩, ⟨900, 0, 10, 0⟩, ⟨900, 0, 0, 1⟩, ⟨901, 0, 0, 0⟩, ⟨900, none, 0, 0⟩]
theorem wrong12 {s : Shp} {bs : List Bx} {st : List Stw} (hl : Lm s) (hd : Ld s bs st) {far none : Int} (hf : (s.cols.length : Int) ≤ far) (hn : none < 0) : ∀ x ∈ bad12 far none, stowRight s (bs ++ [b900w]) (st ++ [x]) = false := by
  have h900 : findBx (bs ++ [b900w]) 900 = (b900w, true) := by
    rw [idx_append_new (fun b hb => by have := (hd.box b hb).2.2.2; omega)]
    rfl
  have h901 : findBx (bs ++ [b900w]) 901 = (zBx, false) := by
    rw [idx_append_new (fun b hb => by have := (hd.box b hb).2.2.2; omega)]
    rfl
  have out : ∀ (x : Slt), ¬ (0 ≤ x.col ∧ x.col < s.cols.length ∧ 0 ≤ x.tier ∧ x.tier < (s.cols.getD x.col.toNat default).tiers ∧ x.half ∈ halvesL 40) → slotRight s x 40 = false := fun x hx => by
    cases hr : slotRight s x 40 with
    | false => rfl
    | true => exact absurd (slot_in hr) hx
  intro x hx
  simp only [bad12, List.mem_cons, List.not_mem_nil, or_false] at hx
  refine stow_bad ?_
  rcases hx with rfl | rfl | rfl | rfl | rfl
  · right; show slotRight s ⟨far, 0, 0⟩ (findBx (bs ++ [b900w]) 900).1.size = false; rw [h900]; exact out _ (fun h => by have := h.2.1; simp only at this; omega)
  · right; show slotRight s ⟨0, 10, 0⟩ (findBx (bs ++ [b900w]) 900).1.size = false; rw [h900]
    refine out _ (fun h => ?_)
    have h1 := h.2.2.2.1
    have h2 := hl.at_ (k := 0) (by have := hl.one; omega)
    simp only [Int.toNat_zero] at h1
    omega
  · right; show slotRight s ⟨0, 0, 1⟩ (findBx (bs ++ [b900w]) 900).1.size = false; rw [h900]; exact out _ (fun h => by have := h.2.2.2.2; revert this; decide)
  · left; show (findBx (bs ++ [b900w]) 901).2 = false; rw [h901]
  · right; show slotRight s ⟨none, 0, 0⟩ (findBx (bs ++ [b900w]) 900).1.size = false; rw [h900]; exact out _ (fun h => by have := h.1; simp only at this; omega)
theorem more12 {s : Shp} {bs : List Bx} {st : List Stw} (hl : Lm s) (hd : Ld s bs st) {far none : Int} (hf : I64 far) (hn : I64 none) {x : Stw} (hx : x ∈ bad12 far none) : ∀ y ∈ st ++ [x], I64 y.slot.col ∧ I64 y.slot.tier := fun y hy => by
  rcases List.mem_append.1 hy with hy | hy
  · exact hd.i64s hl y hy
  · obtain rfl : y = x := by simpa using hy
    simp only [bad12, List.mem_cons, List.not_mem_nil, or_false] at hx
    unfold I64 at *
    rcases hx with rfl | rfl | rfl | rfl | rfl <;> simp only <;> omega
/-- A slot that there is not has no plug. -/
theorem at_not {s : Shp} {x : Slt} (h : x.col < 0 ∨ (s.cols.length : Int) ≤ x.col ∨ x.tier < 0 ∨ (s.cols.getD x.col.toNat default).tiers ≤ x.tier ∨ 2 < x.half) : atF s x = false := by
  have key : ∀ size, slotRight s x size = false := fun size => by
    cases hr : slotRight s x size with
    | false => rfl
    | true =>
      have h1 := slot_in hr
      have h2 : x.half < 3 := by
        have := h1.2.2.2.2
        unfold halvesL at this
        split at this
        · simp at this; omega
        · split at this
          · simp at this; omega
          · simp at this
      omega
  unfold atF
  rw [key 20, key 40]; rfl
theorem spare_none (s : Shp) (st : List Stw) : spareF s st 30 = [] := by
  have h : allF s 30 = [] := by
    rw [List.eq_nil_iff_forall_not_mem]
    intro x hx
    obtain ⟨c, t, _, _, _, _, h5⟩ := mem_all.1 hx
    simp [halvesL] at h5
  unfold spareF
  rw [h]; rfl
/-- The ship with two plugs more in its first column. -/
def morS (s : Shp) (a b : Int) : Shp := { s with cols := s.cols.set 0 { s.cols.getD 0 default with plugs := (s.cols.getD 0 default).plugs ++ [a, b] } }
theorem mor_get {s : Shp} {a b : Int} (h : 1 ≤ s.cols.length) (i : Nat) : (morS s a b).cols.getD i default = if i = 0 then { s.cols.getD 0 default with plugs := (s.cols.getD 0 default).plugs ++ [a, b] } else s.cols.getD i default := by
  unfold morS
  simp only [List.getD_eq_getElem?_getD, List.getElem?_set]
  by_cases e : i = 0
  · subst e; simp [show 0 < s.cols.length by omega]
  · rw [if_neg (fun h => e h.symm), if_neg e]
theorem mor_mem {s : Shp} {a b : Int} (h : 1 ≤ s.cols.length) {c : Col} (hc : c ∈ (morS s a b).cols) : c = { s.cols.getD 0 default with plugs := (s.cols.getD 0 default).plugs ++ [a, b] } ∨ c ∈ s.cols := by
  rcases List.mem_or_eq_of_mem_set hc with h1 | h1
  · exact .inr h1
  · exact .inl h1
theorem plugs_few {c : Col} (h4 : colOK c = true) (h1 : 1 ≤ c.tiers ∧ c.tiers ≤ 5) : c.plugs.length ≤ 100 := by
  unfold colOK at h4
  rw [Bool.and_eq_true] at h4
  have h5 := List.all_eq_true.1 h4.1
  have hw : wrap64 (c.tiers - 1) = c.tiers - 1 := IntWalk.wrap64_in _ (by omega)
  have hp : ∀ k, k < c.plugs.length → (0 ≤ c.plugs.getD k 0 ∧ c.plugs.getD k 0 ≤ c.tiers - 1) ∧ (0 < k → c.plugs.getD (k - 1) 0 < c.plugs.getD k 0) := fun k hk => by
    have := h5 k (List.mem_range.2 hk)
    unfold plugOK at this
    rw [hw] at this
    generalize c.plugs.getD k 0 = x at *
    generalize c.plugs.getD (k - 1) 0 = y at *
    simp [inB] at this
    omega
  have key : ∀ k, k < c.plugs.length → (k : Int) ≤ c.plugs.getD k 0 ∧ c.plugs.getD k 0 ≤ 4 := by
    intro k
    induction k with
    | zero =>
      intro hk
      have := (hp 0 hk).1
      omega
    | succ k ih =>
      intro hk
      have h6 := ih (by omega)
      have h7 := hp (k + 1) hk
      have h8 := h7.2 (by omega)
      rw [show k + 1 - 1 = k by omega] at h8
      omega
  rcases Nat.lt_or_ge 100 c.plugs.length with hh | hh
  · have := key 99 (by omega); omega
  · omega
theorem mor_few {s : Shp} {a b : Int} (h : Lm s) : Few (morS s a b) := by
  refine ⟨by have := h.twelve; show (s.cols.set 0 _).length ≤ _; rw [List.length_set]; omega, h.few.covs, h.few.rows, fun c hc => ?_⟩
  rcases mor_mem h.one hc with rfl | hc
  · have hm := getD_memD (show 0 < s.cols.length from h.one) default
    have h1 := h.col _ hm
    have h2 := h.right
    unfold rightF at h2
    simp only [Bool.and_eq_true] at h2
    have h3 := plugs_few (List.all_eq_true.1 h2.2.1 _ hm) (by omega)
    show ((s.cols.getD 0 default).plugs ++ [a, b]).length ≤ _
    simp only [List.length_append, List.length_cons, List.length_nil]
    omega
  · exact h.few.plugs c hc
theorem mor_ints {s : Shp} {a b : Int} (h : Lm s) : Ints (morS s a b) := ⟨fun c hc => by
  rcases mor_mem h.one hc with rfl | hc
  · have := h.ints.cols _ (getD_memD (show 0 < s.cols.length from h.one) default)
    exact this
  · exact h.ints.cols c hc⟩
theorem colP_more (i : Nat) (T : Int) (ps : List Int) (L : List (Int × Int)) {a b : Int} (ha : T ≤ a) (hb : b < 0) : colP i T (ps ++ [a, b]) L = colP i T ps L := by
  unfold colP
  rw [List.foldl_append]
  simp only [List.foldl_cons, List.foldl_nil]
  unfold stepP
  rw [if_neg (by omega), if_neg (by omega)]
theorem mor_sup {s : Shp} {a b : Int} (h : 1 ≤ s.cols.length) (ha : (s.cols.getD 0 default).tiers ≤ a) (hb : b < 0) : supF (morS s a b) = supF s := by
  have key : ∀ n, pairsTo (morS s a b).cols n = pairsTo s.cols n := by
    intro n
    induction n with
    | zero => rfl
    | succ n ih =>
      show colP n _ _ (pairsTo (morS s a b).cols n) = colP n _ _ (pairsTo s.cols n)
      rw [ih, mor_get h]
      by_cases e : n = 0
      · subst e
        rw [if_pos rfl]
        exact colP_more 0 _ _ _ ha hb
      · rw [if_neg e]
  unfold supF pairsF
  rw [key]
  show (pairsTo s.cols (s.cols.set 0 _).length).length = _
  rw [List.length_set]
end Go.Proofs.Ythijgmkflfaccaa
