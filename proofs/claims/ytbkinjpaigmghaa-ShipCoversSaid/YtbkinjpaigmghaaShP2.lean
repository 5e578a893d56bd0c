/-
  Plain facts for ShipCovers: each column has at most one cover.
-/
import Derived.Test.YtbkinjpaigmghaaShQ
namespace Go.Proofs.Ytbkinjpaigmghaa
open Go.RowKit

theorem pick_pos {α : Type} (p : α → Bool) (l : List α) (d : α) : 0 < (pick p l).length ↔ ∃ m, m < l.length ∧ p (l.getD m d) = true := by
  constructor
  · intro h
    cases hp : pick p l with
    | nil => rw [hp] at h; simp at h
    | cons z L =>
      obtain ⟨m, h1, _, h3⟩ := (mem_pick p d z l).1 (by rw [hp]; simp)
      exact ⟨m, h1, h3⟩
  · rintro ⟨m, h1, h2⟩
    exact List.length_pos_of_mem ((mem_pick p d m l).2 ⟨m, h1, rfl, h2⟩)
theorem covB_iff (x : Cov) (c : Col) : covB x c = true ↔ x.bay = c.bay ∧ c.row ∈ x.rows := by
  unfold covB
  rw [Bool.and_eq_true, beq_iff_eq, decide_eq_true_iff, pick_pos _ _ 0]
  constructor
  · rintro ⟨h1, m, h2, h3⟩
    rw [beq_iff_eq] at h3
    exact ⟨h1, by rw [← h3]; exact getD_memD h2 0⟩
  · rintro ⟨h1, h2⟩
    obtain ⟨m, hm, e⟩ := List.getElem_of_mem h2
    exact ⟨h1, m, hm, by simp [hm, e]⟩
/-- Two covers of a ship do not cover one column. -/
theorem cov_one {s : Shp} (h : Bu s) (c : Col) {j k : Nat} (hj : j < s.covs.length) (hk : k < s.covs.length) (h1 : covB (s.covs.getD j default) c = true) (h2 : covB (s.covs.getD k default) c = true) : j = k := by
  have hn := (sub_flatMap keysX h.sub).nodup all_keys
  rw [covB_iff] at h1 h2
  have key : ∀ (l : List Cov) (j k : Nat), (l.flatMap keysX).Nodup → j < k → k < l.length → (l.getD j default).bay = c.bay → c.row ∈ (l.getD j default).rows → (l.getD k default).bay = c.bay → c.row ∈ (l.getD k default).rows → False := by
    intro l
    induction l with
    | nil => intro j k _ _ hk; simp at hk
    | cons x l ih =>
      intro j k hn hjk hk a1 a2 a3 a4
      rw [List.flatMap_cons, List.nodup_append] at hn
      cases k with
      | zero => omega
      | succ k =>
        simp at hk a3 a4
        cases j with
        | zero =>
          simp at a1 a2
          have m1 : (c.bay, c.row, (2 : Int)) ∈ keysX x := List.mem_map.2 ⟨c.row, a2, by rw [a1]⟩
          have m2 : (c.bay, c.row, (2 : Int)) ∈ l.flatMap keysX := List.mem_flatMap.2 ⟨l.getD k default, getD_memD hk default, List.mem_map.2 ⟨c.row, by simpa using a4, by simp [a3]⟩⟩
          exact hn.2.2 _ m1 _ m2 rfl
        | succ j =>
          simp at a1 a2
          exact ih j k hn.2.1 (by omega) hk (by simpa using a1) (by simpa using a2) (by simpa using a3) (by simpa using a4)
  rcases Nat.lt_trichotomy j k with hlt | heq | hgt
  · exact (key _ j k hn hlt hk h1.1 h1.2 h2.1 h2.2).elim
  · exact heq
  · exact (key _ k j hn hgt hj h2.1 h2.2 h1.1 h1.2).elim
/-- The cover of a column. -/
theorem cover_iff {s : Shp} (h : Bu s) {c k : Nat} (hc : c < s.cols.length) (hk : k < s.covs.length) : coverOfF s c = (k : Int) ↔ covB (s.covs.getD k default) (s.cols.getD c default) = true := by
  have he : coverOfF s c = match pick (fun x => covB x (s.cols.getD c default)) s.covs with | [] => -1 | i :: _ => i := by unfold coverOfF; rw [if_neg (by omega), Int.toNat_natCast]; rfl
  rw [he]
  constructor
  · intro e
    cases hp : pick (fun x => covB x (s.cols.getD c default)) s.covs with
    | nil =>
      rw [hp] at e
      have e' : (-1 : Int) = (k : Int) := e
      omega
    | cons z L =>
      rw [hp] at e
      have e' : z = (k : Int) := e
      obtain ⟨m, h1, h2, h3⟩ := (mem_pick _ default z s.covs).1 (by rw [hp]; simp)
      have : m = k := by omega
      rw [← this]; exact h3
  · intro hb
    obtain ⟨L, hL⟩ := pick_first (fun x => covB x (s.cols.getD c default)) s.covs default k hk hb (fun j hj => by
      cases hv : covB (s.covs.getD j default) (s.cols.getD c default) with
      | false => rfl
      | true => have := cov_one h _ (by omega) hk hv hb; omega)
    rw [hL]
theorem cover_none {s : Shp} (h : Bu s) {c : Nat} (hc : c < s.cols.length) : coverOfF s c = -1 ∨ ∃ k, k < s.covs.length ∧ coverOfF s c = (k : Int) := by
  have he : coverOfF s c = match pick (fun x => covB x (s.cols.getD c default)) s.covs with | [] => -1 | i :: _ => i := by unfold coverOfF; rw [if_neg (by omega), Int.toNat_natCast]; rfl
  rw [he]
  cases hp : pick (fun x => covB x (s.cols.getD c default)) s.covs with
  | nil => exact .inl rfl
  | cons z L =>
    obtain ⟨m, h1, h2, h3⟩ := (mem_pick _ default z s.covs).1 (by rw [hp]; simp)
    exact .inr ⟨m, h1, h2⟩
theorem along_iff {s : Shp} (h : Bu s) {k : Nat} (hk : k < s.covs.length) (deck : Bool) (z : Int) : z ∈ alongF s k deck ↔ ∃ c : Nat, c < s.cols.length ∧ z = (c : Int) ∧ (s.cols.getD c default).deck = deck ∧ coverOfF s c = (k : Int) := by
  have he : alongF s k deck = pick (alongB (s.covs.getD k default) deck) s.cols := by unfold alongF; rw [if_neg (by omega), Int.toNat_natCast]
  rw [he, mem_pick _ default]
  constructor
  · rintro ⟨m, h1, h2, h3⟩
    unfold alongB at h3
    rw [Bool.and_eq_true, beq_iff_eq] at h3
    exact ⟨m, h1, h2, h3.1, (cover_iff h h1 hk).2 h3.2⟩
  · rintro ⟨m, h1, h2, h3, h4⟩
    refine ⟨m, h1, h2, ?_⟩
    unfold alongB
    rw [Bool.and_eq_true, beq_iff_eq]
    exact ⟨h3, (cover_iff h h1 hk).1 h4⟩
theorem along_nodup {s : Shp} {k : Nat} (hk : k < s.covs.length) (deck : Bool) : (alongF s k deck).Nodup := by
  have he : alongF s k deck = pick (alongB (s.covs.getD k default) deck) s.cols := by unfold alongF; rw [if_neg (by omega), Int.toNat_natCast]
  rw [he]; exact pick_nodup _ _
theorem along_len {s : Shp} (h : Bu s) (k : Int) (deck : Bool) : (alongF s k deck).length ≤ 12 := by
  unfold alongF
  split
  · simp
  · have := pick_len (alongB (s.covs.getD k.toNat default) deck) s.cols
    have := h.few
    omega
theorem cover_bay {s : Shp} (h : Bu s) {c k : Nat} (hc : c < s.cols.length) (hk : k < s.covs.length) (he : coverOfF s c = (k : Int)) : (s.cols.getD c default).bay = (s.covs.getD k default).bay := ((covB_iff _ _).1 ((cover_iff h hc hk).1 he)).1.symm
/-- Counts of columns, as a block of ints. -/
def metA (n : Nat) (M : Nat → Nat) : Array Value := ((List.range n).map fun c => Value.int .i64 (M c : Nat)).toArray
theorem metA_at (n : Nat) (M : Nat → Nat) (c : Nat) (h : c < n) : (metA n M)[c]? = some (.int .i64 (M c : Nat)) := by simp [metA, h]
theorem metA_size (n : Nat) (M : Nat → Nat) : (metA n M).size = n := by simp [metA]
theorem metA_set (n : Nat) (M : Nat → Nat) (c v : Nat) (h : c < n) : (metA n M).setIfInBounds c (.int .i64 (v : Nat)) = metA n (fun x => if x = c then v else M x) := by
  apply Array.ext_getElem?
  intro i
  rw [Array.getElem?_setIfInBounds, metA_size]
  by_cases hi : i < n
  · rw [metA_at n _ i hi, metA_at n _ i hi]
    by_cases e : c = i
    · subst e; rw [if_pos rfl, if_pos h]; simp
    · rw [if_neg e]; simp [Ne.symm e]
  · rw [if_neg (by omega), Array.getElem?_eq_none (by rw [metA_size]; omega), Array.getElem?_eq_none (by rw [metA_size]; omega)]
theorem metA_congr (n : Nat) (M N : Nat → Nat) (h : ∀ c, c < n → M c = N c) : metA n M = metA n N := by
  apply Array.ext_getElem?
  intro i
  by_cases hi : i < n
  · rw [metA_at n _ i hi, metA_at n _ i hi, h i hi]
  · rw [Array.getElem?_eq_none (by rw [metA_size]; omega), Array.getElem?_eq_none (by rw [metA_size]; omega)]
end Go.Proofs.Ytbkinjpaigmghaa
