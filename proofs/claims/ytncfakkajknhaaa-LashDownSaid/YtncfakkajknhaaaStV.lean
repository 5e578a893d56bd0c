/-
  Plain facts for StackSums: the kilos of all columns, of their halves, the bits of their faults.
-/
import Derived.Test.YtncfakkajknhaaaStQ
namespace Go.Proofs.Ytncfakkajknhaaa
open Go.RowKit

def wholeB (c : Int) (y : Slt) : Bool := y.col == c && y.half == 0
def allB (_ : Slt) : Bool := true
theorem sumF_cons (bs : List Bx) (x : Stw) (l : List Stw) (p : Slt → Bool) : sumF bs (x :: l) p = kgOf bs p x + sumF bs l p := rfl
theorem sumF_take (bs : List Bx) (l : List Stw) (p : Slt → Bool) {k : Nat} (h : k < l.length) : sumF bs (l.take (k + 1)) p = sumF bs (l.take k) p + kgOf bs p (l.getD k default) := sum_take_succ _ _ h _
theorem sumF_congr {bs : List Bx} {l : List Stw} {p q : Slt → Bool} (h : ∀ x ∈ l, p x.slot = q x.slot) : sumF bs l p = sumF bs l q := by
  unfold sumF
  congr 1
  refine List.map_congr_left fun x hx => ?_
  unfold kgOf
  rw [h x hx]
theorem sumF_parts (bs : List Bx) (c : Int) : ∀ l : List Stw, (∀ x ∈ l, x.slot.half < 3) → sumF bs l (colB c) = sumF bs l (halfB c 1) + sumF bs l (halfB c 2) + sumF bs l (wholeB c)
  | [], _ => rfl
  | x :: l, h => by
    have h1 := h x (by simp)
    have h2 := sumF_parts bs c l fun y hy => h y (by simp [hy])
    simp only [sumF_cons]
    rw [h2]
    have : kgOf bs (colB c) x = kgOf bs (halfB c 1) x + kgOf bs (halfB c 2) x + kgOf bs (wholeB c) x := by
      unfold kgOf colB halfB wholeB
      generalize x.slot.half = hf at *
      cases hc : x.slot.col == c
      · simp
      · have : hf = 0 ∨ hf = 1 ∨ hf = 2 := by omega
        rcases this with rfl | rfl | rfl <;> simp
    omega
/-- The kilos of the first columns. -/
def totF (bs : List Bx) (l : List Stw) (n : Nat) : Int := sumF bs l (fun y => decide (y.col < (n : Int)))
theorem totF_succ (bs : List Bx) (n : Nat) : ∀ l : List Stw, totF bs l (n + 1) = totF bs l n + sumF bs l (colB n)
  | [] => rfl
  | x :: l => by
    have h2 := totF_succ bs n l
    unfold totF at *
    simp only [sumF_cons]
    rw [h2]
    have : kgOf bs (fun y => decide (y.col < ((n + 1 : Nat) : Int))) x = kgOf bs (fun y => decide (y.col < (n : Int))) x + kgOf bs (colB n) x := by
      unfold kgOf colB
      by_cases h1 : x.slot.col < (n : Int)
      · rw [if_pos (by simp; omega), if_pos (by simp; omega), if_neg (by simp; omega)]; omega
      · by_cases h3 : x.slot.col = (n : Int)
        · rw [if_pos (by simp; omega), if_neg (by simp; omega), if_pos (by simp; omega)]; omega
        · rw [if_neg (by simp; omega), if_neg (by simp; omega), if_neg (by simp; omega)]; omega
    omega
theorem totF_zero {bs : List Bx} {l : List Stw} (h : ∀ x ∈ l, 0 ≤ x.slot.col) : totF bs l 0 = 0 := sumF_zero fun x hx => by have := h x hx; simp; omega
theorem totF_all {bs : List Bx} {l : List Stw} {n : Nat} (h : ∀ x ∈ l, x.slot.col < (n : Int)) : totF bs l n = sumF bs l allB := sumF_congr fun x hx => by have := h x hx; simp [allB]; omega
/-- What is wanted behind k columns, or within the first one behind j boxes. -/
def wantedF (bs : List Bx) (l : List Stw) (k j : Nat) : Int := if k = 0 then sumF bs (l.take j) allB else sumF bs l allB
theorem wantedF_succ {bs : List Bx} {l : List Stw} {k j : Nat} (h : j < l.length) : wantedF bs l k (j + 1) = if k = 0 then wantedF bs l k j + (findBx bs (l.getD j default).box).1.kilos else wantedF bs l k j := by
  unfold wantedF
  split
  · rw [sumF_take _ _ _ h]; rfl
  · rfl
theorem wantedF_end (bs : List Bx) (l : List Stw) (k : Nat) : wantedF bs l k l.length = sumF bs l allB := by
  unfold wantedF
  rw [List.take_length]
  split <;> rfl
def wantedAt (bs : List Bx) (l : List Stw) (k : Nat) : Int := if k = 0 then 0 else sumF bs l allB
theorem wantedF_zero (bs : List Bx) (l : List Stw) (k : Nat) : wantedF bs l k 0 = wantedAt bs l k := by
  unfold wantedF wantedAt
  split
  · rw [List.take_zero]; rfl
  · rfl
theorem sumF_bd {bs : List Bx} (h : KgOK bs) (l : List Stw) (p : Slt → Bool) : -(1000000000000 * (l.length : Int)) ≤ sumF bs l p ∧ sumF bs l p ≤ 1000000000000 * (l.length : Int) := sum_bd2 _ _ l fun x _ => kg_bd h p x
theorem sumF_take_bd {bs : List Bx} (h : KgOK bs) (l : List Stw) (p : Slt → Bool) (j : Nat) : -(1000000000000 * (l.length : Int)) ≤ sumF bs (l.take j) p ∧ sumF bs (l.take j) p ≤ 1000000000000 * (l.length : Int) := by
  have h1 := sumF_bd h (l.take j) p
  have h2 : (l.take j).length ≤ l.length := by simp; omega
  omega
/-- The bit of a fault. -/
def bitOf (f : Flt) : Int := if f.kind = 1 then 2 else if f.kind = 2 then 4 else if f.kind = 3 then 8 else 0
def bitsTo (l : List Flt) (j : Nat) : Int := ((l.take j).map bitOf).sum
theorem bitsTo_succ {l : List Flt} {j : Nat} (h : j < l.length) : bitsTo l (j + 1) = bitsTo l j + bitOf (l.getD j default) := sum_take_succ _ _ h _
theorem bitOf_bd (f : Flt) : 0 ≤ bitOf f ∧ bitOf f ≤ 8 := by
  unfold bitOf
  (repeat' split) <;> omega
theorem bitsTo_bd (l : List Flt) (j : Nat) : 0 ≤ bitsTo l j ∧ bitsTo l j ≤ 8 * (l.length : Int) := by
  have h1 := sum_bd bitOf 8 (l.take j) fun f _ => bitOf_bd f
  have h2 : (l.take j).length ≤ l.length := by simp; omega
  unfold bitsTo
  omega
theorem kinds_mem {hv : List Bool} {col : Int} {i : Nat} {f : Flt} (h : f ∈ kindsTo hv col i) : f.col = col ∧ f.box = 0 ∧ 1 ≤ f.kind ∧ f.kind ≤ i ∧ hv.getD (f.kind - 1) false = true := by
  unfold kindsTo at h
  obtain ⟨j, hj, e⟩ := List.mem_filterMap.1 h
  have hj := List.mem_range.1 hj
  split at e
  · rename_i hh
    cases e
    exact ⟨rfl, rfl, by simp, by simp; omega, by rw [show 1 + j - 1 = j by omega]; exact hh⟩
  · cases e
theorem tops_mem {p : Stw → Bool} {k : Nat} {l : List Stw} {f : Flt} (h : f ∈ topsOf p k l) : f.col = k ∧ f.kind = 4 ∧ ∃ x ∈ l, p x = true ∧ f.box = x.box := by
  unfold topsOf at h
  obtain ⟨x, hx, e⟩ := List.mem_filterMap.1 h
  split at e
  · rename_i hh
    cases e
    exact ⟨rfl, rfl, x, hx, hh, rfl⟩
  · cases e
theorem faults_mem {s : Shp} {bs : List Bx} {l : List Stw} {k : Nat} {f : Flt} (h : f ∈ faultsF s bs l k) : f.col = k ∧ (f.kind = 4 ∨ (f.kind = 1 ∨ f.kind = 2 ∨ f.kind = 3) ∧ f.box = 0) := by
  unfold faultsF at h
  rcases List.mem_append.1 h with h | h
  · obtain ⟨h1, h2, h3, h4, _⟩ := kinds_mem h
    exact ⟨h1, .inr ⟨by omega, h2⟩⟩
  · obtain ⟨h1, h2, _⟩ := tops_mem h
    exact ⟨h1, .inl h2⟩
/-- What is wanted of the bits. -/
def wantTo (hv : List Bool) (j : Nat) : Int := ((List.range j).map fun (i : Nat) => if hv.getD i false then (if i = 1 then 2 else if i = 2 then 4 else if i = 3 then 8 else if i = 0 then 1 else 0 : Int) else 0).sum
theorem wantTo_succ (hv : List Bool) (j : Nat) : wantTo hv (j + 1) = wantTo hv j + if hv.getD j false then (if j = 1 then 2 else if j = 2 then 4 else if j = 3 then 8 else if j = 0 then 1 else 0 : Int) else 0 := by
  unfold wantTo
  rw [List.range_succ, List.map_append, List.sum_append]
  simp
theorem wantTo_bd (a b c : Bool) {j : Nat} (hj : j ≤ 4) : 0 ≤ wantTo [false, a, b, c] j ∧ wantTo [false, a, b, c] j ≤ 14 := by
  have : j = 0 ∨ j = 1 ∨ j = 2 ∨ j = 3 ∨ j = 4 := by omega
  rcases this with rfl | rfl | rfl | rfl | rfl <;> cases a <;> cases b <;> cases c <;> decide
theorem bits_kinds (a b c : Bool) (col : Int) : ((kindsTo [a, b, c] col 3).map bitOf).sum = wantTo [false, a, b, c] 4 := by
  cases a <;> cases b <;> cases c <;> rfl
theorem bits_tops (p : Stw → Bool) (k : Nat) (l : List Stw) : ((topsOf p k l).map bitOf).sum = 0 := by
  have h : ∀ m : List Flt, (∀ f ∈ m, bitOf f = 0) → (m.map bitOf).sum = 0 := fun m => by
    induction m with
    | nil => intro _; rfl
    | cons f m ih =>
      intro hm
      simp only [List.map_cons, List.sum_cons]
      rw [hm f (by simp), ih fun g hg => hm g (by simp [hg])]
      rfl
  refine h _ fun f hf => ?_
  have := (tops_mem hf).2.1
  unfold bitOf
  rw [this]
  rfl
theorem bits_all (s : Shp) (bs : List Bx) (l : List Stw) (k : Nat) : bitsTo (faultsF s bs l k) (faultsF s bs l k).length =
    wantTo [false, decide ((s.cols.getD k default).k20 < sumF bs l (halfB k 1)), decide ((s.cols.getD k default).k20 < sumF bs l (halfB k 2)), decide ((s.cols.getD k default).k40 < sumF bs l (colB k))] 4 := by
  unfold bitsTo faultsF
  rw [List.take_length, List.map_append, List.sum_append, bits_tops]
  unfold heavies
  rw [bits_kinds]
  simp
end Go.Proofs.Ytncfakkajknhaaa
