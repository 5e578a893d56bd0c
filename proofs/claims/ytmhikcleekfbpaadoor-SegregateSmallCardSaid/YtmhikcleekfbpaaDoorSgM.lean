/-
  Pick of the statements' kit; the slots of Built's ships: few; near on Built's ships.
-/
import Derived.Test.YtmhikcleekfbpaaDoorSgL
namespace Go.Proofs.YtmhikcleekfbpaaDoor
open Go.RowKit

def pickF (z : Int) (n : Nat) : Nat := (z % (n : Int)).toNat
theorem pickF_lt (z : Int) {n : Nat} (h : 0 < n) : pickF z n < n := by
  unfold pickF
  have := Int.emod_lt_of_pos z (b := (n : Int)) (by omega)
  have := Int.emod_nonneg z (b := (n : Int)) (by omega)
  omega
theorem pickF_eq (z : Int) {n : Nat} (h : 0 < n) : ((pickF z n : Nat) : Int) = if Int.tmod z n < 0 then Int.tmod z n + n else Int.tmod z n := by
  unfold pickF
  have h1 := Int.emod_lt_of_pos z (b := (n : Int)) (by omega)
  have h2 := Int.emod_nonneg z (b := (n : Int)) (by omega)
  rw [Int.toNat_of_nonneg h2]
  by_cases hz : 0 ≤ z
  · rw [Int.tmod_eq_emod_of_nonneg hz, if_neg (by omega)]
  · have h3 := Int.tmod_eq_emod (a := z) (b := (n : Int))
    rw [h3]
    split <;> split <;> omega
theorem tmod_bd (z : Int) {n : Nat} (h : 0 < n) : -(n : Int) < Int.tmod z n ∧ Int.tmod z n < n := by
  have := Int.tmod_lt_of_pos z (b := (n : Int)) (by omega)
  have := Int.lt_tmod_of_pos z (b := (n : Int)) (by omega)
  omega
theorem halves_two14 (size : Nat) : (halvesL size).length ≤ 2 := by unfold halvesL; split <;> (try split) <;> simp
theorem colSl_len14 (c size : Nat) : ∀ n, (colSlots c size n).length ≤ 2 * n
  | 0 => by simp [colSlots]
  | n + 1 => by
    have := colSl_len14 c size n
    have h2 := halves_two14 size
    rw [colSlots_succ, List.length_append]
    have h3 : (tierSlots c n size).length = (halvesL size).length := by unfold tierSlots; simp
    omega
theorem colsB_len14 (s : Shp) (size : Nat) (hT : ∀ c, tiersN s c ≤ 5) : ∀ n, (colsTo s size n).length ≤ 10 * n
  | 0 => by simp [colsTo]
  | n + 1 => by
    have := colsB_len14 s size hT n
    have := colSl_len14 n size (tiersN s n)
    have := hT n
    rw [colsTo_succ, List.length_append]
    omega
theorem Bu.tiers14 {s : Shp} (h : Bu s) (c : Nat) : tiersN s c ≤ 5 := by
  unfold tiersN
  by_cases hc : c < s.cols.length
  · have := (h.col hc).tiers
    omega
  · rw [List.getD_eq_getElem?_getD, List.getElem?_eq_none (by omega)]
    decide
theorem Bu.all14 {s : Shp} (h : Bu s) (size : Nat) : (allF s size).length ≤ 120 := by
  have := colsB_len14 s size h.tiers14 s.cols.length
  have := h.few
  unfold allF
  omega
theorem Bu.cs {s : Shp} (h : Bu s) : Cs s := fun c hc => by
  obtain ⟨i, hi, rfl⟩ := List.getElem_of_mem hc
  have := h.col hi
  have e : s.cols.getD i default = s.cols[i] := by simp [hi]
  rw [e] at this
  have h1 := this.bay
  have h2 := this.row
  omega
theorem Bu.inC {s : Shp} {x : Slt} {size : Nat} (hx : x ∈ allF s size) : colIn s x.col = true := by
  obtain ⟨c, t, h1, _, h3, _⟩ := mem_all.1 hx
  unfold colIn
  rw [h3, decide_eq_true (by omega), decide_eq_true (by omega)]
  rfl
theorem Bu.allpos {s : Shp} (h : Bu s) : 0 < (allF s 40).length := by
  have hc := h.one
  have ht := (h.col (i := 0) (by omega)).tiers
  have : (⟨0, 0, 0⟩ : Slt) ∈ allF s 40 := mem_all.2 ⟨0, 0, by omega, by unfold tiersN; omega, rfl, rfl, by decide⟩
  cases h40 : allF s 40 with
  | nil => rw [h40] at this; cases this
  | cons => simp
/-- Whether two slots have been near for the code before. -/
def was (s : Shp) (a b : Slt) : Nat → Bool
  | 0 => false
  | k + 1 => nearR s a b k
theorem was_zero (s : Shp) (a b : Slt) : was s a b 0 = false := rfl
theorem was_succ (s : Shp) (a b : Slt) (k : Nat) : was s a b (k + 1) = nearR s a b k := rfl
theorem was_mono (s : Shp) (a b : Slt) (k : Nat) : (was s a b k = true → nearR s a b k = true) ∧ (nearR s a b k = true → 0 < k) := by
  constructor
  · cases k with
    | zero => intro h; cases h
    | succ k => exact fun h => nearR_mono (Nat.le_succ k) h
  · intro h
    cases k with
    | zero => rw [nearR_zero] at h; cases h
    | succ k => omega
theorem was_top (s : Shp) (a b : Slt) (k : Nat) (hk : 4 ≤ k) : was s a b k = nearR s a b k := by
  obtain ⟨j, rfl⟩ : ∃ j, k = j + 1 := ⟨k - 1, by omega⟩
  show nearR s a b j = nearR s a b (j + 1)
  rw [nearR_top (by omega : 3 ≤ j), nearR_top (by omega : 3 ≤ j + 1)]
theorem flat_slts14 {w w' : World} {S S' : Nat → Prop} : ∀ {xs : List Value} {l : List Slt}, Flat tSlt w S xs l → Flat tSlt w' S' xs l
  | _, [], h => h
  | _, _ :: _, ⟨cs, ys, e, h1, h2⟩ => ⟨cs, ys, e, h1, flat_slts14 h2⟩
theorem src_slt14 {w : World} {S : Nat → Prop} {A : Option Addr} {l : List Slt} (h : SlT tSlt w (Lt w.heap.size) A l) : Src tSlt w S A l.length l := by
  obtain ⟨ys, h1, h2⟩ := h.src rfl fun b hb => hb
  exact ⟨ys, flat_slts14 h1, h2⟩
theorem own_slts14 {w w' : World} {B : Nat} {v : Value} {l : List Slt} (hB : B ≤ w.heap.size) (h : OwnT tSlt 37 w' w.heap.size v l) (hb : Below w.heap.size w w') : OwnS tSlt 37 w' B (Lt B) v l := by
  obtain ⟨xs, ho, hf⟩ := h
  refine ⟨xs, own_mono ho hB, flat_slts14 hf, fun b hb' => ⟨Nat.lt_of_lt_of_le hb' (Nat.le_trans hB hb.size), fun e => ?_⟩⟩
  have h1 := (ho.lt b e.symm).1
  have h2 : b < B := hb'
  omega
end Go.Proofs.YtmhikcleekfbpaaDoor
