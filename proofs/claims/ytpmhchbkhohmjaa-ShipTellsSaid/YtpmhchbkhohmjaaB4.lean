/-
  Contracts and lemmas, in one text: SlA, SlB, SlC, SlD, SlE, SlI, SlJ, SlP, SlAp, Qb, Qc.
-/
import Derived.Test.YtpmhchbkhohmjaaB3
import Derived.Test.YtpmhchbkhohmjaaB1
import Derived.IntWalk
import Derived.Deep.RegionHeld3
import Derived.RangeFuncNested
import Derived.RangeFuncBound
import Derived.RangeFuncCalls
import Derived.RangeFuncLeaves
import Derived.RangeFuncBox
import Derived.Shelf.Abstract
import Derived.Shelf.RegionOpen
import Derived.OwnWalkIn
import Derived.TacticsInMore
import Derived.LoopNIn
import Derived.LoopIn
import Derived.Laws.StructEq
import Derived.BigQuiet
import Derived.Test.YtpmhchbkhohmjaaB2
import Derived.StillTail
namespace Go.Proofs.Ytpmhchbkhohmjaa
open Go.RowKit

structure Slt where
  col : Int
  tier : Int
  half : Nat
  deriving DecidableEq, Inhabited
def sltL (x : Slt) : List Value := [.int .i64 x.col, .int .i64 x.tier, .int .u8 (x.half : Nat)]
def tSlt : Ty Slt where
  k := 3
  pos := by decide
  rd := fun _ _ cs x => cs = sltL x
  len := by rintro _ _ _ _ rfl; rfl
  one := by rintro _ _ _ _ rfl; rfl
  keep := fun h _ => h
  more := fun h _ => h
theorem SlT.slt {w : World} {S : Nat → Prop} {A : Option Addr} {l : List Slt} (h : SlT tSlt w S A l) {j : Nat} (hj : j < l.length) :
    ∃ b off, A = some ⟨b, off, none⟩ ∧ S b ∧ w.cell? ⟨b, off + j * 3, none⟩ = some (.int .i64 (l.getD j default).col) ∧ w.cell? ⟨b, off + j * 3 + 1, none⟩ = some (.int .i64 (l.getD j default).tier) ∧ w.cell? ⟨b, off + j * 3 + 2, none⟩ = some (.int .u8 ((l.getD j default).half : Nat)) := by
  obtain ⟨b, off, cs, e, hb, h1, h2⟩ := h.at_ hj default
  rw [show cs = _ from h1] at h2
  exact ⟨b, off, e, hb, h2 0 _ rfl, h2 1 _ rfl, h2 2 _ rfl⟩
theorem SlT.u8 {w : World} {S : Nat → Prop} {A : Option Addr} {l : List Nat} (h : SlT tU8 w S A l) {j : Nat} (hj : j < l.length) :
    ∃ b off, A = some ⟨b, off, none⟩ ∧ S b ∧ w.cell? ⟨b, off + j, none⟩ = some (.int .u8 (l.getD j 0 : Nat)) := by
  obtain ⟨b, off, cs, e, hb, h1, h2⟩ := h.at_ hj 0
  refine ⟨b, off, e, hb, ?_⟩
  have := h2 0 (.int .u8 (l.getD j 0 : Nat)) (by rw [show cs = _ from h1]; rfl)
  simpa [tU8] using this
/-- The first index that is wanted. -/
def idxF {α : Type} (p : α → Bool) (l : List α) : Int := match l.findIdx? p with | some i => (i : Int) | none => -1
theorem idx_none {α : Type} {p : α → Bool} {l : List α} (d : α) (h : ∀ i, i < l.length → p (l.getD i d) = false) : idxF p l = -1 := by
  unfold idxF
  rw [List.findIdx?_eq_none_iff.2 fun x hx => by
    obtain ⟨i, hi, rfl⟩ := List.getElem_of_mem hx
    have := h i hi
    simpa [hi] using this]
theorem idx_some {α : Type} {p : α → Bool} {l : List α} (d : α) {k : Nat} (hk : k < l.length) (hp : p (l.getD k d) = true) (h : ∀ i, i < k → p (l.getD i d) = false) : idxF p l = k := by
  unfold idxF
  have : l.findIdx? p = some k := by
    rw [List.findIdx?_eq_some_iff_getElem]
    refine ⟨hk, by simpa [hk] using hp, fun j hj => ?_⟩
    have := h j hj
    simpa [show j < l.length by omega] using this
  rw [this]
theorem idx_ge {α : Type} (p : α → Bool) (l : List α) : decide ((0 : Int) ≤ idxF p l) = l.any p := by
  unfold idxF
  rw [Bool.eq_iff_iff]
  cases h : l.findIdx? p with
  | none =>
    rw [List.findIdx?_eq_none_iff] at h
    simp only [decide_eq_true_eq]
    constructor
    · intro h'; omega
    · intro h'
      obtain ⟨x, hx, hp⟩ := List.any_eq_true.1 h'
      rw [h x hx] at hp; cases hp
  | some i =>
    obtain ⟨hi, hp, _⟩ := List.findIdx?_eq_some_iff_getElem.1 h
    simp only [decide_eq_true_eq]
    exact ⟨fun _ => List.any_eq_true.2 ⟨_, List.getElem_mem hi, hp⟩, fun _ => by omega⟩
/-- A search: what is known of the elements before. -/
def Before {α : Type} (p : α → Bool) (l : List α) (d : α) (k : Nat) : Prop := ∀ i, i < k → p (l.getD i d) = false
theorem Before.zero {α : Type} {p : α → Bool} {l : List α} {d : α} : Before p l d 0 := fun i h => absurd h (by omega)
theorem Before.succ {α : Type} {p : α → Bool} {l : List α} {d : α} {k : Nat} (h : Before p l d k) (hk : p (l.getD k d) = false) : Before p l d (k + 1) := fun i hi => by
  rcases Nat.lt_succ_iff_lt_or_eq.1 hi with h' | h'
  · exact h i h'
  · rw [h']; exact hk

def halvesL (size : Nat) : List Nat := if size = 40 then [0] else if size = 20 then [1, 2] else []
/-- What a call that makes a list of bytes leaves. -/
def OwnU8 (w : World) (l : List Nat) (e : Ending) (w' : World) : Prop := ∃ A c, e = .returned (.slice A l.length c) ∧ SlT tU8 w' (Lt w'.heap.size) A l ∧ Below w.heap.size w w'
theorem sl_u8s {w : World} {g : Nat} {t : TypeId} {l : List Nat} (hb : Bk w g t (u8s l).toArray) : SlT tU8 w (Lt w.heap.size) (some ⟨g, 0, none⟩) l := by
  refine sl_flat hb ?_ hb.lt
  have : ∀ l : List Nat, Flat tU8 w (Lt w.heap.size) (u8s l) l := by
    intro l
    induction l with
    | nil => rfl
    | cons x l ih => exact ⟨[.int .u8 (x : Nat)], u8s l, rfl, rfl, ih⟩
  simpa using this l
def sharesB (a b : Nat) : Bool := a == b || (a == 0 || b == 0)
theorem int_beq (a b : Nat) : ((a : Int) == (b : Int)) = (a == b) := by rw [Bool.eq_iff_iff]; simp; omega
theorem ret_bool {a b : Bool} (h : a = b) : Ending.returned (.bool a) = .returned (.bool b) := by rw [h]
end Go.Proofs.Ytpmhchbkhohmjaa
namespace Go.Proofs.Ytpmhchbkhohmjaa
open Go.RowKit

def slotRight (s : Shp) (x : Slt) (size : Nat) : Bool :=
  decide (0 ≤ x.col) && (decide (x.col < s.cols.length) && (decide (0 ≤ x.tier) && (decide (x.tier < (s.cols.getD x.col.toNat default).tiers) && (halvesL size).any fun y => x.half == y)))
theorem halves_len (size : Nat) : (halvesL size).length ≤ 1000000 := by unfold halvesL; split <;> (try split) <;> simp

end Go.Proofs.Ytpmhchbkhohmjaa
namespace Go.Proofs.Ytpmhchbkhohmjaa
open Go.RowKit

def meetB (a b : Slt) : Bool := a.col == b.col && (a.tier == b.tier && sharesB a.half b.half)
def overB (a b : Slt) : Bool := a.col == b.col && (decide (b.tier < a.tier) && sharesB a.half b.half)
def cmpZ (a b : Int) : Int := if a < b then -1 else if b < a then 1 else 0
/-- The first number that is not 0. -/
def orF : List Int → Int
  | [] => 0
  | x :: l => if x = 0 then orF l else x
theorem or_zero : ∀ (l : List Int), (∀ i, i < l.length → l.getD i 0 = 0) → orF l = 0
  | [], _ => rfl
  | x :: l, h => by
    have h0 := h 0 (by simp)
    have ih := or_zero l fun i hi => by have := h (i + 1) (by simp; omega); simpa using this
    simp at h0
    simp [orF, h0, ih]
theorem or_at : ∀ (l : List Int) (k : Nat), k < l.length → l.getD k 0 ≠ 0 → (∀ i, i < k → l.getD i 0 = 0) → orF l = l.getD k 0
  | [], k, hk, _, _ => by simp at hk
  | x :: l, 0, _, h, _ => by simp at h; simp [orF, h]
  | x :: l, k + 1, hk, h, hb => by
    have h0 := hb 0 (by omega)
    simp at h0
    have := or_at l k (by simpa using hk) (by simpa using h) fun i hi => by have := hb (i + 1) (by omega); simpa using this
    simp only [orF, h0, if_true]
    simpa using this
end Go.Proofs.Ytpmhchbkhohmjaa
namespace Go.Proofs.Ytpmhchbkhohmjaa
open Go.RowKit

def cmpF (a b : Slt) : Int := orF [cmpZ a.col b.col, cmpZ a.tier b.tier, cmpZ a.half b.half]
/-- An equality of slots, as slices.Index asks it. -/
def sltEq (x y : Slt) : Bool := x.col == y.col && (x.tier == y.tier && x.half == y.half)
theorem sltEq_iff (x y : Slt) : sltEq x y = true ↔ x = y := by
  obtain ⟨a, b, c⟩ := x
  obtain ⟨d, e, f⟩ := y
  simp [sltEq]
end Go.Proofs.Ytpmhchbkhohmjaa
namespace Go.Proofs.Ytpmhchbkhohmjaa
open Go.RowKit

def hasB (x : Slt) (l : List Slt) (half : Nat) : Bool := l.any fun y => sltEq ⟨x.col, x.tier - 1, half⟩ y
def heldB (x : Slt) (l : List Slt) : Bool := decide (x.tier ≤ 0) || (hasB x l x.half || (x.half == 0 && (hasB x l 1 && hasB x l 2)))
end Go.Proofs.Ytpmhchbkhohmjaa
namespace Go.Proofs.Ytpmhchbkhohmjaa
open Go.RowKit Go.Shelf

def tierSlots (c t size : Nat) : List Slt := (halvesL size).map fun h => ⟨c, t, h⟩
def colSlots (c size T : Nat) : List Slt := (List.range T).flatMap fun t => tierSlots c t size
def tiersN (s : Shp) (c : Nat) : Nat := (s.cols.getD c default).tiers.toNat
def colsTo (s : Shp) (size n : Nat) : List Slt := (List.range n).flatMap fun c => colSlots c size (tiersN s c)
/-- All slots of a ship for boxes of a size. -/
def allF (s : Shp) (size : Nat) : List Slt := colsTo s size s.cols.length
theorem colSlots_succ (c size T : Nat) : colSlots c size (T + 1) = colSlots c size T ++ tierSlots c T size := by simp [colSlots, List.range_succ]
theorem colsTo_succ (s : Shp) (size n : Nat) : colsTo s size (n + 1) = colsTo s size n ++ colSlots n size (tiersN s n) := by simp [colsTo, List.range_succ]
theorem colSlots_mono (c size : Nat) {T U : Nat} (h : T ≤ U) : (colSlots c size T).length ≤ (colSlots c size U).length := by
  induction U with
  | zero => obtain rfl : T = 0 := by omega
            exact Nat.le_refl _
  | succ U ih =>
    by_cases e : T = U + 1
    · rw [e]; exact Nat.le_refl _
    · have := ih (by omega)
      rw [colSlots_succ, List.length_append]; omega
theorem colsTo_mono (s : Shp) (size : Nat) {n m : Nat} (h : n ≤ m) : (colsTo s size n).length ≤ (colsTo s size m).length := by
  induction m with
  | zero => obtain rfl : n = 0 := by omega
            exact Nat.le_refl _
  | succ m ih =>
    by_cases e : n = m + 1
    · rw [e]; exact Nat.le_refl _
    · have := ih (by omega)
      rw [colsTo_succ, List.length_append]; omega
theorem slots_bound (s : Shp) (size : Nat) {c t j : Nat} (hc : c < s.cols.length) (ht : t < tiersN s c) (hj : j < (halvesL size).length) : (colsTo s size c ++ colSlots c size t ++ (tierSlots c t size).take j).length < (allF s size).length := by
  have h1 := colsTo_mono s size (n := c + 1) (m := s.cols.length) hc
  have h2 := colSlots_mono c size (T := t + 1) (U := tiersN s c) ht
  rw [colsTo_succ, List.length_append] at h1
  rw [colSlots_succ, List.length_append] at h2
  have h3 : (tierSlots c t size).length = (halvesL size).length := by simp [tierSlots]
  simp only [List.length_append, List.length_take]
  unfold allF
  omega
theorem AbidesFrom.below {β : Type} {B : Nat} {J : β → World → Prop} (h : AbidesFrom B J) {x : β} {W W' : World} (hs : J x W) (hb : Below W.heap.size W W') : J x W' :=
  h x W W' none hs ⟨hb.os, hb.tape, hb.output, hb.size, fun k hk _ => hb.block k hk⟩ (by simp)

/-- What a round over slots keeps: what lay below n₀, and all rows of bytes. -/
def KpS (n₀ : Nat) (W W' : World) : Prop := Below n₀ W W' ∧ ∀ g cs, Bk W g 5 cs → Bk W' g 5 cs
theorem KpS.trans {n₀ : Nat} {A B C : World} (h : KpS n₀ A B) (k : KpS n₀ B C) : KpS n₀ A C := ⟨h.1.trans k.1, fun g cs hg => k.2 g cs (h.2 g cs hg)⟩
theorem KpS.put {n₀ : Nat} {w : World} (hn : n₀ ≤ w.heap.size) (W : World) (l : Nat) (o o' : Obj) (hl : w.heap.size ≤ l) (h : W.heap[l]? = some o) (hc : o.isCells = false) (hw : o.isWalk = false) : KpS n₀ W (W.putObj l o') :=
  ⟨belowK_b hn W l o o' hl h hc hw, fun g cs hg => hg.grown (grownBy_putObj' W l o') (by
    intro e; cases e
    unfold Bk at hg
    rw [h] at hg; cases hg; cases hc)⟩
def HalfRet (w : World) (L : List Nat) (e : Ending) (w' : World) : Prop := ∃ A c, e = .returned (.slice A L.length c) ∧ (0 < L.length → ∃ g, A = some ⟨g, 0, none⟩ ∧ Bk w' g 5 (u8s L).toArray) ∧ Below w.heap.size w w'
attribute [local go_sem] Oper.semAt_some

end Go.Proofs.Ytpmhchbkhohmjaa
namespace Go.Proofs.Ytpmhchbkhohmjaa
open Go.RowKit Go.Shelf

theorem flat_slt {w : World} {S : Nat → Prop} : ∀ l : List Slt, Flat tSlt w S (l.flatMap sltL) l
  | [] => rfl
  | x :: l => ⟨sltL x, l.flatMap sltL, rfl, rfl, flat_slt l⟩
theorem bk_own {β : Type} (B : Nat) (t : TypeId) (f : β → Array Value) : Own (fun s W => Bk W B t (f s)) := fun s X Y row hs hg hrow =>
  hs.grown hg (fun e' => by
    obtain ⟨o, ho, hc⟩ := hrow B e'.symm
    have hs : X.heap[B]? = _ := hs
    rw [hs] at ho; cases ho; cases hc)
attribute [local go_sem] Oper.semAt_some

end Go.Proofs.Ytpmhchbkhohmjaa
namespace Go.Proofs.Ytpmhchbkhohmjaa
open Go.RowKit

theorem cmpF_eq (a b : Slt) : cmpF a b = if a.col < b.col then -1 else if b.col < a.col then 1 else if a.tier < b.tier then -1 else if b.tier < a.tier then 1 else if a.half < b.half then -1 else if b.half < a.half then 1 else 0 := by
  unfold cmpF orF orF orF orF cmpZ
  simp only [Int.ofNat_lt]
  by_cases h1 : a.col < b.col <;> by_cases h2 : b.col < a.col <;> by_cases h3 : a.tier < b.tier <;> by_cases h4 : b.tier < a.tier <;> by_cases h5 : a.half < b.half <;> by_cases h6 : b.half < a.half <;> simp [h1, h2, h3, h4, h5, h6]
theorem cmpF_neg (a b : Slt) : cmpF b a = -cmpF a b := by
  rw [cmpF_eq, cmpF_eq]
  (repeat' split) <;> omega
theorem cmpF_three (a b : Slt) : cmpF a b = -1 ∨ cmpF a b = 0 ∨ cmpF a b = 1 := by
  rw [cmpF_eq]
  (repeat' split) <;> simp
theorem cmpF_zero (a b : Slt) : sltEq a b = (cmpF a b == 0) := by
  obtain ⟨ac, at_, ah⟩ := a
  obtain ⟨bc, bt, bh⟩ := b
  rw [cmpF_eq, Bool.eq_iff_iff]
  simp only [sltEq, Bool.and_eq_true, beq_iff_eq]
  (repeat' split) <;> simp <;> omega
theorem cmpF_lt (a b : Slt) : cmpF a b = -1 ↔ a.col < b.col ∨ a.col = b.col ∧ (a.tier < b.tier ∨ a.tier = b.tier ∧ a.half < b.half) := by
  rw [cmpF_eq]
  (repeat' split) <;> omega
theorem cmpF_trans (a b c : Slt) (h1 : cmpF a b = -1) (h2 : cmpF b c = -1) : cmpF a c = -1 := by
  rw [cmpF_lt] at *
  omega
theorem meet_symm (a b : Slt) : meetB b a = meetB a b := by
  rw [Bool.eq_iff_iff]
  simp only [meetB, sharesB, Bool.and_eq_true, Bool.or_eq_true, beq_iff_eq]
  omega
theorem meet_self (a : Slt) : meetB a a = true := by simp [meetB, sharesB]
theorem over_self (a : Slt) : overB a a = false := by simp [overB]
theorem over_not (a b : Slt) (h : overB a b = true) : meetB a b = false ∧ overB b a = false ∧ cmpF a b = 1 := by
  simp only [overB, Bool.and_eq_true, beq_iff_eq, decide_eq_true_eq] at h
  obtain ⟨h1, h2, h3⟩ := h
  refine ⟨?_, ?_, ?_⟩
  · simp only [meetB, Bool.and_eq_false_iff, beq_eq_false_iff_ne]; right; left; omega
  · simp only [overB, Bool.and_eq_false_iff, decide_eq_false_iff_not]; right; left; omega
  · rw [cmpF_eq, if_neg (by omega), if_neg (by omega), if_neg (by omega), if_pos (by omega)]
theorem over_pass (a b c : Slt) (h1 : overB a b = true) (h2 : overB b c = true) (h3 : overB a c = false) : b.half = 0 ∧ a.half ≠ c.half ∧ a.half ≠ 0 ∧ c.half ≠ 0 := by
  simp only [overB, sharesB, Bool.and_eq_true, Bool.or_eq_true, beq_iff_eq, decide_eq_true_eq, Bool.and_eq_false_iff, Bool.or_eq_false_iff, beq_eq_false_iff_ne, decide_eq_false_iff_not] at h1 h2 h3
  omega
end Go.Proofs.Ytpmhchbkhohmjaa
namespace Go.Proofs.Ytpmhchbkhohmjaa
open Go.RowKit

theorem mem_tier {c t size : Nat} {y : Slt} : y ∈ tierSlots c t size ↔ y.col = (c : Int) ∧ y.tier = (t : Int) ∧ y.half ∈ halvesL size := by
  unfold tierSlots
  rw [List.mem_map]
  constructor
  · rintro ⟨h, hh, rfl⟩; exact ⟨rfl, rfl, hh⟩
  · obtain ⟨a, b, h⟩ := y
    rintro ⟨rfl, rfl, hh⟩
    exact ⟨h, hh, rfl⟩
theorem mem_all {s : Shp} {size : Nat} {y : Slt} : y ∈ allF s size ↔ ∃ c t : Nat, c < s.cols.length ∧ t < tiersN s c ∧ y.col = (c : Int) ∧ y.tier = (t : Int) ∧ y.half ∈ halvesL size := by
  unfold allF colsTo colSlots
  simp only [List.mem_flatMap, List.mem_range, mem_tier]
  constructor
  · rintro ⟨c, hc, t, ht, h1, h2, h3⟩; exact ⟨c, t, hc, ht, h1, h2, h3⟩
  · rintro ⟨c, t, hc, ht, h1, h2, h3⟩; exact ⟨c, hc, t, ht, h1, h2, h3⟩
theorem right_mem {s : Shp} {size : Nat} {y : Slt} : slotRight s y size = true ↔ y ∈ allF s size := by
  rw [mem_all]
  unfold slotRight tiersN
  simp only [Bool.and_eq_true, decide_eq_true_eq, List.any_eq_true, beq_iff_eq]
  obtain ⟨yc, yt, yh⟩ := y
  simp only
  constructor
  · rintro ⟨h1, h2, h3, h4, z, hz, hz2⟩
    refine ⟨yc.toNat, yt.toNat, by omega, by omega, by omega, by omega, ?_⟩
    have : yh = z := by omega
    rw [this]; exact hz
  · rintro ⟨c, t, hc, ht, rfl, rfl, hh⟩
    rw [Int.toNat_natCast]
    exact ⟨by omega, by omega, by omega, by omega, yh, hh, by omega⟩
theorem any_right (s : Shp) (size : Nat) (x : Slt) : ((allF s size).any fun y => sltEq y x) = slotRight s x size := by
  rw [Bool.eq_iff_iff, right_mem, List.any_eq_true]
  constructor
  · rintro ⟨y, hy, he⟩; rw [← (sltEq_iff _ _).1 he]; exact hy
  · intro h; exact ⟨x, h, (sltEq_iff _ _).2 rfl⟩
theorem halves_sorted (size : Nat) : (halvesL size).Pairwise (· < ·) := by
  unfold halvesL
  split
  · simp
  · split <;> simp
theorem all_sorted (s : Shp) (size : Nat) : (allF s size).Pairwise fun a b => cmpF a b = -1 := by
  unfold allF colsTo
  rw [List.pairwise_flatMap]
  refine ⟨fun c _ => ?_, ?_⟩
  · unfold colSlots
    rw [List.pairwise_flatMap]
    refine ⟨fun t _ => ?_, ?_⟩
    · unfold tierSlots
      rw [List.pairwise_map]
      refine (halves_sorted size).imp ?_
      intro a b h
      rw [cmpF_lt]
      exact .inr ⟨rfl, .inr ⟨rfl, h⟩⟩
    · refine List.pairwise_lt_range.imp ?_
      intro t u h a ha b hb
      have ha := mem_tier.1 ha
      have hb := mem_tier.1 hb
      rw [cmpF_lt]
      omega
  · refine List.pairwise_lt_range.imp ?_
    intro c d h a ha b hb
    unfold colSlots at ha hb
    obtain ⟨t, _, ha⟩ := List.mem_flatMap.1 ha
    obtain ⟨u, _, hb⟩ := List.mem_flatMap.1 hb
    have ha := mem_tier.1 ha
    have hb := mem_tier.1 hb
    rw [cmpF_lt]
    omega
theorem sorted_at {s : Shp} {size i : Nat} (h0 : 0 < i) (hi : i < (allF s size).length) : cmpF ((allF s size).getD (i - 1) default) ((allF s size).getD i default) = -1 := by
  have h := List.pairwise_iff_getElem.1 (all_sorted s size) (i - 1) i (by omega) hi (by omega)
  have e1 : (allF s size).getD (i - 1) default = (allF s size)[i - 1] := by simp [show i - 1 < (allF s size).length by omega]
  have e2 : (allF s size).getD i default = (allF s size)[i] := by simp [hi]
  rw [e1, e2]; exact h
/-- The tiers of the first columns, summed. -/
def tiersTo (l : List Col) : Nat → Int
  | 0 => 0
  | k + 1 => tiersTo l k + (l.getD k default).tiers
theorem colSlots_len (c size T : Nat) : (colSlots c size T).length = T * (halvesL size).length := by
  induction T with
  | zero => simp [colSlots]
  | succ T ih =>
    rw [colSlots_succ, List.length_append, ih]
    simp [tierSlots, Nat.add_mul]
theorem colsTo_len (s : Shp) (size : Nat) (hp : ∀ c, c < s.cols.length → 0 ≤ (s.cols.getD c default).tiers) : ∀ n, n ≤ s.cols.length → ((colsTo s size n).length : Int) = (halvesL size).length * tiersTo s.cols n
  | 0, _ => by simp [colsTo, tiersTo]
  | n + 1, h => by
    rw [colsTo_succ, List.length_append, colSlots_len]
    have ih := colsTo_len s size hp n (by omega)
    have := hp n (by omega)
    unfold tiersTo
    rw [Int.mul_add, ← ih]
    have e : ((tiersN s n : Nat) : Int) = (s.cols.getD n default).tiers := by unfold tiersN; omega
    rw [← e]
    push_cast
    rw [Int.mul_comm ((tiersN s n : Nat) : Int)]
theorem all_len {s : Shp} (hp : ∀ c, c < s.cols.length → 0 ≤ (s.cols.getD c default).tiers) (size : Nat) : ((allF s size).length : Int) = (halvesL size).length * tiersTo s.cols s.cols.length := colsTo_len s size hp _ (Nat.le_refl _)
end Go.Proofs.Ytpmhchbkhohmjaa
namespace Go.Proofs.Ytpmhchbkhohmjaa
open Go.RowKit

/-- A world behind w in which nothing older has turned. -/
structure Gr (w : World) where
  W : World
  be : Below w.heap.size w W
instance (w : World) : Nonempty (Gr w) := ⟨⟨w, Below.refl _ _⟩⟩
theorem wp_region_gr {P : Program} {id : Nat} {Q : Exit → Act → World → Prop} {a : Act} {w : World} {l : List Oper} (hm : P.follows .mixedOrders = true) (hB : Region.lexB .any l.toArray = true)
    (h : wpQuiet P l.toArray (fun w' => ∃ p : Gr w, w' = p.W) (fun a' => ∀ w', (∃ p : Gr w, w' = p.W) → Q .normal a' w') l a) : (Code.region id l.toArray true).wp P Q a w :=
  wp_region_quiet (C := fun w' => ∃ p : Gr w, w' = p.W) hm hB ⟨⟨w.drewN 1, below_drewN (Below.refl _ _) 1⟩, rfl⟩ (by simpa using h)
theorem Gr.call {P : Program} {f : FuncId} {args : Array Value} {w : World} {v : Value} (p : Gr w) (h : ∀ V : World, Below w.heap.size w V → Calls P f args V (Ret V v)) :
    Calls P f args p.W fun e w'' => e = .returned v ∧ ∃ q : Gr w, w'' = q.W :=
  (h p.W p.be).mono fun _ w' ⟨he, hb⟩ => ⟨he, ⟨w', p.be.trans (hb.mono p.be.size)⟩, rfl⟩
theorem Gr.same {P : Program} {f : FuncId} {args : Array Value} {w : World} {v : Value} (p : Gr w) (h : ∀ V : World, Below w.heap.size w V → Calls P f args V (fun e w' => e = .returned v ∧ V = w')) :
    Calls P f args p.W fun e w'' => e = .returned v ∧ ∃ q : Gr w, w'' = q.W :=
  (h p.W p.be).mono fun _ _ ⟨he, hb⟩ => ⟨he, p, hb.symm⟩
/-- A cell of an older block, in every such world. -/
theorem Gr.cell {w : World} {a : Addr} {v : Value} (h : w.cell? a = some v) : ∀ p : Gr w, p.W.cell? a = some v := fun p => (p.be.cell (block_lt_of_cell h)).trans h
/-- The same for operations in their own order: the first ones quiet, the rest from whatever world of the kind. -/
theorem wpList_quiet {P : Program} {ops : Array Oper} {C : World → Prop} {Q : Exit → Act → World → Prop} (l2 : List Oper) : ∀ (l : List Oper) (a : Act) (w : World), C w →
    wpQuiet P ops C (fun a' => ∀ w', C w' → wpList P ops Q l2 a' w') l a → wpList P ops Q (l ++ l2) a w
  | [], a, w, hw, h => h w hw
  | o :: l, a, w, hw, h => by
    unfold wpQuiet at h
    rw [List.cons_append]
    unfold wpList
    by_cases hg : Region.wanted o (yielded ops a.tmps) = true
    · rw [if_pos hg] at h ⊢
      exact .inl (Oper.wp_of_quiet hw (fun a' w' hw' h' => wpList_quiet l2 l a' w' hw' h') h)
    · rw [if_neg hg] at h ⊢
      exact wpList_quiet l2 l _ w hw h
theorem wp_region_grs {P : Program} {id : Nat} {Q : Exit → Act → World → Prop} {a : Act} {w : World} {l : List Oper}
    (h : wpQuiet P l.toArray (fun w' => ∃ p : Gr w, w' = p.W) (fun a' => ∀ w', (∃ p : Gr w, w' = p.W) → Q .normal a' w') l a) : (Code.region id l.toArray false).wp P Q a w :=
  wp_region_lit (by have := wpList_quiet (Q := Q) [] l a w ⟨⟨w, Below.refl _ _⟩, rfl⟩ h; rwa [List.append_nil] at this)
theorem wpList_grs {P : Program} {ops : Array Oper} {Q : Exit → Act → World → Prop} {a : Act} {w : World} {l : List Oper} (n : Nat)
    (h : wpQuiet P ops (fun w' => ∃ p : Gr w, w' = p.W) (fun a' => ∀ w', (∃ p : Gr w, w' = p.W) → wpList P ops Q (l.drop n) a' w') (l.take n) a) : wpList P ops Q l a w := by
  have := wpList_quiet (l.drop n) (l.take n) a w ⟨⟨w, Below.refl _ _⟩, rfl⟩ h
  rwa [List.take_append_drop] at this
end Go.Proofs.Ytpmhchbkhohmjaa
namespace Go.Proofs.Ytpmhchbkhohmjaa
open Go.RowKit

section
variable {P : Program} {ops : Array Oper} {Q : Exit → Act → World → Prop} {C : World → Prop}

/-- The first n of s have come up. -/
def firstN (s n : Nat) : Array Bool := ((List.range s).map fun i => decide (i < n)).toArray
theorem firstN_size (s n : Nat) : (firstN s n).size = s := by simp [firstN]
theorem firstN_at (s n i : Nat) (d : Bool) : (firstN s n).getD i d = if i < s then decide (i < n) else d := by
  unfold firstN
  by_cases h : i < s <;> simp [h]
theorem array_getD_ext {a b : Array Bool} (hs : a.size = b.size) (h : ∀ i, i < a.size → a.getD i false = b.getD i false) : a = b := by
  apply Array.ext hs
  intro i h1 h2
  have := h i h1
  simpa [h1, h2] using this
theorem firstN_zero (s : Nat) : Array.replicate s false = firstN s 0 := by
  apply array_getD_ext (by simp [firstN_size])
  intro i hi
  rw [firstN_at]
  simp at hi
  simp [hi]
theorem getD_set_at {l : Array Bool} {n i : Nat} {d : Bool} (hn : n < l.size) : (l.setIfInBounds n true).getD i d = if n = i then true else l.getD i d := by
  by_cases h : n = i
  · subst h; simp [hn]
  · rw [if_neg h, getD_set_ne d h]
theorem firstN_succ (s n : Nat) : (firstN s n).setIfInBounds n true = firstN s (n + 1) := by
  apply array_getD_ext (by simp [firstN_size])
  intro i hi
  simp [firstN_size] at hi
  by_cases hn : n < s
  · rw [getD_set_at (by rw [firstN_size]; exact hn), firstN_at, firstN_at, if_pos hi, if_pos hi]
    by_cases h : n = i
    · subst h; simp
    · rw [if_neg h]
      have : (i < n) ↔ (i < n + 1) := by omega
      simp [this]
  · rw [getD_set_ne false (by omega), firstN_at, firstN_at, if_pos hi, if_pos hi]
    have : (i < n) ↔ (i < n + 1) := by omega
    simp [this]
theorem both_false {l : Array Bool} {i : Nat} (hi : i < l.size) : l.getD i true = l.getD i false := by simp [hi]

theorem any_more : ∀ (g : Nat) (listed : Array Bool) (a : Act) (w : World), wpAny P .any ops Q g listed a w → wpAny P .any ops Q (g + 1) listed a w
  | 0, listed, a, w, h => ⟨fun _ => h.2, fun i hi => by rw [h.1] at hi; cases hi⟩
  | g + 1, listed, a, w, h => ⟨h.1, fun i hi => wpOp_mono (fun a' w' h' => any_more g _ a' w' h') (h.2 i hi)⟩
theorem any_more' (d : Nat) {g : Nat} {listed : Array Bool} {a : Act} {w : World} (h : wpAny P .any ops Q g listed a w) : wpAny P .any ops Q (d + g) listed a w := by
  induction d with
  | zero => rw [Nat.zero_add]; exact h
  | succ d ih => rw [show d + 1 + g = (d + g) + 1 by omega]; exact any_more _ _ _ _ ih

/-- What waits, waits for what stands before it. -/
def backB (ops : Array Oper) : Bool := (List.range ops.size).all fun i => match ops[i]? with
  | some o => o.after.all fun e => !Region.binds .any e || decide (e.on < i)
  | none => true
/-- All that stands before m must come before all that stands from m on. -/
def wallB (ops : Array Oper) (m : Nat) : Bool :=
  ((List.range m).all fun i => decide (ops.size ≤ m) || (List.range (m + 1)).any fun j => decide (i < j) && Region.waitsFor .any ops j i) &&
  ((List.range ops.size).all fun t => decide (t ≤ m) || (List.range t).any fun s => decide (m ≤ s) && Region.waitsFor .any ops t s)
theorem back_spec (h : backB ops = true) {i : Nat} {o : Oper} (ho : ops[i]? = some o) {e : Edge} (he : e ∈ o.after) (hb : Region.binds .any e = true) : e.on < i := by
  have hlt : i < ops.size := (Array.getElem?_eq_some_iff.1 ho).1
  have h1 := List.all_eq_true.1 h i (List.mem_range.2 hlt)
  simp only [ho] at h1
  have h2 := Array.all_eq_true_iff_forall_mem.1 h1 e he
  simpa [hb] using h2

structure HeadI (ops : Array Oper) (m : Nat) (listed : Array Bool) : Prop where
  size : listed.size = ops.size
  closed : ∀ j o, ops[j]? = some o → listed.getD j false = true → ∀ e ∈ o.after, Region.binds .any e = true → listed.getD e.on false = true
  tail : ∀ t, m ≤ t → listed.getD t false = false
theorem HeadI.set {m i : Nat} {listed : Array Bool} (inv : HeadI ops m listed) (hi : i ∈ Region.ready .any ops listed) (him : i < m) : HeadI ops m (listed.setIfInBounds i true) := by
  obtain ⟨_, oi, hoi, hall⟩ := mem_ready.1 hi
  refine ⟨by simp [inv.size], fun j o ho hl e he hb => ?_, fun t ht => by rw [getD_set_ne false (by omega)]; exact inv.tail t ht⟩
  by_cases hij : i = j
  · subst hij
    obtain rfl : o = oi := Option.some.inj (ho.symm.trans hoi)
    exact getD_set_true (hall e he hb)
  · rw [getD_set_ne false hij] at hl
    exact getD_set_true (inv.closed j o ho hl e he hb)
theorem wall_stops {m : Nat} (hw : wallB ops m = true) {listed : Array Bool} (inv : HeadI ops m listed) {i : Nat} (him : i < m) (hun : listed.getD i false = false) : ∀ t ∈ Region.ready .any ops listed, t < m := by
  unfold wallB at hw
  rw [Bool.and_eq_true] at hw
  obtain ⟨h1, h2⟩ := hw
  have key : ∀ (d i : Nat), m - i = d → i < m → listed.getD i false = false → m < ops.size → ∃ o, ops[m]? = some o ∧ ∃ e ∈ o.after, Region.binds .any e = true ∧ listed.getD e.on false = false := by
    intro d
    induction d using Nat.strongRecOn with
    | _ d ih =>
      intro i hd hi hun hms
      have hx := List.all_eq_true.1 h1 i (List.mem_range.2 hi)
      rw [Bool.or_eq_true, decide_eq_true_eq] at hx
      rcases hx with hx | hx
      · omega
      · obtain ⟨j, hj, hj2⟩ := List.any_eq_true.1 hx
        rw [Bool.and_eq_true, decide_eq_true_eq] at hj2
        obtain ⟨oj, hoj, e, he, hb, hon⟩ := Region.waitsFor_spec hj2.2
        have hjm : j ≤ m := by have := List.mem_range.1 hj; omega
        by_cases hjt : j = m
        · subst hjt; exact ⟨oj, hoj, e, he, hb, by rw [hon]; exact hun⟩
        · cases hl : listed.getD j false with
          | true =>
            have := inv.closed j oj hoj hl e he hb
            rw [hon, hun] at this; cases this
          | false => exact ih (m - j) (by omega) j rfl (by omega) hl hms
  intro t ht
  obtain ⟨_, ot, hot, hall⟩ := mem_ready.1 ht
  have hts : t < ops.size := (Array.getElem?_eq_some_iff.1 hot).1
  rcases Nat.lt_or_ge t m with h | h
  · exact h
  · exfalso
    by_cases htm : t = m
    · subst htm
      obtain ⟨o, ho, e, he, hb, hf⟩ := key _ i rfl him hun hts
      obtain rfl : o = ot := Option.some.inj (ho.symm.trans hot)
      rw [hall e he hb] at hf; cases hf
    · have hx := List.all_eq_true.1 h2 t (List.mem_range.2 hts)
      rw [Bool.or_eq_true, decide_eq_true_eq] at hx
      rcases hx with hx | hx
      · omega
      · obtain ⟨s, hs, hs2⟩ := List.any_eq_true.1 hx
        rw [Bool.and_eq_true, decide_eq_true_eq] at hs2
        obtain ⟨o, ho, e, he, hb, hon⟩ := Region.waitsFor_spec hs2.2
        obtain rfl : o = ot := Option.some.inj (ho.symm.trans hot)
        have := hall e he hb
        rw [hon, inv.tail s hs2.1] at this; cases this
theorem some_ready (hbk : backB ops = true) {listed : Array Bool} (hsz : listed.size = ops.size) : ∀ (i : Nat), i < ops.size → listed.getD i false = false → ∃ j, j ≤ i ∧ j ∈ Region.ready .any ops listed := by
  intro i
  induction i using Nat.strongRecOn with
  | _ i ih =>
    intro hi hun
    have ho : ops[i]? = some ops[i] := Array.getElem?_eq_getElem hi
    by_cases hall : ∀ e ∈ ops[i].after, Region.binds .any e = true → listed.getD e.on false = true
    · exact ⟨i, Nat.le_refl _, mem_ready.2 ⟨by rw [both_false (by omega)]; exact hun, _, ho, hall⟩⟩
    · have ⟨e, hx⟩ := Classical.not_forall.1 hall
      have ⟨he, hx⟩ := Classical.not_forall.1 hx
      have ⟨hb, hx⟩ := Classical.not_forall.1 hx
      have hlt := back_spec hbk ho he hb
      obtain ⟨j, h1, h2⟩ := ih e.on hlt (by omega) (by simpa using hx)
      exact ⟨j, by omega, h2⟩

/-- Listed, and the same with all from m on taken for listed. -/
structure Masked (ops : Array Oper) (m : Nat) (listed listed' : Array Bool) : Prop where
  size : listed'.size = ops.size
  head : ∀ i d, i < m → listed'.getD i d = listed.getD i d
  tail : ∀ t, m ≤ t → t < ops.size → listed'.getD t true = true
theorem Masked.set {m i : Nat} {listed listed' : Array Bool} (h : Masked ops m listed listed') (hsz : listed.size = ops.size) (him : i < m) : Masked ops m (listed.setIfInBounds i true) (listed'.setIfInBounds i true) := by
  refine ⟨by simp [h.size], fun j d hj => ?_, fun t ht hts => by rw [getD_set_ne true (by omega)]; exact h.tail t ht hts⟩
  by_cases hi : i < ops.size
  · rw [getD_set_at (by rw [h.size]; exact hi), getD_set_at (by rw [hsz]; exact hi), h.head j d hj]
  · by_cases hij : i = j
    · subst hij
      simp only [Array.getD_eq_getD_getElem?]
      rw [Array.getElem?_eq_none (by simp [h.size]; omega), Array.getElem?_eq_none (by simp [hsz]; omega)]
    · rw [getD_set_ne d hij, getD_set_ne d hij, h.head j d hj]
theorem Masked.ready {m j : Nat} {listed listed' : Array Bool} (h : Masked ops m listed listed') (hbk : backB ops = true) (hj : j ∈ Region.ready .any ops listed) (hjm : j < m) : j ∈ Region.ready .any ops listed' := by
  obtain ⟨h0, o, ho, hall⟩ := mem_ready.1 hj
  refine mem_ready.2 ⟨by rw [h.head j true hjm]; exact h0, o, ho, fun e he hb => ?_⟩
  have := back_spec hbk ho he hb
  rw [h.head e.on false (by omega)]
  exact hall e he hb

theorem any_head {m g : Nat} {L : Act → Prop} (hbk : backB ops = true) (hw : wallB ops m = true) (hm : m ≤ ops.size) (hL : ∀ a w, C w → L a → wpAny P .any ops Q g (firstN ops.size m) a w) :
    ∀ (f : Nat) (listed listed' : Array Bool) (a : Act) (w : World), HeadI ops m listed → Masked ops m listed listed' → C w → wpAnyQ P .any ops C L f listed' a → wpAny P .any ops Q (f + g) listed a w := by
  have full : ∀ (listed : Array Bool), HeadI ops m listed → (∀ i, i < m → listed.getD i false = true) → listed = firstN ops.size m := by
    intro listed inv hall
    apply array_getD_ext (by rw [inv.size, firstN_size])
    intro i hi
    rw [firstN_at, if_pos (by rw [← inv.size]; exact hi)]
    by_cases him : i < m
    · rw [hall i him]; simp [him]
    · rw [inv.tail i (by omega)]; simp [him]
  have none' : ∀ (listed listed' : Array Bool), HeadI ops m listed → Masked ops m listed listed' → (∀ i, i < m → listed.getD i false = true) → Region.ready .any ops listed' = [] := by
    intro listed listed' inv hmk hall
    apply List.eq_nil_iff_forall_not_mem.2
    intro j hj
    obtain ⟨h0, o, ho, _⟩ := mem_ready.1 hj
    have hjs : j < ops.size := (Array.getElem?_eq_some_iff.1 ho).1
    by_cases hjm : j < m
    · rw [hmk.head j true hjm, both_false (by rw [inv.size]; exact hjs), hall j hjm] at h0; cases h0
    · rw [hmk.tail j (by omega) hjs] at h0; cases h0
  have ex : ∀ (listed : Array Bool), ¬ (∀ i, i < m → listed.getD i false = true) → ∃ i, i < m ∧ listed.getD i false = false := by
    intro listed h
    have ⟨i, hx⟩ := Classical.not_forall.1 h
    have ⟨hi, hx⟩ := Classical.not_forall.1 hx
    exact ⟨i, hi, by simpa using hx⟩
  intro f
  induction f with
  | zero =>
    intro listed listed' a w inv hmk hC h
    by_cases hall : ∀ i, i < m → listed.getD i false = true
    · rw [full listed inv hall, Nat.zero_add]; exact hL a w hC h.2
    · obtain ⟨i, him, hun⟩ := ex listed hall
      obtain ⟨j, hji, hj⟩ := some_ready hbk inv.size i (by omega) hun
      have := hmk.ready hbk hj (by omega)
      rw [h.1] at this; cases this
  | succ f ih =>
    intro listed listed' a w inv hmk hC h
    by_cases hall : ∀ i, i < m → listed.getD i false = true
    · rw [full listed inv hall]
      exact any_more' (f + 1) (hL a w hC (h.1 (none' listed listed' inv hmk hall)))
    · obtain ⟨i, him, hun⟩ := ex listed hall
      rw [show f + 1 + g = (f + g) + 1 by omega]
      refine ⟨fun h0 => ?_, fun j hj => ?_⟩
      · obtain ⟨j, _, hj⟩ := some_ready hbk inv.size i (by omega) hun
        rw [h0] at hj; cases hj
      · have hjm := wall_stops hw inv him hun j hj
        exact wpOp_of_qOp hC (fun a' w' hw' h' => ih _ _ a' w' (inv.set hj hjm) (hmk.set inv.size hjm) hw' h') (h.2 j (hmk.ready hbk hj hjm))

theorem anyQ_lex {L : Act → Prop} (hs : Region.noSelect ops = true) : ∀ (l : List Oper) (k : Nat) (listed : Array Bool) (a : Act), (∀ j, j < l.length → l[j]? = ops[k + j]?) →
    Region.lexFrom .any ops l.length k listed = true → wpQuiet P ops C L l a → wpAnyQ P .any ops C L l.length listed a
  | [], _, _, _, _, hB, h => ⟨by simpa [Region.lexFrom] using hB, h⟩
  | o :: l, k, listed, a, hl, hB, h => by
    have h0 : ops[k]? = some o := by simpa using (hl 0 (by simp)).symm
    simp only [List.length_cons, Region.lexFrom, Bool.and_eq_true] at hB
    obtain ⟨⟨hr, hf⟩, hB'⟩ := hB
    have hst : qOp P ops C k (wpQuiet P ops C L l) a := by unfold qOp; simp only [h0]; exact h
    obtain ⟨v, hy, hK⟩ := yieldsIn_of_qOp h0 hst
    exact wpAnyQ_first h0 (Region.noSelect_spec hs) l.length listed a (Region.free_spec h0 hf) (by simpa using hr) hy
      (anyQ_lex hs l (k + 1) _ _ (fun j hj => by have := hl (j + 1) (by simp; omega); simpa [Nat.add_assoc, Nat.add_comm 1 j] using this) hB' hK)

/-- The first n operations have come up; the others in whatever order. -/
def AnyAt (P : Program) (ops : Array Oper) (Q : Exit → Act → World → Prop) (n : Nat) (a : Act) (w : World) : Prop := wpAny P .any ops Q (ops.size - n) (firstN ops.size n) a w
def maskN (s n m : Nat) : Array Bool := ((List.range s).map fun i => decide (i < n) || decide (m ≤ i)).toArray
def pieceB (ops : Array Oper) (n m : Nat) : Bool := Region.noSelect ops && (backB ops && (wallB ops m && (decide (n ≤ m) && (decide (m ≤ ops.size) && Region.lexFrom .any ops (m - n) n (maskN ops.size n m)))))
theorem closed_first (hbk : backB ops = true) (n : Nat) : ∀ j o, ops[j]? = some o → (firstN ops.size n).getD j false = true → ∀ e ∈ o.after, Region.binds .any e = true → (firstN ops.size n).getD e.on false = true := by
  intro j o ho hl e he hb
  have := back_spec hbk ho he hb
  have hjs : j < ops.size := (Array.getElem?_eq_some_iff.1 ho).1
  rw [firstN_at, if_pos hjs, decide_eq_true_eq] at hl
  rw [firstN_at, if_pos (by omega)]
  simp; omega
theorem AnyAt.piece {l : List Oper} {n : Nat} {a : Act} {w : World} (m : Nat) (hC : C w) (hB : pieceB l.toArray n m = true)
    (h : wpQuiet P l.toArray C (fun a' => ∀ w', C w' → AnyAt P l.toArray Q m a' w') ((l.drop n).take (m - n)) a) : AnyAt P l.toArray Q n a w := by
  unfold pieceB at hB
  simp only [Bool.and_eq_true, decide_eq_true_eq] at hB
  obtain ⟨hs, hbk, hw, hnm, hms, hlex⟩ := hB
  have hms' : m ≤ l.length := by simpa using hms
  have hlen : ((l.drop n).take (m - n)).length = m - n := by simp; omega
  have inv : HeadI l.toArray m (firstN l.toArray.size n) := ⟨firstN_size _ _, closed_first hbk n, fun t ht => by
    rw [firstN_at]
    split
    · simp; omega
    · rfl⟩
  have hmk : Masked l.toArray m (firstN l.toArray.size n) (maskN l.toArray.size n m) := by
    refine ⟨by simp [maskN], fun i d hi => ?_, fun t ht hts => ?_⟩
    · have hi2 : i < l.length := by omega
      rw [firstN_at, if_pos (by simpa using hi2)]
      have : ¬ m ≤ i := by omega
      simp [maskN, hi2, this]
    · have hts' : t < l.length := by simpa using hts
      simp [maskN, hts', ht]
  have hq := anyQ_lex (P := P) (C := C) hs ((l.drop n).take (m - n)) n (maskN l.toArray.size n m) a (fun j hj => by
    rw [hlen] at hj
    simp [hj, List.getElem?_drop]) (by rw [hlen]; exact hlex) h
  have := any_head (P := P) (Q := Q) (g := l.toArray.size - m) hbk hw hms (fun a w hw h => h w hw) _ _ _ a w inv hmk hC hq
  unfold AnyAt
  rw [hlen, show m - n + (l.toArray.size - m) = l.toArray.size - n by simp; omega] at this
  exact this
theorem AnyAt.one {l : List Oper} {n : Nat} {a : Act} {w : World} {o : Oper} (hB : (Region.ready .any l.toArray (firstN l.toArray.size n) == [n]) = true) (ho : l[n]? = some o)
    (h : ∀ K : Act → World → Prop, (∀ a w, AnyAt P l.toArray Q (n + 1) a w → K a w) → if Region.wanted o (yielded l.toArray a.tmps) then o.wp P a w K Q else K (a.put o.dst undef) w) : AnyAt P l.toArray Q n a w := by
  have hr : Region.ready .any l.toArray (firstN l.toArray.size n) = [n] := by simpa using hB
  have hn : n < l.length := (List.getElem?_eq_some_iff.1 ho).1
  unfold AnyAt
  rw [show l.toArray.size - n = (l.toArray.size - (n + 1)) + 1 by simp; omega]
  refine ⟨fun h0 => (by rw [hr] at h0; cases h0), fun i hi => ?_⟩
  rw [hr] at hi
  obtain rfl : i = n := by simpa using hi
  unfold wpOp
  have ho' : l.toArray[i]? = some o := by simpa using ho
  simp only [ho']
  rw [firstN_succ]
  have := h _ (fun _ _ h => h)
  split
  · rename_i hwt
    rw [if_pos hwt] at this
    exact .inl this
  · rename_i hwt
    rw [if_neg hwt] at this
    exact this
theorem AnyAt.done {l : List Oper} {a : Act} {w : World} {n : Nat} (hn : n = l.length) (h : Q .normal a w) : AnyAt P l.toArray Q n a w := by
  unfold AnyAt
  subst hn
  rw [show l.toArray.size - l.length = 0 by simp]
  refine ⟨List.eq_nil_iff_forall_not_mem.2 fun j hj => ?_, h⟩
  obtain ⟨h0, o, ho, _⟩ := mem_ready.1 hj
  have hjs : j < l.length := by simpa using (Array.getElem?_eq_some_iff.1 ho).1
  rw [firstN_at, if_pos (by simpa using hjs)] at h0
  simp at h0
  omega
theorem wp_region_at {id : Nat} {l : List Oper} {a : Act} {w : World} (hm : P.follows .mixedOrders = true) (h : AnyAt P l.toArray Q 0 a (w.drewN 1)) : (Code.region id l.toArray true).wp P Q a w := by
  refine wp_region_any hm ?_
  unfold AnyAt at h
  rw [← firstN_zero, Nat.sub_zero] at h
  exact h
theorem AnyAt.gr {l : List Oper} {n : Nat} {a : Act} {w : World} (m : Nat) (hB : pieceB l.toArray n m = true)
    (h : wpQuiet P l.toArray (fun w' => ∃ p : Gr w, w' = p.W) (fun a' => ∀ w', (∃ p : Gr w, w' = p.W) → AnyAt P l.toArray Q m a' w') ((l.drop n).take (m - n)) a) : AnyAt P l.toArray Q n a w :=
  AnyAt.piece (C := fun w' => ∃ p : Gr w, w' = p.W) m ⟨⟨w, Below.refl _ _⟩, rfl⟩ hB h
end
end Go.Proofs.Ytpmhchbkhohmjaa
