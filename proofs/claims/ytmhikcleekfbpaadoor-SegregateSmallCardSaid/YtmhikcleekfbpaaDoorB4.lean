/-
  Contracts and lemmas, in one text: SlA, SlB, SlC, SlD, SlE, SlI, SlJ, SlP, SlAp, Qb, Qc.
-/
import Derived.Test.YtmhikcleekfbpaaDoorB3
import Derived.Test.YtmhikcleekfbpaaDoorB1
import Derived.IntWalk
import Derived.Deep.RegionHeld3
import Derived.RangeFuncNested
import Derived.RangeFuncBound
import Derived.RangeFuncCalls
import Derived.RangeFuncLeaves
import Derived.RangeFuncBox
import Derived.Shelf.Abstract
import Derived.Shelf.RegionOpen
import Derived.OwnWalkIn
import Derived.TacticsInMore
import Derived.LoopNIn
import Derived.LoopIn
import Derived.Laws.StructEq
import Derived.BigQuiet
import Derived.Test.YtmhikcleekfbpaaDoorB2
import Derived.StillTail
namespace Go.Proofs.YtmhikcleekfbpaaDoor
open Go.RowKit

structure Slt where
  col : Int
  tier : Int
  half : Nat
  deriving DecidableEq, Inhabited
def sltL (x : Slt) : List Value := [.int .i64 x.col, .int .i64 x.tier, .int .u8 (x.half : Nat)]
def tSlt : Ty Slt where
  k := 3
  pos := by decide
  rd := fun _ _ cs x => cs = sltL x
  len := by rintro _ _ _ _ rfl; rfl
  one := by rintro _ _ _ _ rfl; rfl
  keep := fun h _ => h
  more := fun h _ => h
theorem SlT.slt {w : World} {S : Nat → Prop} {A : Option Addr} {l : List Slt} (h : SlT tSlt w S A l) {j : Nat} (hj : j < l.length) :
    ∃ b off, A = some ⟨b, off, none⟩ ∧ S b ∧ w.cell? ⟨b, off + j * 3, none⟩ = some (.int .i64 (l.getD j default).col) ∧ w.cell? ⟨b, off + j * 3 + 1, none⟩ = some (.int .i64 (l.getD j default).tier) ∧ w.cell? ⟨b, off + j * 3 + 2, none⟩ = some (.int .u8 ((l.getD j default).half : Nat)) := by
  obtain ⟨b, off, cs, e, hb, h1, h2⟩ := h.at_ hj default
  rw [show cs = _ from h1] at h2
  exact ⟨b, off, e, hb, h2 0 _ rfl, h2 1 _ rfl, h2 2 _ rfl⟩
theorem SlT.u8 {w : World} {S : Nat → Prop} {A : Option Addr} {l : List Nat} (h : SlT tU8 w S A l) {j : Nat} (hj : j < l.length) :
    ∃ b off, A = some ⟨b, off, none⟩ ∧ S b ∧ w.cell? ⟨b, off + j, none⟩ = some (.int .u8 (l.getD j 0 : Nat)) := by
  obtain ⟨b, off, cs, e, hb, h1, h2⟩ := h.at_ hj 0
  refine ⟨b, off, e, hb, ?_⟩
  have := h2 0 (.int .u8 (l.getD j 0 : Nat)) (by rw [show cs = _ from h1]; rfl)
  simpa [tU8] using this
/-- The first index that is wanted. -/
def idxF {α : Type} (p : α → Bool) (l : List α) : Int := match l.findIdx? p with | some i => (i : Int) | none => -1
theorem idx_none {α : Type} {p : α → Bool} {l : List α} (d : α) (h : ∀ i, i < l.length → p (l.getD i d) = false) : idxF p l = -1 := by
  unfold idxF
  rw [List.findIdx?_eq_none_iff.2 fun x hx => by
    obtain ⟨i, hi, rfl⟩ := List.getElem_of_mem hx
    have := h i hi
    simpa [hi] using this]
theorem idx_some {α : Type} {p : α → Bool} {l : List α} (d : α) {k : Nat} (hk : k < l.length) (hp : p (l.getD k d) = true) (h : ∀ i, i < k → p (l.getD i d) = false) : idxF p l = k := by
  unfold idxF
  have : l.findIdx? p = some k := by
    rw [List.findIdx?_eq_some_iff_getElem]
    refine ⟨hk, by simpa [hk] using hp, fun j hj => ?_⟩
    have := h j hj
    simpa [show j < l.length by omega] using this
  rw [this]
theorem idx_ge {α : Type} (p : α → Bool) (l : List α) : decide ((0 : Int) ≤ idxF p l) = l.any p := by
  unfold idxF
  rw [Bool.eq_iff_iff]
  cases h : l.findIdx? p with
  | none =>
    rw [List.findIdx?_eq_none_iff] at h
    simp only [decide_eq_true_eq]
    constructor
    · intro h'; omega
    · intro h'
      obtain ⟨x, hx, hp⟩ := List.any_eq_true.1 h'
      rw [h x hx] at hp; cases hp
  | some i =>
    obtain ⟨hi, hp, _⟩ := List.findIdx?_eq_some_iff_getElem.1 h
    simp only [decide_eq_true_eq]
    exact ⟨fun _ => List.any_eq_true.2 ⟨_, List.getElem_mem hi, hp⟩, fun _ => by omega⟩
/-- A search: what is known of the elements before. -/
def Before {α : Type} (p : α → Bool) (l : List α) (d : α) (k : Nat) : Prop := ∀ i, i < k → p (l.getD i d) = false
theorem Before.zero {α : Type} {p : α → Bool} {l : List α} {d : α} : Before p l d 0 := fun i h => absurd h (by omega)
theorem Before.succ {α : Type} {p : α → Bool} {l : List α} {d : α} {k : Nat} (h : Before p l d k) (hk : p (l.getD k d) = false) : Before p l d (k + 1) := fun i hi => by
  rcases Nat.lt_succ_iff_lt_or_eq.1 hi with h' | h'
  · exact h i h'
  · rw [h']; exact hk

set_option maxHeartbeats 1000000 in
theorem indexU8_any (A : Option Addr) (c : Nat) (l : List Nat) (x : Nat) (S : Nat → Prop) (w : World) (hs : SlT tU8 w S A l) (hl : l.length ≤ 1000000) :
    Calls Tryd.prog 79 #[.slice A l.length c, .int .u8 (x : Nat)] w fun e w' => e = .returned (.int .i64 (idxF (fun y => x == y) l)) ∧ w = w' := by
  have HS := Lib.hid hs; clear hs
  go_enter Tryd.func79, Tryd.ntmps79
  go_wp2
  go_loop [8] (fun i => ∃ k : Nat, k ≤ l.length ∧ i = .int .i64 k ∧ Hid (Before (fun y => x == y) l 0 k)) (fun i => l.length - (intOf i).toNat)
  case atStart => exact ⟨0, Nat.zero_le _, rfl, Lib.hid .zero⟩
  case round =>
    obtain ⟨k, hk, rfl, HB⟩ := hrel
    by_cases hlt : k < l.length
    · obtain ⟨b, off, rfl, _, c0⟩ := HS.out.u8 hlt
      have hk0 : (0 : Int) ≤ (k : Int) := by omega
      have hk1 : (k : Int) < (l.length : Int) := by omega
      cases hp : (x == l.getD k 0) with
      | true =>
        have HV := Lib.hid (idx_some (p := fun y => x == y) 0 hlt hp HB.out)
        clear HB
        have hx : x = l.getD k 0 := by simpa using hp
        rw [← hx] at c0
        clear hp hx
        go_wp2
        go_ret
        exact ⟨by rw [HV.out]; rfl, rfl⟩
      | false =>
        have HN := Lib.hid (HB.out.succ hp)
        clear HB
        have hne : ((x : Int) == ((l.getD k 0 : Nat) : Int)) = false := by simp at hp ⊢; omega
        clear hp
        generalize l.getD k 0 = y at *
        go_wp2
        go_round
        case rel => exact ⟨k + 1, by omega, by go_num, HN⟩
        case measure => simp [intOf]; omega
    · obtain rfl : k = l.length := by omega
      have HV := Lib.hid (idx_none (p := fun y => x == y) 0 HB.out)
      go_wp2
      go_ret
      exact ⟨by rw [HV.out]; rfl, rfl⟩
set_option maxHeartbeats 400000 in
theorem containsU8_any (A : Option Addr) (c : Nat) (l : List Nat) (x : Nat) (S : Nat → Prop) (w : World) (hs : SlT tU8 w S A l) (hl : l.length ≤ 1000000) :
    Calls Tryd.prog 68 #[.slice A l.length c, .int .u8 (x : Nat)] w fun e w' => e = .returned (.bool (l.any fun y => x == y)) ∧ w = w' := by
  have HC := Lib.hid (indexU8_any A c l x S w hs hl)
  have HV := Lib.hid (idx_ge (fun y => x == y) l)
  clear hs
  go_enter Tryd.func68, Tryd.ntmps68
  go_wp2_with fail
  refine HC.out.mono ?_
  rintro e w' ⟨rfl, rfl⟩
  generalize idxF (fun y => x == y) l = v at *
  go_wp2
  go_ret
  exact ⟨by rw [← HV.out]; rfl, rfl⟩

def halvesL (size : Nat) : List Nat := if size = 40 then [0] else if size = 20 then [1, 2] else []
/-- What a call that makes a list of bytes leaves. -/
def OwnU8 (w : World) (l : List Nat) (e : Ending) (w' : World) : Prop := ∃ A c, e = .returned (.slice A l.length c) ∧ SlT tU8 w' (Lt w'.heap.size) A l ∧ Below w.heap.size w w'
theorem sl_u8s {w : World} {g : Nat} {t : TypeId} {l : List Nat} (hb : Bk w g t (u8s l).toArray) : SlT tU8 w (Lt w.heap.size) (some ⟨g, 0, none⟩) l := by
  refine sl_flat hb ?_ hb.lt
  have : ∀ l : List Nat, Flat tU8 w (Lt w.heap.size) (u8s l) l := by
    intro l
    induction l with
    | nil => rfl
    | cons x l ih => exact ⟨[.int .u8 (x : Nat)], u8s l, rfl, rfl, ih⟩
  simpa using this l
set_option maxHeartbeats 400000 in
theorem halves_any (size : Nat) (w : World) : Calls Tryd.prog 66 #[.int .u8 (size : Nat)] w (OwnU8 w (halvesL size)) := by
  unfold halvesL
  by_cases h40 : size = 40
  · subst h40
    go_enter Tryd.func66, Tryd.ntmps66
    go_wp2
    go_ret
    exact ⟨_, _, rfl, sl_u8s (l := [0]) (Bk.new w 5 #[.int .u8 0]), ba1 w _⟩
  · rw [if_neg h40]
    have n40 : ((size : Int) == 40) = false := by simp; omega
    by_cases h20 : size = 20
    · subst h20
      clear h40
      go_enter Tryd.func66, Tryd.ntmps66
      go_wp2
      go_ret
      exact ⟨_, _, rfl, sl_u8s (l := [1, 2]) (Bk.new w 5 #[.int .u8 1, .int .u8 2]), ba1 w _⟩
    · rw [if_neg h20]
      have n20 : ((size : Int) == 20) = false := by simp; omega
      clear h40 h20
      go_enter Tryd.func66, Tryd.ntmps66
      go_wp2
      go_ret
      exact ⟨none, 0, rfl, SlT.nil, Below.refl _ _⟩
def sharesB (a b : Nat) : Bool := a == b || (a == 0 || b == 0)
theorem int_beq (a b : Nat) : ((a : Int) == (b : Int)) = (a == b) := by rw [Bool.eq_iff_iff]; simp; omega
theorem ret_bool {a b : Bool} (h : a = b) : Ending.returned (.bool a) = .returned (.bool b) := by rw [h]
set_option maxHeartbeats 400000 in
theorem shares_any (a b : Nat) (w : World) : Calls Tryd.prog 48 #[.int .u8 (a : Nat), .int .u8 (b : Nat)] w fun e w' => e = .returned (.bool (sharesB a b)) ∧ w = w' := by
  have HV : Hid (sharesB a b = (a == b || (a == 0 || b == 0))) := Lib.hid rfl
  have k1 := int_beq a b
  have k2 := int_beq a 0
  have HK3 := Lib.hid (int_beq b 0)
  cases h1 : (a == b) <;> cases h2 : (a == 0)
  all_goals
    rw [h1] at k1
    rw [h2] at k2
    rw [h1, h2] at HV
    clear h1 h2
    simp only [Int.ofNat_zero] at k2
    generalize (a : Int) = A at *
    go_enter Tryd.func48, Tryd.ntmps48
    go_wp2
    go_ret
    exact ⟨by rw [HV.out]; first | rfl | exact ret_bool HK3.out, rfl⟩
end Go.Proofs.YtmhikcleekfbpaaDoor
namespace Go.Proofs.YtmhikcleekfbpaaDoor
open Go.RowKit

def slotRight (s : Shp) (x : Slt) (size : Nat) : Bool :=
  decide (0 ≤ x.col) && (decide (x.col < s.cols.length) && (decide (0 ≤ x.tier) && (decide (x.tier < (s.cols.getD x.col.toNat default).tiers) && (halvesL size).any fun y => x.half == y)))
theorem halves_len (size : Nat) : (halvesL size).length ≤ 1000000 := by unfold halvesL; split <;> (try split) <;> simp

set_option maxRecDepth 100000 in
set_option maxHeartbeats 2000000 in
theorem slotRight_out (s : Shp) (h : Hd) (x : Slt) (size : Nat) (w : World) (hx : x.col < 0 ∨ (s.cols.length : Int) ≤ x.col) :
    Calls Tryd.prog 54 #[.agg (shpA s h), .agg (sltL x).toArray, .int .u8 (size : Nat)] w (Ret w (.bool (slotRight s x size))) := by
  obtain ⟨xc, xt, xh⟩ := x
  simp only at hx
  have HV : Hid (slotRight s ⟨xc, xt, xh⟩ size = false) := Lib.hid (by
    unfold slotRight
    rcases hx with hx | hx
    · rw [decide_eq_false (by simp only; omega)]; rfl
    · by_cases h0 : 0 ≤ xc
      · rw [decide_eq_true (by simp only; omega), decide_eq_false (by simp only; omega)]; rfl
      · rw [decide_eq_false (by simp only; omega)]; rfl)
  unfold sltL shpA
  simp only
  by_cases h0 : 0 ≤ xc
  · have hx : (s.cols.length : Int) ≤ xc := by omega
    have d0 : decide (0 ≤ xc) = true := by simpa using h0
    have d1 : decide (xc < (s.cols.length : Int)) = false := by simp; omega
    clear h0
    go_enter Tryd.func54, Tryd.ntmps54
    go_wp2_with fail
    go_quiet (fail)
    go_wp2
    go_ret
    exact ⟨by rw [HV.out]; rfl, (ba2 w _ _).trans (below_drewN (Below.refl _ _) _)⟩
  · have d0 : decide (0 ≤ xc) = false := by simp; omega
    clear hx h0
    go_enter Tryd.func54, Tryd.ntmps54
    go_wp2_with fail
    go_quiet (fail)
    go_wp2
    go_ret
    exact ⟨by rw [HV.out]; rfl, (ba2 w _ _).trans (below_drewN (Below.refl _ _) _)⟩

set_option maxRecDepth 100000 in
set_option maxHeartbeats 2000000 in
theorem slotRight_in (s : Shp) (h : Hd) (k : Nat) (xt : Int) (xh : Nat) (size : Nat) (w : World) (hs : ShpR w (Lt w.heap.size) s h) (hk : k < s.cols.length) :
    Calls Tryd.prog 54 #[.agg (shpA s h), .agg #[.int .i64 k, .int .i64 xt, .int .u8 (xh : Nat)], .int .u8 (size : Nat)] w (Ret w (.bool (slotRight s ⟨k, xt, xh⟩ size))) := by
  obtain ⟨b, off, Ap, q, hA1, hbB, _, _, _, _, _, c3, _⟩ := hs.cols.col hk
  have HV : Hid (slotRight s ⟨k, xt, xh⟩ size = (decide (0 ≤ xt) && (decide (xt < (s.cols.getD k default).tiers) && (halvesL size).any fun y => xh == y))) := Lib.hid (by
    unfold slotRight
    simp only [Int.toNat_natCast]
    rw [decide_eq_true (show (0 : Int) ≤ (k : Int) by omega), decide_eq_true (show (k : Int) < (s.cols.length : Int) by omega)]; rfl)
  have hbB : b < w.heap.size := hbB
  obtain ⟨A1, cc1, A2, cc2, A3, cc3, A4, cc4, A5, cc5⟩ := h
  simp only at hA1
  subst hA1
  clear hs
  unfold shpA
  simp only
  generalize (s.cols.getD k default).tiers = tr at *
  have i1 : (0 : Int) ≤ (k : Int) := by omega
  have i2 : (k : Int) < (s.cols.length : Int) := by omega
  have d0 : decide (k < s.cols.length) = true := by simpa using hk
  cases d1 : decide (0 ≤ xt) with
  | false =>
    have HW := Lib.hid (show slotRight s ⟨k, xt, xh⟩ size = false by rw [HV.out, d1]; rfl)
    clear HV
    go_enter Tryd.func54, Tryd.ntmps54
    go_wp2_with fail
    go_quiet (fail)
    go_wp2
    go_ret
    exact ⟨by rw [HW.out]; rfl, (ba2 w _ _).trans (below_drewN (Below.refl _ _) _)⟩
  | true =>
    cases d2 : decide (xt < tr) with
    | false =>
      have HW := Lib.hid (show slotRight s ⟨k, xt, xh⟩ size = false by rw [HV.out, d1, d2]; rfl)
      clear HV
      go_enter Tryd.func54, Tryd.ntmps54
      go_wp2_with fail
      go_quiet (fail)
      go_wp2
      go_ret
      exact ⟨by rw [HW.out]; rfl, (ba2 w _ _).trans (below_drewN (Below.refl _ _) _)⟩
    | true =>
      have HW := Lib.hid (show slotRight s ⟨k, xt, xh⟩ size = (halvesL size).any fun y => xh == y by rw [HV.out, d1, d2]; rfl)
      clear HV
      have HH := Lib.hid (fun W => halves_any size W)
      have HL := Lib.hid (halves_len size)
      generalize halvesL size = L at *
      go_enter Tryd.func54, Tryd.ntmps54
      go_wp2_with fail
      have n1 : w.heap.size < w.heap.size + 1 := by omega
      have n2 : b < w.heap.size + 1 := by omega
      have n3 : w.heap.size < w.heap.size + 1 + 1 := by omega
      have n4 : b < w.heap.size + 1 + 1 := by omega
      have n5 : w.heap.size + 1 < w.heap.size + 1 + 1 := by omega
      go_region_held3 (fun w' => w'.cell? ⟨w.heap.size, 0, none⟩ = some (.slice (some ⟨b, off, none⟩) s.cols.length cc1) ∧ w'.cell? ⟨w.heap.size + 1, 0, none⟩ = some (.int .i64 k) ∧ w'.cell? ⟨w.heap.size + 1, 1, none⟩ = some (.int .i64 xt) ∧ w'.cell? ⟨w.heap.size + 1, 2, none⟩ = some (.int .u8 (xh : Nat)) ∧ w'.cell? ⟨b, off + k * 12 + 3, none⟩ = some (.int .i64 tr)) (go_keep)
        (first
          | (go_at_call 66; refine (HH.out _).mono ?_; rintro e w1 ⟨AH, cH, rfl, hsH, hb1⟩; obtain ⟨hc1, hf1⟩ := bcell hb1; have HSH := Lib.hid hsH; clear hsH)
          | (go_at_call 68; refine (containsU8_any _ _ _ _ _ _ HSH.out HL.out).mono ?_; rintro e w2 ⟨rfl, rfl⟩))
      go_wp2
      go_ret
      exact ⟨by rw [HW.out]; rfl, ((ba2 w _ _).drew).trans (hb1.mono (by simp; omega))⟩
theorem slotRight_any (s : Shp) (h : Hd) (x : Slt) (size : Nat) (w : World) (hs : ShpR w (Lt w.heap.size) s h) :
    Calls Tryd.prog 54 #[.agg (shpA s h), .agg (sltL x).toArray, .int .u8 (size : Nat)] w (Ret w (.bool (slotRight s x size))) := by
  by_cases hx : x.col < 0 ∨ (s.cols.length : Int) ≤ x.col
  · exact slotRight_out s h x size w hx
  · obtain ⟨xc, xt, xh⟩ := x
    simp only at hx
    obtain ⟨k, rfl⟩ := Int.eq_ofNat_of_zero_le (show 0 ≤ xc by omega)
    exact slotRight_in s h k xt xh size w hs (by omega)
end Go.Proofs.YtmhikcleekfbpaaDoor
namespace Go.Proofs.YtmhikcleekfbpaaDoor
open Go.RowKit

def meetB (a b : Slt) : Bool := a.col == b.col && (a.tier == b.tier && sharesB a.half b.half)
def overB (a b : Slt) : Bool := a.col == b.col && (decide (b.tier < a.tier) && sharesB a.half b.half)
set_option maxRecDepth 100000 in
set_option maxHeartbeats 1000000 in
theorem meet_any (a b : Slt) (w : World) : Calls Tryd.prog 56 #[.agg (sltL a).toArray, .agg (sltL b).toArray] w (Ret w (.bool (meetB a b))) := by
  obtain ⟨ac, at_, ah⟩ := a
  obtain ⟨bc, bt, bh⟩ := b
  have HV : Hid (meetB ⟨ac, at_, ah⟩ ⟨bc, bt, bh⟩ = (ac == bc && (at_ == bt && sharesB ah bh))) := Lib.hid rfl
  have HS := Lib.hid (fun W => shares_any ah bh W)
  generalize sharesB ah bh = r at *
  unfold sltL
  simp only
  cases e1 : (ac == bc) with
  | false =>
    have HW := Lib.hid (HV.out.trans (by rw [e1]; rfl : _ = false))
    clear HV
    go_enter Tryd.func56, Tryd.ntmps56
    go_wp2_with fail
    go_ret
    exact ⟨by rw [HW.out]; rfl, ba2 w _ _⟩
  | true =>
    cases e2 : (at_ == bt) with
    | false =>
      have HW := Lib.hid (HV.out.trans (by rw [e1, e2]; rfl : _ = false))
      clear HV
      go_enter Tryd.func56, Tryd.ntmps56
      go_wp2_with fail
      go_ret
      exact ⟨by rw [HW.out]; rfl, ba2 w _ _⟩
    | true =>
      have HW := Lib.hid (HV.out.trans (by rw [e1, e2]; rfl : _ = r))
      clear HV
      go_enter Tryd.func56, Tryd.ntmps56
      go_wp2_with (go_at_call 48; refine (HS.out _).mono ?_; rintro e w' ⟨rfl, rfl⟩)
      go_ret
      exact ⟨by rw [HW.out]; rfl, ba2 w _ _⟩
set_option maxRecDepth 100000 in
set_option maxHeartbeats 1000000 in
theorem over_any (a b : Slt) (w : World) : Calls Tryd.prog 36 #[.agg (sltL a).toArray, .agg (sltL b).toArray] w (Ret w (.bool (overB a b))) := by
  obtain ⟨ac, at_, ah⟩ := a
  obtain ⟨bc, bt, bh⟩ := b
  have HV : Hid (overB ⟨ac, at_, ah⟩ ⟨bc, bt, bh⟩ = (ac == bc && (decide (bt < at_) && sharesB ah bh))) := Lib.hid rfl
  have HS := Lib.hid (fun W => shares_any ah bh W)
  generalize sharesB ah bh = r at *
  unfold sltL
  simp only
  cases e1 : (ac == bc) with
  | false =>
    have HW := Lib.hid (HV.out.trans (by rw [e1]; rfl : _ = false))
    clear HV
    go_enter Tryd.func36, Tryd.ntmps36
    go_wp2_with fail
    go_ret
    exact ⟨by rw [HW.out]; rfl, ba2 w _ _⟩
  | true =>
    cases e2 : decide (bt < at_) with
    | false =>
      have HW := Lib.hid (HV.out.trans (by rw [e1, e2]; rfl : _ = false))
      clear HV
      go_enter Tryd.func36, Tryd.ntmps36
      go_wp2_with fail
      go_ret
      exact ⟨by rw [HW.out]; rfl, ba2 w _ _⟩
    | true =>
      have HW := Lib.hid (HV.out.trans (by rw [e1, e2]; rfl : _ = r))
      clear HV
      go_enter Tryd.func36, Tryd.ntmps36
      go_wp2_with (go_at_call 48; refine (HS.out _).mono ?_; rintro e w' ⟨rfl, rfl⟩)
      go_ret
      exact ⟨by rw [HW.out]; rfl, ba2 w _ _⟩
def cmpZ (a b : Int) : Int := if a < b then -1 else if b < a then 1 else 0
/-- The first number that is not 0. -/
def orF : List Int → Int
  | [] => 0
  | x :: l => if x = 0 then orF l else x
theorem or_zero : ∀ (l : List Int), (∀ i, i < l.length → l.getD i 0 = 0) → orF l = 0
  | [], _ => rfl
  | x :: l, h => by
    have h0 := h 0 (by simp)
    have ih := or_zero l fun i hi => by have := h (i + 1) (by simp; omega); simpa using this
    simp at h0
    simp [orF, h0, ih]
theorem or_at : ∀ (l : List Int) (k : Nat), k < l.length → l.getD k 0 ≠ 0 → (∀ i, i < k → l.getD i 0 = 0) → orF l = l.getD k 0
  | [], k, hk, _, _ => by simp at hk
  | x :: l, 0, _, h, _ => by simp at h; simp [orF, h]
  | x :: l, k + 1, hk, h, hb => by
    have h0 := hb 0 (by omega)
    simp at h0
    have := or_at l k (by simpa using hk) (by simpa using h) fun i hi => by have := hb (i + 1) (by omega); simpa using this
    simp only [orF, h0, if_true]
    simpa using this
end Go.Proofs.YtmhikcleekfbpaaDoor
namespace Go.Proofs.YtmhikcleekfbpaaDoor
open Go.RowKit

def cmpF (a b : Slt) : Int := orF [cmpZ a.col b.col, cmpZ a.tier b.tier, cmpZ a.half b.half]
/-- An equality of slots, as slices.Index asks it. -/
def sltEq (x y : Slt) : Bool := x.col == y.col && (x.tier == y.tier && x.half == y.half)
theorem sltEq_iff (x y : Slt) : sltEq x y = true ↔ x = y := by
  obtain ⟨a, b, c⟩ := x
  obtain ⟨d, e, f⟩ := y
  simp [sltEq]
set_option maxRecDepth 100000 in
set_option maxHeartbeats 2000000 in
theorem indexSlt_any (A : Option Addr) (c : Nat) (l : List Slt) (x : Slt) (w : World) (hs : SlT tSlt w (Lt w.heap.size) A l) (hl : l.length ≤ 2000000) :
    Calls Tryd.prog 80 #[.slice A l.length c, .agg (sltL x).toArray] w (Ret w (.int .i64 (idxF (fun y => sltEq x y) l))) := by
  have HS := Lib.hid hs; clear hs
  obtain ⟨xc, xt, xh⟩ := x
  unfold sltL
  simp only
  go_enter Tryd.func80, Tryd.ntmps80
  go_wp2
  have hb0 := ba1 w (.cells #[.int .i64 xc, .int .i64 xt, .int .u8 (xh : Nat)] 37)
  have hx := Bk.new w 37 #[.int .i64 xc, .int .i64 xt, .int .u8 (xh : Nat)]
  have HSW := Lib.hid (HS.out.on hb0)
  have HB0 := Lib.hid hb0
  clear HS hb0
  generalize (w.alloc _) = W at *
  have x0 : W.cell? ⟨w.heap.size, 0, none⟩ = some (.int .i64 xc) := hx.cell 0
  have x1 : W.cell? ⟨w.heap.size, 1, none⟩ = some (.int .i64 xt) := hx.cell 1
  have x2 : W.cell? ⟨w.heap.size, 2, none⟩ = some (.int .u8 (xh : Nat)) := hx.cell 2
  clear hx
  go_loopw [8] (fun i wr => ∃ k m : Nat, k ≤ l.length ∧ i = .int .i64 k ∧ wr = W.drewN m ∧ Hid (Before (fun y => sltEq ⟨xc, xt, xh⟩ y) l default k)) (fun i _ => l.length - (intOf i).toNat)
  case atStart => exact ⟨0, 0, Nat.zero_le _, rfl, rfl, Lib.hid .zero⟩
  case round =>
    obtain ⟨k, m, hk, rfl, rfl, HB⟩ := hrel
    by_cases hlt : k < l.length
    · obtain ⟨b, off, rfl, _, c0, c1, c2⟩ := HSW.out.slt hlt
      have hk0 : (0 : Int) ≤ (k : Int) := by omega
      have hk1 : (k : Int) < (l.length : Int) := by omega
      cases hp : sltEq ⟨xc, xt, xh⟩ (l.getD k default) with
      | true =>
        have HV := Lib.hid (idx_some (p := fun y => sltEq ⟨xc, xt, xh⟩ y) default hlt hp HB.out)
        clear HB
        have hx := (sltEq_iff _ _).1 hp
        rw [← hx] at c0 c1 c2
        simp only at c0 c1 c2
        clear hp hx
        go_wp2
        go_quiet (fail)
        go_wp2
        go_ret
        exact ⟨by rw [HV.out]; rfl, HB0.out.trans (below_drewN (below_drewN (Below.refl _ _) _) _)⟩
      | false =>
        have HN := Lib.hid (HB.out.succ hp)
        clear HB
        generalize l.getD k default = y at *
        obtain ⟨yc, yt, yh⟩ := y
        simp only at c0 c1 c2
        have hne : (xc == yc && (xt == yt && ((xh : Int) == (yh : Int)))) = false := by rw [int_beq]; exact hp
        clear hp
        cases e1 : (xc == yc) with
        | false =>
          clear hne
          go_wp2
          go_quiet (fail)
          go_wp2
          go_roundw
          case rel => exact ⟨k + 1, m + nq, by omega, by go_num, by simp, HN⟩
          case measure => simp [intOf]; omega
        | true =>
          obtain rfl : xc = yc := by simpa using e1
          cases e2 : (xt == yt) with
          | false =>
            clear hne e1
            go_wp2
            go_quiet (fail)
            go_wp2
            go_roundw
            case rel => exact ⟨k + 1, m + nq, by omega, by go_num, by simp, HN⟩
            case measure => simp [intOf]; omega
          | true =>
            obtain rfl : xt = yt := by simpa using e2
            have e3 : ((xh : Int) == (yh : Int)) = false := by simpa using hne
            clear hne e1 e2
            go_wp2
            go_quiet (fail)
            go_wp2
            go_roundw
            case rel => exact ⟨k + 1, m + nq, by omega, by go_num, by simp, HN⟩
            case measure => simp [intOf]; omega
    · obtain rfl : k = l.length := by omega
      have HV := Lib.hid (idx_none (p := fun y => sltEq ⟨xc, xt, xh⟩ y) default HB.out)
      go_wp2
      go_ret
      exact ⟨by rw [HV.out]; rfl, HB0.out.trans (below_drewN (Below.refl _ _) _)⟩
end Go.Proofs.YtmhikcleekfbpaaDoor
namespace Go.Proofs.YtmhikcleekfbpaaDoor
open Go.RowKit

set_option maxHeartbeats 400000 in
theorem containsSlt_any (A : Option Addr) (c : Nat) (l : List Slt) (x : Slt) (w : World) (hs : SlT tSlt w (Lt w.heap.size) A l) (hl : l.length ≤ 2000000) :
    Calls Tryd.prog 70 #[.slice A l.length c, .agg (sltL x).toArray] w (Ret w (.bool (l.any fun y => sltEq x y))) := by
  have HC := Lib.hid (fun (W : World) (hW : Below w.heap.size w W) => indexSlt_any A c l x W ((hs.below hW).up hW.size) hl)
  have HV := Lib.hid (idx_ge (fun y => sltEq x y) l)
  clear hs
  obtain ⟨xc, xt, xh⟩ := x
  unfold sltL at HC ⊢
  simp only at HC ⊢
  go_enter Tryd.func70, Tryd.ntmps70
  go_wp2_with fail
  refine (HC.out _ ?_).mono ?_
  · first | exact Below.refl _ _ | exact ba1 w _
  rintro e w1 ⟨rfl, hq⟩
  generalize idxF (fun y => sltEq ⟨xc, xt, xh⟩ y) l = v at *
  go_wp2
  go_ret
  exact ⟨by rw [← HV.out]; rfl, by first | exact hq | exact (ba1 w _).trans (hq.mono (ba1 w _).size)⟩
def hasB (x : Slt) (l : List Slt) (half : Nat) : Bool := l.any fun y => sltEq ⟨x.col, x.tier - 1, half⟩ y
def heldB (x : Slt) (l : List Slt) : Bool := decide (x.tier ≤ 0) || (hasB x l x.half || (x.half == 0 && (hasB x l 1 && hasB x l 2)))
set_option maxRecDepth 100000 in
set_option maxHeartbeats 1000000 in
theorem held1 (x : Slt) (A : Option Addr) (c : Nat) (l : List Slt) (half gl gx : Nat) (w : World) (hs : SlT tSlt w (Lt w.heap.size) A l) (hl : l.length ≤ 2000000) (h1 : Bk w gl 65 #[.slice A l.length c]) (h2 : Bk w gx 37 (sltL x).toArray) (ht : 0 < x.tier ∧ x.tier ≤ 9223372036854775807) :
    Calls Tryd.prog 69 #[.int .u8 (half : Nat), .pointer (some ⟨gl, 0, none⟩), .pointer (some ⟨gx, 0, none⟩)] w (Ret w (.bool (hasB x l half))) := by
  obtain ⟨xc, xt, xh⟩ := x
  obtain ⟨t1, t2⟩ := ht
  simp only at t1 t2
  have HC := Lib.hid (containsSlt_any A c l ⟨xc, xt - 1, half⟩ w hs hl)
  have HV : Hid (hasB ⟨xc, xt, xh⟩ l half = l.any fun y => sltEq ⟨xc, xt - 1, half⟩ y) := Lib.hid rfl
  generalize (l.any fun y => sltEq ⟨xc, xt - 1, half⟩ y) = r at *
  have c0 := h1.cell 0
  have x0 := h2.cell 0
  have x1 := h2.cell 1
  simp [sltL] at c0 x0 x1
  unfold sltL at HC
  simp only at HC
  clear hs h1 h2
  go_enter Tryd.func69, Tryd.ntmps69
  go_wp2_with fail
  refine HC.out.mono ?_
  rintro e w1 ⟨rfl, hq⟩
  go_wp2
  go_ret
  exact ⟨by rw [HV.out]; rfl, hq⟩
set_option maxRecDepth 100000 in
set_option maxHeartbeats 1000000 in
theorem held_any (x : Slt) (A : Option Addr) (c : Nat) (l : List Slt) (w : World) (hs : SlT tSlt w (Lt w.heap.size) A l) (hl : l.length ≤ 2000000) (ht : x.tier ≤ 9223372036854775807) :
    Calls Tryd.prog 55 #[.agg (sltL x).toArray, .slice A l.length c] w (Ret w (.bool (heldB x l))) := by
  by_cases h0 : x.tier ≤ 0
  · have HV : Hid (heldB x l = true) := Lib.hid (by unfold heldB; rw [decide_eq_true h0]; rfl)
    obtain ⟨xc, xt, xh⟩ := x
    unfold sltL
    simp only at h0 ⊢
    have d0 : decide (xt ≤ 0) = true := by simpa using h0
    clear h0 ht hs
    go_enter Tryd.func55, Tryd.ntmps55
    go_wp2_with fail
    go_ret
    exact ⟨by rw [HV.out]; rfl, ba2 w _ _⟩
  · have HV : Hid (heldB x l = (hasB x l x.half || (x.half == 0 && (hasB x l 1 && hasB x l 2)))) := Lib.hid (by unfold heldB; rw [decide_eq_false h0]; rfl)
    have HS := Lib.hid (hs.on (ba2 w (.cells (sltL x).toArray 37) (.cells #[.slice A l.length c] 65)))
    have k1 := (Bk.new w 37 (sltL x).toArray).alloc (.cells #[.slice A l.length c] 65)
    have k2 := Bk.new (w.alloc (.cells (sltL x).toArray 37)) 65 #[.slice A l.length c]
    simp only [World.size_alloc] at k2
    have HK : Hid (∀ (half : Nat) (V : World), Below ((w.alloc (.cells (sltL x).toArray 37)).alloc (.cells #[.slice A l.length c] 65)).heap.size ((w.alloc (.cells (sltL x).toArray 37)).alloc (.cells #[.slice A l.length c] 65)) V → Calls Tryd.prog 69 #[.int .u8 (half : Nat), .pointer (some ⟨w.heap.size + 1, 0, none⟩), .pointer (some ⟨w.heap.size, 0, none⟩)] V (Ret V (.bool (hasB x l half)))) :=
      Lib.hid fun half V hV => held1 x A c l half _ _ V (HS.out.on hV) hl (k2.below hV k2.lt) (k1.below hV k1.lt) ⟨by omega, ht⟩
    clear k1 k2 HS hs
    have HB0 := Lib.hid (ba2 w (.cells (sltL x).toArray 37) (.cells #[.slice A l.length c] 65))
    obtain ⟨xc, xt, xh⟩ := x
    unfold sltL at HK HB0 ⊢
    simp only at h0 HK HV HB0 ⊢
    have d0 : decide (xt ≤ 0) = false := by simp; omega
    have K1 := Lib.hid (HK.out xh)
    have K2 := Lib.hid (HK.out 1)
    have K3 := Lib.hid (HK.out 2)
    have int0 := int_beq xh 0
    clear HK h0 ht
    generalize hasB ⟨xc, xt, xh⟩ l xh = r1 at *
    generalize hasB ⟨xc, xt, xh⟩ l 1 = r2 at *
    generalize hasB ⟨xc, xt, xh⟩ l 2 = r3 at *
    cases r1 with
    | true =>
      go_enter Tryd.func55, Tryd.ntmps55
      go_wp2_with (go_at_call 69; refine (K1.out _ (Below.refl _ _)).mono ?_; clear K1; rintro e w1 ⟨rfl, hq⟩; obtain ⟨hc1, hf1⟩ := bcell hq)
      go_ret
      exact ⟨by rw [HV.out]; rfl, HB0.out.trans (hq.mono HB0.out.size)⟩
    | false =>
      have n1 : w.heap.size < w.heap.size + 1 + 1 := by omega
      cases hz : (xh == 0) with
      | false =>
        rw [hz] at int0 HV
        clear hz
        simp only [Int.natCast_zero] at int0
        go_enter Tryd.func55, Tryd.ntmps55
        go_wp2_with (go_at_call 69; refine (K1.out _ (Below.refl _ _)).mono ?_; clear K1; rintro e w1 ⟨rfl, hq⟩; obtain ⟨hc1, hf1⟩ := bcell hq)
        go_ret
        exact ⟨by rw [HV.out]; rfl, HB0.out.trans (hq.mono HB0.out.size)⟩
      | true =>
        obtain rfl : xh = 0 := by simpa using hz
        clear hz int0
        go_enter Tryd.func55, Tryd.ntmps55
        go_wp2_with fail
        refine (K1.out _ (Below.refl _ _)).mono ?_
        rintro e w1 ⟨rfl, hq⟩
        obtain ⟨hc1, hf1⟩ := bcell hq
        have hqb := HB0.out.trans (hq.mono HB0.out.size)
        have HQ := Lib.hid hq
        have HQB := Lib.hid hqb
        have hz1 := hqb.size
        clear hq hqb K1
        cases r2 with
        | false =>
          go_wp2_with (go_at_call 69; refine (K2.out _ HQ.out).mono ?_; clear K2; rintro e w2 ⟨rfl, hq2⟩)
          go_ret
          exact ⟨by rw [HV.out]; rfl, HQB.out.trans (hq2.mono HQB.out.size)⟩
        | true =>
          go_wp2_with fail
          refine (K2.out _ HQ.out).mono ?_
          rintro e w2 ⟨rfl, hq2⟩
          have HQ2 := Lib.hid (HQ.out.trans (hq2.mono HQ.out.size))
          clear hq2 K2
          go_wp2_with fail
          refine (K3.out _ HQ2.out).mono ?_
          rintro e w3 ⟨rfl, hq3⟩
          go_wp2
          go_ret
          exact ⟨by rw [HV.out]; rfl, (HB0.out.trans (HQ2.out.mono HB0.out.size)).trans (hq3.mono (Nat.le_trans HB0.out.size HQ2.out.size))⟩
end Go.Proofs.YtmhikcleekfbpaaDoor
namespace Go.Proofs.YtmhikcleekfbpaaDoor
open Go.RowKit Go.Shelf

def tierSlots (c t size : Nat) : List Slt := (halvesL size).map fun h => ⟨c, t, h⟩
def colSlots (c size T : Nat) : List Slt := (List.range T).flatMap fun t => tierSlots c t size
def tiersN (s : Shp) (c : Nat) : Nat := (s.cols.getD c default).tiers.toNat
def colsTo (s : Shp) (size n : Nat) : List Slt := (List.range n).flatMap fun c => colSlots c size (tiersN s c)
/-- All slots of a ship for boxes of a size. -/
def allF (s : Shp) (size : Nat) : List Slt := colsTo s size s.cols.length
theorem colSlots_succ (c size T : Nat) : colSlots c size (T + 1) = colSlots c size T ++ tierSlots c T size := by simp [colSlots, List.range_succ]
theorem colsTo_succ (s : Shp) (size n : Nat) : colsTo s size (n + 1) = colsTo s size n ++ colSlots n size (tiersN s n) := by simp [colsTo, List.range_succ]
theorem colSlots_mono (c size : Nat) {T U : Nat} (h : T ≤ U) : (colSlots c size T).length ≤ (colSlots c size U).length := by
  induction U with
  | zero => obtain rfl : T = 0 := by omega
            exact Nat.le_refl _
  | succ U ih =>
    by_cases e : T = U + 1
    · rw [e]; exact Nat.le_refl _
    · have := ih (by omega)
      rw [colSlots_succ, List.length_append]; omega
theorem colsTo_mono (s : Shp) (size : Nat) {n m : Nat} (h : n ≤ m) : (colsTo s size n).length ≤ (colsTo s size m).length := by
  induction m with
  | zero => obtain rfl : n = 0 := by omega
            exact Nat.le_refl _
  | succ m ih =>
    by_cases e : n = m + 1
    · rw [e]; exact Nat.le_refl _
    · have := ih (by omega)
      rw [colsTo_succ, List.length_append]; omega
theorem slots_bound (s : Shp) (size : Nat) {c t j : Nat} (hc : c < s.cols.length) (ht : t < tiersN s c) (hj : j < (halvesL size).length) : (colsTo s size c ++ colSlots c size t ++ (tierSlots c t size).take j).length < (allF s size).length := by
  have h1 := colsTo_mono s size (n := c + 1) (m := s.cols.length) hc
  have h2 := colSlots_mono c size (T := t + 1) (U := tiersN s c) ht
  rw [colsTo_succ, List.length_append] at h1
  rw [colSlots_succ, List.length_append] at h2
  have h3 : (tierSlots c t size).length = (halvesL size).length := by simp [tierSlots]
  simp only [List.length_append, List.length_take]
  unfold allF
  omega
theorem AbidesFrom.below {β : Type} {B : Nat} {J : β → World → Prop} (h : AbidesFrom B J) {x : β} {W W' : World} (hs : J x W) (hb : Below W.heap.size W W') : J x W' :=
  h x W W' none hs ⟨hb.os, hb.tape, hb.output, hb.size, fun k hk _ => hb.block k hk⟩ (by simp)

/-- What a round over slots keeps: what lay below n₀, and all rows of bytes. -/
def KpS (n₀ : Nat) (W W' : World) : Prop := Below n₀ W W' ∧ ∀ g cs, Bk W g 5 cs → Bk W' g 5 cs
theorem KpS.trans {n₀ : Nat} {A B C : World} (h : KpS n₀ A B) (k : KpS n₀ B C) : KpS n₀ A C := ⟨h.1.trans k.1, fun g cs hg => k.2 g cs (h.2 g cs hg)⟩
theorem KpS.put {n₀ : Nat} {w : World} (hn : n₀ ≤ w.heap.size) (W : World) (l : Nat) (o o' : Obj) (hl : w.heap.size ≤ l) (h : W.heap[l]? = some o) (hc : o.isCells = false) (hw : o.isWalk = false) : KpS n₀ W (W.putObj l o') :=
  ⟨belowK_b hn W l o o' hl h hc hw, fun g cs hg => hg.grown (grownBy_putObj' W l o') (by
    intro e; cases e
    unfold Bk at hg
    rw [h] at hg; cases hg; cases hc)⟩
def HalfRet (w : World) (L : List Nat) (e : Ending) (w' : World) : Prop := ∃ A c, e = .returned (.slice A L.length c) ∧ (0 < L.length → ∃ g, A = some ⟨g, 0, none⟩ ∧ Bk w' g 5 (u8s L).toArray) ∧ Below w.heap.size w w'
set_option maxHeartbeats 400000 in
theorem halves_bk (size : Nat) (w : World) : Calls Tryd.prog 66 #[.int .u8 (size : Nat)] w (HalfRet w (halvesL size)) := by
  unfold halvesL
  by_cases h40 : size = 40
  · subst h40
    go_enter Tryd.func66, Tryd.ntmps66
    go_wp2
    go_ret
    exact ⟨_, _, rfl, fun _ => ⟨_, rfl, Bk.new w 5 #[.int .u8 0]⟩, ba1 w _⟩
  · rw [if_neg h40]
    have n40 : ((size : Int) == 40) = false := by simp; omega
    by_cases h20 : size = 20
    · subst h20
      clear h40
      go_enter Tryd.func66, Tryd.ntmps66
      go_wp2
      go_ret
      exact ⟨_, _, rfl, fun _ => ⟨_, rfl, Bk.new w 5 #[.int .u8 1, .int .u8 2]⟩, ba1 w _⟩
    · rw [if_neg h20]
      have n20 : ((size : Int) == 20) = false := by simp; omega
      clear h40 h20
      go_enter Tryd.func66, Tryd.ntmps66
      go_wp2
      go_ret
      exact ⟨none, 0, rfl, fun h => absurd h (by simp), Below.refl _ _⟩

attribute [local go_sem] Oper.semAt_some

set_option maxRecDepth 100000 in
set_option maxHeartbeats 4000000 in
theorem slots1_in (m : Nat) (hn : 3 ≤ m) (l gs gz n₀ : Nat) (s : Shp) (h : Hd) (size : Nat) (J Jx : List Slt → World → Prop) (W : World) (hJ : AbidesFrom W.heap.size J)
    (hY : ∀ pre x W1, J pre W1 → pre.length < (allF s size).length → YieldAt Fence.wide (m - 1) Tryd.prog l #[.agg (sltL x).toArray] W1 fun e W' =>
      (e = .returned (.bool true) ∧ J (pre ++ [x]) W' ∧ KpS n₀ W1 W') ∨ (e = .returned (.bool false) ∧ Jx (pre ++ [x]) W'))
    (hs : ShpR W (Lt n₀) s h) (hg : Bk W gs 32 (shpA s h)) (hz : Bk W gz 5 #[.int .u8 (size : Nat)]) (hW : n₀ ≤ W.heap.size) (hl : s.cols.length ≤ 1000000) (hT : ∀ c, tiersN s c ≤ 1000000) (h0 : J [] W) :
    CallsIn Fence.wide m Tryd.prog 65 #[.func (.yield l) #[] #[], .pointer (some ⟨gs, 0, none⟩), .pointer (some ⟨gz, 0, none⟩)] W fun e W' => (∃ v, e = .returned v) ∧
      ((∃ xs, xs = allF s size ∧ J xs W') ∨ (∃ pre, True ∧ Jx pre W')) := by
  refine callsIn_of_wp Tryd.func65 rfl trivial ?_ rfl
  simp only [Tryd.ntmps65, List.size_toArray, List.length_cons, List.length_nil, Nat.reduceAdd, Nat.reduceSub, Array.replicate_succ, Array.replicate_zero, List.push_toArray, List.append_toArray, List.nil_append, List.cons_append]
  obtain ⟨A1, cc1, A2, cc2, A3, cc3, A4, cc4, A5, cc5⟩ := h
  have g0 : W.cell? ⟨gs, 0, none⟩ = some (.slice A1 s.cols.length cc1) := hg.cell 0
  have HSC := Lib.hid hs.cols
  simp only at HSC
  clear hs hg
  have HZ := Lib.hid hz
  clear hz
  gi_wp2
  gi_loopw [12] (fun i wr => ∃ c : Nat, c ≤ s.cols.length ∧ i = .int .i64 c ∧ J (colsTo s size c) wr ∧ Below n₀ W wr ∧ Hid (Bk wr gz 5 #[.int .u8 (size : Nat)])) (fun i _ => s.cols.length - (intOf i).toNat)
  case atStart => exact ⟨0, Nat.zero_le _, rfl, h0, Below.refl _ _, HZ⟩
  case round =>
    clear HZ
    obtain ⟨c, hc, rfl, hJc, hb, HZ⟩ := hrel
    obtain ⟨V, rfl⟩ : ∃ V, V = wr := ⟨_, rfl⟩
    by_cases hlt : c < s.cols.length
    · obtain ⟨b, off, Ap, q, hA1, hbB, _, _, c0, c1, c2, c3, c4, c5, c6, c7, c8, c9, c10, c11⟩ := (HSC.out.below hb).col hlt
      subst hA1
      have hbB : b < n₀ := hbB
      have hVW := hb.size
      have hbV : b < V.heap.size := by omega
      have i1 : (0 : Int) ≤ (c : Int) := by omega
      have i2 : (c : Int) < (s.cols.length : Int) := by omega
      have HT : Hid (tiersN s c = (s.cols.getD c default).tiers.toNat) := Lib.hid rfl
      have HCS := Lib.hid (colsTo_succ s size c)
      have HBD := Lib.hid (fun t j => slots_bound s size (c := c) (t := t) (j := j) hlt)
      have hTb := hT c
      generalize tiersN s c = T at *
      generalize hcol : s.cols.getD c default = col at *
      clear hcol
      obtain ⟨xb, xr, xd, xti, xhe, xk2, xk4, xl, xp, xx, xy, xz⟩ := col
      simp only at c0 c1 c2 c3 c4 c5 c6 c7 c8 c9 c10 c11 HT
      have hmx : (if xti < 0 then 0 else xti) = (T : Int) := by rw [HT.out]; split <;> omega
      gi_wp2
      have hq1 := ba1 V (.cells #[.int .i64 xb, .int .i64 xr, .bool xd, .int .i64 xti, .int .i64 xhe, .int .i64 xk2, .int .i64 xk4, .int .i64 xl, .slice Ap xp.length q, .int .i64 xx, .int .i64 xy, .int .i64 xz] 35)
      have hJ1 := AbidesFrom.below hJ hJc hq1
      have hb1 := hb.trans (hq1.mono (by omega))
      replace HZ := Lib.hid (HZ.out.below hq1 HZ.out.lt)
      clear hmx hq1 hb hJc c0 c1 c2 c3 c4 c5 c6 c7 c8 c9 c10 c11 HT
      generalize V.heap.size = gv at *
      generalize (V.alloc _) = V1 at *
      gi_loopw [20] (fun i wr => ∃ t : Nat, t ≤ T ∧ i = .int .i64 t ∧ J (colsTo s size c ++ colSlots c size t) wr ∧ Below n₀ W wr ∧ Hid (Bk wr gz 5 #[.int .u8 (size : Nat)])) (fun i _ => T - (intOf i).toNat)
      case atStart => exact ⟨0, Nat.zero_le _, rfl, by simpa [colSlots] using hJ1, hb1, HZ⟩
      case round =>
        clear hJ1 hb1 HZ
        clear V1
        obtain ⟨t, ht, rfl, hJt, hb, HZ⟩ := hrel
        obtain ⟨V, rfl⟩ : ∃ V, V = wr := ⟨_, rfl⟩
        by_cases htl : t < T
        · have e0 : V.cell? ⟨gz, 0, none⟩ = some (.int .u8 (size : Nat)) := HZ.out.cell 0
          have HH := Lib.hid (callsIn_wide.2 (halves_bk size V) : CallsIn Fence.wide (m - 1) _ _ _ _ _)
          have HTS := Lib.hid (colSlots_succ c size t)
          have HTD : Hid (tierSlots c t size = (halvesL size).map fun h => ⟨c, t, h⟩) := Lib.hid rfl
          have HBT := Lib.hid (fun j hj => HBD.out t j htl hj)
          have HLL := Lib.hid (halves_len size)
          generalize tierSlots c t size = TS at *
          generalize halvesL size = L at *
          gi_wp2
          refine ⟨trivial, fun _ => by omega, ?_⟩
          refine HH.out.mono ?_
          rintro e V1 ⟨AH, cH, rfl, hsH, hq⟩
          have hJ1 := AbidesFrom.below hJ hJt hq
          have hb1 := hb.trans (hq.mono (by have := hb.size; omega))
          have HSH := Lib.hid hsH
          replace HZ := Lib.hid (HZ.out.below hq HZ.out.lt)
          clear hq hb hJt e0 HH hsH
          clear V
          have hLL := HLL.out
          gi_wp2
          gi_loopw [26] (fun i wr => ∃ j : Nat, j ≤ L.length ∧ i = .int .i64 j ∧ J (colsTo s size c ++ colSlots c size t ++ TS.take j) wr ∧ Below n₀ W wr ∧ Hid (Bk wr gz 5 #[.int .u8 (size : Nat)]) ∧ Hid (0 < L.length → ∃ g, AH = some ⟨g, 0, none⟩ ∧ Bk wr g 5 (u8s L).toArray)) (fun i _ => L.length - (intOf i).toNat)
          case atStart => exact ⟨0, Nat.zero_le _, rfl, by simpa using hJ1, hb1, HZ, HSH⟩
          case round =>
            clear hJ1 hb1 HSH HZ
            obtain ⟨j, hj, rfl, hJj, hb, HZ, hsH⟩ := hrel
            obtain ⟨V, rfl⟩ : ∃ V, V = wr := ⟨_, rfl⟩
            by_cases hjl : j < L.length
            · obtain ⟨gh, rfl, hkh⟩ := hsH.out (by omega)
              have ch : V.cell? ⟨gh, j, none⟩ = some (.int .u8 (L.getD j 0 : Nat)) := by rw [hkh.cell j]; simp [u8s, hjl]
              have HKH := Lib.hid hkh
              clear hkh hsH
              have k1 : (0 : Int) ≤ (j : Int) := by omega
              have k2 : (j : Int) < (L.length : Int) := by omega
              have HTJ : Hid (TS.take (j + 1) = TS.take j ++ [⟨c, t, L.getD j 0⟩]) := Lib.hid (by
                rw [HTD.out, List.take_succ_eq_append_getElem (by simpa using hjl)]
                simp [hjl])
              obtain ⟨fn, tmps, assign, body, hy, hR⟩ := hY (colsTo s size c ++ colSlots c size t ++ TS.take j) ⟨c, t, L.getD j 0⟩ V hJj (HBT.out j hjl)
              unfold sltL at hy
              dsimp only at hy
              generalize L.getD j 0 = hv at *
              gi_wp2
              refine ⟨fun _ => by omega, ?_⟩
              refine hR.mono ?_
              rintro e V2 (⟨rfl, hJ2, hk2⟩ | ⟨rfl, hJx⟩)
              · gi_wp2
                go_roundw
                case rel => exact ⟨j + 1, by omega, by go_num, by rw [HTJ.out, ← List.append_assoc]; exact hJ2, hb.trans hk2.1, Lib.hid (hk2.2 _ _ HZ.out), Lib.hid fun _ => ⟨gh, rfl, hk2.2 _ _ HKH.out⟩⟩
                case measure => simp [intOf]; omega
              · gi_wp2
                refine bodyPost_ret (results_none rfl _ _ _) rfl ?_
                exact ⟨⟨_, rfl⟩, .inr ⟨_, trivial, hJx⟩⟩
            · obtain rfl : j = L.length := by omega
              have HTK : Hid (TS.take L.length = TS) := Lib.hid (List.take_of_length_le (by rw [HTD.out]; simp))
              rw [HTK.out] at hJj
              gi_wp2
              go_roundw
              case rel => exact ⟨t + 1, by omega, by go_num, by rw [HTS.out, ← List.append_assoc]; exact hJj, hb, HZ⟩
              case measure => simp [intOf]; omega
        · obtain rfl : t = T := by omega
          gi_wp2
          go_roundw
          case rel => exact ⟨c + 1, by omega, by go_num, by rw [HCS.out]; exact hJt, hb, HZ⟩
          case measure => simp [intOf]; omega
    · obtain rfl : c = s.cols.length := by omega
      gi_wp2
      go_end0
      exact ⟨⟨_, rfl⟩, .inl ⟨_, rfl, hJc⟩⟩

set_option maxHeartbeats 400000 in
/-- slots: the function value with the two boxes that it has captured. -/
theorem slots_in (m : Nat) (s : Shp) (h : Hd) (size : Nat) (W : World) :
    CallsIn Fence.wide m Tryd.prog 46 #[.agg (shpA s h), .int .u8 (size : Nat)] W fun e w' => e = .returned (.func (.func 65) #[] #[.pointer (some ⟨W.heap.size, 0, none⟩), .pointer (some ⟨W.heap.size + 1, 0, none⟩)]) ∧ w' = (W.alloc (.cells (shpA s h) 32)).alloc (.cells #[.int .u8 (size : Nat)] 5) := by
  refine callsIn_of_wp Tryd.func46 rfl trivial ?_ rfl
  simp only [Tryd.ntmps46, List.size_toArray, List.length_cons, List.length_nil, Nat.reduceAdd, Nat.reduceSub, Array.replicate_succ, Array.replicate_zero, List.push_toArray, List.append_toArray, List.nil_append, List.cons_append]
  unfold shpA
  gi_wp2
  go_ret
  exact ⟨rfl, rfl⟩
/-- The value that slots hands back: all slots come, or a round has said no more. -/
theorem slots_stops (m : Nat) (hm : 3 ≤ m) (gs gz n₀ : Nat) (s : Shp) (h : Hd) (size : Nat) (w : World) (hs : ShpR w (Lt n₀) s h) (hg : Bk w gs 32 (shpA s h)) (hz : Bk w gz 5 #[.int .u8 (size : Nat)]) (hW : n₀ ≤ w.heap.size) (hl : s.cols.length ≤ 1000000) (hT : ∀ c, tiersN s c ≤ 1000000) :
    SeqStopsK Fence.wide m Tryd.prog 65 #[.pointer (some ⟨gs, 0, none⟩), .pointer (some ⟨gz, 0, none⟩)] (fun x : Slt => #[.agg (sltL x).toArray]) (KpS n₀) (fun xs => xs = allF s size) (fun _ => True) (allF s size).length w := fun l J Jx W hb hJ _ hY h0 =>
  slots1_in m hm l gs gz n₀ s h size J Jx W hJ hY (hs.below (hb.mono hW)) (hg.below hb hg.lt) (hz.below hb hz.lt) (Nat.le_trans hW hb.size) hl hT h0
end Go.Proofs.YtmhikcleekfbpaaDoor
namespace Go.Proofs.YtmhikcleekfbpaaDoor
open Go.RowKit Go.Shelf

theorem el_slt : El Tryd.prog 65 37 3 24 := El.mk' Tryd.underlying65 (by kernel_rfl) (by decide)
theorem flat_slt {w : World} {S : Nat → Prop} : ∀ l : List Slt, Flat tSlt w S (l.flatMap sltL) l
  | [] => rfl
  | x :: l => ⟨sltL x, l.flatMap sltL, rfl, rfl, flat_slt l⟩
theorem bk_own {β : Type} (B : Nat) (t : TypeId) (f : β → Array Value) : Own (fun s W => Bk W B t (f s)) := fun s X Y row hs hg hrow =>
  hs.grown hg (fun e' => by
    obtain ⟨o, ho, hc⟩ := hrow B e'.symm
    have hs : X.heap[B]? = _ := hs
    rw [hs] at ho; cases ho; cases hc)
/-- A list of slots of the call's own. -/
def OwnSlt (w : World) (l : List Slt) (e : Ending) (w' : World) : Prop := ∃ v, e = .returned v ∧ OwnT tSlt 37 w' w.heap.size v l ∧ Below w.heap.size w w'

attribute [local go_sem] Oper.semAt_some

set_option maxRecDepth 100000 in
set_option maxHeartbeats 4000000 in
theorem all_any (s : Shp) (h : Hd) (size : Nat) (w : World) (hs : ShpR w (Lt w.heap.size) s h) (hl : s.cols.length ≤ 1000000) (hT : ∀ c, tiersN s c ≤ 1000000) (hN : (allF s size).length ≤ 1000000) :
    Calls Tryd.prog 32 #[.agg (shpA s h), .int .u8 (size : Nat)] w (OwnSlt w (allF s size)) := by
  obtain ⟨i0, z, hi, hz, h4, h5, h6⟩ := el_slt.info
  have HL := Lib.hid (fun V => slots_in 5 s h size V)
  have HS := Lib.hid hs
  clear hs
  refine (callsIn_wide (n := 6)).1 ?_
  refine callsIn_of_wp_marks Tryd.func32 rfl trivial ?_ rfl
  simp only [Tryd.ntmps32, List.size_toArray, List.length_cons, List.length_nil, Nat.reduceAdd, Nat.reduceSub, Array.replicate_succ, Array.replicate_zero, List.push_toArray, List.append_toArray, List.nil_append, List.cons_append]
  unfold shpA at HL ⊢
  gi_wp2
  refine ⟨trivial, ?_⟩
  refine (HL.out _).mono ?_
  rintro e w1 ⟨rfl, rfl⟩
  gi_wp2
  have bS : Bk w w.heap.size 32 (shpA s h) → True := fun _ => trivial
  have hB0 := ba4 w (.cells (shpA s h) 32) (.cells #[.slice none 0 0] 65) (.cells (shpA s h) 32) (.cells #[.int .u8 (size : Nat)] 5)
  have bO := ((Bk.new (w.alloc (.cells (shpA s h) 32)) 65 #[.slice none 0 0]).alloc (.cells (shpA s h) 32)).alloc (.cells #[.int .u8 (size : Nat)] 5)
  have bC := (Bk.new ((w.alloc (.cells (shpA s h) 32)).alloc (.cells #[.slice none 0 0] 65)) 32 (shpA s h)).alloc (.cells #[.int .u8 (size : Nat)] 5)
  have bZ := Bk.new (((w.alloc (.cells (shpA s h) 32)).alloc (.cells #[.slice none 0 0] 65)).alloc (.cells (shpA s h) 32)) 5 #[.int .u8 (size : Nat)]
  have hsz : ((((w.alloc (.cells (shpA s h) 32)).alloc (.cells #[.slice none 0 0] 65)).alloc (.cells (shpA s h) 32)).alloc (.cells #[.int .u8 (size : Nat)] 5)).heap.size = w.heap.size + 4 := by simp
  simp only [World.size_alloc] at bO bC bZ
  have hs0 := HS.out.below hB0
  clear bS
  obtain ⟨W0, hW0⟩ : ∃ W0, ((((w.alloc (.cells (shpA s h) 32)).alloc (.cells #[.slice none 0 0] 65)).alloc (.cells (shpA s h) 32)).alloc (.cells #[.int .u8 (size : Nat)] 5)) = W0 := ⟨_, rfl⟩
  rw [hW0] at hB0 bO bC bZ hsz hs0
  unfold shpA at hW0
  rw [hW0]
  clear hW0
  refine wpIn_rangeFunc_ownH (F := Fence.wide) (n := 6) rfl (by omega) (gf := 65) (lb := #[.pointer (some ⟨w.heap.size + 1 + 1, 0, none⟩), .pointer (some ⟨w.heap.size + 1 + 1 + 1, 0, none⟩)]) rfl trivial (enters_of Tryd.func65 (by kernel_rfl) rfl)
    (slots_stops 5 (by omega) (w.heap.size + 1 + 1) (w.heap.size + 1 + 1 + 1) w.heap.size s h size W0 hs0 bC bZ (by omega) hl hT) KpS.trans (KpS.put (by omega)) (Below.refl _ _) (fun _ => rfl)
    (fun pre W => (∃ v, Boxed W (w.heap.size + 1) 65 v ∧ W.ownsRow w.heap.size 37 3 v pre.length (pre.flatMap sltL) ∧ True) ∧ Below w.heap.size w W)
    (fun _ _ _ => False)
    (OwnFrom.and (Own.from (holdsRow_own w.heap.size (w.heap.size + 1) 65 37 3 (fun pre : List Slt => pre.length) (fun pre => pre.flatMap sltL) (fun _ _ => True)) _) (ownFrom_below (Nat.le_refl _) (by omega)))
    (fun _ _ _ _ _ hs _ _ => hs)
    ⟨⟨_, bO, World.ownsRow_nil _ _ _ _, trivial⟩, hB0⟩
    (fun x a' W => ∃ Bx, w.heap.size + 1 < Bx ∧ Bk W Bx 37 (sltL x).toArray ∧ a' = { tmps := #[.agg (shpA s h), .int .u8 (size : Nat), .pointer (some ⟨w.heap.size, 0, none⟩), undef, .slice none 0 0, .pointer (some ⟨w.heap.size + 1, 0, none⟩), .pointer (some ⟨Bx, 0, none⟩), .agg (shpA s h), .int .u8 (size : Nat), .func (.func 65) #[] #[.pointer (some ⟨w.heap.size + 1 + 1, 0, none⟩), .pointer (some ⟨w.heap.size + 1 + 1 + 1, 0, none⟩)], .agg (sltL x).toArray, undef, undef, undef, undef, undef], defers := [] })
    (fun x a' _ X Y row hs hg hr => by obtain ⟨Bx, h1, h2, h3⟩ := hs; exact ⟨Bx, h1, bk_own Bx 37 (fun (_ : Unit) => (sltL x).toArray) () X Y row h2 hg (fun r e => (hr r e).2), h3⟩)
    ?assign ?body ?done ?stop
  case assign =>
    rintro l pre x W K ⟨⟨v, hv, hrow, _⟩, hB1⟩ hK
    obtain ⟨xc, xt, xh⟩ := x
    have hlt := hv.lt
    have hfin := Lib.hid (hK { tmps := #[.agg (shpA s h), .int .u8 (size : Nat), .pointer (some ⟨w.heap.size, 0, none⟩), undef, .slice none 0 0, .pointer (some ⟨w.heap.size + 1, 0, none⟩), .pointer (some ⟨W.heap.size, 0, none⟩), .agg (shpA s h), .int .u8 (size : Nat), .func (.func 65) #[] #[.pointer (some ⟨w.heap.size + 1 + 1, 0, none⟩), .pointer (some ⟨w.heap.size + 1 + 1 + 1, 0, none⟩)], .agg (sltL ⟨xc, xt, xh⟩).toArray, undef, undef, undef, undef, undef], defers := [] } (W.alloc (.cells (sltL ⟨xc, xt, xh⟩).toArray 37)) ((KeepsOthers.alloc _ _).from _) ⟨(Below.refl _ W).alloc hB1.size _, fun g cs hg => hg.alloc _⟩ ⟨⟨v, hv.alloc _, hrow.alloc _, trivial⟩, hB1.alloc hB1.size _⟩ ⟨W.heap.size, hlt, Bk.new W _ _, rfl⟩)
    unfold sltL shpA at hfin
    clear hK
    dsimp only [sltL]
    gi_wp2
    exact hfin.out
  case body =>
    rintro l pre x a' W hl ⟨r, hr⟩ ⟨⟨v, hv, hrow, _⟩, hB⟩ ⟨Bx, hBx, bX, rfl⟩ hlt
    obtain ⟨xc, xt, xh⟩ := x
    have x0 : W.cell? ⟨Bx, 0, none⟩ = some (.int .i64 xc) := bX.cell 0
    have x1 : W.cell? ⟨Bx, 1, none⟩ = some (.int .i64 xt) := bX.cell 1
    have x2 : W.cell? ⟨Bx, 2, none⟩ = some (.int .u8 (xh : Nat)) := bX.cell 2
    have cv := hv.cell
    have hbl := hB.size
    have hnews : ∀ j u, (sltL ⟨xc, xt, xh⟩)[j]? = some u → (W.alloc (.cells (sltL ⟨xc, xt, xh⟩).toArray 37)).cell? ((⟨W.heap.size, 0, none⟩ : Addr).add j) = some u := fun j u hu => by
      rw [add_mk, Nat.zero_add, (Bk.new W 37 (sltL ⟨xc, xt, xh⟩).toArray).cell j]; simpa using hu
    have hsn : (pre ++ [(⟨xc, xt, xh⟩ : Slt)]).flatMap sltL = pre.flatMap sltL ++ sltL ⟨xc, xt, xh⟩ := by simp
    have HSN := Lib.hid hsn
    have HNW := Lib.hid hnews
    clear hsn hnews bX hl hr
    unfold shpA
    dsimp only [sltL] at HNW HSN ⊢
    gi_wp2_with (gi_at_builtin; refine wpListIn_append_own _ rfl (.tmp 11) (.tmp 13) 65 rfl w.heap.size 37 i0 z 3 24 el_slt.under hi hz h4 h5 h6 (by decide) v pre.length (pre.flatMap sltL) rfl (hrow.alloc _) ⟨W.heap.size, 0, none⟩ 1 1 [.int .i64 xc, .int .i64 xt, .int .u8 (xh : Nat)] rfl rfl HNW.out ?p1 ?p2 ?p3 ?p4 ?_)
    case p1 => intro u hu; simp at hu; rcases hu with rfl | rfl | rfl <;> rfl
    case p2 => unfold maxLen; omega
    case p3 => omega
    case p4 => simp; omega
    intro v' w1 hown' hgrow _
    obtain ⟨g', cap', rfl⟩ := ownsRow_succ hown'
    have hne : ∀ g cs, Bk W g 5 cs → v.ownBlock ≠ some g := fun g cs hg => own_ne hrow hg (by decide)
    obtain ⟨hv1, hv2, hr2, hk2, hb2⟩ := hv.appended (by decide) hrow hB.size (by omega) hown' hgrow
    have hc1 := hv1.cell
    have hf1 := hv1.frozen
    have hkp : Hid (∀ g cs, Bk W g 5 cs → Bk (w1.setCell ⟨w.heap.size + 1, 0, none⟩ (.slice (some ⟨g', 0, none⟩) (pre.length + 1) cap')) g 5 cs) := Lib.hid fun g cs hg => by
      have k1 : Bk w1 g 5 cs := (hg.alloc _).grown hgrow (fun e => hne g cs hg e.symm)
      exact k1.far (Bk.ne_ k1 (show Bk w1 (w.heap.size + 1) 65 #[v] from hv1) (by decide)) _
    have H1 := Lib.hid hk2
    have H2 := Lib.hid hb2
    have H3 := Lib.hid hv2
    have H4 := Lib.hid hr2
    clear hk2 hb2 hr2 hv2 hne hown' hgrow
    gi_wp2
    exact ⟨H1.out.from _, ⟨H2.out, hkp.out⟩, ⟨_, H3.out, by rw [HSN.out, List.length_append]; exact H4.out, trivial⟩, hB.trans H2.out⟩
  case done =>
    rintro D xs W hD rfl ⟨⟨v, hv, hrow, _⟩, hB⟩ hK
    have cv := hv.cell
    gi_wp2
    refine ⟨by simp, .inl ⟨_, _, rfl, run_takeDeferred hK, ?_⟩⟩
    refine ⟨_, results_tmp rfl _ _ _, v, rfl, ⟨_, ownsRow_putObj hrow _ hK rfl, flat_slt _⟩, ?_⟩
    exact hB.trans (belowK_b (w := w) (Nat.le_refl _) W D _ _ (by omega) hK rfl rfl)
  case stop =>
    rintro D c pre W _ _ hf _
    exact hf.elim
end Go.Proofs.YtmhikcleekfbpaaDoor
namespace Go.Proofs.YtmhikcleekfbpaaDoor
open Go.RowKit

theorem cmpF_eq (a b : Slt) : cmpF a b = if a.col < b.col then -1 else if b.col < a.col then 1 else if a.tier < b.tier then -1 else if b.tier < a.tier then 1 else if a.half < b.half then -1 else if b.half < a.half then 1 else 0 := by
  unfold cmpF orF orF orF orF cmpZ
  simp only [Int.ofNat_lt]
  by_cases h1 : a.col < b.col <;> by_cases h2 : b.col < a.col <;> by_cases h3 : a.tier < b.tier <;> by_cases h4 : b.tier < a.tier <;> by_cases h5 : a.half < b.half <;> by_cases h6 : b.half < a.half <;> simp [h1, h2, h3, h4, h5, h6]
theorem cmpF_neg (a b : Slt) : cmpF b a = -cmpF a b := by
  rw [cmpF_eq, cmpF_eq]
  (repeat' split) <;> omega
theorem cmpF_three (a b : Slt) : cmpF a b = -1 ∨ cmpF a b = 0 ∨ cmpF a b = 1 := by
  rw [cmpF_eq]
  (repeat' split) <;> simp
theorem cmpF_zero (a b : Slt) : sltEq a b = (cmpF a b == 0) := by
  obtain ⟨ac, at_, ah⟩ := a
  obtain ⟨bc, bt, bh⟩ := b
  rw [cmpF_eq, Bool.eq_iff_iff]
  simp only [sltEq, Bool.and_eq_true, beq_iff_eq]
  (repeat' split) <;> simp <;> omega
theorem cmpF_lt (a b : Slt) : cmpF a b = -1 ↔ a.col < b.col ∨ a.col = b.col ∧ (a.tier < b.tier ∨ a.tier = b.tier ∧ a.half < b.half) := by
  rw [cmpF_eq]
  (repeat' split) <;> omega
theorem cmpF_trans (a b c : Slt) (h1 : cmpF a b = -1) (h2 : cmpF b c = -1) : cmpF a c = -1 := by
  rw [cmpF_lt] at *
  omega
theorem run_eql_slt (x y : Slt) (W : World) : (binOp .eql 37 (.agg (sltL x).toArray) (.agg (sltL y).toArray)).run Tryd.prog W = .ok (.bool (sltEq x y)) W := by
  obtain ⟨xc, xt, xh⟩ := x
  obtain ⟨yc, yt, yh⟩ := y
  unfold sltL sltEq
  simp only
  rw [← int_beq]
  cases e1 : (xc == yc) <;> cases e2 : (xt == yt) <;> cases e3 : ((xh : Int) == (yh : Int)) <;> simp [go_sem, e1, e2, e3]
theorem meet_symm (a b : Slt) : meetB b a = meetB a b := by
  rw [Bool.eq_iff_iff]
  simp only [meetB, sharesB, Bool.and_eq_true, Bool.or_eq_true, beq_iff_eq]
  omega
theorem meet_self (a : Slt) : meetB a a = true := by simp [meetB, sharesB]
theorem over_self (a : Slt) : overB a a = false := by simp [overB]
theorem over_not (a b : Slt) (h : overB a b = true) : meetB a b = false ∧ overB b a = false ∧ cmpF a b = 1 := by
  simp only [overB, Bool.and_eq_true, beq_iff_eq, decide_eq_true_eq] at h
  obtain ⟨h1, h2, h3⟩ := h
  refine ⟨?_, ?_, ?_⟩
  · simp only [meetB, Bool.and_eq_false_iff, beq_eq_false_iff_ne]; right; left; omega
  · simp only [overB, Bool.and_eq_false_iff, decide_eq_false_iff_not]; right; left; omega
  · rw [cmpF_eq, if_neg (by omega), if_neg (by omega), if_neg (by omega), if_pos (by omega)]
theorem over_pass (a b c : Slt) (h1 : overB a b = true) (h2 : overB b c = true) (h3 : overB a c = false) : b.half = 0 ∧ a.half ≠ c.half ∧ a.half ≠ 0 ∧ c.half ≠ 0 := by
  simp only [overB, sharesB, Bool.and_eq_true, Bool.or_eq_true, beq_iff_eq, decide_eq_true_eq, Bool.and_eq_false_iff, Bool.or_eq_false_iff, beq_eq_false_iff_ne, decide_eq_false_iff_not] at h1 h2 h3
  omega
end Go.Proofs.YtmhikcleekfbpaaDoor
namespace Go.Proofs.YtmhikcleekfbpaaDoor
open Go.RowKit

theorem mem_tier {c t size : Nat} {y : Slt} : y ∈ tierSlots c t size ↔ y.col = (c : Int) ∧ y.tier = (t : Int) ∧ y.half ∈ halvesL size := by
  unfold tierSlots
  rw [List.mem_map]
  constructor
  · rintro ⟨h, hh, rfl⟩; exact ⟨rfl, rfl, hh⟩
  · obtain ⟨a, b, h⟩ := y
    rintro ⟨rfl, rfl, hh⟩
    exact ⟨h, hh, rfl⟩
theorem mem_all {s : Shp} {size : Nat} {y : Slt} : y ∈ allF s size ↔ ∃ c t : Nat, c < s.cols.length ∧ t < tiersN s c ∧ y.col = (c : Int) ∧ y.tier = (t : Int) ∧ y.half ∈ halvesL size := by
  unfold allF colsTo colSlots
  simp only [List.mem_flatMap, List.mem_range, mem_tier]
  constructor
  · rintro ⟨c, hc, t, ht, h1, h2, h3⟩; exact ⟨c, t, hc, ht, h1, h2, h3⟩
  · rintro ⟨c, t, hc, ht, h1, h2, h3⟩; exact ⟨c, hc, t, ht, h1, h2, h3⟩
theorem right_mem {s : Shp} {size : Nat} {y : Slt} : slotRight s y size = true ↔ y ∈ allF s size := by
  rw [mem_all]
  unfold slotRight tiersN
  simp only [Bool.and_eq_true, decide_eq_true_eq, List.any_eq_true, beq_iff_eq]
  obtain ⟨yc, yt, yh⟩ := y
  simp only
  constructor
  · rintro ⟨h1, h2, h3, h4, z, hz, hz2⟩
    refine ⟨yc.toNat, yt.toNat, by omega, by omega, by omega, by omega, ?_⟩
    have : yh = z := by omega
    rw [this]; exact hz
  · rintro ⟨c, t, hc, ht, rfl, rfl, hh⟩
    rw [Int.toNat_natCast]
    exact ⟨by omega, by omega, by omega, by omega, yh, hh, by omega⟩
theorem any_right (s : Shp) (size : Nat) (x : Slt) : ((allF s size).any fun y => sltEq y x) = slotRight s x size := by
  rw [Bool.eq_iff_iff, right_mem, List.any_eq_true]
  constructor
  · rintro ⟨y, hy, he⟩; rw [← (sltEq_iff _ _).1 he]; exact hy
  · intro h; exact ⟨x, h, (sltEq_iff _ _).2 rfl⟩
theorem halves_sorted (size : Nat) : (halvesL size).Pairwise (· < ·) := by
  unfold halvesL
  split
  · simp
  · split <;> simp
theorem all_sorted (s : Shp) (size : Nat) : (allF s size).Pairwise fun a b => cmpF a b = -1 := by
  unfold allF colsTo
  rw [List.pairwise_flatMap]
  refine ⟨fun c _ => ?_, ?_⟩
  · unfold colSlots
    rw [List.pairwise_flatMap]
    refine ⟨fun t _ => ?_, ?_⟩
    · unfold tierSlots
      rw [List.pairwise_map]
      refine (halves_sorted size).imp ?_
      intro a b h
      rw [cmpF_lt]
      exact .inr ⟨rfl, .inr ⟨rfl, h⟩⟩
    · refine List.pairwise_lt_range.imp ?_
      intro t u h a ha b hb
      have ha := mem_tier.1 ha
      have hb := mem_tier.1 hb
      rw [cmpF_lt]
      omega
  · refine List.pairwise_lt_range.imp ?_
    intro c d h a ha b hb
    unfold colSlots at ha hb
    obtain ⟨t, _, ha⟩ := List.mem_flatMap.1 ha
    obtain ⟨u, _, hb⟩ := List.mem_flatMap.1 hb
    have ha := mem_tier.1 ha
    have hb := mem_tier.1 hb
    rw [cmpF_lt]
    omega
theorem sorted_at {s : Shp} {size i : Nat} (h0 : 0 < i) (hi : i < (allF s size).length) : cmpF ((allF s size).getD (i - 1) default) ((allF s size).getD i default) = -1 := by
  have h := List.pairwise_iff_getElem.1 (all_sorted s size) (i - 1) i (by omega) hi (by omega)
  have e1 : (allF s size).getD (i - 1) default = (allF s size)[i - 1] := by simp [show i - 1 < (allF s size).length by omega]
  have e2 : (allF s size).getD i default = (allF s size)[i] := by simp [hi]
  rw [e1, e2]; exact h
/-- The tiers of the first columns, summed. -/
def tiersTo (l : List Col) : Nat → Int
  | 0 => 0
  | k + 1 => tiersTo l k + (l.getD k default).tiers
theorem colSlots_len (c size T : Nat) : (colSlots c size T).length = T * (halvesL size).length := by
  induction T with
  | zero => simp [colSlots]
  | succ T ih =>
    rw [colSlots_succ, List.length_append, ih]
    simp [tierSlots, Nat.add_mul]
theorem colsTo_len (s : Shp) (size : Nat) (hp : ∀ c, c < s.cols.length → 0 ≤ (s.cols.getD c default).tiers) : ∀ n, n ≤ s.cols.length → ((colsTo s size n).length : Int) = (halvesL size).length * tiersTo s.cols n
  | 0, _ => by simp [colsTo, tiersTo]
  | n + 1, h => by
    rw [colsTo_succ, List.length_append, colSlots_len]
    have ih := colsTo_len s size hp n (by omega)
    have := hp n (by omega)
    unfold tiersTo
    rw [Int.mul_add, ← ih]
    have e : ((tiersN s n : Nat) : Int) = (s.cols.getD n default).tiers := by unfold tiersN; omega
    rw [← e]
    push_cast
    rw [Int.mul_comm ((tiersN s n : Nat) : Int)]
theorem all_len {s : Shp} (hp : ∀ c, c < s.cols.length → 0 ≤ (s.cols.getD c default).tiers) (size : Nat) : ((allF s size).length : Int) = (halvesL size).length * tiersTo s.cols s.cols.length := colsTo_len s size hp _ (Nat.le_refl _)
end Go.Proofs.YtmhikcleekfbpaaDoor
namespace Go.Proofs.YtmhikcleekfbpaaDoor
open Go.RowKit

/-- A world behind w in which nothing older has turned. -/
structure Gr (w : World) where
  W : World
  be : Below w.heap.size w W
instance (w : World) : Nonempty (Gr w) := ⟨⟨w, Below.refl _ _⟩⟩
theorem wp_region_gr {P : Program} {id : Nat} {Q : Exit → Act → World → Prop} {a : Act} {w : World} {l : List Oper} (hm : P.follows .mixedOrders = true) (hB : Region.lexB .any l.toArray = true)
    (h : wpQuiet P l.toArray (fun w' => ∃ p : Gr w, w' = p.W) (fun a' => ∀ w', (∃ p : Gr w, w' = p.W) → Q .normal a' w') l a) : (Code.region id l.toArray true).wp P Q a w :=
  wp_region_quiet (C := fun w' => ∃ p : Gr w, w' = p.W) hm hB ⟨⟨w.drewN 1, below_drewN (Below.refl _ _) 1⟩, rfl⟩ (by simpa using h)
theorem Gr.call {P : Program} {f : FuncId} {args : Array Value} {w : World} {v : Value} (p : Gr w) (h : ∀ V : World, Below w.heap.size w V → Calls P f args V (Ret V v)) :
    Calls P f args p.W fun e w'' => e = .returned v ∧ ∃ q : Gr w, w'' = q.W :=
  (h p.W p.be).mono fun _ w' ⟨he, hb⟩ => ⟨he, ⟨w', p.be.trans (hb.mono p.be.size)⟩, rfl⟩
theorem Gr.same {P : Program} {f : FuncId} {args : Array Value} {w : World} {v : Value} (p : Gr w) (h : ∀ V : World, Below w.heap.size w V → Calls P f args V (fun e w' => e = .returned v ∧ V = w')) :
    Calls P f args p.W fun e w'' => e = .returned v ∧ ∃ q : Gr w, w'' = q.W :=
  (h p.W p.be).mono fun _ _ ⟨he, hb⟩ => ⟨he, p, hb.symm⟩
/-- A cell of an older block, in every such world. -/
theorem Gr.cell {w : World} {a : Addr} {v : Value} (h : w.cell? a = some v) : ∀ p : Gr w, p.W.cell? a = some v := fun p => (p.be.cell (block_lt_of_cell h)).trans h
/-- The same for operations in their own order: the first ones quiet, the rest from whatever world of the kind. -/
theorem wpList_quiet {P : Program} {ops : Array Oper} {C : World → Prop} {Q : Exit → Act → World → Prop} (l2 : List Oper) : ∀ (l : List Oper) (a : Act) (w : World), C w →
    wpQuiet P ops C (fun a' => ∀ w', C w' → wpList P ops Q l2 a' w') l a → wpList P ops Q (l ++ l2) a w
  | [], a, w, hw, h => h w hw
  | o :: l, a, w, hw, h => by
    unfold wpQuiet at h
    rw [List.cons_append]
    unfold wpList
    by_cases hg : Region.wanted o (yielded ops a.tmps) = true
    · rw [if_pos hg] at h ⊢
      exact .inl (Oper.wp_of_quiet hw (fun a' w' hw' h' => wpList_quiet l2 l a' w' hw' h') h)
    · rw [if_neg hg] at h ⊢
      exact wpList_quiet l2 l _ w hw h
theorem wp_region_grs {P : Program} {id : Nat} {Q : Exit → Act → World → Prop} {a : Act} {w : World} {l : List Oper}
    (h : wpQuiet P l.toArray (fun w' => ∃ p : Gr w, w' = p.W) (fun a' => ∀ w', (∃ p : Gr w, w' = p.W) → Q .normal a' w') l a) : (Code.region id l.toArray false).wp P Q a w :=
  wp_region_lit (by have := wpList_quiet (Q := Q) [] l a w ⟨⟨w, Below.refl _ _⟩, rfl⟩ h; rwa [List.append_nil] at this)
theorem wpList_grs {P : Program} {ops : Array Oper} {Q : Exit → Act → World → Prop} {a : Act} {w : World} {l : List Oper} (n : Nat)
    (h : wpQuiet P ops (fun w' => ∃ p : Gr w, w' = p.W) (fun a' => ∀ w', (∃ p : Gr w, w' = p.W) → wpList P ops Q (l.drop n) a' w') (l.take n) a) : wpList P ops Q l a w := by
  have := wpList_quiet (l.drop n) (l.take n) a w ⟨⟨w, Below.refl _ _⟩, rfl⟩ h
  rwa [List.take_append_drop] at this
end Go.Proofs.YtmhikcleekfbpaaDoor
namespace Go.Proofs.YtmhikcleekfbpaaDoor
open Go.RowKit

section
variable {P : Program} {ops : Array Oper} {Q : Exit → Act → World → Prop} {C : World → Prop}

/-- The first n of s have come up. -/
def firstN (s n : Nat) : Array Bool := ((List.range s).map fun i => decide (i < n)).toArray
theorem firstN_size (s n : Nat) : (firstN s n).size = s := by simp [firstN]
theorem firstN_at (s n i : Nat) (d : Bool) : (firstN s n).getD i d = if i < s then decide (i < n) else d := by
  unfold firstN
  by_cases h : i < s <;> simp [h]
theorem array_getD_ext {a b : Array Bool} (hs : a.size = b.size) (h : ∀ i, i < a.size → a.getD i false = b.getD i false) : a = b := by
  apply Array.ext hs
  intro i h1 h2
  have := h i h1
  simpa [h1, h2] using this
theorem firstN_zero (s : Nat) : Array.replicate s false = firstN s 0 := by
  apply array_getD_ext (by simp [firstN_size])
  intro i hi
  rw [firstN_at]
  simp at hi
  simp [hi]
theorem getD_set_at {l : Array Bool} {n i : Nat} {d : Bool} (hn : n < l.size) : (l.setIfInBounds n true).getD i d = if n = i then true else l.getD i d := by
  by_cases h : n = i
  · subst h; simp [hn]
  · rw [if_neg h, getD_set_ne d h]
theorem firstN_succ (s n : Nat) : (firstN s n).setIfInBounds n true = firstN s (n + 1) := by
  apply array_getD_ext (by simp [firstN_size])
  intro i hi
  simp [firstN_size] at hi
  by_cases hn : n < s
  · rw [getD_set_at (by rw [firstN_size]; exact hn), firstN_at, firstN_at, if_pos hi, if_pos hi]
    by_cases h : n = i
    · subst h; simp
    · rw [if_neg h]
      have : (i < n) ↔ (i < n + 1) := by omega
      simp [this]
  · rw [getD_set_ne false (by omega), firstN_at, firstN_at, if_pos hi, if_pos hi]
    have : (i < n) ↔ (i < n + 1) := by omega
    simp [this]
theorem both_false {l : Array Bool} {i : Nat} (hi : i < l.size) : l.getD i true = l.getD i false := by simp [hi]

theorem any_more : ∀ (g : Nat) (listed : Array Bool) (a : Act) (w : World), wpAny P .any ops Q g listed a w → wpAny P .any ops Q (g + 1) listed a w
  | 0, listed, a, w, h => ⟨fun _ => h.2, fun i hi => by rw [h.1] at hi; cases hi⟩
  | g + 1, listed, a, w, h => ⟨h.1, fun i hi => wpOp_mono (fun a' w' h' => any_more g _ a' w' h') (h.2 i hi)⟩
theorem any_more' (d : Nat) {g : Nat} {listed : Array Bool} {a : Act} {w : World} (h : wpAny P .any ops Q g listed a w) : wpAny P .any ops Q (d + g) listed a w := by
  induction d with
  | zero => rw [Nat.zero_add]; exact h
  | succ d ih => rw [show d + 1 + g = (d + g) + 1 by omega]; exact any_more _ _ _ _ ih

/-- What waits, waits for what stands before it. -/
def backB (ops : Array Oper) : Bool := (List.range ops.size).all fun i => match ops[i]? with
  | some o => o.after.all fun e => !Region.binds .any e || decide (e.on < i)
  | none => true
/-- All that stands before m must come before all that stands from m on. -/
def wallB (ops : Array Oper) (m : Nat) : Bool :=
  ((List.range m).all fun i => decide (ops.size ≤ m) || (List.range (m + 1)).any fun j => decide (i < j) && Region.waitsFor .any ops j i) &&
  ((List.range ops.size).all fun t => decide (t ≤ m) || (List.range t).any fun s => decide (m ≤ s) && Region.waitsFor .any ops t s)
theorem back_spec (h : backB ops = true) {i : Nat} {o : Oper} (ho : ops[i]? = some o) {e : Edge} (he : e ∈ o.after) (hb : Region.binds .any e = true) : e.on < i := by
  have hlt : i < ops.size := (Array.getElem?_eq_some_iff.1 ho).1
  have h1 := List.all_eq_true.1 h i (List.mem_range.2 hlt)
  simp only [ho] at h1
  have h2 := Array.all_eq_true_iff_forall_mem.1 h1 e he
  simpa [hb] using h2

structure HeadI (ops : Array Oper) (m : Nat) (listed : Array Bool) : Prop where
  size : listed.size = ops.size
  closed : ∀ j o, ops[j]? = some o → listed.getD j false = true → ∀ e ∈ o.after, Region.binds .any e = true → listed.getD e.on false = true
  tail : ∀ t, m ≤ t → listed.getD t false = false
theorem HeadI.set {m i : Nat} {listed : Array Bool} (inv : HeadI ops m listed) (hi : i ∈ Region.ready .any ops listed) (him : i < m) : HeadI ops m (listed.setIfInBounds i true) := by
  obtain ⟨_, oi, hoi, hall⟩ := mem_ready.1 hi
  refine ⟨by simp [inv.size], fun j o ho hl e he hb => ?_, fun t ht => by rw [getD_set_ne false (by omega)]; exact inv.tail t ht⟩
  by_cases hij : i = j
  · subst hij
    obtain rfl : o = oi := Option.some.inj (ho.symm.trans hoi)
    exact getD_set_true (hall e he hb)
  · rw [getD_set_ne false hij] at hl
    exact getD_set_true (inv.closed j o ho hl e he hb)
theorem wall_stops {m : Nat} (hw : wallB ops m = true) {listed : Array Bool} (inv : HeadI ops m listed) {i : Nat} (him : i < m) (hun : listed.getD i false = false) : ∀ t ∈ Region.ready .any ops listed, t < m := by
  unfold wallB at hw
  rw [Bool.and_eq_true] at hw
  obtain ⟨h1, h2⟩ := hw
  have key : ∀ (d i : Nat), m - i = d → i < m → listed.getD i false = false → m < ops.size → ∃ o, ops[m]? = some o ∧ ∃ e ∈ o.after, Region.binds .any e = true ∧ listed.getD e.on false = false := by
    intro d
    induction d using Nat.strongRecOn with
    | _ d ih =>
      intro i hd hi hun hms
      have hx := List.all_eq_true.1 h1 i (List.mem_range.2 hi)
      rw [Bool.or_eq_true, decide_eq_true_eq] at hx
      rcases hx with hx | hx
      · omega
      · obtain ⟨j, hj, hj2⟩ := List.any_eq_true.1 hx
        rw [Bool.and_eq_true, decide_eq_true_eq] at hj2
        obtain ⟨oj, hoj, e, he, hb, hon⟩ := Region.waitsFor_spec hj2.2
        have hjm : j ≤ m := by have := List.mem_range.1 hj; omega
        by_cases hjt : j = m
        · subst hjt; exact ⟨oj, hoj, e, he, hb, by rw [hon]; exact hun⟩
        · cases hl : listed.getD j false with
          | true =>
            have := inv.closed j oj hoj hl e he hb
            rw [hon, hun] at this; cases this
          | false => exact ih (m - j) (by omega) j rfl (by omega) hl hms
  intro t ht
  obtain ⟨_, ot, hot, hall⟩ := mem_ready.1 ht
  have hts : t < ops.size := (Array.getElem?_eq_some_iff.1 hot).1
  rcases Nat.lt_or_ge t m with h | h
  · exact h
  · exfalso
    by_cases htm : t = m
    · subst htm
      obtain ⟨o, ho, e, he, hb, hf⟩ := key _ i rfl him hun hts
      obtain rfl : o = ot := Option.some.inj (ho.symm.trans hot)
      rw [hall e he hb] at hf; cases hf
    · have hx := List.all_eq_true.1 h2 t (List.mem_range.2 hts)
      rw [Bool.or_eq_true, decide_eq_true_eq] at hx
      rcases hx with hx | hx
      · omega
      · obtain ⟨s, hs, hs2⟩ := List.any_eq_true.1 hx
        rw [Bool.and_eq_true, decide_eq_true_eq] at hs2
        obtain ⟨o, ho, e, he, hb, hon⟩ := Region.waitsFor_spec hs2.2
        obtain rfl : o = ot := Option.some.inj (ho.symm.trans hot)
        have := hall e he hb
        rw [hon, inv.tail s hs2.1] at this; cases this
theorem some_ready (hbk : backB ops = true) {listed : Array Bool} (hsz : listed.size = ops.size) : ∀ (i : Nat), i < ops.size → listed.getD i false = false → ∃ j, j ≤ i ∧ j ∈ Region.ready .any ops listed := by
  intro i
  induction i using Nat.strongRecOn with
  | _ i ih =>
    intro hi hun
    have ho : ops[i]? = some ops[i] := Array.getElem?_eq_getElem hi
    by_cases hall : ∀ e ∈ ops[i].after, Region.binds .any e = true → listed.getD e.on false = true
    · exact ⟨i, Nat.le_refl _, mem_ready.2 ⟨by rw [both_false (by omega)]; exact hun, _, ho, hall⟩⟩
    · have ⟨e, hx⟩ := Classical.not_forall.1 hall
      have ⟨he, hx⟩ := Classical.not_forall.1 hx
      have ⟨hb, hx⟩ := Classical.not_forall.1 hx
      have hlt := back_spec hbk ho he hb
      obtain ⟨j, h1, h2⟩ := ih e.on hlt (by omega) (by simpa using hx)
      exact ⟨j, by omega, h2⟩

/-- Listed, and the same with all from m on taken for listed. -/
structure Masked (ops : Array Oper) (m : Nat) (listed listed' : Array Bool) : Prop where
  size : listed'.size = ops.size
  head : ∀ i d, i < m → listed'.getD i d = listed.getD i d
  tail : ∀ t, m ≤ t → t < ops.size → listed'.getD t true = true
theorem Masked.set {m i : Nat} {listed listed' : Array Bool} (h : Masked ops m listed listed') (hsz : listed.size = ops.size) (him : i < m) : Masked ops m (listed.setIfInBounds i true) (listed'.setIfInBounds i true) := by
  refine ⟨by simp [h.size], fun j d hj => ?_, fun t ht hts => by rw [getD_set_ne true (by omega)]; exact h.tail t ht hts⟩
  by_cases hi : i < ops.size
  · rw [getD_set_at (by rw [h.size]; exact hi), getD_set_at (by rw [hsz]; exact hi), h.head j d hj]
  · by_cases hij : i = j
    · subst hij
      simp only [Array.getD_eq_getD_getElem?]
      rw [Array.getElem?_eq_none (by simp [h.size]; omega), Array.getElem?_eq_none (by simp [hsz]; omega)]
    · rw [getD_set_ne d hij, getD_set_ne d hij, h.head j d hj]
theorem Masked.ready {m j : Nat} {listed listed' : Array Bool} (h : Masked ops m listed listed') (hbk : backB ops = true) (hj : j ∈ Region.ready .any ops listed) (hjm : j < m) : j ∈ Region.ready .any ops listed' := by
  obtain ⟨h0, o, ho, hall⟩ := mem_ready.1 hj
  refine mem_ready.2 ⟨by rw [h.head j true hjm]; exact h0, o, ho, fun e he hb => ?_⟩
  have := back_spec hbk ho he hb
  rw [h.head e.on false (by omega)]
  exact hall e he hb

theorem any_head {m g : Nat} {L : Act → Prop} (hbk : backB ops = true) (hw : wallB ops m = true) (hm : m ≤ ops.size) (hL : ∀ a w, C w → L a → wpAny P .any ops Q g (firstN ops.size m) a w) :
    ∀ (f : Nat) (listed listed' : Array Bool) (a : Act) (w : World), HeadI ops m listed → Masked ops m listed listed' → C w → wpAnyQ P .any ops C L f listed' a → wpAny P .any ops Q (f + g) listed a w := by
  have full : ∀ (listed : Array Bool), HeadI ops m listed → (∀ i, i < m → listed.getD i false = true) → listed = firstN ops.size m := by
    intro listed inv hall
    apply array_getD_ext (by rw [inv.size, firstN_size])
    intro i hi
    rw [firstN_at, if_pos (by rw [← inv.size]; exact hi)]
    by_cases him : i < m
    · rw [hall i him]; simp [him]
    · rw [inv.tail i (by omega)]; simp [him]
  have none' : ∀ (listed listed' : Array Bool), HeadI ops m listed → Masked ops m listed listed' → (∀ i, i < m → listed.getD i false = true) → Region.ready .any ops listed' = [] := by
    intro listed listed' inv hmk hall
    apply List.eq_nil_iff_forall_not_mem.2
    intro j hj
    obtain ⟨h0, o, ho, _⟩ := mem_ready.1 hj
    have hjs : j < ops.size := (Array.getElem?_eq_some_iff.1 ho).1
    by_cases hjm : j < m
    · rw [hmk.head j true hjm, both_false (by rw [inv.size]; exact hjs), hall j hjm] at h0; cases h0
    · rw [hmk.tail j (by omega) hjs] at h0; cases h0
  have ex : ∀ (listed : Array Bool), ¬ (∀ i, i < m → listed.getD i false = true) → ∃ i, i < m ∧ listed.getD i false = false := by
    intro listed h
    have ⟨i, hx⟩ := Classical.not_forall.1 h
    have ⟨hi, hx⟩ := Classical.not_forall.1 hx
    exact ⟨i, hi, by simpa using hx⟩
  intro f
  induction f with
  | zero =>
    intro listed listed' a w inv hmk hC h
    by_cases hall : ∀ i, i < m → listed.getD i false = true
    · rw [full listed inv hall, Nat.zero_add]; exact hL a w hC h.2
    · obtain ⟨i, him, hun⟩ := ex listed hall
      obtain ⟨j, hji, hj⟩ := some_ready hbk inv.size i (by omega) hun
      have := hmk.ready hbk hj (by omega)
      rw [h.1] at this; cases this
  | succ f ih =>
    intro listed listed' a w inv hmk hC h
    by_cases hall : ∀ i, i < m → listed.getD i false = true
    · rw [full listed inv hall]
      exact any_more' (f + 1) (hL a w hC (h.1 (none' listed listed' inv hmk hall)))
    · obtain ⟨i, him, hun⟩ := ex listed hall
      rw [show f + 1 + g = (f + g) + 1 by omega]
      refine ⟨fun h0 => ?_, fun j hj => ?_⟩
      · obtain ⟨j, _, hj⟩ := some_ready hbk inv.size i (by omega) hun
        rw [h0] at hj; cases hj
      · have hjm := wall_stops hw inv him hun j hj
        exact wpOp_of_qOp hC (fun a' w' hw' h' => ih _ _ a' w' (inv.set hj hjm) (hmk.set inv.size hjm) hw' h') (h.2 j (hmk.ready hbk hj hjm))

theorem anyQ_lex {L : Act → Prop} (hs : Region.noSelect ops = true) : ∀ (l : List Oper) (k : Nat) (listed : Array Bool) (a : Act), (∀ j, j < l.length → l[j]? = ops[k + j]?) →
    Region.lexFrom .any ops l.length k listed = true → wpQuiet P ops C L l a → wpAnyQ P .any ops C L l.length listed a
  | [], _, _, _, _, hB, h => ⟨by simpa [Region.lexFrom] using hB, h⟩
  | o :: l, k, listed, a, hl, hB, h => by
    have h0 : ops[k]? = some o := by simpa using (hl 0 (by simp)).symm
    simp only [List.length_cons, Region.lexFrom, Bool.and_eq_true] at hB
    obtain ⟨⟨hr, hf⟩, hB'⟩ := hB
    have hst : qOp P ops C k (wpQuiet P ops C L l) a := by unfold qOp; simp only [h0]; exact h
    obtain ⟨v, hy, hK⟩ := yieldsIn_of_qOp h0 hst
    exact wpAnyQ_first h0 (Region.noSelect_spec hs) l.length listed a (Region.free_spec h0 hf) (by simpa using hr) hy
      (anyQ_lex hs l (k + 1) _ _ (fun j hj => by have := hl (j + 1) (by simp; omega); simpa [Nat.add_assoc, Nat.add_comm 1 j] using this) hB' hK)

/-- The first n operations have come up; the others in whatever order. -/
def AnyAt (P : Program) (ops : Array Oper) (Q : Exit → Act → World → Prop) (n : Nat) (a : Act) (w : World) : Prop := wpAny P .any ops Q (ops.size - n) (firstN ops.size n) a w
def maskN (s n m : Nat) : Array Bool := ((List.range s).map fun i => decide (i < n) || decide (m ≤ i)).toArray
def pieceB (ops : Array Oper) (n m : Nat) : Bool := Region.noSelect ops && (backB ops && (wallB ops m && (decide (n ≤ m) && (decide (m ≤ ops.size) && Region.lexFrom .any ops (m - n) n (maskN ops.size n m)))))
theorem closed_first (hbk : backB ops = true) (n : Nat) : ∀ j o, ops[j]? = some o → (firstN ops.size n).getD j false = true → ∀ e ∈ o.after, Region.binds .any e = true → (firstN ops.size n).getD e.on false = true := by
  intro j o ho hl e he hb
  have := back_spec hbk ho he hb
  have hjs : j < ops.size := (Array.getElem?_eq_some_iff.1 ho).1
  rw [firstN_at, if_pos hjs, decide_eq_true_eq] at hl
  rw [firstN_at, if_pos (by omega)]
  simp; omega
theorem AnyAt.piece {l : List Oper} {n : Nat} {a : Act} {w : World} (m : Nat) (hC : C w) (hB : pieceB l.toArray n m = true)
    (h : wpQuiet P l.toArray C (fun a' => ∀ w', C w' → AnyAt P l.toArray Q m a' w') ((l.drop n).take (m - n)) a) : AnyAt P l.toArray Q n a w := by
  unfold pieceB at hB
  simp only [Bool.and_eq_true, decide_eq_true_eq] at hB
  obtain ⟨hs, hbk, hw, hnm, hms, hlex⟩ := hB
  have hms' : m ≤ l.length := by simpa using hms
  have hlen : ((l.drop n).take (m - n)).length = m - n := by simp; omega
  have inv : HeadI l.toArray m (firstN l.toArray.size n) := ⟨firstN_size _ _, closed_first hbk n, fun t ht => by
    rw [firstN_at]
    split
    · simp; omega
    · rfl⟩
  have hmk : Masked l.toArray m (firstN l.toArray.size n) (maskN l.toArray.size n m) := by
    refine ⟨by simp [maskN], fun i d hi => ?_, fun t ht hts => ?_⟩
    · have hi2 : i < l.length := by omega
      rw [firstN_at, if_pos (by simpa using hi2)]
      have : ¬ m ≤ i := by omega
      simp [maskN, hi2, this]
    · have hts' : t < l.length := by simpa using hts
      simp [maskN, hts', ht]
  have hq := anyQ_lex (P := P) (C := C) hs ((l.drop n).take (m - n)) n (maskN l.toArray.size n m) a (fun j hj => by
    rw [hlen] at hj
    simp [hj, List.getElem?_drop]) (by rw [hlen]; exact hlex) h
  have := any_head (P := P) (Q := Q) (g := l.toArray.size - m) hbk hw hms (fun a w hw h => h w hw) _ _ _ a w inv hmk hC hq
  unfold AnyAt
  rw [hlen, show m - n + (l.toArray.size - m) = l.toArray.size - n by simp; omega] at this
  exact this
theorem AnyAt.one {l : List Oper} {n : Nat} {a : Act} {w : World} {o : Oper} (hB : (Region.ready .any l.toArray (firstN l.toArray.size n) == [n]) = true) (ho : l[n]? = some o)
    (h : ∀ K : Act → World → Prop, (∀ a w, AnyAt P l.toArray Q (n + 1) a w → K a w) → if Region.wanted o (yielded l.toArray a.tmps) then o.wp P a w K Q else K (a.put o.dst undef) w) : AnyAt P l.toArray Q n a w := by
  have hr : Region.ready .any l.toArray (firstN l.toArray.size n) = [n] := by simpa using hB
  have hn : n < l.length := (List.getElem?_eq_some_iff.1 ho).1
  unfold AnyAt
  rw [show l.toArray.size - n = (l.toArray.size - (n + 1)) + 1 by simp; omega]
  refine ⟨fun h0 => (by rw [hr] at h0; cases h0), fun i hi => ?_⟩
  rw [hr] at hi
  obtain rfl : i = n := by simpa using hi
  unfold wpOp
  have ho' : l.toArray[i]? = some o := by simpa using ho
  simp only [ho']
  rw [firstN_succ]
  have := h _ (fun _ _ h => h)
  split
  · rename_i hwt
    rw [if_pos hwt] at this
    exact .inl this
  · rename_i hwt
    rw [if_neg hwt] at this
    exact this
theorem AnyAt.done {l : List Oper} {a : Act} {w : World} {n : Nat} (hn : n = l.length) (h : Q .normal a w) : AnyAt P l.toArray Q n a w := by
  unfold AnyAt
  subst hn
  rw [show l.toArray.size - l.length = 0 by simp]
  refine ⟨List.eq_nil_iff_forall_not_mem.2 fun j hj => ?_, h⟩
  obtain ⟨h0, o, ho, _⟩ := mem_ready.1 hj
  have hjs : j < l.length := by simpa using (Array.getElem?_eq_some_iff.1 ho).1
  rw [firstN_at, if_pos (by simpa using hjs)] at h0
  simp at h0
  omega
theorem wp_region_at {id : Nat} {l : List Oper} {a : Act} {w : World} (hm : P.follows .mixedOrders = true) (h : AnyAt P l.toArray Q 0 a (w.drewN 1)) : (Code.region id l.toArray true).wp P Q a w := by
  refine wp_region_any hm ?_
  unfold AnyAt at h
  rw [← firstN_zero, Nat.sub_zero] at h
  exact h
theorem AnyAt.gr {l : List Oper} {n : Nat} {a : Act} {w : World} (m : Nat) (hB : pieceB l.toArray n m = true)
    (h : wpQuiet P l.toArray (fun w' => ∃ p : Gr w, w' = p.W) (fun a' => ∀ w', (∃ p : Gr w, w' = p.W) → AnyAt P l.toArray Q m a' w') ((l.drop n).take (m - n)) a) : AnyAt P l.toArray Q n a w :=
  AnyAt.piece (C := fun w' => ∃ p : Gr w, w' = p.W) m ⟨⟨w, Below.refl _ _⟩, rfl⟩ hB h
end
end Go.Proofs.YtmhikcleekfbpaaDoor
