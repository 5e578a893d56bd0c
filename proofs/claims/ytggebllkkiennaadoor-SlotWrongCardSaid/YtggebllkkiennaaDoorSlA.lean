/-
  Slots as structures; walks of package slot: halves, Right, shares, Meet, Over; slices.Index and Contains over bytes.
-/
import Derived.Test.YtggebllkkiennaaDoorShL
import Derived.Test.YtggebllkkiennaaDoorRep4
import Derived.IntWalk
namespace Go.Proofs.YtggebllkkiennaaDoor
open Go.RowKit

structure Slt where
  col : Int
  tier : Int
  half : Nat
  deriving DecidableEq, Inhabited
def sltL (x : Slt) : List Value := [.int .i64 x.col, .int .i64 x.tier, .int .u8 (x.half : Nat)]
def tSlt : Ty Slt where
  k := 3
  pos := by decide
  rd := fun _ _ cs x => cs = sltL x
  len := by rintro _ _ _ _ rfl; rfl
  one := by rintro _ _ _ _ rfl; rfl
  keep := fun h _ => h
  more := fun h _ => h
theorem SlT.slt {w : World} {S : Nat → Prop} {A : Option Addr} {l : List Slt} (h : SlT tSlt w S A l) {j : Nat} (hj : j < l.length) :
    ∃ b off, A = some ⟨b, off, none⟩ ∧ S b ∧ w.cell? ⟨b, off + j * 3, none⟩ = some (.int .i64 (l.getD j default).col) ∧ w.cell? ⟨b, off + j * 3 + 1, none⟩ = some (.int .i64 (l.getD j default).tier) ∧ w.cell? ⟨b, off + j * 3 + 2, none⟩ = some (.int .u8 ((l.getD j default).half : Nat)) := by
  obtain ⟨b, off, cs, e, hb, h1, h2⟩ := h.at_ hj default
  rw [show cs = _ from h1] at h2
  exact ⟨b, off, e, hb, h2 0 _ rfl, h2 1 _ rfl, h2 2 _ rfl⟩
theorem SlT.u8 {w : World} {S : Nat → Prop} {A : Option Addr} {l : List Nat} (h : SlT tU8 w S A l) {j : Nat} (hj : j < l.length) :
    ∃ b off, A = some ⟨b, off, none⟩ ∧ S b ∧ w.cell? ⟨b, off + j, none⟩ = some (.int .u8 (l.getD j 0 : Nat)) := by
  obtain ⟨b, off, cs, e, hb, h1, h2⟩ := h.at_ hj 0
  refine ⟨b, off, e, hb, ?_⟩
  have := h2 0 (.int .u8 (l.getD j 0 : Nat)) (by rw [show cs = _ from h1]; rfl)
  simpa [tU8] using this
/-- The first index that is wanted. -/
def idxF {α : Type} (p : α → Bool) (l : List α) : Int := match l.findIdx? p with | some i => (i : Int) | none => -1
theorem idx_none {α : Type} {p : α → Bool} {l : List α} (d : α) (h : ∀ i, i < l.length → p (l.getD i d) = false) : idxF p l = -1 := by
  unfold idxF
  rw [List.findIdx?_eq_none_iff.2 fun x hx => by
    obtain ⟨i, hi, rfl⟩ := List.getElem_of_mem hx
    have := h i hi
    simpa [hi] using this]
theorem idx_some {α : Type} {p : α → Bool} {l : List α} (d : α) {k : Nat} (hk : k < l.length) (hp : p (l.getD k d) = true) (h : ∀ i, i < k → p (l.getD i d) = false) : idxF p l = k := by
  unfold idxF
  have : l.findIdx? p = some k := by
    rw [List.findIdx?_eq_some_iff_getElem]
    refine ⟨hk, by simpa [hk] using hp, fun j hj => ?_⟩
    have := h j hj
    simpa [show j < l.length by omega] using this
  rw [this]
theorem idx_ge {α : Type} (p : α → Bool) (l : List α) : decide ((0 : Int) ≤ idxF p l) = l.any p := by
  unfold idxF
  rw [Bool.eq_iff_iff]
  cases h : l.findIdx? p with
  | none =>
    rw [List.findIdx?_eq_none_iff] at h
    simp only [decide_eq_true_eq]
    constructor
    · intro h'; omega
    · intro h'
      obtain ⟨x, hx, hp⟩ := List.any_eq_true.1 h'
      rw [h x hx] at hp; cases hp
  | some i =>
    obtain ⟨hi, hp, _⟩ := List.findIdx?_eq_some_iff_getElem.1 h
    simp only [decide_eq_true_eq]
    exact ⟨fun _ => List.any_eq_true.2 ⟨_, List.getElem_mem hi, hp⟩, fun _ => by omega⟩
/-- A search: what is known of the elements before. -/
def Before {α : Type} (p : α → Bool) (l : List α) (d : α) (k : Nat) : Prop := ∀ i, i < k → p (l.getD i d) = false
theorem Before.zero {α : Type} {p : α → Bool} {l : List α} {d : α} : Before p l d 0 := fun i h => absurd h (by omega)
theorem Before.succ {α : Type} {p : α → Bool} {l : List α} {d : α} {k : Nat} (h : Before p l d k) (hk : p (l.getD k d) = false) : Before p l d (k + 1) := fun i hi => by
  rcases Nat.lt_succ_iff_lt_or_eq.1 hi with h' | h'
  · exact h i h'
  · rw [h']; exact hk

set_option maxHeartbeats 1000000 in
theorem indexU8_any (A : Option Addr) (c : Nat) (l : List Nat) (x : Nat) (S : Nat → Prop) (w : World) (hs : SlT tU8 w S A l) (hl : l.length ≤ 1000000) :
    Calls Tryd.prog 94 #[.slice A l.length c, .int .u8 (x : Nat)] w fun e w' => e = .returned (.int .i64 (idxF (fun y => x == y) l)) ∧ w = w' := by
  have HS := Lib.hid hs; clear hs
  go_enter Tryd.func94, Tryd.ntmps94
  go_wp2
  go_loop [8] (fun i => ∃ k : Nat, k ≤ l.length ∧ i = .int .i64 k ∧ Hid (Before (fun y => x == y) l 0 k)) (fun i => l.length - (intOf i).toNat)
  case atStart => exact ⟨0, Nat.zero_le _, rfl, Lib.hid .zero⟩
  case round =>
    obtain ⟨k, hk, rfl, HB⟩ := hrel
    by_cases hlt : k < l.length
    · obtain ⟨b, off, rfl, _, c0⟩ := HS.out.u8 hlt
      have hk0 : (0 : Int) ≤ (k : Int) := by omega
      have hk1 : (k : Int) < (l.length : Int) := by omega
      cases hp : (x == l.getD k 0) with
      | true =>
        have HV := Lib.hid (idx_some (p := fun y => x == y) 0 hlt hp HB.out)
        clear HB
        have hx : x = l.getD k 0 := by simpa using hp
        rw [← hx] at c0
        clear hp hx
        go_wp2
        go_ret
        exact ⟨by rw [HV.out]; rfl, rfl⟩
      | false =>
        have HN := Lib.hid (HB.out.succ hp)
        clear HB
        have hne : ((x : Int) == ((l.getD k 0 : Nat) : Int)) = false := by simp at hp ⊢; omega
        clear hp
        generalize l.getD k 0 = y at *
        go_wp2
        go_round
        case rel => exact ⟨k + 1, by omega, by go_num, HN⟩
        case measure => simp [intOf]; omega
    · obtain rfl : k = l.length := by omega
      have HV := Lib.hid (idx_none (p := fun y => x == y) 0 HB.out)
      go_wp2
      go_ret
      exact ⟨by rw [HV.out]; rfl, rfl⟩
set_option maxHeartbeats 400000 in
theorem containsU8_any (A : Option Addr) (c : Nat) (l : List Nat) (x : Nat) (S : Nat → Prop) (w : World) (hs : SlT tU8 w S A l) (hl : l.length ≤ 1000000) :
    Calls Tryd.prog 56 #[.slice A l.length c, .int .u8 (x : Nat)] w fun e w' => e = .returned (.bool (l.any fun y => x == y)) ∧ w = w' := by
  have HC := Lib.hid (indexU8_any A c l x S w hs hl)
  have HV := Lib.hid (idx_ge (fun y => x == y) l)
  clear hs
  go_enter Tryd.func56, Tryd.ntmps56
  go_wp2_with fail
  refine HC.out.mono ?_
  rintro e w' ⟨rfl, rfl⟩
  generalize idxF (fun y => x == y) l = v at *
  go_wp2
  go_ret
  exact ⟨by rw [← HV.out]; rfl, rfl⟩

def halvesL (size : Nat) : List Nat := if size = 40 then [0] else if size = 20 then [1, 2] else []
/-- What a call that makes a list of bytes leaves. -/
def OwnU8 (w : World) (l : List Nat) (e : Ending) (w' : World) : Prop := ∃ A c, e = .returned (.slice A l.length c) ∧ SlT tU8 w' (Lt w'.heap.size) A l ∧ Below w.heap.size w w'
theorem sl_u8s {w : World} {g : Nat} {t : TypeId} {l : List Nat} (hb : Bk w g t (u8s l).toArray) : SlT tU8 w (Lt w.heap.size) (some ⟨g, 0, none⟩) l := by
  refine sl_flat hb ?_ hb.lt
  have : ∀ l : List Nat, Flat tU8 w (Lt w.heap.size) (u8s l) l := by
    intro l
    induction l with
    | nil => rfl
    | cons x l ih => exact ⟨[.int .u8 (x : Nat)], u8s l, rfl, rfl, ih⟩
  simpa using this l
set_option maxHeartbeats 400000 in
theorem halves_any (size : Nat) (w : World) : Calls Tryd.prog 57 #[.int .u8 (size : Nat)] w (OwnU8 w (halvesL size)) := by
  unfold halvesL
  by_cases h40 : size = 40
  · subst h40
    go_enter Tryd.func57, Tryd.ntmps57
    go_wp2
    go_ret
    exact ⟨_, _, rfl, sl_u8s (l := [0]) (Bk.new w 5 #[.int .u8 0]), ba1 w _⟩
  · rw [if_neg h40]
    have n40 : ((size : Int) == 40) = false := by simp; omega
    by_cases h20 : size = 20
    · subst h20
      clear h40
      go_enter Tryd.func57, Tryd.ntmps57
      go_wp2
      go_ret
      exact ⟨_, _, rfl, sl_u8s (l := [1, 2]) (Bk.new w 5 #[.int .u8 1, .int .u8 2]), ba1 w _⟩
    · rw [if_neg h20]
      have n20 : ((size : Int) == 20) = false := by simp; omega
      clear h40 h20
      go_enter Tryd.func57, Tryd.ntmps57
      go_wp2
      go_ret
      exact ⟨none, 0, rfl, SlT.nil, Below.refl _ _⟩
def sharesB (a b : Nat) : Bool := a == b || (a == 0 || b == 0)
theorem int_beq (a b : Nat) : ((a : Int) == (b : Int)) = (a == b) := by rw [Bool.eq_iff_iff]; simp; omega
theorem ret_bool {a b : Bool} (h : a = b) : Ending.returned (.bool a) = .returned (.bool b) := by rw [h]
set_option maxHeartbeats 400000 in
theorem shares_any (a b : Nat) (w : World) : Calls Tryd.prog 61 #[.int .u8 (a : Nat), .int .u8 (b : Nat)] w fun e w' => e = .returned (.bool (sharesB a b)) ∧ w = w' := by
  have HV : Hid (sharesB a b = (a == b || (a == 0 || b == 0))) := Lib.hid rfl
  have k1 := int_beq a b
  have k2 := int_beq a 0
  have HK3 := Lib.hid (int_beq b 0)
  cases h1 : (a == b) <;> cases h2 : (a == 0)
  all_goals
    rw [h1] at k1
    rw [h2] at k2
    rw [h1, h2] at HV
    clear h1 h2
    simp only [Int.ofNat_zero] at k2
    generalize (a : Int) = A at *
    go_enter Tryd.func61, Tryd.ntmps61
    go_wp2
    go_ret
    exact ⟨by rw [HV.out]; first | rfl | exact ret_bool HK3.out, rfl⟩
end Go.Proofs.YtggebllkkiennaaDoor
