/-
  Walks of package slot: Meet, Over, Compare; cmp.Compare and cmp.Or.
-/
import Derived.Test.YtggebllkkiennaaDoorSlB
namespace Go.Proofs.YtggebllkkiennaaDoor
open Go.RowKit

def meetB (a b : Slt) : Bool := a.col == b.col && (a.tier == b.tier && sharesB a.half b.half)
def overB (a b : Slt) : Bool := a.col == b.col && (decide (b.tier < a.tier) && sharesB a.half b.half)
set_option maxRecDepth 100000 in
set_option maxHeartbeats 1000000 in
theorem meet_any (a b : Slt) (w : World) : Calls Tryd.prog 31 #[.agg (sltL a).toArray, .agg (sltL b).toArray] w (Ret w (.bool (meetB a b))) := by
  obtain ⟨ac, at_, ah⟩ := a
  obtain ⟨bc, bt, bh⟩ := b
  have HV : Hid (meetB ⟨ac, at_, ah⟩ ⟨bc, bt, bh⟩ = (ac == bc && (at_ == bt && sharesB ah bh))) := Lib.hid rfl
  have HS := Lib.hid (fun W => shares_any ah bh W)
  generalize sharesB ah bh = r at *
  unfold sltL
  simp only
  cases e1 : (ac == bc) with
  | false =>
    have HW := Lib.hid (HV.out.trans (by rw [e1]; rfl : _ = false))
    clear HV
    go_enter Tryd.func31, Tryd.ntmps31
    go_wp2_with fail
    go_ret
    exact ⟨by rw [HW.out]; rfl, ba2 w _ _⟩
  | true =>
    cases e2 : (at_ == bt) with
    | false =>
      have HW := Lib.hid (HV.out.trans (by rw [e1, e2]; rfl : _ = false))
      clear HV
      go_enter Tryd.func31, Tryd.ntmps31
      go_wp2_with fail
      go_ret
      exact ⟨by rw [HW.out]; rfl, ba2 w _ _⟩
    | true =>
      have HW := Lib.hid (HV.out.trans (by rw [e1, e2]; rfl : _ = r))
      clear HV
      go_enter Tryd.func31, Tryd.ntmps31
      go_wp2_with (go_at_call 61; refine (HS.out _).mono ?_; rintro e w' ⟨rfl, rfl⟩)
      go_ret
      exact ⟨by rw [HW.out]; rfl, ba2 w _ _⟩
set_option maxRecDepth 100000 in
set_option maxHeartbeats 1000000 in
theorem over_any (a b : Slt) (w : World) : Calls Tryd.prog 24 #[.agg (sltL a).toArray, .agg (sltL b).toArray] w (Ret w (.bool (overB a b))) := by
  obtain ⟨ac, at_, ah⟩ := a
  obtain ⟨bc, bt, bh⟩ := b
  have HV : Hid (overB ⟨ac, at_, ah⟩ ⟨bc, bt, bh⟩ = (ac == bc && (decide (bt < at_) && sharesB ah bh))) := Lib.hid rfl
  have HS := Lib.hid (fun W => shares_any ah bh W)
  generalize sharesB ah bh = r at *
  unfold sltL
  simp only
  cases e1 : (ac == bc) with
  | false =>
    have HW := Lib.hid (HV.out.trans (by rw [e1]; rfl : _ = false))
    clear HV
    go_enter Tryd.func24, Tryd.ntmps24
    go_wp2_with fail
    go_ret
    exact ⟨by rw [HW.out]; rfl, ba2 w _ _⟩
  | true =>
    cases e2 : decide (bt < at_) with
    | false =>
      have HW := Lib.hid (HV.out.trans (by rw [e1, e2]; rfl : _ = false))
      clear HV
      go_enter Tryd.func24, Tryd.ntmps24
      go_wp2_with fail
      go_ret
      exact ⟨by rw [HW.out]; rfl, ba2 w _ _⟩
    | true =>
      have HW := Lib.hid (HV.out.trans (by rw [e1, e2]; rfl : _ = r))
      clear HV
      go_enter Tryd.func24, Tryd.ntmps24
      go_wp2_with (go_at_call 61; refine (HS.out _).mono ?_; rintro e w' ⟨rfl, rfl⟩)
      go_ret
      exact ⟨by rw [HW.out]; rfl, ba2 w _ _⟩
def cmpZ (a b : Int) : Int := if a < b then -1 else if b < a then 1 else 0
theorem nanInt_any (a : Int) (w : World) : Calls Tryd.prog 95 #[.int .i64 a] w fun e w' => e = .returned (.bool false) ∧ w = w' := by
  go_enter Tryd.func95, Tryd.ntmps95
  go_wp2
  go_ret
  exact ⟨by simp, rfl⟩
theorem nanU8_any (a : Nat) (w : World) : Calls Tryd.prog 96 #[.int .u8 (a : Nat)] w fun e w' => e = .returned (.bool false) ∧ w = w' := by
  go_enter Tryd.func96, Tryd.ntmps96
  go_wp2
  go_ret
  exact ⟨by simp, rfl⟩
set_option maxHeartbeats 1000000 in
theorem cmpInt_any (a b : Int) (w : World) : Calls Tryd.prog 59 #[.int .i64 a, .int .i64 b] w fun e w' => e = .returned (.int .i64 (cmpZ a b)) ∧ w = w' := by
  have HV : Hid (cmpZ a b = if a < b then -1 else if b < a then 1 else 0) := Lib.hid rfl
  rcases Int.lt_trichotomy a b with h | h | h
  · have HW := Lib.hid (HV.out.trans (if_pos h))
    have d1 : decide (a < b) = true := by simpa using h
    clear h
    go_enter Tryd.func59, Tryd.ntmps59
    go_wp2_with (go_at_call 95; refine (nanInt_any _ _).mono ?_; rintro e w' ⟨rfl, rfl⟩)
    go_ret
    exact ⟨by rw [HW.out]; rfl, rfl⟩
  · subst h
    have HW : Hid (cmpZ a a = 0) := Lib.hid (by unfold cmpZ; simp)
    go_enter Tryd.func59, Tryd.ntmps59
    go_wp2_with (go_at_call 95; refine (nanInt_any _ _).mono ?_; rintro e w' ⟨rfl, rfl⟩)
    go_ret
    exact ⟨by rw [HW.out]; rfl, rfl⟩
  · have HW := Lib.hid ((HV.out.trans (if_neg (by omega))).trans (if_pos h))
    have d1 : decide (a < b) = false := by simp; omega
    have d2 : decide (b < a) = true := by simpa using h
    clear h
    go_enter Tryd.func59, Tryd.ntmps59
    go_wp2_with (go_at_call 95; refine (nanInt_any _ _).mono ?_; rintro e w' ⟨rfl, rfl⟩)
    go_ret
    exact ⟨by rw [HW.out]; rfl, rfl⟩
set_option maxHeartbeats 1000000 in
theorem cmpU8_any (a b : Nat) (w : World) : Calls Tryd.prog 60 #[.int .u8 (a : Nat), .int .u8 (b : Nat)] w fun e w' => e = .returned (.int .i64 (cmpZ a b)) ∧ w = w' := by
  have HV : Hid (cmpZ a b = if (a : Int) < b then -1 else if (b : Int) < a then 1 else 0) := Lib.hid rfl
  have HN := Lib.hid (fun W => nanU8_any a W)
  have HN2 := Lib.hid (fun W => nanU8_any b W)
  generalize (a : Int) = x at *
  generalize (b : Int) = y at *
  rcases Int.lt_trichotomy x y with h | h | h
  · have HW := Lib.hid (HV.out.trans (if_pos h))
    have d1 : decide (x < y) = true := by simpa using h
    clear h
    go_enter Tryd.func60, Tryd.ntmps60
    go_wp2_with (first | (go_at_call 96; refine (HN.out _).mono ?_; clear HN; rintro e w' ⟨rfl, rfl⟩) | (go_at_call 96; refine (HN2.out _).mono ?_; rintro e w' ⟨rfl, rfl⟩))
    go_ret
    exact ⟨by rw [HW.out]; rfl, rfl⟩
  · subst h
    have HW : Hid (cmpZ x x = 0) := Lib.hid (by unfold cmpZ; simp)
    go_enter Tryd.func60, Tryd.ntmps60
    go_wp2_with (first | (go_at_call 96; refine (HN.out _).mono ?_; clear HN; rintro e w' ⟨rfl, rfl⟩) | (go_at_call 96; refine (HN2.out _).mono ?_; rintro e w' ⟨rfl, rfl⟩))
    go_ret
    exact ⟨by rw [HW.out]; rfl, rfl⟩
  · have HW := Lib.hid ((HV.out.trans (if_neg (by omega))).trans (if_pos h))
    have d1 : decide (x < y) = false := by simp; omega
    have d2 : decide (y < x) = true := by simpa using h
    clear h
    go_enter Tryd.func60, Tryd.ntmps60
    go_wp2_with (first | (go_at_call 96; refine (HN.out _).mono ?_; clear HN; rintro e w' ⟨rfl, rfl⟩) | (go_at_call 96; refine (HN2.out _).mono ?_; rintro e w' ⟨rfl, rfl⟩))
    go_ret
    exact ⟨by rw [HW.out]; rfl, rfl⟩
/-- The first number that is not 0. -/
def orF : List Int → Int
  | [] => 0
  | x :: l => if x = 0 then orF l else x
theorem or_zero : ∀ (l : List Int), (∀ i, i < l.length → l.getD i 0 = 0) → orF l = 0
  | [], _ => rfl
  | x :: l, h => by
    have h0 := h 0 (by simp)
    have ih := or_zero l fun i hi => by have := h (i + 1) (by simp; omega); simpa using this
    simp at h0
    simp [orF, h0, ih]
theorem or_at : ∀ (l : List Int) (k : Nat), k < l.length → l.getD k 0 ≠ 0 → (∀ i, i < k → l.getD i 0 = 0) → orF l = l.getD k 0
  | [], k, hk, _, _ => by simp at hk
  | x :: l, 0, _, h, _ => by simp at h; simp [orF, h]
  | x :: l, k + 1, hk, h, hb => by
    have h0 := hb 0 (by omega)
    simp at h0
    have := or_at l k (by simpa using hk) (by simpa using h) fun i hi => by have := hb (i + 1) (by omega); simpa using this
    simp only [orF, h0, if_true]
    simpa using this
set_option maxHeartbeats 1000000 in
theorem or_any (A : Option Addr) (c : Nat) (l : List Int) (S : Nat → Prop) (w : World) (hs : SlT tInt w S A l) (hl : l.length ≤ 1000000) :
    Calls Tryd.prog 58 #[.slice A l.length c] w fun e w' => e = .returned (.int .i64 (orF l)) ∧ w = w' := by
  have HS := Lib.hid hs; clear hs
  go_enter Tryd.func58, Tryd.ntmps58
  go_wp2
  go_loop [8] (fun i => ∃ k : Nat, k ≤ l.length ∧ i = .int .i64 k ∧ Hid (∀ i, i < k → l.getD i 0 = 0)) (fun i => l.length - (intOf i).toNat)
  case atStart => exact ⟨0, Nat.zero_le _, rfl, Lib.hid fun i h => absurd h (by omega)⟩
  case round =>
    obtain ⟨k, hk, rfl, HB⟩ := hrel
    by_cases hlt : k < l.length
    · obtain ⟨b, off, rfl, _, c0⟩ := HS.out.int hlt
      have hk0 : (0 : Int) ≤ (k : Int) := by omega
      have hk1 : (k : Int) < (l.length : Int) := by omega
      by_cases hp : l.getD k 0 = 0
      · have HN := Lib.hid (show ∀ i, i < k + 1 → l.getD i 0 = 0 from fun i hi => by
          rcases Nat.lt_succ_iff_lt_or_eq.1 hi with h' | h'
          · exact HB.out i h'
          · rw [h']; exact hp)
        rw [hp] at c0
        clear HB hp
        go_wp2
        go_round
        case rel => exact ⟨k + 1, by omega, by go_num, HN⟩
        case measure => simp [intOf]; omega
      · have HV := Lib.hid (or_at l k hlt hp HB.out)
        have hne : (l.getD k 0 != 0) = true := by simpa using hp
        clear hp HB
        generalize l.getD k 0 = y at *
        go_wp2
        go_ret
        exact ⟨by rw [HV.out]; rfl, rfl⟩
    · obtain rfl : k = l.length := by omega
      have HV := Lib.hid (or_zero l HB.out)
      go_wp2
      go_ret
      exact ⟨by rw [HV.out]; rfl, rfl⟩
end Go.Proofs.YtggebllkkiennaaDoor
