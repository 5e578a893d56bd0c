/-
  Walks: ship.Tallest, ship.Places, SameInts.
-/
import Derived.Test.YtggebllkkiennaaDoorShF
namespace Go.Proofs.YtggebllkkiennaaDoor
open Go.RowKit

theorem list_ext {α : Type} (d : α) {a b : List α} {n : Nat} (ha : a.length = n) (hb : b.length = n) (h : ∀ i, i < n → a.getD i d = b.getD i d) : a = b := by
  apply List.ext_getElem
  · omega
  · intro i h1 h2
    have := h i (by omega)
    simpa [h1, h2] using this
def tallTo (l : List Col) : Nat → Int
  | 0 => 0
  | k + 1 => if k = 0 ∨ tallTo l k < (l.getD k default).tiers then (l.getD k default).tiers else tallTo l k
def placesTo (l : List Col) : Nat → Int
  | 0 => 0
  | k + 1 => wrap64 (placesTo l k + wrap64 (2 * (l.getD k default).tiers))

/-- What a call that only reads leaves. -/
def Rets (w : World) (v : Value) (e : Ending) (w' : World) : Prop := e = .returned v ∧ ∃ m, w' = w.drewN m

set_option maxRecDepth 100000 in
set_option maxHeartbeats 1000000 in
theorem sameInts_any (A1 A2 : Option Addr) (c1 c2 : Nat) (L1 L2 : List Int) (S1 S2 : Nat → Prop) (w : World) (h1 : SlT tInt w S1 A1 L1) (h2 : SlT tInt w S2 A2 L2) (hn : L1.length ≤ maxLen) :
    Calls Tryd.prog 102 #[.slice A1 L1.length c1, .slice A2 L2.length c2] w (Rets w (.bool (decide (L1 = L2)))) := by
  unfold maxLen at hn
  by_cases hne : L1.length = L2.length
  · have HNE := Lib.hid hne
    have hb0 : ((L1.length : Int) != (L2.length : Int)) = false := by simp; omega
    clear hne
    go_enter Tryd.func102, Tryd.ntmps102
    go_wp2
    go_loopw [5] (fun i wr => ∃ k m : Nat, k ≤ L1.length ∧ i = .int .i64 k ∧ wr = w.drewN m ∧ Hid (∀ i, i < k → L1.getD i 0 = L2.getD i 0)) (fun i _ => L1.length - (intOf i).toNat)
    case atStart => exact ⟨0, 0, Nat.zero_le _, rfl, rfl, Lib.hid (fun i hi => absurd hi (by omega))⟩
    case round =>
      obtain ⟨k, m, hk, rfl, rfl, HE⟩ := hrel
      by_cases hlt : k < L1.length
      · obtain ⟨p1, o1, rfl, _, e1⟩ := h1.int hlt
        obtain ⟨p2, o2, rfl, _, e2⟩ := h2.int (j := k) (by rw [← HNE.out]; exact hlt)
        have hlt' : (k : Int) < (L1.length : Int) := by omega
        have hlt2 : (k : Int) < (L2.length : Int) := by have := HNE.out; omega
        have hk0 : (0 : Int) ≤ (k : Int) := by omega
        by_cases hg : L1.getD k 0 = L2.getD k 0
        · have HE2 := Lib.hid (show ∀ i, i < k + 1 → L1.getD i 0 = L2.getD i 0 from fun i hi => by
            rcases Nat.lt_succ_iff_lt_or_eq.1 hi with h | h
            · exact HE.out i h
            · rw [h]; exact hg)
          rw [← hg] at e2
          clear HE hg
          generalize L1.getD k 0 = g1 at *
          go_wp2
          go_quiet (fail)
          go_wp2
          go_roundw
          case rel => exact ⟨k + 1, m + nq, by omega, by go_num, by simp, HE2⟩
          case measure => simp [intOf]; omega
        · have hbq : (L1.getD k 0 != L2.getD k 0) = true := by simpa using hg
          have HNEQ := Lib.hid (show decide (L1 = L2) = false by
            rw [decide_eq_false_iff_not]; intro h; exact hg (by rw [h]))
          clear HE hg
          generalize L1.getD k 0 = g1 at *
          generalize L2.getD k 0 = g2 at *
          go_wp2
          go_quiet (fail)
          go_wp2
          go_ret
          exact ⟨by rw [HNEQ.out]; rfl, m + nq, by simp [World.drewN_drewN]⟩
      · obtain rfl : k = L1.length := by omega
        have HY := Lib.hid (show decide (L1 = L2) = true by
          rw [decide_eq_true_iff]; exact list_ext 0 rfl HNE.out.symm HE.out)
        go_wp2
        go_ret
        exact ⟨by rw [HY.out]; rfl, m, rfl⟩
  · have hb : ((L1.length : Int) != (L2.length : Int)) = true := by simp; omega
    have HNE := Lib.hid (show decide (L1 = L2) = false by
      rw [decide_eq_false_iff_not]; intro h; rw [h] at hne; exact hne rfl)
    go_enter Tryd.func102, Tryd.ntmps102
    go_wp2
    go_ret
    exact ⟨by rw [HNE.out]; rfl, 0, rfl⟩
end Go.Proofs.YtggebllkkiennaaDoor
