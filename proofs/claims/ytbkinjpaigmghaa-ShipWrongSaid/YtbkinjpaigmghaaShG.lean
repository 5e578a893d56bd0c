/-
  Walks: ship.Tallest, ship.Places, SameInts.
-/
import Derived.Test.YtbkinjpaigmghaaShF
namespace Go.Proofs.Ytbkinjpaigmghaa
open Go.RowKit

theorem list_ext {α : Type} (d : α) {a b : List α} {n : Nat} (ha : a.length = n) (hb : b.length = n) (h : ∀ i, i < n → a.getD i d = b.getD i d) : a = b := by
  apply List.ext_getElem
  · omega
  · intro i h1 h2
    have := h i (by omega)
    simpa [h1, h2] using this
def tallTo (l : List Col) : Nat → Int
  | 0 => 0
  | k + 1 => if k = 0 ∨ tallTo l k < (l.getD k default).tiers then (l.getD k default).tiers else tallTo l k
def placesTo (l : List Col) : Nat → Int
  | 0 => 0
  | k + 1 => wrap64 (placesTo l k + wrap64 (2 * (l.getD k default).tiers))

set_option maxRecDepth 100000 in
set_option maxHeartbeats 1000000 in
theorem tallest_any (s : Shp) (h : Hd) (w : World) (hs : ShpR w (Lt w.heap.size) s h) (hl : s.cols.length ≤ 1000000) :
    Calls Try.prog 22 #[.agg (shpA s h)] w (Ret w (.int .i64 (tallTo s.cols s.cols.length))) := by
  have HS := Lib.hid (hs.cols.below (ba1 w (.cells (shpA s h) 32))); clear hs
  unfold shpA
  go_enter Try.func22, Try.ntmps22
  go_wp2
  have hb0 := ba1 w (.cells (shpA s h) 32)
  unfold shpA at hb0 HS
  have HB0 := Lib.hid hb0
  generalize (w.alloc _) = w0 at *
  have hz0 := hb0.size
  clear hb0
  go_loopw [3, 9] (fun n i wr => ∃ k : Nat, k ≤ s.cols.length ∧ i = .int .i64 k ∧ n = .int .i64 (tallTo s.cols k) ∧ Below w0.heap.size w0 wr) (fun _ i _ => s.cols.length - (intOf i).toNat)
  case atStart => exact ⟨0, Nat.zero_le _, rfl, rfl, Below.refl _ _⟩
  case round =>
    obtain ⟨k, hk, rfl, rfl, hb⟩ := hrel
    by_cases hlt : k < s.cols.length
    · obtain ⟨b, off, Ap, q, hA, hbB, hq, hpl, c0, c1, c2, c3, c4, c5, c6, c7, c8, c9, c10, c11⟩ := (HS.out.below (hb.mono hz0)).col hlt
      have HT : Hid (tallTo s.cols (k + 1) = if k = 0 ∨ tallTo s.cols k < (s.cols.getD k default).tiers then (s.cols.getD k default).tiers else tallTo s.cols k) := Lib.hid rfl
      rw [hA]
      have HA := Lib.hid hA; clear hA hpl
      generalize s.cols.getD k default = x at *
      generalize tallTo s.cols k = t at *
      obtain ⟨xb, xr, xd, xt, xh, x2, x4, xl, xp, xx, xy, xz⟩ := x
      simp only at c0 c1 c2 c3 c4 c5 c6 c7 c8 c9 c10 c11 hq HT
      by_cases hk0 : k = 0
      · have hkb : ((k : Int) == 0) = true := by simp; omega
        have HK0 := Lib.hid hk0; clear hk0
        go_wp2
        go_roundw
        case rel => exact ⟨k + 1, by omega, by go_num, by rw [HT.out, if_pos (.inl HK0.out)], hb.alloc hb.size _⟩
        case measure => simp [intOf]; omega
      · have hkb : ((k : Int) == 0) = false := by simp; omega
        by_cases ht : t < xt
        · have d : decide (t < xt) = true := by simpa using ht
          go_wp2
          go_roundw
          case rel => exact ⟨k + 1, by omega, by go_num, by rw [HT.out, if_pos (.inr ht)], hb.alloc hb.size _⟩
          case measure => simp [intOf]; omega
        · have d : decide (t < xt) = false := by simpa using ht
          go_wp2
          go_roundw
          case rel => exact ⟨k + 1, by omega, by go_num, by rw [HT.out, if_neg (by omega)], hb.alloc hb.size _⟩
          case measure => simp [intOf]; omega
    · obtain rfl : k = s.cols.length := by omega
      go_wp2
      go_ret
      exact ⟨rfl, HB0.out.trans (hb.mono hz0)⟩

set_option maxRecDepth 100000 in
set_option maxHeartbeats 1000000 in
theorem places_any (s : Shp) (h : Hd) (w : World) (hs : ShpR w (Lt w.heap.size) s h) (hl : s.cols.length ≤ 1000000) :
    Calls Try.prog 24 #[.agg (shpA s h)] w (Ret w (.int .i64 (placesTo s.cols s.cols.length))) := by
  have HS := Lib.hid (hs.cols.below (ba1 w (.cells (shpA s h) 32))); clear hs
  unfold shpA
  go_enter Try.func24, Try.ntmps24
  go_wp2
  have hb0 := ba1 w (.cells (shpA s h) 32)
  unfold shpA at hb0 HS
  have HB0 := Lib.hid hb0
  generalize (w.alloc _) = w0 at *
  have hz0 := hb0.size
  clear hb0
  go_loopw [3, 9] (fun n i wr => ∃ k : Nat, k ≤ s.cols.length ∧ i = .int .i64 k ∧ n = .int .i64 (placesTo s.cols k) ∧ Below w0.heap.size w0 wr) (fun _ i _ => s.cols.length - (intOf i).toNat)
  case atStart => exact ⟨0, Nat.zero_le _, rfl, rfl, Below.refl _ _⟩
  case round =>
    obtain ⟨k, hk, rfl, rfl, hb⟩ := hrel
    by_cases hlt : k < s.cols.length
    · obtain ⟨b, off, Ap, q, hA, hbB, hq, hpl, c0, c1, c2, c3, c4, c5, c6, c7, c8, c9, c10, c11⟩ := (HS.out.below (hb.mono hz0)).col hlt
      have HT : Hid (placesTo s.cols (k + 1) = wrap64 (placesTo s.cols k + wrap64 (2 * (s.cols.getD k default).tiers))) := Lib.hid rfl
      rw [hA]
      have HA := Lib.hid hA; clear hA hpl
      generalize s.cols.getD k default = x at *
      generalize placesTo s.cols k = t at *
      obtain ⟨xb, xr, xd, xt, xh, x2, x4, xl, xp, xx, xy, xz⟩ := x
      simp only at c0 c1 c2 c3 c4 c5 c6 c7 c8 c9 c10 c11 hq HT
      go_wp2
      go_roundw
      case rel => exact ⟨k + 1, by omega, by go_num, by rw [HT.out], hb.alloc hb.size _⟩
      case measure => simp [intOf]; omega
    · obtain rfl : k = s.cols.length := by omega
      go_wp2
      go_ret
      exact ⟨rfl, HB0.out.trans (hb.mono hz0)⟩

/-- What a call that only reads leaves. -/
def Rets (w : World) (v : Value) (e : Ending) (w' : World) : Prop := e = .returned v ∧ ∃ m, w' = w.drewN m

set_option maxRecDepth 100000 in
set_option maxHeartbeats 1000000 in
theorem sameInts_any (A1 A2 : Option Addr) (c1 c2 : Nat) (L1 L2 : List Int) (S1 S2 : Nat → Prop) (w : World) (h1 : SlT tInt w S1 A1 L1) (h2 : SlT tInt w S2 A2 L2) (hn : L1.length ≤ maxLen) :
    Calls Try.prog 20 #[.slice A1 L1.length c1, .slice A2 L2.length c2] w (Rets w (.bool (decide (L1 = L2)))) := by
  unfold maxLen at hn
  by_cases hne : L1.length = L2.length
  · have HNE := Lib.hid hne
    have hb0 : ((L1.length : Int) != (L2.length : Int)) = false := by simp; omega
    clear hne
    go_enter Try.func20, Try.ntmps20
    go_wp2
    go_loopw [5] (fun i wr => ∃ k m : Nat, k ≤ L1.length ∧ i = .int .i64 k ∧ wr = w.drewN m ∧ Hid (∀ i, i < k → L1.getD i 0 = L2.getD i 0)) (fun i _ => L1.length - (intOf i).toNat)
    case atStart => exact ⟨0, 0, Nat.zero_le _, rfl, rfl, Lib.hid (fun i hi => absurd hi (by omega))⟩
    case round =>
      obtain ⟨k, m, hk, rfl, rfl, HE⟩ := hrel
      by_cases hlt : k < L1.length
      · obtain ⟨p1, o1, rfl, _, e1⟩ := h1.int hlt
        obtain ⟨p2, o2, rfl, _, e2⟩ := h2.int (j := k) (by rw [← HNE.out]; exact hlt)
        have hlt' : (k : Int) < (L1.length : Int) := by omega
        have hlt2 : (k : Int) < (L2.length : Int) := by have := HNE.out; omega
        have hk0 : (0 : Int) ≤ (k : Int) := by omega
        by_cases hg : L1.getD k 0 = L2.getD k 0
        · have HE2 := Lib.hid (show ∀ i, i < k + 1 → L1.getD i 0 = L2.getD i 0 from fun i hi => by
            rcases Nat.lt_succ_iff_lt_or_eq.1 hi with h | h
            · exact HE.out i h
            · rw [h]; exact hg)
          rw [← hg] at e2
          clear HE hg
          generalize L1.getD k 0 = g1 at *
          go_wp2
          go_quiet (fail)
          go_wp2
          go_roundw
          case rel => exact ⟨k + 1, m + nq, by omega, by go_num, by simp, HE2⟩
          case measure => simp [intOf]; omega
        · have hbq : (L1.getD k 0 != L2.getD k 0) = true := by simpa using hg
          have HNEQ := Lib.hid (show decide (L1 = L2) = false by
            rw [decide_eq_false_iff_not]; intro h; exact hg (by rw [h]))
          clear HE hg
          generalize L1.getD k 0 = g1 at *
          generalize L2.getD k 0 = g2 at *
          go_wp2
          go_quiet (fail)
          go_wp2
          go_ret
          exact ⟨by rw [HNEQ.out]; rfl, m + nq, by simp [World.drewN_drewN]⟩
      · obtain rfl : k = L1.length := by omega
        have HY := Lib.hid (show decide (L1 = L2) = true by
          rw [decide_eq_true_iff]; exact list_ext 0 rfl HNE.out.symm HE.out)
        go_wp2
        go_ret
        exact ⟨by rw [HY.out]; rfl, m, rfl⟩
  · have hb : ((L1.length : Int) != (L2.length : Int)) = true := by simp; omega
    have HNE := Lib.hid (show decide (L1 = L2) = false by
      rw [decide_eq_false_iff_not]; intro h; rw [h] at hne; exact hne rfl)
    go_enter Try.func20, Try.ntmps20
    go_wp2
    go_ret
    exact ⟨by rw [HNE.out]; rfl, 0, rfl⟩
end Go.Proofs.Ytbkinjpaigmghaa
