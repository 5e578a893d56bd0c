/-
  Walks of the reference of chapter 07: within, inside, Apart, Beside.
-/
import Derived.Test.YtpmhchbkhohmjaaB3
import Derived.IntWalk
namespace Go.Proofs.Ytpmhchbkhohmjaa
open Go.RowKit

def withinB (n low high : Int) : Bool := decide (low ≤ n) && decide (n ≤ high)
set_option maxHeartbeats 1000000 in
theorem within_any (n lo hi : Int) (w : World) : Calls Try.prog 36 #[.int .i64 n, .int .i64 lo, .int .i64 hi] w fun e w' => e = .returned (.bool (withinB n lo hi)) ∧ w = w' := by
  unfold withinB
  by_cases h1 : lo ≤ n
  · by_cases h2 : n ≤ hi
    · have e1 : decide (lo ≤ n) = true := decide_eq_true h1
      have e2 : decide (n ≤ hi) = true := decide_eq_true h2
      rw [e1, e2]
      go_enter Try.func36, Try.ntmps36
      go_wp2
      go_ret
      exact ⟨rfl, rfl⟩
    · have e1 : decide (lo ≤ n) = true := decide_eq_true h1
      have e2 : decide (n ≤ hi) = false := decide_eq_false h2
      rw [e1, e2]
      go_enter Try.func36, Try.ntmps36
      go_wp2
      go_ret
      exact ⟨rfl, rfl⟩
  · have e1 : decide (lo ≤ n) = false := decide_eq_false h1
    rw [e1]
    go_enter Try.func36, Try.ntmps36
    go_wp2
    go_ret
    exact ⟨rfl, rfl⟩
set_option maxRecDepth 100000 in
set_option maxHeartbeats 4000000 in
theorem refApart_out (s : Shp) (h : Hd) (a b : Int) (w : World) (hk : (a < 0 ∨ b < 0) ∨ ((s.cols.length : Int) ≤ a ∨ (s.cols.length : Int) ≤ b)) :
    Calls Try.prog 24 #[.agg (shpA s h), .int .i64 a, .int .i64 b] w (Ret w (.tuple #[.int .i64 (apartF s a b).1, .bool (apartF s a b).2])) := by
  have HV : Hid (apartF s a b = (0, false)) := Lib.hid (by unfold apartF; rw [if_pos hk])
  unfold shpA
  have hc : a < 0 ∨ (0 ≤ a ∧ b < 0) ∨ (0 ≤ a ∧ 0 ≤ b ∧ (s.cols.length : Int) ≤ a) ∨ (0 ≤ a ∧ 0 ≤ b ∧ a < (s.cols.length : Int) ∧ (s.cols.length : Int) ≤ b) := by omega
  clear hk
  rcases hc with h1 | ⟨h1, h2⟩ | ⟨h1, h2, h3⟩ | ⟨h1, h2, h3, h4⟩
  all_goals
    go_enter Try.func24, Try.ntmps24
    go_wp2
    go_ret2
    exact ⟨by rw [HV.out]; rfl, ba1 w _⟩
set_option maxRecDepth 100000 in
set_option maxHeartbeats 4000000 in
theorem refApart_in (s : Shp) (h : Hd) (a b : Nat) (w : World) (hs : ShpR w (Lt w.heap.size) s h) (ha : a < s.cols.length) (hb : b < s.cols.length) :
    Calls Try.prog 24 #[.agg (shpA s h), .int .i64 a, .int .i64 b] w (Ret w (.tuple #[.int .i64 (apartF s a b).1, .bool (apartF s a b).2])) := by
  obtain ⟨g, off, _, _, hA, hbB, _, _, ca, _⟩ := hs.cols.col ha
  obtain ⟨g', off', _, _, hA', _, _, _, cb, _⟩ := hs.cols.col hb
  have hgg := hA.symm.trans hA'
  injection hgg with hgg
  injection hgg with e1 e2
  subst e1 e2
  have hgl : g < w.heap.size := hbB
  unfold shpA
  rw [hA]
  have HV : Hid (apartF s a b = if ((s.cols.getD a default).bay < 0 ∨ (s.cols.getD b default).bay < 0) ∨ (40 ≤ (s.cols.getD a default).bay ∨ 40 ≤ (s.cols.getD b default).bay) then (0, false) else if (s.cols.getD a default).bay < (s.cols.getD b default).bay then ((s.cols.getD b default).bay - (s.cols.getD a default).bay, true) else ((s.cols.getD a default).bay - (s.cols.getD b default).bay, true)) := Lib.hid (by
    unfold apartF; rw [if_neg (by omega)]; simp only [Int.toNat_natCast])
  generalize apartF s a b = r at *
  have hmn : a = b → (s.cols.getD a default).bay = (s.cols.getD b default).bay := fun e => by rw [e]
  clear hA hA' hbB hs
  generalize (s.cols.getD a default).bay = m at *
  generalize (s.cols.getD b default).bay = n at *
  have i1 : (0 : Int) ≤ (a : Int) := by omega
  have i2 : (a : Int) < (s.cols.length : Int) := by omega
  have i3 : (0 : Int) ≤ (b : Int) := by omega
  have i4 : (b : Int) < (s.cols.length : Int) := by omega
  have KW : ∀ (x : Int) (V : World), Calls Try.prog 36 #[.int .i64 x, .int .i64 0, .int .i64 39] V fun e w' => e = .returned (.bool (withinB x 0 39)) ∧ V = w' := fun x V => within_any x 0 39 V
  have hcase : (m < 0 ∨ 39 < m) ∨ ((0 ≤ m ∧ m ≤ 39) ∧ (n < 0 ∨ 39 < n)) ∨ ((0 ≤ m ∧ m ≤ 39) ∧ (0 ≤ n ∧ n ≤ 39)) := by omega
  rcases hcase with q | ⟨q, q'⟩ | ⟨q, q'⟩
  · have hm : withinB m 0 39 = false := by unfold withinB; simp; omega
    obtain rfl : r = (0, false) := by rw [HV.out, if_pos (by omega)]
    have K1 := Lib.hid (KW m)
    rw [hm] at K1
    clear KW HV hmn q
    go_enter Try.func24, Try.ntmps24
    go_wp2_with (go_at_call 36; refine (K1.out _).mono ?_; rintro e w' ⟨rfl, rfl⟩; simp only)
    go_ret2
    exact ⟨rfl, ba1 w _⟩
  · have hm : withinB m 0 39 = true := by unfold withinB; simp; omega
    have hn : withinB n 0 39 = false := by unfold withinB; simp; omega
    obtain rfl : r = (0, false) := by rw [HV.out, if_pos (by omega)]
    have hab : a ≠ b := fun e => by have := hmn e; omega
    have K1 := Lib.hid (KW m)
    have K2 := Lib.hid (KW n)
    rw [hm] at K1
    rw [hn] at K2
    clear KW HV hmn q q' hm hn
    go_enter Try.func24, Try.ntmps24
    go_wp2_with (go_at_call 36; first | (refine (K1.out _).mono ?_; rintro e w' ⟨rfl, rfl⟩; simp only; clear K1) | (refine (K2.out _).mono ?_; rintro e w' ⟨rfl, rfl⟩; simp only; clear K2))
    go_ret2
    exact ⟨rfl, ba1 w _⟩
  · have hm : withinB m 0 39 = true := by unfold withinB; simp; omega
    have hn : withinB n 0 39 = true := by unfold withinB; simp; omega
    have hr : r = if m < n then (n - m, true) else (m - n, true) := by rw [HV.out, if_neg (by omega)]
    have K1 := Lib.hid (KW m)
    have K2 := Lib.hid (KW n)
    rw [hm] at K1
    rw [hn] at K2
    clear KW HV hm hn
    by_cases hab : a = b
    · subst hab
      obtain rfl := hmn rfl
      obtain rfl : r = (0, true) := by rw [hr, if_neg (by omega), Int.sub_self]
      clear hr hmn cb K2
      go_enter Try.func24, Try.ntmps24
      go_wp2_with (go_at_call 36; refine (K1.out _).mono ?_; rintro e w' ⟨rfl, rfl⟩; simp only)
      go_quiet (fail)
      go_wp2
      go_quiet (fail)
      go_wp2
      go_ret2
      exact ⟨by first | rfl | (simp; done), by first | exact below_drewN (ba1 w _) _ | (simp only [World.drewN_drewN]; exact below_drewN (ba1 w _) _)⟩
    · clear hmn
      by_cases hlt : m < n
      · obtain rfl : r = (n - m, true) := by rw [hr, if_pos hlt]
        clear hr
        go_enter Try.func24, Try.ntmps24
        go_wp2_with (go_at_call 36; first | (refine (K1.out _).mono ?_; rintro e w' ⟨rfl, rfl⟩; simp only; clear K1) | (refine (K2.out _).mono ?_; rintro e w' ⟨rfl, rfl⟩; simp only; clear K2))
        go_quiet (fail)
        go_wp2
        go_quiet (fail)
        go_wp2
        go_ret2
        exact ⟨by first | rfl | (simp; done), by first | exact below_drewN (ba1 w _) _ | (simp only [World.drewN_drewN]; exact below_drewN (ba1 w _) _)⟩
      · obtain rfl : r = (m - n, true) := by rw [hr, if_neg hlt]
        clear hr
        go_enter Try.func24, Try.ntmps24
        go_wp2_with (go_at_call 36; first | (refine (K1.out _).mono ?_; rintro e w' ⟨rfl, rfl⟩; simp only; clear K1) | (refine (K2.out _).mono ?_; rintro e w' ⟨rfl, rfl⟩; simp only; clear K2))
        go_quiet (fail)
        go_wp2
        go_quiet (fail)
        go_wp2
        go_ret2
        exact ⟨by first | rfl | (simp; done), by first | exact below_drewN (ba1 w _) _ | (simp only [World.drewN_drewN]; exact below_drewN (ba1 w _) _)⟩
theorem refApart_any (s : Shp) (h : Hd) (a b : Int) (w : World) (hs : ShpR w (Lt w.heap.size) s h) :
    Calls Try.prog 24 #[.agg (shpA s h), .int .i64 a, .int .i64 b] w (Ret w (.tuple #[.int .i64 (apartF s a b).1, .bool (apartF s a b).2])) := by
  by_cases hk : (a < 0 ∨ b < 0) ∨ ((s.cols.length : Int) ≤ a ∨ (s.cols.length : Int) ≤ b)
  · exact refApart_out s h a b w hk
  · obtain ⟨n, rfl⟩ := Int.eq_ofNat_of_zero_le (show 0 ≤ a by omega)
    obtain ⟨m, rfl⟩ := Int.eq_ofNat_of_zero_le (show 0 ≤ b by omega)
    exact refApart_in s h n m w hs (by omega) (by omega)
end Go.Proofs.Ytpmhchbkhohmjaa
