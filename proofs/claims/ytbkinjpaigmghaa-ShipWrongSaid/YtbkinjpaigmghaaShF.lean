/-
  Walks of package ship: Apart, Tallest, Places.
-/
import Derived.Test.YtbkinjpaigmghaaShE
namespace Go.Proofs.Ytbkinjpaigmghaa
open Go.RowKit

def apartF (s : Shp) (a b : Int) : Int × Bool :=
  if (a < 0 ∨ b < 0) ∨ ((s.cols.length : Int) ≤ a ∨ (s.cols.length : Int) ≤ b) then (0, false) else
  let m := (s.cols.getD a.toNat default).bay
  let n := (s.cols.getD b.toNat default).bay
  if (m < 0 ∨ n < 0) ∨ (40 ≤ m ∨ 40 ≤ n) then (0, false) else if m < n then (n - m, true) else (m - n, true)

set_option maxRecDepth 100000 in
set_option maxHeartbeats 1000000 in
theorem apart_out (s : Shp) (h : Hd) (a b : Int) (w : World) (hk : (a < 0 ∨ b < 0) ∨ ((s.cols.length : Int) ≤ a ∨ (s.cols.length : Int) ≤ b)) :
    Calls Try.prog 27 #[.agg (shpA s h), .int .i64 a, .int .i64 b] w (Ret w (.tuple #[.int .i64 (apartF s a b).1, .bool (apartF s a b).2])) := by
  have HV : Hid (apartF s a b = (0, false)) := Lib.hid (by unfold apartF; rw [if_pos hk])
  unfold shpA
  have hc : (a < b ∧ a < 0) ∨ (a < b ∧ 0 ≤ a ∧ (s.cols.length : Int) ≤ b) ∨ (b < a ∧ b < 0) ∨ (b < a ∧ 0 ≤ b ∧ (s.cols.length : Int) ≤ a) ∨ (a = b ∧ a < 0) ∨ (a = b ∧ 0 ≤ a ∧ (s.cols.length : Int) ≤ a) := by omega
  clear hk
  rcases hc with ⟨h1, h2⟩ | ⟨h1, h2, h3⟩ | ⟨h1, h2⟩ | ⟨h1, h2, h3⟩ | ⟨rfl, h2⟩ | ⟨rfl, h2, h3⟩
  all_goals
    go_enter Try.func27, Try.ntmps27
    go_wp2
    go_ret2
    exact ⟨by rw [HV.out]; rfl, ba1 w _⟩
theorem prod_val {p : Int × Bool} {x : Int} {b : Bool} (h : p = (x, b)) : Value.tuple #[.int .i64 p.1, .bool p.2] = .tuple #[.int .i64 x, .bool b] := by rw [h]

set_option maxRecDepth 100000 in
set_option maxHeartbeats 2000000 in
theorem apart_in (s : Shp) (h : Hd) (a b : Nat) (w : World) (hs : ShpR w (Lt w.heap.size) s h) (ha : a < s.cols.length) (hb : b < s.cols.length) :
    Calls Try.prog 27 #[.agg (shpA s h), .int .i64 a, .int .i64 b] w (Ret w (.tuple #[.int .i64 (apartF s a b).1, .bool (apartF s a b).2])) := by
  obtain ⟨g, off, _, _, hA, hbB, _, _, ca, _⟩ := hs.cols.col ha
  obtain ⟨g', off', _, _, hA', _, _, _, cb, _⟩ := hs.cols.col hb
  have hgg := hA.symm.trans hA'
  injection hgg with hgg
  injection hgg with e1 e2
  subst e1 e2
  have hgl : g < w.heap.size := hbB
  unfold shpA
  rw [hA]
  have HV : Hid (apartF s a b = if ((s.cols.getD a default).bay < 0 ∨ (s.cols.getD b default).bay < 0) ∨ (40 ≤ (s.cols.getD a default).bay ∨ 40 ≤ (s.cols.getD b default).bay) then (0, false) else if (s.cols.getD a default).bay < (s.cols.getD b default).bay then ((s.cols.getD b default).bay - (s.cols.getD a default).bay, true) else ((s.cols.getD a default).bay - (s.cols.getD b default).bay, true)) := Lib.hid (by
    unfold apartF; rw [if_neg (by omega)]; simp only [Int.toNat_natCast])
  clear hA hA' hbB hs
  generalize (s.cols.getD a default).bay = m at *
  generalize (s.cols.getD b default).bay = n at *
  have i1 : (0 : Int) ≤ (a : Int) := by omega
  have i2 : (a : Int) < (s.cols.length : Int) := by omega
  have i3 : (0 : Int) ≤ (b : Int) := by omega
  have i4 : (b : Int) < (s.cols.length : Int) := by omega
  have hab : a < b ∨ b < a ∨ a = b := by omega
  have hcase : ((m < n ∧ m < 0) ∨ (m < n ∧ 0 ≤ m ∧ 40 ≤ n) ∨ (n < m ∧ n < 0) ∨ (n < m ∧ 0 ≤ n ∧ 40 ≤ m) ∨ (m = n ∧ m < 0) ∨ (m = n ∧ 0 ≤ m ∧ 40 ≤ m)) ∨ ((m < n ∧ 0 ≤ m ∧ n < 40) ∨ (n < m ∧ 0 ≤ n ∧ m < 40) ∨ (m = n ∧ 0 ≤ m ∧ m < 40)) := by omega
  obtain ⟨r, hr⟩ : ∃ r, apartF s a b = r := ⟨_, rfl⟩
  have HR := Lib.hid hr
  rw [hr] at HV
  rw [hr]
  clear hr
  have HRV : Hid (∃ x y, r = (x, y) ∧ ((m < n ∧ m < 0) ∨ (m < n ∧ 0 ≤ m ∧ 40 ≤ n) ∨ (n < m ∧ n < 0) ∨ (n < m ∧ 0 ≤ n ∧ 40 ≤ m) ∨ (m = n ∧ m < 0) ∨ (m = n ∧ 0 ≤ m ∧ 40 ≤ m) → x = 0 ∧ y = false) ∧ (m < n ∧ 0 ≤ m ∧ n < 40 → x = n - m ∧ y = true) ∧ (n < m ∧ 0 ≤ n ∧ m < 40 → x = m - n ∧ y = true) ∧ (m = n ∧ 0 ≤ m ∧ m < 40 → x = 0 ∧ y = true)) := Lib.hid (by
    rw [HV.out]
    split
    · exact ⟨_, _, rfl, (fun _ => ⟨rfl, rfl⟩), (by omega), (by omega), (by omega)⟩
    · split
      · exact ⟨_, _, rfl, (by omega), (fun _ => ⟨rfl, rfl⟩), (by omega), (by omega)⟩
      · exact ⟨_, _, rfl, (by omega), (by omega), (fun _ => ⟨rfl, rfl⟩), (fun _ => ⟨by omega, rfl⟩)⟩)
  clear HV HR
  have hmn : a = b → m = n := fun e => by
    subst e
    have := ca.symm.trans cb
    simpa using this
  rcases hab with h1 | h1 | h1
  · clear hmn
    go_enter Try.func27, Try.ntmps27
    go_wp2_with fail
    go_quiet (fail)
    rcases hcase with (⟨q1, q2⟩ | ⟨q1, q2, q3⟩ | ⟨q1, q2⟩ | ⟨q1, q2, q3⟩ | ⟨q1, q2⟩ | ⟨q1, q2, q3⟩) | (⟨q1, q2, q3⟩ | ⟨q1, q2, q3⟩ | ⟨q1, q2, q3⟩)
    all_goals
      obtain ⟨x, y, rfl, r1, r2, r3, r4⟩ := HRV.out
      first
        | (have e := r1 (by omega)
           obtain ⟨rfl, rfl⟩ := e)
        | (have e := r2 (by omega)
           obtain ⟨rfl, rfl⟩ := e)
        | (have e := r3 (by omega)
           obtain ⟨rfl, rfl⟩ := e)
        | (have e := r4 (by omega)
           obtain ⟨rfl, rfl⟩ := e)
      clear r1 r2 r3 r4
      first
        | (subst q1
           go_wp2
           go_ret2
           exact ⟨by first | rfl | (simp; done), below_drewN (ba1 w _) _⟩)
        | (go_wp2
           go_ret2
           exact ⟨rfl, below_drewN (ba1 w _) _⟩)
  · clear hmn
    go_enter Try.func27, Try.ntmps27
    go_wp2_with fail
    go_quiet (fail)
    rcases hcase with (⟨q1, q2⟩ | ⟨q1, q2, q3⟩ | ⟨q1, q2⟩ | ⟨q1, q2, q3⟩ | ⟨q1, q2⟩ | ⟨q1, q2, q3⟩) | (⟨q1, q2, q3⟩ | ⟨q1, q2, q3⟩ | ⟨q1, q2, q3⟩)
    all_goals
      obtain ⟨x, y, rfl, r1, r2, r3, r4⟩ := HRV.out
      first
        | (have e := r1 (by omega)
           obtain ⟨rfl, rfl⟩ := e)
        | (have e := r2 (by omega)
           obtain ⟨rfl, rfl⟩ := e)
        | (have e := r3 (by omega)
           obtain ⟨rfl, rfl⟩ := e)
        | (have e := r4 (by omega)
           obtain ⟨rfl, rfl⟩ := e)
      clear r1 r2 r3 r4
      first
        | (subst q1
           go_wp2
           go_ret2
           exact ⟨by first | rfl | (simp; done), below_drewN (ba1 w _) _⟩)
        | (go_wp2
           go_ret2
           exact ⟨rfl, below_drewN (ba1 w _) _⟩)
  · obtain rfl := hmn h1
    subst h1
    clear cb hmn hcase
    have R1 : Hid (m < 0 ∨ 40 ≤ m → r = (0, false)) := Lib.hid fun hh => by
      obtain ⟨x, y, e, r1, _⟩ := HRV.out
      obtain ⟨rfl, rfl⟩ := r1 (by omega)
      exact e
    have R2 : Hid (0 ≤ m ∧ m < 40 → r = (0, true)) := Lib.hid fun hh => by
      obtain ⟨x, y, e, _, _, _, r4⟩ := HRV.out
      obtain ⟨rfl, rfl⟩ := r4 ⟨rfl, hh⟩
      exact e
    have hc3 : (m < 0) ∨ (0 ≤ m ∧ 40 ≤ m) ∨ (0 ≤ m ∧ m < 40) := by omega
    clear HRV
    go_enter Try.func27, Try.ntmps27
    go_wp2_with fail
    go_quiet (fail)
    rcases hc3 with q | ⟨q, q2⟩ | ⟨q, q2⟩
    · obtain rfl := R1.out (by omega)
      go_wp2
      go_ret2
      exact ⟨rfl, below_drewN (ba1 w _) _⟩
    · obtain rfl := R1.out (by omega)
      go_wp2
      go_ret2
      exact ⟨rfl, below_drewN (ba1 w _) _⟩
    · obtain rfl := R2.out (by omega)
      go_wp2
      go_ret2
      exact ⟨by simp, below_drewN (ba1 w _) _⟩
theorem apart_any (s : Shp) (h : Hd) (a b : Int) (w : World) (hs : ShpR w (Lt w.heap.size) s h) :
    Calls Try.prog 27 #[.agg (shpA s h), .int .i64 a, .int .i64 b] w (Ret w (.tuple #[.int .i64 (apartF s a b).1, .bool (apartF s a b).2])) := by
  by_cases hk : (a < 0 ∨ b < 0) ∨ ((s.cols.length : Int) ≤ a ∨ (s.cols.length : Int) ≤ b)
  · exact apart_out s h a b w hk
  · obtain ⟨n, rfl⟩ := Int.eq_ofNat_of_zero_le (show 0 ≤ a by omega)
    obtain ⟨m, rfl⟩ := Int.eq_ofNat_of_zero_le (show 0 ≤ b by omega)
    exact apart_in s h n m w hs (by omega) (by omega)
end Go.Proofs.Ytbkinjpaigmghaa
