/-
  Walks of package slot: Right.
-/
import Derived.Test.YtggebllkkiennaaDoorSlA
import Derived.Deep.RegionHeld3
namespace Go.Proofs.YtggebllkkiennaaDoor
open Go.RowKit

def slotRight (s : Shp) (x : Slt) (size : Nat) : Bool :=
  decide (0 ≤ x.col) && (decide (x.col < s.cols.length) && (decide (0 ≤ x.tier) && (decide (x.tier < (s.cols.getD x.col.toNat default).tiers) && (halvesL size).any fun y => x.half == y)))
theorem halves_len (size : Nat) : (halvesL size).length ≤ 1000000 := by unfold halvesL; split <;> (try split) <;> simp

set_option maxRecDepth 100000 in
set_option maxHeartbeats 2000000 in
theorem slotRight_out (s : Shp) (h : Hd) (x : Slt) (size : Nat) (w : World) (hx : x.col < 0 ∨ (s.cols.length : Int) ≤ x.col) :
    Calls Tryd.prog 21 #[.agg (shpA s h), .agg (sltL x).toArray, .int .u8 (size : Nat)] w (Ret w (.bool (slotRight s x size))) := by
  obtain ⟨xc, xt, xh⟩ := x
  simp only at hx
  have HV : Hid (slotRight s ⟨xc, xt, xh⟩ size = false) := Lib.hid (by
    unfold slotRight
    rcases hx with hx | hx
    · rw [decide_eq_false (by simp only; omega)]; rfl
    · by_cases h0 : 0 ≤ xc
      · rw [decide_eq_true (by simp only; omega), decide_eq_false (by simp only; omega)]; rfl
      · rw [decide_eq_false (by simp only; omega)]; rfl)
  unfold sltL shpA
  simp only
  by_cases h0 : 0 ≤ xc
  · have hx : (s.cols.length : Int) ≤ xc := by omega
    have d0 : decide (0 ≤ xc) = true := by simpa using h0
    have d1 : decide (xc < (s.cols.length : Int)) = false := by simp; omega
    clear h0
    go_enter Tryd.func21, Tryd.ntmps21
    go_wp2_with fail
    go_quiet (fail)
    go_wp2
    go_ret
    exact ⟨by rw [HV.out]; rfl, (ba2 w _ _).trans (below_drewN (Below.refl _ _) _)⟩
  · have d0 : decide (0 ≤ xc) = false := by simp; omega
    clear hx h0
    go_enter Tryd.func21, Tryd.ntmps21
    go_wp2_with fail
    go_quiet (fail)
    go_wp2
    go_ret
    exact ⟨by rw [HV.out]; rfl, (ba2 w _ _).trans (below_drewN (Below.refl _ _) _)⟩

set_option maxRecDepth 100000 in
set_option maxHeartbeats 2000000 in
theorem slotRight_in (s : Shp) (h : Hd) (k : Nat) (xt : Int) (xh : Nat) (size : Nat) (w : World) (hs : ShpR w (Lt w.heap.size) s h) (hk : k < s.cols.length) :
    Calls Tryd.prog 21 #[.agg (shpA s h), .agg #[.int .i64 k, .int .i64 xt, .int .u8 (xh : Nat)], .int .u8 (size : Nat)] w (Ret w (.bool (slotRight s ⟨k, xt, xh⟩ size))) := by
  obtain ⟨b, off, Ap, q, hA1, hbB, _, _, _, _, _, c3, _⟩ := hs.cols.col hk
  have HV : Hid (slotRight s ⟨k, xt, xh⟩ size = (decide (0 ≤ xt) && (decide (xt < (s.cols.getD k default).tiers) && (halvesL size).any fun y => xh == y))) := Lib.hid (by
    unfold slotRight
    simp only [Int.toNat_natCast]
    rw [decide_eq_true (show (0 : Int) ≤ (k : Int) by omega), decide_eq_true (show (k : Int) < (s.cols.length : Int) by omega)]; rfl)
  have hbB : b < w.heap.size := hbB
  obtain ⟨A1, cc1, A2, cc2, A3, cc3, A4, cc4, A5, cc5⟩ := h
  simp only at hA1
  subst hA1
  clear hs
  unfold shpA
  simp only
  generalize (s.cols.getD k default).tiers = tr at *
  have i1 : (0 : Int) ≤ (k : Int) := by omega
  have i2 : (k : Int) < (s.cols.length : Int) := by omega
  have d0 : decide (k < s.cols.length) = true := by simpa using hk
  cases d1 : decide (0 ≤ xt) with
  | false =>
    have HW := Lib.hid (show slotRight s ⟨k, xt, xh⟩ size = false by rw [HV.out, d1]; rfl)
    clear HV
    go_enter Tryd.func21, Tryd.ntmps21
    go_wp2_with fail
    go_quiet (fail)
    go_wp2
    go_ret
    exact ⟨by rw [HW.out]; rfl, (ba2 w _ _).trans (below_drewN (Below.refl _ _) _)⟩
  | true =>
    cases d2 : decide (xt < tr) with
    | false =>
      have HW := Lib.hid (show slotRight s ⟨k, xt, xh⟩ size = false by rw [HV.out, d1, d2]; rfl)
      clear HV
      go_enter Tryd.func21, Tryd.ntmps21
      go_wp2_with fail
      go_quiet (fail)
      go_wp2
      go_ret
      exact ⟨by rw [HW.out]; rfl, (ba2 w _ _).trans (below_drewN (Below.refl _ _) _)⟩
    | true =>
      have HW := Lib.hid (show slotRight s ⟨k, xt, xh⟩ size = (halvesL size).any fun y => xh == y by rw [HV.out, d1, d2]; rfl)
      clear HV
      have HH := Lib.hid (fun W => halves_any size W)
      have HL := Lib.hid (halves_len size)
      generalize halvesL size = L at *
      go_enter Tryd.func21, Tryd.ntmps21
      go_wp2_with fail
      have n1 : w.heap.size < w.heap.size + 1 := by omega
      have n2 : b < w.heap.size + 1 := by omega
      have n3 : w.heap.size < w.heap.size + 1 + 1 := by omega
      have n4 : b < w.heap.size + 1 + 1 := by omega
      have n5 : w.heap.size + 1 < w.heap.size + 1 + 1 := by omega
      go_region_held3 (fun w' => w'.cell? ⟨w.heap.size, 0, none⟩ = some (.slice (some ⟨b, off, none⟩) s.cols.length cc1) ∧ w'.cell? ⟨w.heap.size + 1, 0, none⟩ = some (.int .i64 k) ∧ w'.cell? ⟨w.heap.size + 1, 1, none⟩ = some (.int .i64 xt) ∧ w'.cell? ⟨w.heap.size + 1, 2, none⟩ = some (.int .u8 (xh : Nat)) ∧ w'.cell? ⟨b, off + k * 12 + 3, none⟩ = some (.int .i64 tr)) (go_keep)
        (first
          | (go_at_call 57; refine (HH.out _).mono ?_; rintro e w1 ⟨AH, cH, rfl, hsH, hb1⟩; obtain ⟨hc1, hf1⟩ := bcell hb1; have HSH := Lib.hid hsH; clear hsH)
          | (go_at_call 56; refine (containsU8_any _ _ _ _ _ _ HSH.out HL.out).mono ?_; rintro e w2 ⟨rfl, rfl⟩))
      go_wp2
      go_ret
      exact ⟨by rw [HW.out]; rfl, ((ba2 w _ _).drew).trans (hb1.mono (by simp; omega))⟩
theorem slotRight_any (s : Shp) (h : Hd) (x : Slt) (size : Nat) (w : World) (hs : ShpR w (Lt w.heap.size) s h) :
    Calls Tryd.prog 21 #[.agg (shpA s h), .agg (sltL x).toArray, .int .u8 (size : Nat)] w (Ret w (.bool (slotRight s x size))) := by
  by_cases hx : x.col < 0 ∨ (s.cols.length : Int) ≤ x.col
  · exact slotRight_out s h x size w hx
  · obtain ⟨xc, xt, xh⟩ := x
    simp only at hx
    obtain ⟨k, rfl⟩ := Int.eq_ofNat_of_zero_le (show 0 ≤ xc by omega)
    exact slotRight_in s h k xt xh size w hs (by omega)
end Go.Proofs.YtggebllkkiennaaDoor
