/-
  Walks of package slot: Held.
-/
import Derived.Test.YtggebllkkiennaaDoorSlD
namespace Go.Proofs.YtggebllkkiennaaDoor
open Go.RowKit

set_option maxHeartbeats 400000 in
theorem containsSlt_any (A : Option Addr) (c : Nat) (l : List Slt) (x : Slt) (w : World) (hs : SlT tSlt w (Lt w.heap.size) A l) (hl : l.length ≤ 2000000) :
    Calls Tryd.prog 63 #[.slice A l.length c, .agg (sltL x).toArray] w (Ret w (.bool (l.any fun y => sltEq x y))) := by
  have HC := Lib.hid (fun (W : World) (hW : Below w.heap.size w W) => indexSlt_any A c l x W ((hs.below hW).up hW.size) hl)
  have HV := Lib.hid (idx_ge (fun y => sltEq x y) l)
  clear hs
  obtain ⟨xc, xt, xh⟩ := x
  unfold sltL at HC ⊢
  simp only at HC ⊢
  go_enter Tryd.func63, Tryd.ntmps63
  go_wp2_with fail
  refine (HC.out _ ?_).mono ?_
  · first | exact Below.refl _ _ | exact ba1 w _
  rintro e w1 ⟨rfl, hq⟩
  generalize idxF (fun y => sltEq ⟨xc, xt, xh⟩ y) l = v at *
  go_wp2
  go_ret
  exact ⟨by rw [← HV.out]; rfl, by first | exact hq | exact (ba1 w _).trans (hq.mono (ba1 w _).size)⟩
def hasB (x : Slt) (l : List Slt) (half : Nat) : Bool := l.any fun y => sltEq ⟨x.col, x.tier - 1, half⟩ y
def heldB (x : Slt) (l : List Slt) : Bool := decide (x.tier ≤ 0) || (hasB x l x.half || (x.half == 0 && (hasB x l 1 && hasB x l 2)))
set_option maxRecDepth 100000 in
set_option maxHeartbeats 1000000 in
theorem held1 (x : Slt) (A : Option Addr) (c : Nat) (l : List Slt) (half gl gx : Nat) (w : World) (hs : SlT tSlt w (Lt w.heap.size) A l) (hl : l.length ≤ 2000000) (h1 : Bk w gl 58 #[.slice A l.length c]) (h2 : Bk w gx 34 (sltL x).toArray) (ht : 0 < x.tier ∧ x.tier ≤ 9223372036854775807) :
    Calls Tryd.prog 62 #[.int .u8 (half : Nat), .pointer (some ⟨gl, 0, none⟩), .pointer (some ⟨gx, 0, none⟩)] w (Ret w (.bool (hasB x l half))) := by
  obtain ⟨xc, xt, xh⟩ := x
  obtain ⟨t1, t2⟩ := ht
  simp only at t1 t2
  have HC := Lib.hid (containsSlt_any A c l ⟨xc, xt - 1, half⟩ w hs hl)
  have HV : Hid (hasB ⟨xc, xt, xh⟩ l half = l.any fun y => sltEq ⟨xc, xt - 1, half⟩ y) := Lib.hid rfl
  generalize (l.any fun y => sltEq ⟨xc, xt - 1, half⟩ y) = r at *
  have c0 := h1.cell 0
  have x0 := h2.cell 0
  have x1 := h2.cell 1
  simp [sltL] at c0 x0 x1
  unfold sltL at HC
  simp only at HC
  clear hs h1 h2
  go_enter Tryd.func62, Tryd.ntmps62
  go_wp2_with fail
  refine HC.out.mono ?_
  rintro e w1 ⟨rfl, hq⟩
  go_wp2
  go_ret
  exact ⟨by rw [HV.out]; rfl, hq⟩
set_option maxRecDepth 100000 in
set_option maxHeartbeats 1000000 in
theorem held_any (x : Slt) (A : Option Addr) (c : Nat) (l : List Slt) (w : World) (hs : SlT tSlt w (Lt w.heap.size) A l) (hl : l.length ≤ 2000000) (ht : x.tier ≤ 9223372036854775807) :
    Calls Tryd.prog 25 #[.agg (sltL x).toArray, .slice A l.length c] w (Ret w (.bool (heldB x l))) := by
  by_cases h0 : x.tier ≤ 0
  · have HV : Hid (heldB x l = true) := Lib.hid (by unfold heldB; rw [decide_eq_true h0]; rfl)
    obtain ⟨xc, xt, xh⟩ := x
    unfold sltL
    simp only at h0 ⊢
    have d0 : decide (xt ≤ 0) = true := by simpa using h0
    clear h0 ht hs
    go_enter Tryd.func25, Tryd.ntmps25
    go_wp2_with fail
    go_ret
    exact ⟨by rw [HV.out]; rfl, ba2 w _ _⟩
  · have HV : Hid (heldB x l = (hasB x l x.half || (x.half == 0 && (hasB x l 1 && hasB x l 2)))) := Lib.hid (by unfold heldB; rw [decide_eq_false h0]; rfl)
    have HS := Lib.hid (hs.on (ba2 w (.cells (sltL x).toArray 34) (.cells #[.slice A l.length c] 58)))
    have k1 := (Bk.new w 34 (sltL x).toArray).alloc (.cells #[.slice A l.length c] 58)
    have k2 := Bk.new (w.alloc (.cells (sltL x).toArray 34)) 58 #[.slice A l.length c]
    simp only [World.size_alloc] at k2
    have HK : Hid (∀ (half : Nat) (V : World), Below ((w.alloc (.cells (sltL x).toArray 34)).alloc (.cells #[.slice A l.length c] 58)).heap.size ((w.alloc (.cells (sltL x).toArray 34)).alloc (.cells #[.slice A l.length c] 58)) V → Calls Tryd.prog 62 #[.int .u8 (half : Nat), .pointer (some ⟨w.heap.size + 1, 0, none⟩), .pointer (some ⟨w.heap.size, 0, none⟩)] V (Ret V (.bool (hasB x l half)))) :=
      Lib.hid fun half V hV => held1 x A c l half _ _ V (HS.out.on hV) hl (k2.below hV k2.lt) (k1.below hV k1.lt) ⟨by omega, ht⟩
    clear k1 k2 HS hs
    have HB0 := Lib.hid (ba2 w (.cells (sltL x).toArray 34) (.cells #[.slice A l.length c] 58))
    obtain ⟨xc, xt, xh⟩ := x
    unfold sltL at HK HB0 ⊢
    simp only at h0 HK HV HB0 ⊢
    have d0 : decide (xt ≤ 0) = false := by simp; omega
    have K1 := Lib.hid (HK.out xh)
    have K2 := Lib.hid (HK.out 1)
    have K3 := Lib.hid (HK.out 2)
    have int0 := int_beq xh 0
    clear HK h0 ht
    generalize hasB ⟨xc, xt, xh⟩ l xh = r1 at *
    generalize hasB ⟨xc, xt, xh⟩ l 1 = r2 at *
    generalize hasB ⟨xc, xt, xh⟩ l 2 = r3 at *
    cases r1 with
    | true =>
      go_enter Tryd.func25, Tryd.ntmps25
      go_wp2_with (go_at_call 62; refine (K1.out _ (Below.refl _ _)).mono ?_; clear K1; rintro e w1 ⟨rfl, hq⟩; obtain ⟨hc1, hf1⟩ := bcell hq)
      go_ret
      exact ⟨by rw [HV.out]; rfl, HB0.out.trans (hq.mono HB0.out.size)⟩
    | false =>
      have n1 : w.heap.size < w.heap.size + 1 + 1 := by omega
      cases hz : (xh == 0) with
      | false =>
        rw [hz] at int0 HV
        clear hz
        simp only [Int.natCast_zero] at int0
        go_enter Tryd.func25, Tryd.ntmps25
        go_wp2_with (go_at_call 62; refine (K1.out _ (Below.refl _ _)).mono ?_; clear K1; rintro e w1 ⟨rfl, hq⟩; obtain ⟨hc1, hf1⟩ := bcell hq)
        go_ret
        exact ⟨by rw [HV.out]; rfl, HB0.out.trans (hq.mono HB0.out.size)⟩
      | true =>
        obtain rfl : xh = 0 := by simpa using hz
        clear hz int0
        go_enter Tryd.func25, Tryd.ntmps25
        go_wp2_with fail
        refine (K1.out _ (Below.refl _ _)).mono ?_
        rintro e w1 ⟨rfl, hq⟩
        obtain ⟨hc1, hf1⟩ := bcell hq
        have hqb := HB0.out.trans (hq.mono HB0.out.size)
        have HQ := Lib.hid hq
        have HQB := Lib.hid hqb
        have hz1 := hqb.size
        clear hq hqb K1
        cases r2 with
        | false =>
          go_wp2_with (go_at_call 62; refine (K2.out _ HQ.out).mono ?_; clear K2; rintro e w2 ⟨rfl, hq2⟩)
          go_ret
          exact ⟨by rw [HV.out]; rfl, HQB.out.trans (hq2.mono HQB.out.size)⟩
        | true =>
          go_wp2_with fail
          refine (K2.out _ HQ.out).mono ?_
          rintro e w2 ⟨rfl, hq2⟩
          have HQ2 := Lib.hid (HQ.out.trans (hq2.mono HQ.out.size))
          clear hq2 K2
          go_wp2_with fail
          refine (K3.out _ HQ2.out).mono ?_
          rintro e w3 ⟨rfl, hq3⟩
          go_wp2
          go_ret
          exact ⟨by rw [HV.out]; rfl, (HB0.out.trans (HQ2.out.mono HB0.out.size)).trans (hq3.mono (Nat.le_trans HB0.out.size HQ2.out.size))⟩
end Go.Proofs.YtggebllkkiennaaDoor
