/-
  Walks of the statement SlotOrder.
-/
import Derived.Test.YtggebllkkiennaaDoorSlAw
import Derived.Test.YtggebllkkiennaaDoorShM
import Derived.Laws.BitsAllLaws
import Derived.Laws.Shifts
namespace Go.Proofs.YtggebllkkiennaaDoor
open Go.RowKit

def fewS (m : Nat) : Slt := ⟨(m % 2 : Nat), (m / 2 % 4 : Nat), m / 8 % 3⟩
theorem u32_low (x : Int) (h0 : 0 ≤ x) (h1 : x < 4294967296) : bits .and .u32 x 255 = x % 256 := by
  rw [u32_and x 255 h0 h1 (by omega) (by omega)]
  show ((x.toNat &&& 255 : Nat) : Int) = _
  rw [nat_mask8]
  omega
set_option maxHeartbeats 1000000 in
theorem ordFew (n d gn : Nat) (z : Int) (w : World) (hn : n < 4294967296) (hz : z = 0 ∧ d = 1 ∨ z = 1 ∧ d = 256 ∨ z = 2 ∧ d = 65536) (hc : w.cell? ⟨gn, 0, none⟩ = some (.int .u32 (n : Nat))) :
    Calls Tryd.prog 36 #[.int .i64 z, .pointer (some ⟨gn, 0, none⟩)] w (Ret w (.agg (sltL (fewS (n / d % 256))).toArray)) := by
  have hlt := block_lt_of_cell hc
  have hlt : gn < w.heap.size := hlt
  obtain ⟨m, hm, hm2⟩ : ∃ m : Nat, n / d % 256 = m ∧ m < 256 := ⟨_, rfl, Nat.mod_lt _ (by omega)⟩
  rw [hm]
  rcases hz with ⟨rfl, rfl⟩ | ⟨rfl, rfl⟩ | ⟨rfl, rfl⟩
  · have e1 : bits .and .u32 (n : Int) 255 = (m : Int) := by rw [u32_low _ (by omega) (by omega)]; omega
    clear hm
    go_enter Tryd.func36, Tryd.ntmps36
    go_wp2
    exact bodyPost_ret (results_row1 rfl _ _ w.heap.size 34 (sltL (fewS m)).toArray _ rfl (Bk.new w _ _) Tryd.underlying34 rfl info_slt) rfl ⟨rfl, ba1 w _⟩
  · have e1 : bits .and .u32 ((n : Int) / 256) 255 = (m : Int) := by rw [u32_low _ (by omega) (by omega)]; omega
    clear hm
    go_enter Tryd.func36, Tryd.ntmps36
    go_wp2
    exact bodyPost_ret (results_row1 rfl _ _ w.heap.size 34 (sltL (fewS m)).toArray _ rfl (Bk.new w _ _) Tryd.underlying34 rfl info_slt) rfl ⟨rfl, ba1 w _⟩
  · have e1 : bits .and .u32 ((n : Int) / 65536) 255 = (m : Int) := by rw [u32_low _ (by omega) (by omega)]; omega
    clear hm
    go_enter Tryd.func36, Tryd.ntmps36
    go_wp2
    exact bodyPost_ret (results_row1 rfl _ _ w.heap.size 34 (sltL (fewS m)).toArray _ rfl (Bk.new w _ _) Tryd.underlying34 rfl info_slt) rfl ⟨rfl, ba1 w _⟩

theorem al3a (U : World) (A B C : Array Value) (t : TypeId) : Bk (((U.alloc (.cells A t)).alloc (.cells B t)).alloc (.cells C t)).drew U.heap.size t A := ((Bk.new U t A).alloc _).alloc _
theorem al3b (U : World) (A B C : Array Value) (t : TypeId) : Bk (((U.alloc (.cells A t)).alloc (.cells B t)).alloc (.cells C t)).drew (U.heap.size + 1) t B := by
  have := (Bk.new (U.alloc (.cells A t)) t B).alloc (.cells C t)
  rw [World.size_alloc] at this
  exact this
theorem al3c (U : World) (A B C : Array Value) (t : TypeId) : Bk (((U.alloc (.cells A t)).alloc (.cells B t)).alloc (.cells C t)).drew (U.heap.size + 1 + 1) t C := by
  have := Bk.new ((U.alloc (.cells A t)).alloc (.cells B t)) t C
  rw [World.size_alloc, World.size_alloc] at this
  exact this

set_option maxRecDepth 100000 in
set_option maxHeartbeats 4000000 in
theorem slotOrder_any (a b c : Slt) (n : Nat) (w : World) (hn : n < 4294967296) (hq : QuarOK w) :
    Calls Tryd.prog 9 #[.agg (sltL a).toArray, .agg (sltL b).toArray, .agg (sltL c).toArray, .int .u32 (n : Nat)] w (TrueRet w) := by
  have HQ := Lib.hid hq
  clear hq
  have kA := ((((Bk.new w 34 (sltL a).toArray)).alloc (.cells (sltL b).toArray 34)).alloc (.cells (sltL c).toArray 34)).alloc (.cells #[.int .u32 (n : Nat)] 50)
  have kB := ((Bk.new (w.alloc (.cells (sltL a).toArray 34)) 34 (sltL b).toArray).alloc (.cells (sltL c).toArray 34)).alloc (.cells #[.int .u32 (n : Nat)] 50)
  have kC := (Bk.new ((w.alloc (.cells (sltL a).toArray 34)).alloc (.cells (sltL b).toArray 34)) 34 (sltL c).toArray).alloc (.cells #[.int .u32 (n : Nat)] 50)
  have kN := Bk.new (((w.alloc (.cells (sltL a).toArray 34)).alloc (.cells (sltL b).toArray 34)).alloc (.cells (sltL c).toArray 34)) 50 #[.int .u32 (n : Nat)]
  have hb0 := ba4 w (.cells (sltL a).toArray 34) (.cells (sltL b).toArray 34) (.cells (sltL c).toArray 34) (.cells #[.int .u32 (n : Nat)] 50)
  simp only [World.size_alloc] at kB kC kN
  have H0 : Hid (∀ V : World, (∃ W0, Below W0.heap.size W0 V ∧ Bk W0 (w.heap.size + 1 + 1 + 1) 50 #[.int .u32 (n : Nat)]) → Calls Tryd.prog 36 #[.int .i64 0, .pointer (some ⟨w.heap.size + 1 + 1 + 1, 0, none⟩)] V (Ret V (.agg (sltL (fewS (n / 1 % 256))).toArray))) :=
    Lib.hid fun V ⟨W0, hv, hk⟩ => ordFew n 1 _ 0 V hn (by omega) ((hk.below hv hk.lt).cell 0)
  have H1 : Hid (∀ V : World, (∃ W0, Below W0.heap.size W0 V ∧ Bk W0 (w.heap.size + 1 + 1 + 1) 50 #[.int .u32 (n : Nat)]) → Calls Tryd.prog 36 #[.int .i64 1, .pointer (some ⟨w.heap.size + 1 + 1 + 1, 0, none⟩)] V (Ret V (.agg (sltL (fewS (n / 256 % 256))).toArray))) :=
    Lib.hid fun V ⟨W0, hv, hk⟩ => ordFew n 256 _ 1 V hn (by omega) ((hk.below hv hk.lt).cell 0)
  have H2 : Hid (∀ V : World, (∃ W0, Below W0.heap.size W0 V ∧ Bk W0 (w.heap.size + 1 + 1 + 1) 50 #[.int .u32 (n : Nat)]) → Calls Tryd.prog 36 #[.int .i64 2, .pointer (some ⟨w.heap.size + 1 + 1 + 1, 0, none⟩)] V (Ret V (.agg (sltL (fewS (n / 65536 % 256))).toArray))) :=
    Lib.hid fun V ⟨W0, hv, hk⟩ => ordFew n 65536 _ 2 V hn (by omega) ((hk.below hv hk.lt).cell 0)
  generalize fewS (n / 1 % 256) = d at *
  generalize fewS (n / 256 % 256) = e at *
  generalize fewS (n / 65536 % 256) = f at *
  obtain ⟨ac, at_, ah⟩ := a
  obtain ⟨bc, bt, bh⟩ := b
  obtain ⟨cc, ct, ch⟩ := c
  obtain ⟨dc, dt, dh⟩ := d
  obtain ⟨ec, et, eh⟩ := e
  obtain ⟨fc, ft, fh⟩ := f
  unfold sltL at *
  simp only at *
  go_enter Tryd.func9, Tryd.ntmps9
  go_wp2_with fail
  have hsz : ((((w.alloc (.cells #[.int .i64 ac, .int .i64 at_, .int .u8 (ah : Nat)] 34)).alloc (.cells #[.int .i64 bc, .int .i64 bt, .int .u8 (bh : Nat)] 34)).alloc (.cells #[.int .i64 cc, .int .i64 ct, .int .u8 (ch : Nat)] 34)).alloc (.cells #[.int .u32 (n : Nat)] 50)).heap.size = w.heap.size + 4 := by simp
  generalize (World.alloc _ _) = W at *
  have lA := kA.lt
  have lB := kB.lt
  have lC := kC.lt
  have HSZ := Lib.hid hsz
  clear hsz
  have HKN := Lib.hid kN
  have HB0 := Lib.hid hb0
  have HKS : Hid (∀ V : World, Below W.heap.size W V → (V.cell? ⟨w.heap.size, 0, none⟩ = some (.int .i64 ac) ∧ V.cell? ⟨w.heap.size, 1, none⟩ = some (.int .i64 at_) ∧ V.cell? ⟨w.heap.size, 2, none⟩ = some (.int .u8 (ah : Nat))) ∧ (V.cell? ⟨w.heap.size + 1, 0, none⟩ = some (.int .i64 bc) ∧ V.cell? ⟨w.heap.size + 1, 1, none⟩ = some (.int .i64 bt) ∧ V.cell? ⟨w.heap.size + 1, 2, none⟩ = some (.int .u8 (bh : Nat))) ∧ (V.cell? ⟨w.heap.size + 1 + 1, 0, none⟩ = some (.int .i64 cc) ∧ V.cell? ⟨w.heap.size + 1 + 1, 1, none⟩ = some (.int .i64 ct) ∧ V.cell? ⟨w.heap.size + 1 + 1, 2, none⟩ = some (.int .u8 (ch : Nat)))) :=
    Lib.hid fun V hv => ⟨⟨(kA.below hv kA.lt).cell 0, (kA.below hv kA.lt).cell 1, (kA.below hv kA.lt).cell 2⟩, ⟨(kB.below hv kB.lt).cell 0, (kB.below hv kB.lt).cell 1, (kB.below hv kB.lt).cell 2⟩, ⟨(kC.below hv kC.lt).cell 0, (kC.below hv kC.lt).cell 1, (kC.below hv kC.lt).cell 2⟩⟩
  clear kA kB kC kN hb0
  obtain ⟨⟨a0, a1, a2⟩, ⟨b0, b1, b2⟩, ⟨c0, c1, c2⟩⟩ := HKS.out W (Below.refl _ _)
  go_region_held3 (fun V => (V.cell? ⟨w.heap.size, 0, none⟩ = some (.int .i64 ac) ∧ V.cell? ⟨w.heap.size, 1, none⟩ = some (.int .i64 at_) ∧ V.cell? ⟨w.heap.size, 2, none⟩ = some (.int .u8 (ah : Nat))) ∧ (V.cell? ⟨w.heap.size + 1, 0, none⟩ = some (.int .i64 bc) ∧ V.cell? ⟨w.heap.size + 1, 1, none⟩ = some (.int .i64 bt) ∧ V.cell? ⟨w.heap.size + 1, 2, none⟩ = some (.int .u8 (bh : Nat))) ∧ (V.cell? ⟨w.heap.size + 1 + 1, 0, none⟩ = some (.int .i64 cc) ∧ V.cell? ⟨w.heap.size + 1 + 1, 1, none⟩ = some (.int .i64 ct) ∧ V.cell? ⟨w.heap.size + 1 + 1, 2, none⟩ = some (.int .u8 (ch : Nat)))) ((first | go_keep | exact HKS.out _ HBB.out))
    (first
      | (go_at_call 36; refine (H0.out _ ?_).mono ?_; (exact ⟨W, Below.drew (Below.refl _ _), HKN.out⟩); clear H0; rintro e w1 ⟨rfl, hq1⟩; have HBB := Lib.hid ((Below.drew (Below.refl W.heap.size W)).trans hq1))
      | (go_at_call 36; refine (H1.out _ ?_).mono ?_; (exact ⟨W, HBB.out, HKN.out⟩); clear H1; rintro e w2 ⟨rfl, hq2⟩; replace HBB := Lib.hid (HBB.out.trans (hq2.mono HBB.out.size)))
      | (go_at_call 36; refine (H2.out _ ?_).mono ?_; (exact ⟨W, HBB.out, HKN.out⟩); clear H2; rintro e w3 ⟨rfl, hq3⟩; replace HBB := Lib.hid (HBB.out.trans (hq3.mono HBB.out.size))))
  go_wp2_with fail
  have HBW := Lib.hid (HB0.out.trans (HBB.out.mono HB0.out.size))
  have hX := Bk.new w3 78 #[.int .i64 ac, .int .i64 at_, .int .u8 (ah : Nat), .int .i64 bc, .int .i64 bt, .int .u8 (bh : Nat), .int .i64 cc, .int .i64 ct, .int .u8 (ch : Nat), .int .i64 dc, .int .i64 dt, .int .u8 (dh : Nat), .int .i64 ec, .int .i64 et, .int .u8 (eh : Nat), .int .i64 fc, .int .i64 ft, .int .u8 (fh : Nat)]
  have hB := HBW.out.trans ((ba1 w3 (.cells #[.int .i64 ac, .int .i64 at_, .int .u8 (ah : Nat), .int .i64 bc, .int .i64 bt, .int .u8 (bh : Nat), .int .i64 cc, .int .i64 ct, .int .u8 (ch : Nat), .int .i64 dc, .int .i64 dt, .int .u8 (dh : Nat), .int .i64 ec, .int .i64 et, .int .u8 (eh : Nat), .int .i64 fc, .int .i64 ft, .int .u8 (fh : Nat)] 78)).mono HBW.out.size)
  clear HBB HBW HB0 HKN HKS
  generalize w3.heap.size = gX at *
  generalize (w3.alloc _) = W2 at *
  have HX := Lib.hid hX
  have HB := Lib.hid hB
  clear hX hB hq1 hq2 hq3 a0 a1 a2 b0 b1 b2 c0 c1 c2 lA lB lC HSZ w1 w2 w3 W
  go_loopw [32] (fun i wr => ∃ k : Nat, k ≤ 2 ∧ i = .int .i64 k ∧ Hid (Bk wr gX 78 #[.int .i64 ac, .int .i64 at_, .int .u8 (ah : Nat), .int .i64 bc, .int .i64 bt, .int .u8 (bh : Nat), .int .i64 cc, .int .i64 ct, .int .u8 (ch : Nat), .int .i64 dc, .int .i64 dt, .int .u8 (dh : Nat), .int .i64 ec, .int .i64 et, .int .u8 (eh : Nat), .int .i64 fc, .int .i64 ft, .int .u8 (fh : Nat)]) ∧ Hid (Below w.heap.size w wr)) (fun i _ => 2 - (intOf i).toNat)
  case atStart => exact ⟨0, by omega, rfl, HX, HB⟩
  case round =>
    clear HX HB
    obtain ⟨k, hk, rfl, HX, HB⟩ := hrel
    obtain ⟨V, rfl⟩ : ∃ V, V = wr := ⟨_, rfl⟩
    by_cases hlt : k < 2
    · have hcells : ∃ x y z : Slt, ((V.cell? ⟨gX, k * 9, none⟩ = some (.int .i64 x.col) ∧ V.cell? ⟨gX, k * 9 + 1, none⟩ = some (.int .i64 x.tier) ∧ V.cell? ⟨gX, k * 9 + 2, none⟩ = some (.int .u8 (x.half : Nat))) ∧ (V.cell? ⟨gX, k * 9 + 3, none⟩ = some (.int .i64 y.col) ∧ V.cell? ⟨gX, k * 9 + 4, none⟩ = some (.int .i64 y.tier) ∧ V.cell? ⟨gX, k * 9 + 5, none⟩ = some (.int .u8 (y.half : Nat))) ∧ (V.cell? ⟨gX, k * 9 + 6, none⟩ = some (.int .i64 z.col) ∧ V.cell? ⟨gX, k * 9 + 7, none⟩ = some (.int .i64 z.tier) ∧ V.cell? ⟨gX, k * 9 + 8, none⟩ = some (.int .u8 (z.half : Nat)))) := by
        rcases (by omega : k = 0 ∨ k = 1) with rfl | rfl
        · exact ⟨⟨ac, at_, ah⟩, ⟨bc, bt, bh⟩, ⟨cc, ct, ch⟩, ⟨HX.out.cell 0, HX.out.cell 1, HX.out.cell 2⟩, ⟨HX.out.cell 3, HX.out.cell 4, HX.out.cell 5⟩, ⟨HX.out.cell 6, HX.out.cell 7, HX.out.cell 8⟩⟩
        · exact ⟨⟨dc, dt, dh⟩, ⟨ec, et, eh⟩, ⟨fc, ft, fh⟩, ⟨HX.out.cell 9, HX.out.cell 10, HX.out.cell 11⟩, ⟨HX.out.cell 12, HX.out.cell 13, HX.out.cell 14⟩, ⟨HX.out.cell 15, HX.out.cell 16, HX.out.cell 17⟩⟩
      obtain ⟨x, y, z, ⟨x0, x1, x2⟩, ⟨y0, y1, y2⟩, ⟨z0, z1, z2⟩⟩ := hcells
      have hk0 : (0 : Int) ≤ (k : Int) := by omega
      have hk1 : (k : Int) < 2 := by omega
      have hlX := HX.out.lt
      obtain ⟨xc, xt, xh⟩ := x
      obtain ⟨yc, yt, yh⟩ := y
      obtain ⟨zc, zt, zh⟩ := z
      simp only at x0 x1 x2 y0 y1 y2 z0 z1 z2
      go_upto_region 5 with fail
      have hR := Bk.new V 78 #[.int .i64 xc, .int .i64 xt, .int .u8 (xh : Nat), .int .i64 yc, .int .i64 yt, .int .u8 (yh : Nat), .int .i64 zc, .int .i64 zt, .int .u8 (zh : Nat)]
      have hBV := ba1 V (.cells #[.int .i64 xc, .int .i64 xt, .int .u8 (xh : Nat), .int .i64 yc, .int .i64 yt, .int .u8 (yh : Nat), .int .i64 zc, .int .i64 zt, .int .u8 (zh : Nat)] 78)
      replace HX := Lib.hid (HX.out.below hBV hlX)
      replace HB := Lib.hid (HB.out.trans (hBV.mono HB.out.size))
      clear hBV x0 x1 x2 y0 y1 y2 z0 z1 z2 hlX
      generalize V.heap.size = gR at *
      generalize (V.alloc _) = U at *
      clear V
      have x0 : U.cell? ⟨gR, 0, none⟩ = some (.int .i64 xc) := hR.cell 0
      have x1 : U.cell? ⟨gR, 1, none⟩ = some (.int .i64 xt) := hR.cell 1
      have x2 : U.cell? ⟨gR, 2, none⟩ = some (.int .u8 (xh : Nat)) := hR.cell 2
      have y0 : U.cell? ⟨gR, 3, none⟩ = some (.int .i64 yc) := hR.cell 3
      have y1 : U.cell? ⟨gR, 4, none⟩ = some (.int .i64 yt) := hR.cell 4
      have y2 : U.cell? ⟨gR, 5, none⟩ = some (.int .u8 (yh : Nat)) := hR.cell 5
      have z0 : U.cell? ⟨gR, 6, none⟩ = some (.int .i64 zc) := hR.cell 6
      have z1 : U.cell? ⟨gR, 7, none⟩ = some (.int .i64 zt) := hR.cell 7
      have z2 : U.cell? ⟨gR, 8, none⟩ = some (.int .u8 (zh : Nat)) := hR.cell 8
      have hlR := hR.lt
      have HKU : Hid (∀ W' : World, Below U.heap.size U W' → W'.cell? ⟨gR, 0, none⟩ = some (.int .i64 xc) ∧ W'.cell? ⟨gR, 1, none⟩ = some (.int .i64 xt) ∧ W'.cell? ⟨gR, 2, none⟩ = some (.int .u8 (xh : Nat)) ∧ W'.cell? ⟨gR, 3, none⟩ = some (.int .i64 yc) ∧ W'.cell? ⟨gR, 4, none⟩ = some (.int .i64 yt) ∧ W'.cell? ⟨gR, 5, none⟩ = some (.int .u8 (yh : Nat)) ∧ W'.cell? ⟨gR, 6, none⟩ = some (.int .i64 zc) ∧ W'.cell? ⟨gR, 7, none⟩ = some (.int .i64 zt) ∧ W'.cell? ⟨gR, 8, none⟩ = some (.int .u8 (zh : Nat))) :=
        Lib.hid fun W' hv => ⟨(hR.below hv hR.lt).cell 0, (hR.below hv hR.lt).cell 1, (hR.below hv hR.lt).cell 2, (hR.below hv hR.lt).cell 3, (hR.below hv hR.lt).cell 4, (hR.below hv hR.lt).cell 5, (hR.below hv hR.lt).cell 6, (hR.below hv hR.lt).cell 7, (hR.below hv hR.lt).cell 8⟩
      clear hR
      go_cut [12, 13, 14] (fun p q r wx => ∃ g1 g2 g3, p = .pointer (some ⟨g1, 0, none⟩) ∧ q = .pointer (some ⟨g2, 0, none⟩) ∧ r = .pointer (some ⟨g3, 0, none⟩) ∧ Hid (Bk wx g1 34 #[.int .i64 xc, .int .i64 xt, .int .u8 (xh : Nat)]) ∧ Hid (Bk wx g2 34 #[.int .i64 yc, .int .i64 yt, .int .u8 (yh : Nat)]) ∧ Hid (Bk wx g3 34 #[.int .i64 zc, .int .i64 zt, .int .u8 (zh : Nat)]) ∧ Hid (Below U.heap.size U wx))
      case first =>
        go_region_held3 (fun W' => W'.cell? ⟨gR, 0, none⟩ = some (.int .i64 xc) ∧ W'.cell? ⟨gR, 1, none⟩ = some (.int .i64 xt) ∧ W'.cell? ⟨gR, 2, none⟩ = some (.int .u8 (xh : Nat)) ∧ W'.cell? ⟨gR, 3, none⟩ = some (.int .i64 yc) ∧ W'.cell? ⟨gR, 4, none⟩ = some (.int .i64 yt) ∧ W'.cell? ⟨gR, 5, none⟩ = some (.int .u8 (yh : Nat)) ∧ W'.cell? ⟨gR, 6, none⟩ = some (.int .i64 zc) ∧ W'.cell? ⟨gR, 7, none⟩ = some (.int .i64 zt) ∧ W'.cell? ⟨gR, 8, none⟩ = some (.int .u8 (zh : Nat))) ((refine HKU.out _ ?_; repeat (first | exact Below.refl _ _ | refine Below.drew ?_ | refine Below.alloc ?_ (by simp <;> omega) _ | refine Below.setCell ?_ (by simp <;> omega) _))) (fail)
        all_goals
          go_wp2_with fail
          go_meet
          refine ⟨_, _, _, rfl, rfl, rfl, Lib.hid ?_, Lib.hid ?_, Lib.hid ?_, Lib.hid ?_⟩
          · first | exact al3a _ _ _ _ _ | exact al3b _ _ _ _ _ | exact al3c _ _ _ _ _
          · first | exact al3a _ _ _ _ _ | exact al3b _ _ _ _ _ | exact al3c _ _ _ _ _
          · first | exact al3a _ _ _ _ _ | exact al3b _ _ _ _ _ | exact al3c _ _ _ _ _
          · exact (ba3 _ _ _ _).drew
      case rest =>
        clear x0 x1 x2 y0 y1 y2 z0 z1 z2
        obtain ⟨g1, g2, g3, rfl, rfl, rfl, B1, B2, B3, BU⟩ := hcut
        replace HX := Lib.hid (HX.out.below BU.out HX.out.lt)
        replace HB := Lib.hid (HB.out.trans (BU.out.mono HB.out.size))
        clear BU HKU
        clear hk
        generalize hR' : U.heap.size = sU at *
        clear hR'
        go_wp2_with fail
        generalize wc = Y at *
        obtain ⟨p, hp⟩ : ∃ p, cmpF ⟨xc, xt, xh⟩ ⟨yc, yt, yh⟩ = p := ⟨_, rfl⟩
        obtain ⟨q, hq⟩ : ∃ p, cmpF ⟨yc, yt, yh⟩ ⟨zc, zt, zh⟩ = p := ⟨_, rfl⟩
        obtain ⟨r, hr⟩ : ∃ p, cmpF ⟨xc, xt, xh⟩ ⟨zc, zt, zh⟩ = p := ⟨_, rfl⟩
        have hp3 := cmpF_three ⟨xc, xt, xh⟩ ⟨yc, yt, yh⟩
        rw [hp] at hp3
        have hq3 := cmpF_three ⟨yc, yt, yh⟩ ⟨zc, zt, zh⟩
        rw [hq] at hq3
        have HT : Hid (p = -1 → q = -1 → r = -1) := Lib.hid (fun a b => by rw [← hr]; exact cmpF_trans _ _ _ (hp.trans a) (hq.trans b))
        have HE : Hid (∀ W : World, (binOp .eql 34 (.agg #[.int .i64 xc, .int .i64 xt, .int .u8 (xh : Nat)]) (.agg #[.int .i64 yc, .int .i64 yt, .int .u8 (yh : Nat)])).run Tryd.prog W = .ok (.bool (p == 0)) W) := Lib.hid fun W => by rw [← hp, ← cmpF_zero]; exact run_eql_slt ⟨xc, xt, xh⟩ ⟨yc, yt, yh⟩ W
        have HO1 : Hid (overB ⟨xc, xt, xh⟩ ⟨yc, yt, yh⟩ = true → meetB ⟨xc, xt, xh⟩ ⟨yc, yt, yh⟩ = false ∧ overB ⟨yc, yt, yh⟩ ⟨xc, xt, xh⟩ = false ∧ p = 1) := Lib.hid (fun h => by rw [← hp]; exact over_not _ _ h)
        have HO2 : Hid (overB ⟨xc, xt, xh⟩ ⟨yc, yt, yh⟩ = true → overB ⟨yc, yt, yh⟩ ⟨zc, zt, zh⟩ = true → overB ⟨xc, xt, xh⟩ ⟨zc, zt, zh⟩ = false → yh = 0 ∧ xh ≠ zh ∧ xh ≠ 0 ∧ zh ≠ 0) := Lib.hid (over_pass ⟨xc, xt, xh⟩ ⟨yc, yt, yh⟩ ⟨zc, zt, zh⟩)
        have K1 : Hid (∀ V : World, Calls Tryd.prog 22 #[.agg #[.int .i64 xc, .int .i64 xt, .int .u8 (xh : Nat)], .agg #[.int .i64 yc, .int .i64 yt, .int .u8 (yh : Nat)]] V (Ret V (.int .i64 p))) := Lib.hid fun V => by rw [← hp]; exact compare_any ⟨xc, xt, xh⟩ ⟨yc, yt, yh⟩ V
        have K2 : Hid (∀ V : World, Calls Tryd.prog 22 #[.agg #[.int .i64 yc, .int .i64 yt, .int .u8 (yh : Nat)], .agg #[.int .i64 zc, .int .i64 zt, .int .u8 (zh : Nat)]] V (Ret V (.int .i64 q))) := Lib.hid fun V => by rw [← hq]; exact compare_any ⟨yc, yt, yh⟩ ⟨zc, zt, zh⟩ V
        have K3 : Hid (∀ V : World, Calls Tryd.prog 22 #[.agg #[.int .i64 xc, .int .i64 xt, .int .u8 (xh : Nat)], .agg #[.int .i64 zc, .int .i64 zt, .int .u8 (zh : Nat)]] V (Ret V (.int .i64 r))) := Lib.hid fun V => by rw [← hr]; exact compare_any ⟨xc, xt, xh⟩ ⟨zc, zt, zh⟩ V
        have K4 : Hid (∀ (z : Int) (V : World), z = -p → Calls Tryd.prog 22 #[.agg #[.int .i64 yc, .int .i64 yt, .int .u8 (yh : Nat)], .agg #[.int .i64 xc, .int .i64 xt, .int .u8 (xh : Nat)]] V (Ret V (.int .i64 z))) := Lib.hid fun z V hz => by rw [hz, ← hp, ← cmpF_neg]; exact compare_any ⟨yc, yt, yh⟩ ⟨xc, xt, xh⟩ V
        have M1 : Hid (∀ V : World, Calls Tryd.prog 31 #[.agg #[.int .i64 xc, .int .i64 xt, .int .u8 (xh : Nat)], .agg #[.int .i64 yc, .int .i64 yt, .int .u8 (yh : Nat)]] V (Ret V (.bool (meetB ⟨xc, xt, xh⟩ ⟨yc, yt, yh⟩)))) := Lib.hid fun V => meet_any ⟨xc, xt, xh⟩ ⟨yc, yt, yh⟩ V
        have M2 : Hid (∀ V : World, Calls Tryd.prog 31 #[.agg #[.int .i64 yc, .int .i64 yt, .int .u8 (yh : Nat)], .agg #[.int .i64 xc, .int .i64 xt, .int .u8 (xh : Nat)]] V (Ret V (.bool (meetB ⟨xc, xt, xh⟩ ⟨yc, yt, yh⟩)))) := Lib.hid fun V => by rw [← meet_symm]; exact meet_any ⟨yc, yt, yh⟩ ⟨xc, xt, xh⟩ V
        have M3 : Hid (∀ V : World, Calls Tryd.prog 31 #[.agg #[.int .i64 xc, .int .i64 xt, .int .u8 (xh : Nat)], .agg #[.int .i64 xc, .int .i64 xt, .int .u8 (xh : Nat)]] V (Ret V (.bool (true)))) := Lib.hid fun V => by rw [← meet_self ⟨xc, xt, xh⟩]; exact meet_any ⟨xc, xt, xh⟩ ⟨xc, xt, xh⟩ V
        have O1 : Hid (∀ V : World, Calls Tryd.prog 24 #[.agg #[.int .i64 xc, .int .i64 xt, .int .u8 (xh : Nat)], .agg #[.int .i64 yc, .int .i64 yt, .int .u8 (yh : Nat)]] V (Ret V (.bool (overB ⟨xc, xt, xh⟩ ⟨yc, yt, yh⟩)))) := Lib.hid fun V => over_any ⟨xc, xt, xh⟩ ⟨yc, yt, yh⟩ V
        have O2 : Hid (∀ V : World, Calls Tryd.prog 24 #[.agg #[.int .i64 yc, .int .i64 yt, .int .u8 (yh : Nat)], .agg #[.int .i64 xc, .int .i64 xt, .int .u8 (xh : Nat)]] V (Ret V (.bool (overB ⟨yc, yt, yh⟩ ⟨xc, xt, xh⟩)))) := Lib.hid fun V => over_any ⟨yc, yt, yh⟩ ⟨xc, xt, xh⟩ V
        have O3 : Hid (∀ V : World, Calls Tryd.prog 24 #[.agg #[.int .i64 xc, .int .i64 xt, .int .u8 (xh : Nat)], .agg #[.int .i64 xc, .int .i64 xt, .int .u8 (xh : Nat)]] V (Ret V (.bool (false)))) := Lib.hid fun V => by rw [← over_self ⟨xc, xt, xh⟩]; exact over_any ⟨xc, xt, xh⟩ ⟨xc, xt, xh⟩ V
        have O4 : Hid (∀ V : World, Calls Tryd.prog 24 #[.agg #[.int .i64 yc, .int .i64 yt, .int .u8 (yh : Nat)], .agg #[.int .i64 zc, .int .i64 zt, .int .u8 (zh : Nat)]] V (Ret V (.bool (overB ⟨yc, yt, yh⟩ ⟨zc, zt, zh⟩)))) := Lib.hid fun V => over_any ⟨yc, yt, yh⟩ ⟨zc, zt, zh⟩ V
        have O5 : Hid (∀ V : World, Calls Tryd.prog 24 #[.agg #[.int .i64 xc, .int .i64 xt, .int .u8 (xh : Nat)], .agg #[.int .i64 zc, .int .i64 zt, .int .u8 (zh : Nat)]] V (Ret V (.bool (overB ⟨xc, xt, xh⟩ ⟨zc, zt, zh⟩)))) := Lib.hid fun V => over_any ⟨xc, xt, xh⟩ ⟨zc, zt, zh⟩ V
        clear hp hq hr
        generalize meetB ⟨xc, xt, xh⟩ ⟨yc, yt, yh⟩ = m at *
        generalize overB ⟨xc, xt, xh⟩ ⟨yc, yt, yh⟩ = o1 at *
        generalize overB ⟨yc, yt, yh⟩ ⟨xc, xt, xh⟩ = o2 at *
        generalize overB ⟨yc, yt, yh⟩ ⟨zc, zt, zh⟩ = o4 at *
        generalize overB ⟨xc, xt, xh⟩ ⟨zc, zt, zh⟩ = o5 at *
        have x0 : ∀ P : Gr Y, P.W.cell? ⟨g1, 0, none⟩ = some (.int .i64 xc) := Gr.cell (B1.out.cell 0)
        have x1 : ∀ P : Gr Y, P.W.cell? ⟨g1, 1, none⟩ = some (.int .i64 xt) := Gr.cell (B1.out.cell 1)
        have x2 : ∀ P : Gr Y, P.W.cell? ⟨g1, 2, none⟩ = some (.int .u8 (xh : Nat)) := Gr.cell (B1.out.cell 2)
        have y0 : ∀ P : Gr Y, P.W.cell? ⟨g2, 0, none⟩ = some (.int .i64 yc) := Gr.cell (B2.out.cell 0)
        have y1 : ∀ P : Gr Y, P.W.cell? ⟨g2, 1, none⟩ = some (.int .i64 yt) := Gr.cell (B2.out.cell 1)
        have y2 : ∀ P : Gr Y, P.W.cell? ⟨g2, 2, none⟩ = some (.int .u8 (yh : Nat)) := Gr.cell (B2.out.cell 2)
        have z0 : ∀ P : Gr Y, P.W.cell? ⟨g3, 0, none⟩ = some (.int .i64 zc) := Gr.cell (B3.out.cell 0)
        have z1 : ∀ P : Gr Y, P.W.cell? ⟨g3, 1, none⟩ = some (.int .i64 zt) := Gr.cell (B3.out.cell 1)
        have z2 : ∀ P : Gr Y, P.W.cell? ⟨g3, 2, none⟩ = some (.int .u8 (zh : Nat)) := Gr.cell (B3.out.cell 2)
        refine wp_region_gr (by kernel_rfl) (by kernel_rfl) ?_
        repeat (go_big_quiet_step ((first | with_reducible exact Gr.call _ (fun V _ => K1.out V) | with_reducible exact Gr.call _ (fun V _ => K2.out V) | with_reducible exact Gr.call _ (fun V _ => K3.out V))))
        refine wpQuiet_nil ?_
        rintro Y1 ⟨⟨_, hbY⟩, rfl⟩
        clear K1 K2 K3 x0 x1 x2 y0 y1 y2 z0 z1 z2
        replace B1 := Lib.hid (B1.out.below hbY B1.out.lt)
        replace B2 := Lib.hid (B2.out.below hbY B2.out.lt)
        replace B3 := Lib.hid (B3.out.below hbY B3.out.lt)
        replace HX := Lib.hid (HX.out.below hbY HX.out.lt)
        replace HB := Lib.hid (HB.out.trans (hbY.mono HB.out.size))
        clear hbY
        go_upto_region 7 with fail
        go_cut [84] (fun x wx => x = .bool false ∧ Hid (Below Y1.heap.size Y1 wx))
        case first =>
          have HE1 := HE
          have HT1 := HT
          clear HE HT HO1 HO2 M1 M2 M3 O1 O2 O3 O4 O5 HX HB
          have x0 : ∀ P : Gr Y1, P.W.cell? ⟨g1, 0, none⟩ = some (.int .i64 xc) := Gr.cell (B1.out.cell 0)
          have x1 : ∀ P : Gr Y1, P.W.cell? ⟨g1, 1, none⟩ = some (.int .i64 xt) := Gr.cell (B1.out.cell 1)
          have x2 : ∀ P : Gr Y1, P.W.cell? ⟨g1, 2, none⟩ = some (.int .u8 (xh : Nat)) := Gr.cell (B1.out.cell 2)
          have y0 : ∀ P : Gr Y1, P.W.cell? ⟨g2, 0, none⟩ = some (.int .i64 yc) := Gr.cell (B2.out.cell 0)
          have y1 : ∀ P : Gr Y1, P.W.cell? ⟨g2, 1, none⟩ = some (.int .i64 yt) := Gr.cell (B2.out.cell 1)
          have y2 : ∀ P : Gr Y1, P.W.cell? ⟨g2, 2, none⟩ = some (.int .u8 (yh : Nat)) := Gr.cell (B2.out.cell 2)
          have z0 : ∀ P : Gr Y1, P.W.cell? ⟨g3, 0, none⟩ = some (.int .i64 zc) := Gr.cell (B3.out.cell 0)
          have z1 : ∀ P : Gr Y1, P.W.cell? ⟨g3, 1, none⟩ = some (.int .i64 zt) := Gr.cell (B3.out.cell 1)
          have z2 : ∀ P : Gr Y1, P.W.cell? ⟨g3, 2, none⟩ = some (.int .u8 (zh : Nat)) := Gr.cell (B3.out.cell 2)
          clear B1 B2 B3
          rcases hp3 with rfl | rfl | rfl
          · have K5 := Lib.hid (fun V => K4.out 1 V (by omega))
            have HE2 := HE1.out
            simp only [show ((-1 : Int) == 0) = false from rfl] at HE2
            clear K4 HE1
            rcases hq3 with rfl | rfl | rfl
            · obtain rfl : r = -1 := HT1.out rfl rfl
              refine wp_region_grs ?_
              repeat (go_big_quiet_step ((with_reducible exact Gr.call _ (fun V _ => K5.out V))))
              refine wpQuiet_nil ?_
              rintro Y2 ⟨⟨_, hbZ⟩, rfl⟩
              go_wp2_with fail
              go_meet
              exact ⟨rfl, Lib.hid hbZ⟩
            · clear HT1
              refine wp_region_grs ?_
              repeat (go_big_quiet_step ((with_reducible exact Gr.call _ (fun V _ => K5.out V))))
              refine wpQuiet_nil ?_
              rintro Y2 ⟨⟨_, hbZ⟩, rfl⟩
              go_wp2_with fail
              go_meet
              exact ⟨rfl, Lib.hid hbZ⟩
            · clear HT1
              refine wp_region_grs ?_
              repeat (go_big_quiet_step ((with_reducible exact Gr.call _ (fun V _ => K5.out V))))
              refine wpQuiet_nil ?_
              rintro Y2 ⟨⟨_, hbZ⟩, rfl⟩
              go_wp2_with fail
              go_meet
              exact ⟨rfl, Lib.hid hbZ⟩
          · have K5 := Lib.hid (fun V => K4.out 0 V (by omega))
            have HE2 := HE1.out
            simp only [show ((0 : Int) == 0) = true from rfl] at HE2
            clear K4 HT1 HE1
            refine wp_region_grs ?_
            repeat (go_big_quiet_step ((with_reducible exact Gr.call _ (fun V _ => K5.out V))))
            refine wpQuiet_nil ?_
            rintro Y2 ⟨⟨_, hbZ⟩, rfl⟩
            go_wp2_with fail
            go_meet
            exact ⟨rfl, Lib.hid hbZ⟩
          · have K5 := Lib.hid (fun V => K4.out (-1) V (by omega))
            have HE2 := HE1.out
            simp only [show ((1 : Int) == 0) = false from rfl] at HE2
            clear K4 HT1 HE1
            refine wp_region_grs ?_
            repeat (go_big_quiet_step ((with_reducible exact Gr.call _ (fun V _ => K5.out V))))
            refine wpQuiet_nil ?_
            rintro Y2 ⟨⟨_, hbZ⟩, rfl⟩
            go_wp2_with fail
            go_meet
            exact ⟨rfl, Lib.hid hbZ⟩
        case rest =>
          obtain ⟨rfl, BU⟩ := hcut
          clear HE HT K4 hp3 hq3
          generalize wc = Y3 at *
          replace B1 := Lib.hid (B1.out.below BU.out B1.out.lt)
          replace B2 := Lib.hid (B2.out.below BU.out B2.out.lt)
          replace B3 := Lib.hid (B3.out.below BU.out B3.out.lt)
          replace HX := Lib.hid (HX.out.below BU.out HX.out.lt)
          replace HB := Lib.hid (HB.out.trans (BU.out.mono HB.out.size))
          clear BU Y1
          go_upto_region 9 with fail
          go_cut [126] (fun x wx => x = .bool false ∧ Hid (Below Y3.heap.size Y3 wx))
          case first =>
            clear HO2 HX HB O4 O5
            have x0 : ∀ P : Gr Y3, P.W.cell? ⟨g1, 0, none⟩ = some (.int .i64 xc) := Gr.cell (B1.out.cell 0)
            have x1 : ∀ P : Gr Y3, P.W.cell? ⟨g1, 1, none⟩ = some (.int .i64 xt) := Gr.cell (B1.out.cell 1)
            have x2 : ∀ P : Gr Y3, P.W.cell? ⟨g1, 2, none⟩ = some (.int .u8 (xh : Nat)) := Gr.cell (B1.out.cell 2)
            have y0 : ∀ P : Gr Y3, P.W.cell? ⟨g2, 0, none⟩ = some (.int .i64 yc) := Gr.cell (B2.out.cell 0)
            have y1 : ∀ P : Gr Y3, P.W.cell? ⟨g2, 1, none⟩ = some (.int .i64 yt) := Gr.cell (B2.out.cell 1)
            have y2 : ∀ P : Gr Y3, P.W.cell? ⟨g2, 2, none⟩ = some (.int .u8 (yh : Nat)) := Gr.cell (B2.out.cell 2)
            have z0 : ∀ P : Gr Y3, P.W.cell? ⟨g3, 0, none⟩ = some (.int .i64 zc) := Gr.cell (B3.out.cell 0)
            have z1 : ∀ P : Gr Y3, P.W.cell? ⟨g3, 1, none⟩ = some (.int .i64 zt) := Gr.cell (B3.out.cell 1)
            have z2 : ∀ P : Gr Y3, P.W.cell? ⟨g3, 2, none⟩ = some (.int .u8 (zh : Nat)) := Gr.cell (B3.out.cell 2)
            clear B1 B2 B3
            cases o1 with
            | true =>
              obtain ⟨rfl, rfl, rfl⟩ := HO1.out rfl
              clear HO1
              refine wp_region_gr (by kernel_rfl) (by kernel_rfl) ?_
              repeat (go_big_quiet_step ((first | with_reducible exact Gr.call _ (fun V _ => M1.out V) | with_reducible exact Gr.call _ (fun V _ => M2.out V) | with_reducible exact Gr.call _ (fun V _ => M3.out V) | with_reducible exact Gr.call _ (fun V _ => O1.out V) | with_reducible exact Gr.call _ (fun V _ => O2.out V) | with_reducible exact Gr.call _ (fun V _ => O3.out V))))
              refine wpQuiet_nil ?_
              rintro Y2 ⟨⟨_, hbZ⟩, rfl⟩
              go_wp2_with fail
              go_meet
              exact ⟨rfl, Lib.hid hbZ⟩
            | false =>
              clear HO1
              cases m with
              | true =>
                refine wp_region_gr (by kernel_rfl) (by kernel_rfl) ?_
                repeat (go_big_quiet_step ((first | with_reducible exact Gr.call _ (fun V _ => M1.out V) | with_reducible exact Gr.call _ (fun V _ => M2.out V) | with_reducible exact Gr.call _ (fun V _ => M3.out V) | with_reducible exact Gr.call _ (fun V _ => O1.out V) | with_reducible exact Gr.call _ (fun V _ => O2.out V) | with_reducible exact Gr.call _ (fun V _ => O3.out V))))
                refine wpQuiet_nil ?_
                rintro Y2 ⟨⟨_, hbZ⟩, rfl⟩
                go_wp2_with fail
                go_meet
                exact ⟨rfl, Lib.hid hbZ⟩
              | false =>
                refine wp_region_gr (by kernel_rfl) (by kernel_rfl) ?_
                repeat (go_big_quiet_step ((first | with_reducible exact Gr.call _ (fun V _ => M1.out V) | with_reducible exact Gr.call _ (fun V _ => M2.out V) | with_reducible exact Gr.call _ (fun V _ => M3.out V) | with_reducible exact Gr.call _ (fun V _ => O1.out V) | with_reducible exact Gr.call _ (fun V _ => O2.out V) | with_reducible exact Gr.call _ (fun V _ => O3.out V))))
                refine wpQuiet_nil ?_
                rintro Y2 ⟨⟨_, hbZ⟩, rfl⟩
                go_wp2_with fail
                go_meet
                exact ⟨rfl, Lib.hid hbZ⟩
          case rest =>
            obtain ⟨rfl, BU⟩ := hcut
            clear HO1 M1 M2 M3 O2 O3
            generalize wc = Y4 at *
            replace B1 := Lib.hid (B1.out.below BU.out B1.out.lt)
            replace B2 := Lib.hid (B2.out.below BU.out B2.out.lt)
            replace B3 := Lib.hid (B3.out.below BU.out B3.out.lt)
            replace HX := Lib.hid (HX.out.below BU.out HX.out.lt)
            replace HB := Lib.hid (HB.out.trans (BU.out.mono HB.out.size))
            clear BU Y3
            go_upto_region 11 with fail
            go_cut [162] (fun x wx => x = .bool false ∧ Hid (Below Y4.heap.size Y4 wx))
            case first =>
              clear HX HB
              have x0 : ∀ P : Gr Y4, P.W.cell? ⟨g1, 0, none⟩ = some (.int .i64 xc) := Gr.cell (B1.out.cell 0)
              have x1 : ∀ P : Gr Y4, P.W.cell? ⟨g1, 1, none⟩ = some (.int .i64 xt) := Gr.cell (B1.out.cell 1)
              have x2 : ∀ P : Gr Y4, P.W.cell? ⟨g1, 2, none⟩ = some (.int .u8 (xh : Nat)) := Gr.cell (B1.out.cell 2)
              have y0 : ∀ P : Gr Y4, P.W.cell? ⟨g2, 0, none⟩ = some (.int .i64 yc) := Gr.cell (B2.out.cell 0)
              have y1 : ∀ P : Gr Y4, P.W.cell? ⟨g2, 1, none⟩ = some (.int .i64 yt) := Gr.cell (B2.out.cell 1)
              have y2 : ∀ P : Gr Y4, P.W.cell? ⟨g2, 2, none⟩ = some (.int .u8 (yh : Nat)) := Gr.cell (B2.out.cell 2)
              have z0 : ∀ P : Gr Y4, P.W.cell? ⟨g3, 0, none⟩ = some (.int .i64 zc) := Gr.cell (B3.out.cell 0)
              have z1 : ∀ P : Gr Y4, P.W.cell? ⟨g3, 1, none⟩ = some (.int .i64 zt) := Gr.cell (B3.out.cell 1)
              have z2 : ∀ P : Gr Y4, P.W.cell? ⟨g3, 2, none⟩ = some (.int .u8 (zh : Nat)) := Gr.cell (B3.out.cell 2)
              clear B1 B2 B3
              cases o1 with
              | false =>
                refine wp_region_grs ?_
                repeat (go_big_quiet_step ((first | with_reducible exact Gr.call _ (fun V _ => O1.out V) | with_reducible exact Gr.call _ (fun V _ => O4.out V) | with_reducible exact Gr.call _ (fun V _ => O5.out V))))
                refine wpQuiet_nil ?_
                rintro Y2 ⟨⟨_, hbZ⟩, rfl⟩
                go_wp2_with fail
                go_meet
                exact ⟨rfl, Lib.hid hbZ⟩
              | true =>
                cases o4 with
                | false =>
                  refine wp_region_grs ?_
                  repeat (go_big_quiet_step ((first | with_reducible exact Gr.call _ (fun V _ => O1.out V) | with_reducible exact Gr.call _ (fun V _ => O4.out V) | with_reducible exact Gr.call _ (fun V _ => O5.out V))))
                  refine wpQuiet_nil ?_
                  rintro Y2 ⟨⟨_, hbZ⟩, rfl⟩
                  go_wp2_with fail
                  go_meet
                  exact ⟨rfl, Lib.hid hbZ⟩
                | true =>
                  cases o5 with
                  | true =>
                    refine wp_region_grs ?_
                    repeat (go_big_quiet_step ((first | with_reducible exact Gr.call _ (fun V _ => O1.out V) | with_reducible exact Gr.call _ (fun V _ => O4.out V) | with_reducible exact Gr.call _ (fun V _ => O5.out V))))
                    refine wpQuiet_nil ?_
                    rintro Y2 ⟨⟨_, hbZ⟩, rfl⟩
                    go_wp2_with fail
                    go_meet
                    exact ⟨rfl, Lib.hid hbZ⟩
                  | false =>
                    obtain ⟨rfl, e1, e2, e3⟩ := HO2.out rfl rfl rfl
                    have i1 : ((xh : Int) == (zh : Int)) = false := by simp; omega
                    have i2 : ((xh : Int) == 0) = false := by simp; omega
                    have i3 : ((zh : Int) == 0) = false := by simp; omega
                    clear HO2 e1 e2 e3
                    refine wp_region_grs ?_
                    repeat (go_big_quiet_step ((first | with_reducible exact Gr.call _ (fun V _ => O1.out V) | with_reducible exact Gr.call _ (fun V _ => O4.out V) | with_reducible exact Gr.call _ (fun V _ => O5.out V))))
                    refine wpQuiet_nil ?_
                    rintro Y2 ⟨⟨_, hbZ⟩, rfl⟩
                    go_wp2_with fail
                    go_meet
                    exact ⟨rfl, Lib.hid hbZ⟩
            case rest =>
              obtain ⟨rfl, BU⟩ := hcut
              clear HO2 O1 O4 O5
              generalize wc = Y5 at *
              replace B1 := Lib.hid (B1.out.below BU.out B1.out.lt)
              replace B2 := Lib.hid (B2.out.below BU.out B2.out.lt)
              replace B3 := Lib.hid (B3.out.below BU.out B3.out.lt)
              replace HX := Lib.hid (HX.out.below BU.out HX.out.lt)
              replace HB := Lib.hid (HB.out.trans (BU.out.mono HB.out.size))
              clear BU Y4
              go_wp2
              go_roundw
              case rel => exact ⟨k + 1, by omega, by go_num, HX, HB⟩
              case measure => simp [intOf]; omega
    · obtain rfl : k = 2 := by omega
      have H := Lib.hid (awake08_true V (HQ.out.below HB.out))
      go_wp2_with fail
      refine H.out.mono ?_
      rintro e w1 ⟨rfl, hb⟩
      go_wp2
      go_ret
      exact ⟨rfl, HB.out.trans (hb.mono HB.out.size)⟩
end Go.Proofs.YtggebllkkiennaaDoor
