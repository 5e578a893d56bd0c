/-
  The walk of the statement SegregateFree.
-/
import Derived.Test.YtnbpecnddjpfbaaDoorSgT
namespace Go.Proofs.YtnbpecnddjpfbaaDoor
open Go.RowKit

set_option maxRecDepth 100000 in
set_option maxHeartbeats 8000000 in
theorem segregateFree_any (A : Option Addr) (c : Nat) (pl : List (Nat × Nat × Nat × Bool)) (covers : Nat) (A2 : Option Addr) (c2 : Nat) (ds : List Drp) (A9 : Option Addr) (c9 : Nat) (cs : List Nat) (which : Int) (w : World)
    (hs : SlT tPl w (Lt w.heap.size) A pl) (hl : ∀ p ∈ pl, p.1 < 256 ∧ p.2.1 < 256 ∧ p.2.2.1 < 256) (hc : pl.length ≤ c) (hcm : c ≤ maxLen)
    (hs2 : SlT tDrp w (Lt w.heap.size) A2 ds) (hd : ∀ d ∈ ds, d.col < 256 ∧ d.kilos < 256) (hc2 : ds.length ≤ c2) (hcm2 : c2 ≤ maxLen)
    (hs3 : SlT tU8 w (Lt w.heap.size) A9 cs) (hlc : ∀ x ∈ cs, x < 256) (hc3 : cs.length ≤ c9) (hcm3 : c9 ≤ maxLen) (ht : TabOK w) (hn : NamesOK w) :
    Calls Tryd.prog 4 #[.slice A pl.length c, .int .u32 covers, .slice A2 ds.length c2, .slice A9 cs.length c9, .int .i64 which] w (TrueRet w) := by
  have HH := Lib.hid (And.intro hs (And.intro hs2 hs3))
  have HTN := Lib.hid (And.intro ht hn)
  clear hs hs2 hs3
  go_enter Tryd.func4, Tryd.ntmps4
  go_wp2_with fail
  refine (awake14_true w ht hn).mono ?_
  rintro e w1 ⟨rfl, hb1⟩
  simp only
  have HB1 := Lib.hid hb1
  have KST := Lib.hid (stowage_any A c pl covers A2 c2 ds A9 c9 cs w1 (HH.out.1.on hb1) hl hc hcm (HH.out.2.1.on hb1) hd hc2 hcm2 (HH.out.2.2.on hb1) hlc hc3 hcm3)
  clear hb1 HH hl hc hcm hd hc2 hcm2 hlc hc3 hcm3 ht hn
  go_wp2_with fail
  refine KST.out.mono ?_
  rintro e w2 ⟨s, h, A1, q1, bs, A3, q3, st, rfl, hBu, hSd, hrd, hbx, hsx, hq3, hqm3, hb2⟩
  simp only
  clear KST
  have hW : SX w (w2.alloc (.cells (shpA s h) 32)) w2.heap.size s h A1 bs A3 st := by
    have hx := ba1 w2 (.cells (shpA s h) 32)
    have hbw := HB1.out.trans ((hb2.trans (hx.mono hb2.size)).mono HB1.out.size)
    exact ⟨Bk.new w2 _ _, hrd.on hx, hbx.on hx, hsx.on hx, HTN.out.1.below hbw HTN.out.1.lt, HTN.out.2.below hbw HTN.out.2.lt, hbw⟩
  have HW := Lib.hid hW
  have HBU := Lib.hid hBu
  have HSD := Lib.hid hSd
  have HQ3 := Lib.hid hq3
  have hb12 := hSd.blen
  have hs12 := hSd.slen
  clear hW hBu hSd hrd hbx hsx hq3 hqm3 hb2 HB1 HTN
  unfold shpA at HW ⊢
  go_upto_region 4 with fail
  generalize w2.heap.size = g at *
  generalize (w2.alloc _) = V at *
  try clear w2
  try clear w1
  have KFR := Lib.hid (fun (V' : World) (hV : Below V.heap.size V V') (id : Int) => (HW.out.on hV).free HBU.out HSD.out HQ3.out q1 id)
  have KAG := Lib.hid (fun (V' : World) (hV : Below V.heap.size V V') (x : Stw) (hf : (findBx bs x.box).2 = true) => (HW.out.on hV).against HBU.out HSD.out HQ3.out q1 x hf)
  have KAL := Lib.hid (fun (V' : World) (hV : Below V.heap.size V V') (size : Nat) => (HW.out.on hV).all HBU.out size)
  unfold shpA at KFR KAG KAL
  by_cases hn0 : bs.length = 0
  · have hnb : ((bs.length : Int) == 0) = true := by rw [hn0]; rfl
    have KF1 := Lib.hid (KFR.out V (Below.refl _ _) which)
    have HE6 : Hid (oErr s bs st which = 6) := Lib.hid (HSD.out.onone (by
      have : bs = [] := List.length_eq_zero_iff.1 hn0
      subst this
      rfl))
    clear hn0
    have SC := HW.out.bk
    have e0 : V.cell? ⟨g, 0, none⟩ = some (Value.slice h.A1 s.cols.length h.c1) := SC.cell 0
    have e1 : V.cell? ⟨g, 1, none⟩ = some (Value.slice h.A2 s.covs.length h.c2) := SC.cell 1
    have e2 : V.cell? ⟨g, 2, none⟩ = some (.int .i64 s.l0) := SC.cell 2
    have e3 : V.cell? ⟨g, 3, none⟩ = some (.int .i64 s.l1) := SC.cell 3
    have e4 : V.cell? ⟨g, 4, none⟩ = some (.int .i64 s.l2) := SC.cell 4
    have e5 : V.cell? ⟨g, 5, none⟩ = some (.int .i64 s.l3) := SC.cell 5
    have e6 : V.cell? ⟨g, 6, none⟩ = some (Value.slice h.A3 s.rows.length h.c3) := SC.cell 6
    have e7 : V.cell? ⟨g, 7, none⟩ = some (Value.slice h.A4 s.frames.length h.c4) := SC.cell 7
    have e8 : V.cell? ⟨g, 8, none⟩ = some (Value.slice h.A5 s.tanks.length h.c5) := SC.cell 8
    have e9 : V.cell? ⟨g, 9, none⟩ = some (.int .i64 s.m0) := SC.cell 9
    have e10 : V.cell? ⟨g, 10, none⟩ = some (.int .i64 s.m1) := SC.cell 10
    have e11 : V.cell? ⟨g, 11, none⟩ = some (.int .i64 s.m2) := SC.cell 11
    have e12 : V.cell? ⟨g, 12, none⟩ = some (.int .i64 s.m3) := SC.cell 12
    clear SC
    go_wp2_with fail
    refine KF1.out.mono ?_
    rintro e X ⟨hb, v, rfl, ho⟩
    simp only
    rw [HE6.out]
    have HE := Lib.hid (HW.out.be.trans (hb.mono HW.out.be.size))
    clear hb ho
    go_wp2_with fail
    go_ret
    exact ⟨rfl, HE.out⟩
  · have hnb : ((bs.length : Int) == 0) = false := by simpa using hn0
    have hpos : 0 < bs.length := by omega
    have HK := Lib.hid (pickF_lt which hpos)
    have KPK := Lib.hid (fun U => pickK_any which bs.length U hpos (by omega))
    have hkk := HK.out
    generalize pickF which bs.length = kk at *
    have HMB := Lib.hid (getD_memD hkk zBx)
    have HFB := Lib.hid (find_of_mem HSD.out.ids HMB.out)
    obtain ⟨b, off, rfl, hbB, hcc⟩ := HW.out.bx.bx hkk
    have i0 : (0 : Int) ≤ (kk : Int) := by omega
    have i1 : (kk : Int) < (bs.length : Int) := by omega
    generalize bs.getD kk zBx = bb at *
    obtain ⟨b0, b1, b2, b3, b4, b5, b6, b7, b8⟩ := bb
    unfold bxL at hcc
    simp only at hcc HFB
    have c0 : V.cell? ⟨b, off + kk * 9, none⟩ = some (.int .i64 b0) := by simpa using hcc 0 _ rfl
    have c1 : V.cell? ⟨b, off + kk * 9 + 1, none⟩ = some (.string b1) := hcc 1 _ rfl
    have c2 : V.cell? ⟨b, off + kk * 9 + 2, none⟩ = some (.int .u8 (b2 : Nat)) := hcc 2 _ rfl
    have c3 : V.cell? ⟨b, off + kk * 9 + 3, none⟩ = some (.bool b3) := hcc 3 _ rfl
    have c4 : V.cell? ⟨b, off + kk * 9 + 4, none⟩ = some (.int .i64 b4) := hcc 4 _ rfl
    have c5 : V.cell? ⟨b, off + kk * 9 + 5, none⟩ = some (.int .i64 b5) := hcc 5 _ rfl
    have c6 : V.cell? ⟨b, off + kk * 9 + 6, none⟩ = some (.int .i64 b6) := hcc 6 _ rfl
    have c7 : V.cell? ⟨b, off + kk * 9 + 7, none⟩ = some (.int .u8 (b7 : Nat)) := hcc 7 _ rfl
    have c8 : V.cell? ⟨b, off + kk * 9 + 8, none⟩ = some (.bool b8) := hcc 8 _ rfl
    clear hcc HMB HK
    go_wp2_with fail
    refine (KPK.out V).mono ?_
    rintro e X ⟨rfl, rfl⟩
    simp only
    clear KPK
    have hbV := ba1 V (.cells #[.int .i64 b0, .string b1, .int .u8 (b2 : Nat), .bool b3, .int .i64 b4, .int .i64 b5, .int .i64 b6, .int .u8 (b7 : Nat), .bool b8] 41)
    have HBB := Lib.hid (Bk.new V 41 #[.int .i64 b0, .string b1, .int .u8 (b2 : Nat), .bool b3, .int .i64 b4, .int .i64 b5, .int .i64 b6, .int .u8 (b7 : Nat), .bool b8])
    have HBV := Lib.hid hbV
    have HWU := Lib.hid (HW.out.on hbV)
    clear hbV
    go_upto_region 8 with fail
    clear c0 c1 c2 c3 c4 c5 c6 c7 c8
    have hgl : V.heap.size < (V.alloc (.cells #[.int .i64 b0, .string b1, .int .u8 (b2 : Nat), .bool b3, .int .i64 b4, .int .i64 b5, .int .i64 b6, .int .u8 (b7 : Nat), .bool b8] 41)).heap.size := by simp
    generalize V.heap.size = gb at HBB ⊢
    clear hgl
    generalize (V.alloc _) = U at *
    have KF1 := Lib.hid (KFR.out U HBV.out b0)
    have HFS : Hid (freeS s bs st b0 = (allF s b2).filter fun x => decide ((againstF s (goodsF bs st) ⟨b0, x⟩ b7).length = 0)) := Lib.hid (by unfold freeS clsF; rw [HFB.out])
    have HE0 : Hid (oErr s bs st b0 = 0) := Lib.hid (HSD.out.oerr (by rw [HFB.out]))
    have SC := HWU.out.bk
    have e0 : U.cell? ⟨g, 0, none⟩ = some (Value.slice h.A1 s.cols.length h.c1) := SC.cell 0
    have e1 : U.cell? ⟨g, 1, none⟩ = some (Value.slice h.A2 s.covs.length h.c2) := SC.cell 1
    have e2 : U.cell? ⟨g, 2, none⟩ = some (.int .i64 s.l0) := SC.cell 2
    have e3 : U.cell? ⟨g, 3, none⟩ = some (.int .i64 s.l1) := SC.cell 3
    have e4 : U.cell? ⟨g, 4, none⟩ = some (.int .i64 s.l2) := SC.cell 4
    have e5 : U.cell? ⟨g, 5, none⟩ = some (.int .i64 s.l3) := SC.cell 5
    have e6 : U.cell? ⟨g, 6, none⟩ = some (Value.slice h.A3 s.rows.length h.c3) := SC.cell 6
    have e7 : U.cell? ⟨g, 7, none⟩ = some (Value.slice h.A4 s.frames.length h.c4) := SC.cell 7
    have e8 : U.cell? ⟨g, 8, none⟩ = some (Value.slice h.A5 s.tanks.length h.c5) := SC.cell 8
    have e9 : U.cell? ⟨g, 9, none⟩ = some (.int .i64 s.m0) := SC.cell 9
    have e10 : U.cell? ⟨g, 10, none⟩ = some (.int .i64 s.m1) := SC.cell 10
    have e11 : U.cell? ⟨g, 11, none⟩ = some (.int .i64 s.m2) := SC.cell 11
    have e12 : U.cell? ⟨g, 12, none⟩ = some (.int .i64 s.m3) := SC.cell 12
    have z0 : U.cell? ⟨gb, 0, none⟩ = some (.int .i64 b0) := HBB.out.cell 0
    clear SC
    go_wp2_with fail
    refine KF1.out.mono ?_
    rintro e Y ⟨hb, v, rfl, ho⟩
    simp only
    rw [HE0.out] at ho ⊢
    simp only [if_true] at ho
    obtain ⟨AF, cF, rfl, _, _, hsF⟩ := ho.sl
    have HSF := Lib.hid hsF
    have HVY := Lib.hid (HBV.out.trans (hb.mono HBV.out.size))
    have HBY := Lib.hid (HBB.out.below hb HBB.out.lt)
    clear ho hsF hb KF1 z0 e0 e1 e2 e3 e4 e5 e6 e7 e8 e9 e10 e11 e12 HWU HBB HBV KFR HE0
    try clear U
    have HFS2 : Hid (freeS s bs st b0 = (allF s b2).filter fun x => decide ((againstF s (goodsF bs st) ⟨b0, x⟩ b7).length = 0)) := HFS
    clear HFS
    obtain ⟨pf, hpf⟩ : ∃ pf : Slt → Bool, pf = fun x => decide ((againstF s (goodsF bs st) ⟨b0, x⟩ b7).length = 0) := ⟨_, rfl⟩
    have HPF : Hid (∀ x, pf x = decide ((againstF s (goodsF bs st) ⟨b0, x⟩ b7).length = 0)) := Lib.hid fun x => by rw [hpf]
    rw [← hpf] at HFS2
    have HZ : Hid (b7 = 0 → ∀ x, pf x = true) := Lib.hid fun h0 x => by rw [hpf]; simp only; rw [h0, against_zero HBU.out.cs]; rfl
    have hL120 := HBU.out.all14 b2
    have KA1 := Lib.hid (fun (V' : World) (hV : Below V.heap.size V V') (x : Slt) => KAG.out V' hV ⟨b0, x⟩ (by rw [HFB.out]))
    have HCL : Hid (clsF bs b0 = b7) := Lib.hid (by unfold clsF; rw [HFB.out])
    simp only [HCL.out] at KA1
    clear hpf KAG HFB HCL
    have KAL1 := Lib.hid (KAL.out Y HVY.out b2)
    have KAL2 := Lib.hid (fun (V' : World) (hV : Below V.heap.size V V') => KAL.out V' hV b2)
    have HGL : Hid ((freeS s bs st b0).length = (freeS s bs st b0).length) := Lib.hid rfl
    generalize freeS s bs st b0 = R at *
    generalize allF s b2 = AL at *
    generalize goodsF bs st = G at *
    have SC := (HW.out.on HVY.out).bk
    have e0 : Y.cell? ⟨g, 0, none⟩ = some (Value.slice h.A1 s.cols.length h.c1) := SC.cell 0
    have e1 : Y.cell? ⟨g, 1, none⟩ = some (Value.slice h.A2 s.covs.length h.c2) := SC.cell 1
    have e2 : Y.cell? ⟨g, 2, none⟩ = some (.int .i64 s.l0) := SC.cell 2
    have e3 : Y.cell? ⟨g, 3, none⟩ = some (.int .i64 s.l1) := SC.cell 3
    have e4 : Y.cell? ⟨g, 4, none⟩ = some (.int .i64 s.l2) := SC.cell 4
    have e5 : Y.cell? ⟨g, 5, none⟩ = some (.int .i64 s.l3) := SC.cell 5
    have e6 : Y.cell? ⟨g, 6, none⟩ = some (Value.slice h.A3 s.rows.length h.c3) := SC.cell 6
    have e7 : Y.cell? ⟨g, 7, none⟩ = some (Value.slice h.A4 s.frames.length h.c4) := SC.cell 7
    have e8 : Y.cell? ⟨g, 8, none⟩ = some (Value.slice h.A5 s.tanks.length h.c5) := SC.cell 8
    have e9 : Y.cell? ⟨g, 9, none⟩ = some (.int .i64 s.m0) := SC.cell 9
    have e10 : Y.cell? ⟨g, 10, none⟩ = some (.int .i64 s.m1) := SC.cell 10
    have e11 : Y.cell? ⟨g, 11, none⟩ = some (.int .i64 s.m2) := SC.cell 11
    have e12 : Y.cell? ⟨g, 12, none⟩ = some (.int .i64 s.m3) := SC.cell 12
    have z2 : Y.cell? ⟨gb, 2, none⟩ = some (.int .u8 (b2 : Nat)) := HBY.out.cell 2
    clear SC HGL KAL
    go_wp2_with fail
    refine KAL1.out.mono ?_
    rintro e Z ⟨AA, cA, rfl, hcA, hsA, hb⟩
    simp only
    have HSA := Lib.hid hsA
    have HVZ := Lib.hid (HVY.out.trans (hb.mono HVY.out.size))
    have HBZ := Lib.hid (HBY.out.below hb HBY.out.lt)
    have HSFZ := Lib.hid (HSF.out.on hb)
    clear hsA hb KAL1 z2 e0 e1 e2 e3 e4 e5 e6 e7 e8 e9 e10 e11 e12 HBY HVY HSF hcA
    try clear Y
    go_wp2_with fail
    go_loopw [19, 71] (fun n i wr => ∃ k : Nat, k ≤ AL.length ∧ i = .int .i64 k ∧ n = .int .i64 ((AL.take k).filter pf).length ∧ Hid (Below Z.heap.size Z wr)) (fun _ i _ => AL.length - (intOf i).toNat)
    case atStart => exact ⟨0, Nat.zero_le _, rfl, rfl, Lib.hid (Below.refl _ _)⟩
    case round =>
      obtain ⟨k, hk, rfl, rfl, HB⟩ := hrel
      obtain ⟨X, rfl⟩ : ∃ V, V = wr := ⟨_, rfl⟩
      have HVX := Lib.hid (HVZ.out.trans (HB.out.mono HVZ.out.size))
      by_cases hlt : k < AL.length
      · obtain ⟨b3', off3, rfl, _, c0, c1, c2⟩ := (HSA.out.on HB.out).slt hlt
        have HFT := Lib.hid (filter_takeG pf AL hlt default)
        have HHT := Lib.hid (filter_hit pf AL hlt default)
        rw [← HFS2.out] at HHT
        have hn120 : ((AL.take k).filter pf).length ≤ k := filter_lenG pf AL k
        have hk1 : k + 1 ≤ AL.length := hlt
        have j0 : (0 : Int) ≤ (k : Int) := by omega
        have j1 : (k : Int) < (AL.length : Int) := by omega
        have HFL : Hid (((AL.take (k + 1)).filter pf).length = ((AL.take k).filter pf).length + (if pf (AL.getD k default) then 1 else 0)) := Lib.hid (by rw [HFT.out, List.length_append]; split <;> simp)
        generalize ((AL.take k).filter pf).length = n at *
        generalize AL.getD k default = x at *
        obtain ⟨x0, x1, x2⟩ := x
        simp only at c0 c1 c2
        have HP := Lib.hid (HPF.out ⟨x0, x1, x2⟩)
        have hbX := ba1 X (.cells #[.int .i64 x0, .int .i64 x1, .int .u8 (x2 : Nat)] 37)
        have HX := Lib.hid (Bk.new X 37 #[.int .i64 x0, .int .i64 x1, .int .u8 (x2 : Nat)])
        have HBU1 := Lib.hid (HB.out.trans (hbX.mono HB.out.size))
        have HVU := Lib.hid (HVX.out.trans (hbX.mono HVX.out.size))
        clear hbX HB HVX HFT
        go_upto_region 15 with fail
        clear c0 c1 c2
        generalize X.heap.size = gx at *
        generalize (X.alloc _) = U at *
        try clear X
        have KA2 := Lib.hid (KA1.out U HVU.out ⟨x0, x1, x2⟩)
        unfold stwL at KA2
        simp only at KA2
        have SC := (HW.out.on HVU.out).bk
        have e0 : U.cell? ⟨g, 0, none⟩ = some (Value.slice h.A1 s.cols.length h.c1) := SC.cell 0
        have e1 : U.cell? ⟨g, 1, none⟩ = some (Value.slice h.A2 s.covs.length h.c2) := SC.cell 1
        have e2 : U.cell? ⟨g, 2, none⟩ = some (.int .i64 s.l0) := SC.cell 2
        have e3 : U.cell? ⟨g, 3, none⟩ = some (.int .i64 s.l1) := SC.cell 3
        have e4 : U.cell? ⟨g, 4, none⟩ = some (.int .i64 s.l2) := SC.cell 4
        have e5 : U.cell? ⟨g, 5, none⟩ = some (.int .i64 s.l3) := SC.cell 5
        have e6 : U.cell? ⟨g, 6, none⟩ = some (Value.slice h.A3 s.rows.length h.c3) := SC.cell 6
        have e7 : U.cell? ⟨g, 7, none⟩ = some (Value.slice h.A4 s.frames.length h.c4) := SC.cell 7
        have e8 : U.cell? ⟨g, 8, none⟩ = some (Value.slice h.A5 s.tanks.length h.c5) := SC.cell 8
        have e9 : U.cell? ⟨g, 9, none⟩ = some (.int .i64 s.m0) := SC.cell 9
        have e10 : U.cell? ⟨g, 10, none⟩ = some (.int .i64 s.m1) := SC.cell 10
        have e11 : U.cell? ⟨g, 11, none⟩ = some (.int .i64 s.m2) := SC.cell 11
        have e12 : U.cell? ⟨g, 12, none⟩ = some (.int .i64 s.m3) := SC.cell 12
        have z0 : U.cell? ⟨gb, 0, none⟩ = some (.int .i64 b0) := (HBZ.out.below HBU1.out HBZ.out.lt).cell 0
        have y0 : U.cell? ⟨gx, 0, none⟩ = some (.int .i64 x0) := HX.out.cell 0
        have y1 : U.cell? ⟨gx, 1, none⟩ = some (.int .i64 x1) := HX.out.cell 1
        have y2 : U.cell? ⟨gx, 2, none⟩ = some (.int .u8 (x2 : Nat)) := HX.out.cell 2
        clear SC
        generalize againstF s G ⟨b0, ⟨x0, x1, x2⟩⟩ b7 = ag at *
        go_wp2_with fail
        refine KA2.out.mono ?_
        rintro e Y ⟨hb, Au, cu, rfl, _, _⟩
        simp only
        have HBY := Lib.hid (HBU1.out.trans (hb.mono HBU1.out.size))
        have HX2 := Lib.hid (HX.out.below hb HX.out.lt)
        clear hb KA2 z0 y0 y1 y2 e0 e1 e2 e3 e4 e5 e6 e7 e8 e9 e10 e11 e12 HX HVU HBU1
        try clear U
        by_cases h0 : ag.length = 0
        · have hg0 : decide ((0 : Int) < (ag.length : Int)) = false := decide_eq_false (by omega)
          have hg1 : decide (0 < ag.length) = false := decide_eq_false (by omega)
          have hpt : pf ⟨x0, x1, x2⟩ = true := by rw [HP.out]; exact decide_eq_true h0
          rw [hpt] at HFL
          obtain ⟨hnR, hat⟩ := HHT.out hpt
          have HAT := Lib.hid hat
          obtain ⟨b4', off4, rfl, _, d0, d1, d2⟩ := (HSFZ.out.on HBY.out).slt hnR
          rw [HAT.out] at d0 d1 d2
          simp only at d0 d1 d2
          have hge : decide ((R.length : Int) ≤ (n : Int)) = false := decide_eq_false (by omega)
          have hge2 : decide (R.length ≤ n) = false := decide_eq_false (by omega)
          have n0 : (0 : Int) ≤ (n : Int) := by omega
          have n1 : (n : Int) < (R.length : Int) := by omega
          have hrun := run_neq_slt14 x0 x1 x2
          have HFL2 : Hid (((AL.take (k + 1)).filter pf).length = n + 1) := HFL
          clear HFL hpt hat HP HHT
          go_upto_region 19 with fail
          have p0 : ∀ gp : Gr Y, gp.W.cell? ⟨b4', off4 + n * 3, none⟩ = some (.int .i64 x0) := Gr.cell d0
          have p1 : ∀ gp : Gr Y, gp.W.cell? ⟨b4', off4 + n * 3 + 1, none⟩ = some (.int .i64 x1) := Gr.cell d1
          have p2 : ∀ gp : Gr Y, gp.W.cell? ⟨b4', off4 + n * 3 + 2, none⟩ = some (.int .u8 (x2 : Nat)) := Gr.cell d2
          have r0 : ∀ gp : Gr Y, gp.W.cell? ⟨gx, 0, none⟩ = some (.int .i64 x0) := Gr.cell (HX2.out.cell 0)
          have r1 : ∀ gp : Gr Y, gp.W.cell? ⟨gx, 1, none⟩ = some (.int .i64 x1) := Gr.cell (HX2.out.cell 1)
          have r2 : ∀ gp : Gr Y, gp.W.cell? ⟨gx, 2, none⟩ = some (.int .u8 (x2 : Nat)) := Gr.cell (HX2.out.cell 2)
          refine wp_region_gr (by kernel_rfl) (by kernel_rfl) ?_
          repeat (go_big_quiet_step (fail))
          refine wpQuiet_nil ?_
          rintro Y2 ⟨⟨_, hbY⟩, rfl⟩
          have HBY2 := Lib.hid (HBY.out.trans (hbY.mono HBY.out.size))
          clear p0 p1 p2 r0 r1 r2 hbY hrun d0 d1 d2
          have HFL := HFL2
          go_wp2_with fail
          go_roundw
          case rel => (first | exact ⟨k + 1, hk1, by go_num, by first | (rw [HFL.out]; simp; done) | rw [HFL.out], HBY2⟩ | ((repeat apply Exists.intro); (first | exact ⟨⟨k + 1, hk1, by go_num, by first | (rw [HFL.out]; simp; done) | rw [HFL.out], HBY2⟩, rfl⟩ | exact ⟨hk1, by go_num, by first | (rw [HFL.out]; simp; done) | rw [HFL.out], HBY2⟩)))
          case measure => simp [intOf]; omega
        · have hg0 : decide ((0 : Int) < (ag.length : Int)) = true := decide_eq_true (by omega)
          have hg1 : decide (0 < ag.length) = true := decide_eq_true (by omega)
          have hpt : pf ⟨x0, x1, x2⟩ = false := by rw [HP.out]; exact decide_eq_false h0
          rw [hpt] at HFL
          have HFL2 : Hid (((AL.take (k + 1)).filter pf).length = n) := HFL
          clear HFL hpt HP HHT
          have HFL := HFL2
          go_wp2_with fail
          go_roundw
          case rel => (first | exact ⟨k + 1, hk1, by go_num, by first | (rw [HFL.out]; simp; done) | rw [HFL.out], HBY⟩ | ((repeat apply Exists.intro); (first | exact ⟨⟨k + 1, hk1, by go_num, by first | (rw [HFL.out]; simp; done) | rw [HFL.out], HBY⟩, rfl⟩ | exact ⟨hk1, by go_num, by first | (rw [HFL.out]; simp; done) | rw [HFL.out], HBY⟩)))
          case measure => simp [intOf]; omega
      · obtain rfl : k = AL.length := by omega
        rw [List.take_length, ← HFS2.out]
        have hRn : R.length ≤ 120 := by rw [HFS2.out]; exact Nat.le_trans (List.length_filter_le _ _) hL120
        have HWE := Lib.hid (HW.out.on HVX.out)
        have SC := HWE.out.bk
        have e0 : X.cell? ⟨g, 0, none⟩ = some (Value.slice h.A1 s.cols.length h.c1) := SC.cell 0
        have e1 : X.cell? ⟨g, 1, none⟩ = some (Value.slice h.A2 s.covs.length h.c2) := SC.cell 1
        have e2 : X.cell? ⟨g, 2, none⟩ = some (.int .i64 s.l0) := SC.cell 2
        have e3 : X.cell? ⟨g, 3, none⟩ = some (.int .i64 s.l1) := SC.cell 3
        have e4 : X.cell? ⟨g, 4, none⟩ = some (.int .i64 s.l2) := SC.cell 4
        have e5 : X.cell? ⟨g, 5, none⟩ = some (.int .i64 s.l3) := SC.cell 5
        have e6 : X.cell? ⟨g, 6, none⟩ = some (Value.slice h.A3 s.rows.length h.c3) := SC.cell 6
        have e7 : X.cell? ⟨g, 7, none⟩ = some (Value.slice h.A4 s.frames.length h.c4) := SC.cell 7
        have e8 : X.cell? ⟨g, 8, none⟩ = some (Value.slice h.A5 s.tanks.length h.c5) := SC.cell 8
        have e9 : X.cell? ⟨g, 9, none⟩ = some (.int .i64 s.m0) := SC.cell 9
        have e10 : X.cell? ⟨g, 10, none⟩ = some (.int .i64 s.m1) := SC.cell 10
        have e11 : X.cell? ⟨g, 11, none⟩ = some (.int .i64 s.m2) := SC.cell 11
        have e12 : X.cell? ⟨g, 12, none⟩ = some (.int .i64 s.m3) := SC.cell 12
        have z2 : X.cell? ⟨gb, 2, none⟩ = some (.int .u8 (b2 : Nat)) := (HBZ.out.below HB.out HBZ.out.lt).cell 2
        have z7 : X.cell? ⟨gb, 7, none⟩ = some (.int .u8 (b7 : Nat)) := (HBZ.out.below HB.out HBZ.out.lt).cell 7
        clear SC
        by_cases h7 : b7 = 0
        · have hz : ((b7 : Int) == 0) = true := by rw [h7]; rfl
          have HRL : Hid (R.length = AL.length) := Lib.hid (by rw [HFS2.out, List.filter_eq_self.2 fun x _ => HZ.out h7 x])
          have KA9 := Lib.hid (KAL2.out X HVX.out)
          subst h7
          go_wp2_with fail
          refine KA9.out.mono ?_
          rintro e Y ⟨A7, c7, rfl, _, _, hb⟩
          simp only
          have HE := Lib.hid (HWE.out.be.trans (hb.mono HWE.out.be.size))
          rw [← HRL.out]
          clear hb
          go_wp2_with fail
          go_ret
          exact ⟨rfl, HE.out⟩
        · have hz : ((b7 : Int) == 0) = false := by simpa using h7
          have HE := Lib.hid HWE.out.be
          go_wp2_with fail
          go_ret
          exact ⟨rfl, HE.out⟩
end Go.Proofs.YtnbpecnddjpfbaaDoor
