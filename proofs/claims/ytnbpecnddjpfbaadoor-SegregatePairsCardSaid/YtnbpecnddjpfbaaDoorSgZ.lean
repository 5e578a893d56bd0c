/-
  The walk of the statement SegregatePairs.
-/
import Derived.Test.YtnbpecnddjpfbaaDoorSgZp
import Derived.Test.YtnbpecnddjpfbaaDoorSgV
import Derived.Test.YtnbpecnddjpfbaaDoorSgY
namespace Go.Proofs.YtnbpecnddjpfbaaDoor
open Go.RowKit

set_option maxRecDepth 100000 in
set_option maxHeartbeats 8000000 in
theorem segregatePairs_any (A : Option Addr) (c : Nat) (pl : List (Nat × Nat × Nat × Bool)) (covers : Nat) (A2 : Option Addr) (c2 : Nat) (ds : List Drp) (A9 : Option Addr) (c9 : Nat) (cs : List Nat) (w : World)
    (hs : SlT tPl w (Lt w.heap.size) A pl) (hl : ∀ p ∈ pl, p.1 < 256 ∧ p.2.1 < 256 ∧ p.2.2.1 < 256) (hc : pl.length ≤ c) (hcm : c ≤ maxLen)
    (hs2 : SlT tDrp w (Lt w.heap.size) A2 ds) (hd : ∀ d ∈ ds, d.col < 256 ∧ d.kilos < 256) (hc2 : ds.length ≤ c2) (hcm2 : c2 ≤ maxLen)
    (hs3 : SlT tU8 w (Lt w.heap.size) A9 cs) (hlc : ∀ x ∈ cs, x < 256) (hc3 : cs.length ≤ c9) (hcm3 : c9 ≤ maxLen) (ht : TabOK w) (hn : NamesOK w) :
    Calls Tryd.prog 8 #[.slice A pl.length c, .int .u32 covers, .slice A2 ds.length c2, .slice A9 cs.length c9] w (TrueRet w) := by
  have HH := Lib.hid (And.intro hs (And.intro hs2 hs3))
  have HTN := Lib.hid (And.intro ht hn)
  clear hs hs2 hs3
  go_enter Tryd.func8, Tryd.ntmps8
  go_wp2_with fail
  refine (awake14_true w ht hn).mono ?_
  rintro e w1 ⟨rfl, hb1⟩
  simp only
  have HB1 := Lib.hid hb1
  have KST := Lib.hid (stowage_any A c pl covers A2 c2 ds A9 c9 cs w1 (HH.out.1.on hb1) hl hc hcm (HH.out.2.1.on hb1) hd hc2 hcm2 (HH.out.2.2.on hb1) hlc hc3 hcm3)
  clear hb1 HH hl hc hcm hd hc2 hcm2 hlc hc3 hcm3 ht hn
  go_wp2_with fail
  refine KST.out.mono ?_
  rintro e w2 ⟨s, h, A1, q1, bs, A3, q3, st, rfl, hBu, hSd, hrd, hbx, hsx, hq3, hqm3, hb2⟩
  simp only
  clear KST
  have hW : SX w (w2.alloc (.cells (shpA s h) 32)) w2.heap.size s h A1 bs A3 st := by
    have hx := ba1 w2 (.cells (shpA s h) 32)
    have hbw := HB1.out.trans ((hb2.trans (hx.mono hb2.size)).mono HB1.out.size)
    exact ⟨Bk.new w2 _ _, hrd.on hx, hbx.on hx, hsx.on hx, HTN.out.1.below hbw HTN.out.1.lt, HTN.out.2.below hbw HTN.out.2.lt, hbw⟩
  have HW := Lib.hid hW
  have HBU := Lib.hid hBu
  have HSD := Lib.hid hSd
  have HQ3 := Lib.hid hq3
  have hb12 := hSd.blen
  have hs12 := hSd.slen
  clear hW hBu hSd hrd hbx hsx hq3 hqm3 hb2 HB1 HTN
  unfold shpA at HW ⊢
  go_upto_region 4 with fail
  generalize w2.heap.size = g at *
  generalize (w2.alloc _) = V at *
  try clear w2
  try clear w1
  have KCL := Lib.hid (HW.out.clashes HBU.out HSD.out HQ3.out q1)
  have HCN := clash_len s (bs := bs) hs12
  unfold shpA at KCL
  have SC := HW.out.bk
  have e0 : V.cell? ⟨g, 0, none⟩ = some (Value.slice h.A1 s.cols.length h.c1) := SC.cell 0
  have e1 : V.cell? ⟨g, 1, none⟩ = some (Value.slice h.A2 s.covs.length h.c2) := SC.cell 1
  have e2 : V.cell? ⟨g, 2, none⟩ = some (.int .i64 s.l0) := SC.cell 2
  have e3 : V.cell? ⟨g, 3, none⟩ = some (.int .i64 s.l1) := SC.cell 3
  have e4 : V.cell? ⟨g, 4, none⟩ = some (.int .i64 s.l2) := SC.cell 4
  have e5 : V.cell? ⟨g, 5, none⟩ = some (.int .i64 s.l3) := SC.cell 5
  have e6 : V.cell? ⟨g, 6, none⟩ = some (Value.slice h.A3 s.rows.length h.c3) := SC.cell 6
  have e7 : V.cell? ⟨g, 7, none⟩ = some (Value.slice h.A4 s.frames.length h.c4) := SC.cell 7
  have e8 : V.cell? ⟨g, 8, none⟩ = some (Value.slice h.A5 s.tanks.length h.c5) := SC.cell 8
  have e9 : V.cell? ⟨g, 9, none⟩ = some (.int .i64 s.m0) := SC.cell 9
  have e10 : V.cell? ⟨g, 10, none⟩ = some (.int .i64 s.m1) := SC.cell 10
  have e11 : V.cell? ⟨g, 11, none⟩ = some (.int .i64 s.m2) := SC.cell 11
  have e12 : V.cell? ⟨g, 12, none⟩ = some (.int .i64 s.m3) := SC.cell 12
  clear SC
  go_wp2_with fail
  refine KCL.out.mono ?_
  rintro e W ⟨hb, AC, cC, rfl, hcC, hsC⟩
  simp only
  have HVW := Lib.hid hb
  have HSC := Lib.hid hsC
  clear hb hsC KCL e0 e1 e2 e3 e4 e5 e6 e7 e8 e9 e10 e11 e12
  have HFC := Lib.hid (clash_fact HBU.out HSD.out)
  have HHIT := Lib.hid (fun (i k : Nat) (hk : i + 1 + k < st.length) (a b : Stw) (ha : st.getD i default = a) (hb : st.getD (i + 1 + k) default = b) => And.intro (pair_hit HBU.out HSD.out hk ha hb) (pair_miss (s := s) (bs := bs) hk ha hb))
  have HEND := Lib.hid (pairs_end HBU.out HSD.out)
  have HROW := Lib.hid (fun (i : Nat) (hi : i < st.length) => row_end (s := s) (bs := bs) hi)
  have HMIN := Lib.hid (fun (x : Stw) (hx : x ∈ st) => HSD.out.mine HBU.out hx)
  have HTEN := Lib.hid (fun id => cls_lt HSD.out.cls id)
  have KCS := Lib.hid (fun (V' : World) (hV : Below V.heap.size V V') (id : Int) => class_any A1 q1 bs id V' (HW.out.on hV).bx (by omega))
  have KCD := Lib.hid (fun (V' : World) (hV : Below V.heap.size V V') (a b : Nat) (ha : a < 10) (hb : b < 10) => code_ok a b V' ha hb (HW.out.on hV).tb)
  have KNR := Lib.hid (fun (V' : World) (hV : Below V.heap.size V V') (a b : Slt) (code : Nat) (hc : code < 256) => near_any s h a b code V' (HW.out.on hV).rd HBU.out.short HBU.out.rows hc)
  have KCO := Lib.hid (fun (V' : World) (hV : Below V.heap.size V V') (a b : Slt) (code : Nat) (hc : code < 256) => close_any s h a b code V' (HW.out.on hV).rd HBU.out.short HBU.out.rows hc)
  have KAG := Lib.hid (fun (V' : World) (hV : Below V.heap.size V V') (x : Stw) (hx : x ∈ st) => (HW.out.on hV).against HBU.out HSD.out HQ3.out q1 x (HSD.out.found hx))
  unfold shpA at KNR KCO KAG
  have hAC : (clashF s bs st).length ≤ 144 := HCN
  obtain ⟨P, hP⟩ : ∃ P : Nat → Nat → Nat, P = fun i k => ((pairsTo default (gdsF bs st) i ++ (rowG default (gdsF bs st) i).take k).filterMap (clB s)).length := ⟨_, rfl⟩
  have HP0 : Hid (P 0 0 = 0) := Lib.hid (by rw [hP]; rfl)
  have HPR : Hid (∀ i, i < st.length → P i (st.length - (i + 1)) = P (i + 1) 0) := Lib.hid fun i hi => by
    rw [hP]
    simp only
    rw [HROW.out i hi]
    simp
  have HPE : Hid (P st.length 0 = (clashF s bs st).length) := Lib.hid (by rw [hP, ← HEND.out]; simp)
  have HPH : Hid (∀ (i k : Nat), i + 1 + k < st.length → ∀ (a b : Stw), st.getD i default = a → st.getD (i + 1 + k) default = b →
      (nearF s a.slot b.slot (Dg.tab (clsF bs a.box) (clsF bs b.box)) = true → P i k < (clashF s bs st).length ∧ (clashF s bs st).getD (P i k) default = ⟨a.box, b.box, Dg.tab (clsF bs a.box) (clsF bs b.box)⟩ ∧ P i (k + 1) = P i k + 1) ∧
      (nearF s a.slot b.slot (Dg.tab (clsF bs a.box) (clsF bs b.box)) = false → P i (k + 1) = P i k)) := Lib.hid fun i k hk a b ha hb => by
    have := HHIT.out i k hk a b ha hb
    rw [hP]
    exact this
  have HPB : Hid (∀ i k, i ≤ st.length → P i k ≤ 1000000) := Lib.hid fun i k hi => by
    rw [hP]
    simp only
    have h1 := fm_len (clB s) (pairsTo default (gdsF bs st) i ++ (rowG default (gdsF bs st) i).take k)
    have h2 := pairsTo_len default (gdsF bs st) i
    have h3 : ((rowG default (gdsF bs st) i).take k).length ≤ st.length := by
      rw [List.length_take, rowG_len, gds_len]; omega
    rw [gds_len] at h2
    have h4 : i * st.length ≤ 12 * 12 := Nat.mul_le_mul (by omega) hs12
    rw [List.length_append] at h1
    omega
  clear hP HHIT HEND HROW
  generalize clashF s bs st = all at *
  go_wp2_with fail
  go_loopw [14, 50] (fun n i wr => ∃ k : Nat, k ≤ st.length ∧ i = .int .i64 k ∧ n = .int .i64 (P k 0 : Nat) ∧ Hid (Below W.heap.size W wr)) (fun _ i _ => st.length - (intOf i).toNat)
  case atStart => exact ⟨0, Nat.zero_le _, rfl, by rw [HP0.out]; rfl, Lib.hid (Below.refl _ _)⟩
  case round =>
    obtain ⟨i, hi, rfl, rfl, HB⟩ := hrel
    obtain ⟨X, rfl⟩ : ∃ V, V = wr := ⟨_, rfl⟩
    have HVX := Lib.hid (HVW.out.trans (HB.out.mono HVW.out.size))
    by_cases hlt : i < st.length
    · obtain ⟨b, off, hAe, _, d0, d1, d2, d3⟩ := (HW.out.on HVX.out).sx.stw hlt
      subst hAe
      have j0 : (0 : Int) ≤ (i : Int) := by omega
      have j1 : (i : Int) < (st.length : Int) := by omega
      have hi1 : i + 1 ≤ st.length := hlt
      have HXD := Lib.hid (show ∃ x, st.getD i default = x from ⟨_, rfl⟩)
      obtain ⟨x, hx⟩ := HXD.out
      have HXE := Lib.hid hx
      rw [hx] at d0 d1 d2 d3
      clear HXD hx
      obtain ⟨xb, xc, xt, xh⟩ := x
      simp only at d0 d1 d2 d3
      have hbX := ba1 X (.cells #[.int .i64 xb, .int .i64 xc, .int .i64 xt, .int .u8 (xh : Nat)] 44)
      have HX := Lib.hid (Bk.new X 44 #[.int .i64 xb, .int .i64 xc, .int .i64 xt, .int .u8 (xh : Nat)])
      have HB1 := Lib.hid (HB.out.trans (hbX.mono HB.out.size))
      have HV1 := Lib.hid (HVX.out.trans (hbX.mono HVX.out.size))
      clear hbX HB HVX
      go_upto_region 11 with fail
      clear d0 d1 d2 d3
      generalize X.heap.size = gx at *
      generalize (X.alloc _) = U at *
      try clear X
      obtain ⟨AA, hAA⟩ : ∃ AA, (if q3 = i + 1 then (some ⟨b, off, none⟩ : Option Addr) else some ⟨b, off + (i + 1) * 4, none⟩) = AA := ⟨_, rfl⟩
      have HSB : Hid (∀ V' : World, Below V.heap.size V V' → SlT tStw V' (Lt V'.heap.size) AA (st.drop (i + 1))) := Lib.hid fun V' hV => by
        have h1 := (HW.out.on hV).sx.cut (c := q3) (j := i + 1) hlt HQ3.out
        have e : (if q3 = i + 1 then (some ⟨b, off, none⟩ : Option Addr) else Option.map (fun x : Addr => x.add ((i + 1) * tStw.k)) (some ⟨b, off, none⟩)) = AA := by
          rw [← hAA]
          split
          · rfl
          · simp [add_mk, tStw]
        rw [e] at h1
        exact h1
      have HDL : Hid ((st.drop (i + 1)).length = st.length - (i + 1)) := Lib.hid (by simp)
      have HDG : Hid (∀ k, (st.drop (i + 1)).getD k default = st.getD (i + 1 + k) default) := Lib.hid fun k => by simp [List.getD_eq_getElem?_getD]
      have hqc : i + 1 ≤ q3 := Nat.le_trans hlt HQ3.out
      have hq3 := HQ3.out
      have HPRI := Lib.hid (HPR.out i hlt)
      have HPHI := Lib.hid (fun k hk => HPH.out i k hk)
      have HPBI := Lib.hid (fun k => HPB.out i k hi)
      have HS0 := Lib.hid (show P i 0 = P i 0 from rfl)
      go_wp2_with fail
      clear hAA
      generalize hD : st.drop (i + 1) = D at *
      generalize hnD : st.length - (i + 1) = n at *
      have HND : Hid (D.length = n) := HDL
      have HNJ : Hid (i + 1 + n = st.length) := Lib.hid (by omega)
      have hn12 : n ≤ 12 := by omega
      clear hnD HDL hqc hq3 hD
      go_loopw [14, 60] (fun v k wr => ∃ j : Nat, j ≤ n ∧ k = .int .i64 j ∧ v = .int .i64 (P i j : Nat) ∧ Hid (Below U.heap.size U wr)) (fun _ k _ => n - (intOf k).toNat)
      case atStart => exact ⟨0, Nat.zero_le _, rfl, rfl, Lib.hid (Below.refl _ _)⟩
      case round =>
        obtain ⟨k, hk, rfl, rfl, HBK⟩ := hrel
        obtain ⟨Z, rfl⟩ : ∃ V, V = wr := ⟨_, rfl⟩
        have HVZ := Lib.hid (HV1.out.trans (HBK.out.mono HV1.out.size))
        by_cases hkn : k < n
        · obtain ⟨b2, off2, hA2, _, d0, d1, d2, d3⟩ := (HSB.out Z HVZ.out).stw (j := k) (by have := HND.out; omega)
          subst hA2
          have k0 : (0 : Int) ≤ (k : Int) := by omega
          have k1 : (k : Int) < (n : Int) := by omega
          have hk1 : k + 1 ≤ n := hkn
          have HG := HDG.out k
          have HPK := Lib.hid (HPHI.out k (by have := HNJ.out; omega) _ (D.getD k default) HXE.out HG.symm)
          have hpb := HPBI.out k
          clear HG
          generalize D.getD k default = y at *
          obtain ⟨yb, yc, yt, yh⟩ := y
          simp only at d0 d1 d2 d3 HPK
          have hbZ := ba1 Z (.cells #[.int .i64 yb, .int .i64 yc, .int .i64 yt, .int .u8 (yh : Nat)] 44)
          have HY := Lib.hid (Bk.new Z 44 #[.int .i64 yb, .int .i64 yc, .int .i64 yt, .int .u8 (yh : Nat)])
          have HBY := Lib.hid (HBK.out.trans (hbZ.mono HBK.out.size))
          have HVY := Lib.hid (HVZ.out.trans (hbZ.mono HVZ.out.size))
          clear hbZ HBK HVZ
          go_upto_region 14 with fail
          clear d0 d1 d2 d3
          generalize Z.heap.size = gy at *
          generalize (Z.alloc _) = Y at *
          try clear Z
          have hca := HTEN.out xb
          have hcb := HTEN.out yb
          have K1 := Lib.hid (fun (Q : World) (hQ : Below Y.heap.size Y Q) => KCS.out Q (HVY.out.trans (hQ.mono HVY.out.size)) xb)
          have K2 := Lib.hid (fun (Q : World) (hQ : Below Y.heap.size Y Q) => KCS.out Q (HVY.out.trans (hQ.mono HVY.out.size)) yb)
          have hcode : Dg.tab (clsF bs xb) (clsF bs yb) < 256 := tab_lt _ _
          have K3 : Hid (∀ Q : World, Below Y.heap.size Y Q → Calls Tryd.prog 29 #[.int .u8 (clsF bs xb : Nat), .int .u8 (clsF bs yb : Nat)] Q (Ret Q (.tuple #[.int .u8 (Dg.tab (clsF bs xb) (clsF bs yb) : Nat), .int .i64 0]))) := Lib.hid fun Q hQ =>
            (KCD.out Q (HVY.out.trans (hQ.mono HVY.out.size)) _ _ hca hcb).mono fun e w' ⟨h1, h2⟩ => ⟨h1, by rw [← h2]; exact Below.refl _ _⟩
          have K4 := Lib.hid (fun (Q : World) (hQ : Below Y.heap.size Y Q) => KNR.out Q (HVY.out.trans (hQ.mono HVY.out.size)) ⟨xc, xt, xh⟩ ⟨yc, yt, yh⟩ _ hcode)
          have K5 := Lib.hid (fun (Q : World) (hQ : Below Y.heap.size Y Q) => KCO.out Q (HVY.out.trans (hQ.mono HVY.out.size)) ⟨xc, xt, xh⟩ ⟨yc, yt, yh⟩ _ hcode)
          unfold sltL at K4 K5
          simp only at K4 K5
          generalize clsF bs xb = za at *
          generalize clsF bs yb = zb at *
          generalize Dg.tab za zb = code at *
          generalize nearF s ⟨xc, xt, xh⟩ ⟨yc, yt, yh⟩ code = near at *
          have HXY := Lib.hid (HX.out.below HBY.out HX.out.lt)
          have p0 : ∀ gp : Gr Y, gp.W.cell? ⟨gx, 0, none⟩ = some (.int .i64 xb) := Gr.cell (HXY.out.cell 0)
          have p1 : ∀ gp : Gr Y, gp.W.cell? ⟨gx, 1, none⟩ = some (.int .i64 xc) := Gr.cell (HXY.out.cell 1)
          have p2 : ∀ gp : Gr Y, gp.W.cell? ⟨gx, 2, none⟩ = some (.int .i64 xt) := Gr.cell (HXY.out.cell 2)
          have p3 : ∀ gp : Gr Y, gp.W.cell? ⟨gx, 3, none⟩ = some (.int .u8 (xh : Nat)) := Gr.cell (HXY.out.cell 3)
          have r0 : ∀ gp : Gr Y, gp.W.cell? ⟨gy, 0, none⟩ = some (.int .i64 yb) := Gr.cell (HY.out.cell 0)
          have r1 : ∀ gp : Gr Y, gp.W.cell? ⟨gy, 1, none⟩ = some (.int .i64 yc) := Gr.cell (HY.out.cell 1)
          have r2 : ∀ gp : Gr Y, gp.W.cell? ⟨gy, 2, none⟩ = some (.int .i64 yt) := Gr.cell (HY.out.cell 2)
          have r3 : ∀ gp : Gr Y, gp.W.cell? ⟨gy, 3, none⟩ = some (.int .u8 (yh : Nat)) := Gr.cell (HY.out.cell 3)
          refine wp_region_gr (by kernel_rfl) (by kernel_rfl) ?_
          repeat (go_big_quiet_step ((first | (with_reducible exact Gr.call _ (fun V hV => K1.out V hV)) | (with_reducible exact Gr.call _ (fun V hV => K2.out V hV)) | (with_reducible exact Gr.call _ (fun V hV => K3.out V hV)))))
          refine wpQuiet_nil ?_
          rintro Y2 ⟨⟨_, hbY⟩, rfl⟩
          have HY2 := Lib.hid hbY
          clear hbY K1 K2 K3 p0 p1 p2 p3 r0 r1 r2 r3
          have HVY2 := Lib.hid (HVY.out.trans (HY2.out.mono HVY.out.size))
          have HX2 := Lib.hid (HXY.out.below HY2.out HXY.out.lt)
          have HYY2 := Lib.hid (HY.out.below HY2.out HY.out.lt)
          have K6 := Lib.hid (fun (Q : World) (hQ : Below Y2.heap.size Y2 Q) => K4.out Q (HY2.out.trans (hQ.mono HY2.out.size)))
          have K7 := Lib.hid (fun (Q : World) (hQ : Below Y2.heap.size Y2 Q) => K5.out Q (HY2.out.trans (hQ.mono HY2.out.size)))
          have SC := (HW.out.on HVY2.out).bk
          have p0 : ∀ gp : Gr Y2, gp.W.cell? ⟨gx, 0, none⟩ = some (.int .i64 xb) := Gr.cell (HX2.out.cell 0)
          have p1 : ∀ gp : Gr Y2, gp.W.cell? ⟨gx, 1, none⟩ = some (.int .i64 xc) := Gr.cell (HX2.out.cell 1)
          have p2 : ∀ gp : Gr Y2, gp.W.cell? ⟨gx, 2, none⟩ = some (.int .i64 xt) := Gr.cell (HX2.out.cell 2)
          have p3 : ∀ gp : Gr Y2, gp.W.cell? ⟨gx, 3, none⟩ = some (.int .u8 (xh : Nat)) := Gr.cell (HX2.out.cell 3)
          have r0 : ∀ gp : Gr Y2, gp.W.cell? ⟨gy, 0, none⟩ = some (.int .i64 yb) := Gr.cell (HYY2.out.cell 0)
          have r1 : ∀ gp : Gr Y2, gp.W.cell? ⟨gy, 1, none⟩ = some (.int .i64 yc) := Gr.cell (HYY2.out.cell 1)
          have r2 : ∀ gp : Gr Y2, gp.W.cell? ⟨gy, 2, none⟩ = some (.int .i64 yt) := Gr.cell (HYY2.out.cell 2)
          have r3 : ∀ gp : Gr Y2, gp.W.cell? ⟨gy, 3, none⟩ = some (.int .u8 (yh : Nat)) := Gr.cell (HYY2.out.cell 3)
          have e0 : ∀ gp : Gr Y2, gp.W.cell? ⟨g, 0, none⟩ = some (Value.slice h.A1 s.cols.length h.c1) := Gr.cell (SC.cell 0)
          have e1 : ∀ gp : Gr Y2, gp.W.cell? ⟨g, 1, none⟩ = some (Value.slice h.A2 s.covs.length h.c2) := Gr.cell (SC.cell 1)
          have e2 : ∀ gp : Gr Y2, gp.W.cell? ⟨g, 2, none⟩ = some (.int .i64 s.l0) := Gr.cell (SC.cell 2)
          have e3 : ∀ gp : Gr Y2, gp.W.cell? ⟨g, 3, none⟩ = some (.int .i64 s.l1) := Gr.cell (SC.cell 3)
          have e4 : ∀ gp : Gr Y2, gp.W.cell? ⟨g, 4, none⟩ = some (.int .i64 s.l2) := Gr.cell (SC.cell 4)
          have e5 : ∀ gp : Gr Y2, gp.W.cell? ⟨g, 5, none⟩ = some (.int .i64 s.l3) := Gr.cell (SC.cell 5)
          have e6 : ∀ gp : Gr Y2, gp.W.cell? ⟨g, 6, none⟩ = some (Value.slice h.A3 s.rows.length h.c3) := Gr.cell (SC.cell 6)
          have e7 : ∀ gp : Gr Y2, gp.W.cell? ⟨g, 7, none⟩ = some (Value.slice h.A4 s.frames.length h.c4) := Gr.cell (SC.cell 7)
          have e8 : ∀ gp : Gr Y2, gp.W.cell? ⟨g, 8, none⟩ = some (Value.slice h.A5 s.tanks.length h.c5) := Gr.cell (SC.cell 8)
          have e9 : ∀ gp : Gr Y2, gp.W.cell? ⟨g, 9, none⟩ = some (.int .i64 s.m0) := Gr.cell (SC.cell 9)
          have e10 : ∀ gp : Gr Y2, gp.W.cell? ⟨g, 10, none⟩ = some (.int .i64 s.m1) := Gr.cell (SC.cell 10)
          have e11 : ∀ gp : Gr Y2, gp.W.cell? ⟨g, 11, none⟩ = some (.int .i64 s.m2) := Gr.cell (SC.cell 11)
          have e12 : ∀ gp : Gr Y2, gp.W.cell? ⟨g, 12, none⟩ = some (.int .i64 s.m3) := Gr.cell (SC.cell 12)
          clear SC
          have hnb : (near != near) = false := by simp
          go_upto_region 15 with fail
          refine wp_region_gr (by kernel_rfl) (by kernel_rfl) ?_
          repeat (go_big_quiet_step ((first | (with_reducible exact Gr.call _ (fun V hV => K6.out V hV)) | (with_reducible exact Gr.call _ (fun V hV => K7.out V hV)))))
          refine wpQuiet_nil ?_
          rintro Y3 ⟨⟨_, hbY⟩, rfl⟩
          have HY3 := Lib.hid hbY
          clear hbY e0 e1 e2 e3 e4 e5 e6 e7 e8 e9 e10 e11 e12 p0 p1 p2 p3 r0 r1 r2 r3
          have HVY3 := Lib.hid (HVY2.out.trans (HY3.out.mono HVY2.out.size))
          have HX3 := Lib.hid (HX2.out.below HY3.out HX2.out.lt)
          have HYY3 := Lib.hid (HYY2.out.below HY3.out HYY2.out.lt)
          have K8 := Lib.hid (K7.out Y3 HY3.out)
          have SC := (HW.out.on HVY3.out).bk
          have u0 : Y3.cell? ⟨gx, 0, none⟩ = some (.int .i64 xb) := HX3.out.cell 0
          have u1 : Y3.cell? ⟨gx, 1, none⟩ = some (.int .i64 xc) := HX3.out.cell 1
          have u2 : Y3.cell? ⟨gx, 2, none⟩ = some (.int .i64 xt) := HX3.out.cell 2
          have u3 : Y3.cell? ⟨gx, 3, none⟩ = some (.int .u8 (xh : Nat)) := HX3.out.cell 3
          have v0 : Y3.cell? ⟨gy, 0, none⟩ = some (.int .i64 yb) := HYY3.out.cell 0
          have v1 : Y3.cell? ⟨gy, 1, none⟩ = some (.int .i64 yc) := HYY3.out.cell 1
          have v2 : Y3.cell? ⟨gy, 2, none⟩ = some (.int .i64 yt) := HYY3.out.cell 2
          have v3 : Y3.cell? ⟨gy, 3, none⟩ = some (.int .u8 (yh : Nat)) := HYY3.out.cell 3
          have e0 : Y3.cell? ⟨g, 0, none⟩ = some (Value.slice h.A1 s.cols.length h.c1) := SC.cell 0
          have e1 : Y3.cell? ⟨g, 1, none⟩ = some (Value.slice h.A2 s.covs.length h.c2) := SC.cell 1
          have e2 : Y3.cell? ⟨g, 2, none⟩ = some (.int .i64 s.l0) := SC.cell 2
          have e3 : Y3.cell? ⟨g, 3, none⟩ = some (.int .i64 s.l1) := SC.cell 3
          have e4 : Y3.cell? ⟨g, 4, none⟩ = some (.int .i64 s.l2) := SC.cell 4
          have e5 : Y3.cell? ⟨g, 5, none⟩ = some (.int .i64 s.l3) := SC.cell 5
          have e6 : Y3.cell? ⟨g, 6, none⟩ = some (Value.slice h.A3 s.rows.length h.c3) := SC.cell 6
          have e7 : Y3.cell? ⟨g, 7, none⟩ = some (Value.slice h.A4 s.frames.length h.c4) := SC.cell 7
          have e8 : Y3.cell? ⟨g, 8, none⟩ = some (Value.slice h.A5 s.tanks.length h.c5) := SC.cell 8
          have e9 : Y3.cell? ⟨g, 9, none⟩ = some (.int .i64 s.m0) := SC.cell 9
          have e10 : Y3.cell? ⟨g, 10, none⟩ = some (.int .i64 s.m1) := SC.cell 10
          have e11 : Y3.cell? ⟨g, 11, none⟩ = some (.int .i64 s.m2) := SC.cell 11
          have e12 : Y3.cell? ⟨g, 12, none⟩ = some (.int .i64 s.m3) := SC.cell 12
          clear SC K4 K5 K6 K7 HXY HY HX2 HYY2
          go_wp2_with fail
          refine K8.out.mono ?_
          rintro e Y4 ⟨rfl, hb⟩
          simp only
          have HB4 := Lib.hid (HBY.out.trans ((HY2.out.trans ((HY3.out.trans (hb.mono HY3.out.size)).mono HY2.out.size)).mono HBY.out.size))
          have HX4 := Lib.hid (HX3.out.below hb HX3.out.lt)
          have HY4 := Lib.hid (HYY3.out.below hb HYY3.out.lt)
          clear hb K8 e0 e1 e2 e3 e4 e5 e6 e7 e8 e9 e10 e11 e12 u0 u1 u2 u3 v0 v1 v2 v3 HX3 HYY3 HVY2 HVY3 HY2 HY3 HVY HBY
          try clear Y3
          try clear Y2
          try clear Y
          cases near with
          | false =>
            have HPN := Lib.hid (HPK.out.2 (by first | rfl | trivial))
            clear HPK
            go_wp2_with fail
            go_roundw
            case rel => (first | exact ⟨k + 1, hk1, by go_num, by first | (rw [HPN.out]; simp; done) | rw [HPN.out], HB4⟩ | ((repeat apply Exists.intro); (first | exact ⟨⟨k + 1, hk1, by go_num, by first | (rw [HPN.out]; simp; done) | rw [HPN.out], HB4⟩, rfl⟩ | exact ⟨hk1, by go_num, by first | (rw [HPN.out]; simp; done) | rw [HPN.out], HB4⟩)))
            case measure => simp [intOf]; omega
          | true =>
            obtain ⟨hpl, hpa, hps⟩ := HPK.out.1 (by first | rfl | trivial)
            have HPN := Lib.hid hps
            have HPA := Lib.hid hpa
            clear HPK hps hpa
            have HSZ := Lib.hid (HSC.out.on (HB1.out.trans (HB4.out.mono HB1.out.size)))
            generalize P i k = m at *
            obtain ⟨b5, off5, rfl, _, f0, f1, f2⟩ := HSZ.out.cl hpl
            rw [HPA.out] at f0 f1 f2
            simp only at f0 f1 f2
            have m0 : (0 : Int) ≤ (m : Int) := by omega
            have m1 : (m : Int) < (all.length : Int) := by omega
            have hge : decide ((all.length : Int) ≤ (m : Int)) = false := decide_eq_false (by omega)
            have hge2 : decide (all.length ≤ m) = false := decide_eq_false (by omega)
            have hrun := run_neq_cl xb yb code
            go_upto_region 18 with fail
            have p0 : ∀ gp : Gr Y4, gp.W.cell? ⟨b5, off5 + m * 3, none⟩ = some (.int .i64 xb) := Gr.cell f0
            have p1 : ∀ gp : Gr Y4, gp.W.cell? ⟨b5, off5 + m * 3 + 1, none⟩ = some (.int .i64 yb) := Gr.cell f1
            have p2 : ∀ gp : Gr Y4, gp.W.cell? ⟨b5, off5 + m * 3 + 2, none⟩ = some (.int .u8 (code : Nat)) := Gr.cell f2
            have r0 : ∀ gp : Gr Y4, gp.W.cell? ⟨gx, 0, none⟩ = some (.int .i64 xb) := Gr.cell (HX4.out.cell 0)
            have r1 : ∀ gp : Gr Y4, gp.W.cell? ⟨gy, 0, none⟩ = some (.int .i64 yb) := Gr.cell (HY4.out.cell 0)
            refine wp_region_gr (by kernel_rfl) (by kernel_rfl) ?_
            repeat (go_big_quiet_step (fail))
            refine wpQuiet_nil ?_
            rintro Y5 ⟨⟨_, hbY⟩, rfl⟩
            have HB5 := Lib.hid (HB4.out.trans (hbY.mono HB4.out.size))
            clear p0 p1 p2 r0 r1 hbY hrun f0 f1 f2 HB4
            have HB4 := HB5
            clear HB5 HSZ HPA
            go_wp2_with fail
            go_roundw
            case rel => (first | exact ⟨k + 1, hk1, by go_num, by first | (rw [HPN.out]; simp; done) | rw [HPN.out], HB4⟩ | ((repeat apply Exists.intro); (first | exact ⟨⟨k + 1, hk1, by go_num, by first | (rw [HPN.out]; simp; done) | rw [HPN.out], HB4⟩, rfl⟩ | exact ⟨hk1, by go_num, by first | (rw [HPN.out]; simp; done) | rw [HPN.out], HB4⟩)))
            case measure => simp [intOf]; omega
        · obtain rfl : k = n := by omega
          have HBN := Lib.hid (HB1.out.trans (HBK.out.mono HB1.out.size))
          rw [HPRI.out]
          go_wp2_with fail
          go_roundw
          case rel => (first | exact ⟨i + 1, hi1, by go_num, rfl, HBN⟩ | ((repeat apply Exists.intro); (first | exact ⟨⟨i + 1, hi1, by go_num, rfl, HBN⟩, rfl⟩ | exact ⟨hi1, by go_num, rfl, HBN⟩)))
          case measure => simp [intOf]; omega
    · obtain rfl : i = st.length := by omega
      have HBW := Lib.hid HB.out
      rw [HPE.out]
      clear HB hlt hi HPH HPR HPB HP0 HPE
      go_wp2_with fail
      go_loopw [126] (fun i wr => ∃ k : Nat, k ≤ st.length ∧ i = .int .i64 k ∧ Hid (Below X.heap.size X wr)) (fun i _ => st.length - (intOf i).toNat)
      case atStart => exact ⟨0, Nat.zero_le _, rfl, Lib.hid (Below.refl _ _)⟩
      case round =>
        obtain ⟨a, ha, rfl, HB⟩ := hrel
        obtain ⟨U0, rfl⟩ : ∃ V, V = wr := ⟨_, rfl⟩
        have HVU := Lib.hid (HVX.out.trans (HB.out.mono HVX.out.size))
        by_cases hlt : a < st.length
        · obtain ⟨b, off, hAe, _, d0, d1, d2, d3⟩ := (HW.out.on HVU.out).sx.stw hlt
          subst hAe
          have HMX := Lib.hid (getD_memD hlt default)
          have HMI := Lib.hid (HMIN.out _ HMX.out)
          have j0 : (0 : Int) ≤ (a : Int) := by omega
          have j1 : (a : Int) < (st.length : Int) := by omega
          have ha1 : a + 1 ≤ st.length := hlt
          generalize st.getD a default = x at *
          have KA1 := Lib.hid (fun (V' : World) (hV : Below V.heap.size V V') => KAG.out V' hV x HMX.out)
          rw [HMI.out] at KA1
          clear HMI HMX
          obtain ⟨xb, xc, xt, xh⟩ := x
          unfold stwL at KA1
          simp only at d0 d1 d2 d3 KA1
          have hbX := ba1 U0 (.cells #[.int .i64 xb, .int .i64 xc, .int .i64 xt, .int .u8 (xh : Nat)] 44)
          have HX := Lib.hid (Bk.new U0 44 #[.int .i64 xb, .int .i64 xc, .int .i64 xt, .int .u8 (xh : Nat)])
          have HBY := Lib.hid (HB.out.trans (hbX.mono HB.out.size))
          have HVY := Lib.hid (HVU.out.trans (hbX.mono HVU.out.size))
          clear hbX HB HVU
          go_upto_region 26 with fail
          clear d0 d1 d2 d3
          generalize U0.heap.size = gx at *
          generalize (U0.alloc _) = Z at *
          try clear U0
          have HSZ := Lib.hid (HSC.out.on (HBW.out.trans (HBY.out.mono HBW.out.size)))
          have HML := Lib.hid (mine_len xb)
          have HMS := Lib.hid (fun k hk => mine_succ xb all (k := k) hk)
          go_wp2_with fail
          go_loopw [23, 132] (fun v i wr => ∃ (k : Nat) (m : List Int), k ≤ all.length ∧ i = .int .i64 k ∧ m.length ≤ 1000 ∧ Hid (m = mineF xb (all.take k)) ∧ Hid (OwnT tInt 3 wr Z.heap.size v m) ∧ Hid (Below Z.heap.size Z wr)) (fun _ i _ => all.length - (intOf i).toNat)
          case atStart => exact ⟨0, [], Nat.zero_le _, rfl, by simp, Lib.hid rfl, Lib.hid OwnT.nil, Lib.hid (Below.refl _ _)⟩
          case round =>
            obtain ⟨k, m, hk, rfl, hm, HM, HO, HBK⟩ := hrel
            obtain ⟨Q, rfl⟩ : ∃ V, V = wr := ⟨_, rfl⟩
            by_cases hlt2 : k < all.length
            · obtain ⟨b5, off5, rfl, _, d0, d1, d2⟩ := (HSZ.out.on HBK.out).cl hlt2
              have HMK := Lib.hid (HMS.out k hlt2)
              have HMN : Hid ((mineF xb (all.take (k + 1))).length ≤ 1000) := Lib.hid (by
                have h1 := HML.out (all.take (k + 1))
                have h2 := List.length_take_le (k + 1) all
                have h3 : (all.take (k + 1)).length ≤ all.length := by rw [List.length_take]; omega
                omega)
              have HF := Lib.hid (HFC.out _ (getD_memD hlt2 default))
              have k0 : (0 : Int) ≤ (k : Int) := by omega
              have k1 : (k : Int) < (all.length : Int) := by omega
              have hk1 : k + 1 ≤ all.length := hlt2
              generalize all.getD k default = c0 at *
              obtain ⟨ca, cb, cc⟩ := c0
              simp only at d0 d1 d2 HMK HF
              have hab := HF.out.2.2.1
              have hbQ := ba1 Q (.cells #[.int .i64 ca, .int .i64 cb, .int .u8 (cc : Nat)] 73)
              have HC := Lib.hid (Bk.new Q 73 #[.int .i64 ca, .int .i64 cb, .int .u8 (cc : Nat)])
              have HB1 := Lib.hid (HBK.out.trans (hbQ.mono HBK.out.size))
              have HO1 := Lib.hid (HO.out.below hbQ)
              clear hbQ HBK HO HF
              go_upto_region 30 with fail
              clear d0 d1 d2
              generalize Q.heap.size = gc at *
              generalize (Q.alloc _) = U at *
              try clear Q
              have y0 : U.cell? ⟨gc, 0, none⟩ = some (.int .i64 ca) := HC.out.cell 0
              have y1 : U.cell? ⟨gc, 1, none⟩ = some (.int .i64 cb) := HC.out.cell 1
              have x0 : U.cell? ⟨gx, 0, none⟩ = some (.int .i64 xb) := (HX.out.below HB1.out HX.out.lt).cell 0
              cases hca : (ca == xb) with
              | true =>
                have hcb : (cb == xb) = false := by
                  have h1 : ca = xb := by simpa using hca
                  simp
                  omega
                have HM2 : Hid (m ++ [cb] = mineF xb (all.take (k + 1))) := Lib.hid (by rw [HMK.out, hca, hcb, HM.out]; simp)
                have HL2 : (m ++ [cb]).length ≤ 1000 := by rw [HM2.out]; exact HMN.out
                obtain ⟨ys, ho, hfl⟩ := HO1.out
                have hb5s := HB1.out.size
                clear HMK HMN HM hab
                go_wp2_with (at_builtin; (refine wpList_append1 el_int rfl (.tmp 141) (.tmp 144) rfl Z.heap.size _ m.length ys rfl ho #[.int .i64 cb] _ rfl rfl rfl ?c1 ?c2 ?c3 ?_))
                case c1 => unfold maxLen; omega
                case c2 => omega
                case c3 => omega
                intro v' w3 hown' hgr hd3 hbel
                have HBF := Lib.hid (HB1.out.trans hbel)
                have HOF := Lib.hid (OwnT.int1 hfl hown' hgr hd3)
                have y1' : w3.cell? ⟨gc, 1, none⟩ = some (.int .i64 cb) := (HC.out.grown hgr (fun e => own_ne ho HC.out (by decide) e.symm)).cell 1
                have x0' : w3.cell? ⟨gx, 0, none⟩ = some (.int .i64 xb) := (HX.out.below HBF.out HX.out.lt).cell 0
                clear hown' hgr hd3 hbel hfl ho y0 y1 x0 HC
                go_wp2_with fail
                go_roundw
                case rel => (first | exact ⟨k + 1, m ++ [cb], hk1, by go_num, HL2, HM2, HOF, HBF⟩ | ((repeat apply Exists.intro); (first | exact ⟨⟨k + 1, m ++ [cb], hk1, by go_num, HL2, HM2, HOF, HBF⟩, rfl⟩ | exact ⟨hk1, by go_num, HL2, HM2, HOF, HBF⟩)))
                case measure => simp [intOf]; omega
              | false =>
                cases hcb : (cb == xb) with
                | true =>
                  have HM2 : Hid (m ++ [ca] = mineF xb (all.take (k + 1))) := Lib.hid (by rw [HMK.out, hca, hcb, HM.out]; simp)
                  have HL2 : (m ++ [ca]).length ≤ 1000 := by rw [HM2.out]; exact HMN.out
                  obtain ⟨ys, ho, hfl⟩ := HO1.out
                  have hb5s := HB1.out.size
                  clear HMK HMN HM hab
                  go_wp2_with (at_builtin; (refine wpList_append1 el_int rfl (.tmp 151) (.tmp 154) rfl Z.heap.size _ m.length ys rfl ho #[.int .i64 ca] _ rfl rfl rfl ?c4 ?c5 ?c6 ?_))
                  case c4 => unfold maxLen; omega
                  case c5 => omega
                  case c6 => omega
                  intro v' w3 hown' hgr hd3 hbel
                  have HBF := Lib.hid (HB1.out.trans hbel)
                  have HOF := Lib.hid (OwnT.int1 hfl hown' hgr hd3)
                  clear hown' hgr hd3 hbel hfl ho y0 y1 x0 HC
                  go_wp2
                  go_roundw
                  case rel => (first | exact ⟨k + 1, m ++ [ca], hk1, by go_num, HL2, HM2, HOF, HBF⟩ | ((repeat apply Exists.intro); (first | exact ⟨⟨k + 1, m ++ [ca], hk1, by go_num, HL2, HM2, HOF, HBF⟩, rfl⟩ | exact ⟨hk1, by go_num, HL2, HM2, HOF, HBF⟩)))
                  case measure => simp [intOf]; omega
                | false =>
                  have HM2 : Hid (m = mineF xb (all.take (k + 1))) := Lib.hid (by rw [HMK.out, hca, hcb, HM.out]; simp)
                  clear HMK HMN HM hab HC
                  go_wp2_with fail
                  go_roundw
                  case rel => (first | exact ⟨k + 1, m, hk1, by go_num, hm, HM2, HO1, HB1⟩ | ((repeat apply Exists.intro); (first | exact ⟨⟨k + 1, m, hk1, by go_num, hm, HM2, HO1, HB1⟩, rfl⟩ | exact ⟨hk1, by go_num, hm, HM2, HO1, HB1⟩)))
                  case measure => simp [intOf]; omega
            · obtain rfl : k = all.length := by omega
              have hmL : m = mineF xb all := by rw [HM.out, List.take_length]
              rw [← hmL] at KA1
              clear hmL HM hlt2 hk HMS HML HSZ
              obtain ⟨A6, c6, rfl, _, _, hs6⟩ := HO.out.sl
              have HS6 := Lib.hid hs6
              have HVQ := Lib.hid (HVY.out.trans (HBK.out.mono HVY.out.size))
              have KA2 := Lib.hid (KA1.out Q HVQ.out)
              have SC := (HW.out.on HVQ.out).bk
              have SX := HX.out.below HBK.out HX.out.lt
              have e0 : Q.cell? ⟨g, 0, none⟩ = some (Value.slice h.A1 s.cols.length h.c1) := SC.cell 0
              have e1 : Q.cell? ⟨g, 1, none⟩ = some (Value.slice h.A2 s.covs.length h.c2) := SC.cell 1
              have e2 : Q.cell? ⟨g, 2, none⟩ = some (.int .i64 s.l0) := SC.cell 2
              have e3 : Q.cell? ⟨g, 3, none⟩ = some (.int .i64 s.l1) := SC.cell 3
              have e4 : Q.cell? ⟨g, 4, none⟩ = some (.int .i64 s.l2) := SC.cell 4
              have e5 : Q.cell? ⟨g, 5, none⟩ = some (.int .i64 s.l3) := SC.cell 5
              have e6 : Q.cell? ⟨g, 6, none⟩ = some (Value.slice h.A3 s.rows.length h.c3) := SC.cell 6
              have e7 : Q.cell? ⟨g, 7, none⟩ = some (Value.slice h.A4 s.frames.length h.c4) := SC.cell 7
              have e8 : Q.cell? ⟨g, 8, none⟩ = some (Value.slice h.A5 s.tanks.length h.c5) := SC.cell 8
              have e9 : Q.cell? ⟨g, 9, none⟩ = some (.int .i64 s.m0) := SC.cell 9
              have e10 : Q.cell? ⟨g, 10, none⟩ = some (.int .i64 s.m1) := SC.cell 10
              have e11 : Q.cell? ⟨g, 11, none⟩ = some (.int .i64 s.m2) := SC.cell 11
              have e12 : Q.cell? ⟨g, 12, none⟩ = some (.int .i64 s.m3) := SC.cell 12
              have x0 : Q.cell? ⟨gx, 0, none⟩ = some (.int .i64 xb) := SX.cell 0
              have x1 : Q.cell? ⟨gx, 1, none⟩ = some (.int .i64 xc) := SX.cell 1
              have x2 : Q.cell? ⟨gx, 2, none⟩ = some (.int .i64 xt) := SX.cell 2
              have x3 : Q.cell? ⟨gx, 3, none⟩ = some (.int .u8 (xh : Nat)) := SX.cell 3
              clear SC SX hs6 HO KA1
              go_wp2_with fail
              refine KA2.out.mono ?_
              rintro e Q2 ⟨hb, A7, c7, rfl, _, hs7⟩
              simp only
              have HBE := Lib.hid (HBY.out.trans ((HBK.out.trans (hb.mono HBK.out.size)).mono HBY.out.size))
              have KSM := Lib.hid (sameInts_any A7 A6 c7 c6 m m _ _ Q2 hs7 (HS6.out.on hb) (by unfold maxLen; omega))
              clear hb hs7 KA2 e0 e1 e2 e3 e4 e5 e6 e7 e8 e9 e10 e11 e12 x0 x1 x2 x3
              rw [decide_eq_true rfl] at KSM
              go_wp2_with fail
              refine KSM.out.mono ?_
              rintro e Q3 ⟨rfl, mm, rfl⟩
              simp only
              have HBN := Lib.hid (HBE.out.trans ((drew_below Q2 mm).mono HBE.out.size))
              generalize (Q2.drewN mm) = Q4 at *
              clear KSM HBE
              go_wp2_with fail
              go_roundw
              case rel => (first | exact ⟨a + 1, ha1, by go_num, HBN⟩ | ((repeat apply Exists.intro); (first | exact ⟨⟨a + 1, ha1, by go_num, HBN⟩, rfl⟩ | exact ⟨ha1, by go_num, HBN⟩)))
              case measure => simp [intOf]; omega
        · obtain rfl : a = st.length := by omega
          have HE := Lib.hid ((HW.out.on HVU.out).be)
          go_wp2_with fail
          go_ret
          exact ⟨rfl, HE.out⟩
end Go.Proofs.YtnbpecnddjpfbaaDoor
