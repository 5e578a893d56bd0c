/-
  The walk of the statement SlotNames.
-/
import Derived.Test.YtpmhchbkhohmjaaDoorFw8
import Derived.Test.YtpmhchbkhohmjaaDoorOpW
import Derived.Test.YtpmhchbkhohmjaaDoorKpE
import Derived.Test.YtpmhchbkhohmjaaDoorRnF
namespace Go.Proofs.YtpmhchbkhohmjaaDoor
open Go.RowKit

set_option maxRecDepth 100000 in
set_option maxHeartbeats 8000000 in
theorem slotNames_any (s : Shp) (h : Hd) (x : Slt) (nm : ByteArray) (w : World) (hs : ShpR w (Lt w.heap.size) s h) (hi : InS s) (hnl : nm.size ≤ 9223372036854775807) (hq : QuarOK w) :
    Calls Tryd.prog 3 #[.agg (shpA s h), .agg (sltL x).toArray, .string nm] w (TrueRet w) := by
  obtain ⟨xc, xt, xh⟩ := x
  have hb0 := ba2 w (.cells (shpA s h) 32) (.cells #[.int .i64 xc, .int .i64 xt, .int .u8 (xh : Nat)] 34)
  have KE := Lib.hid ((Bk.new w 32 (shpA s h)).alloc (.cells #[.int .i64 xc, .int .i64 xt, .int .u8 (xh : Nat)] 34))
  have KX := Lib.hid (Bk.nxt8 (w := w) (.cells (shpA s h) 32) 34 #[.int .i64 xc, .int .i64 xt, .int .u8 (xh : Nat)])
  have HS := Lib.hid (hs.on hb0)
  have KF := Lib.hid (few8_any s h _ (hs.on hb0))
  have HB0 := Lib.hid hb0
  have HI := Lib.hid hi
  have HQ := Lib.hid hq
  clear hs hb0 hi hq
  unfold shpA sltL at *
  simp only at *
  go_enter Tryd.func3, Tryd.ntmps3
  go_upto_region 1 with fail
  generalize hW : ((w.alloc _).alloc _) = W at *
  clear hW
  have e0 : W.cell? ⟨w.heap.size, 0, none⟩ = some (Value.slice h.A1 s.cols.length h.c1) := KE.out.cell 0
  have e1 : W.cell? ⟨w.heap.size, 1, none⟩ = some (Value.slice h.A2 s.covs.length h.c2) := KE.out.cell 1
  have e2 : W.cell? ⟨w.heap.size, 2, none⟩ = some (.int .i64 s.l0) := KE.out.cell 2
  have e3 : W.cell? ⟨w.heap.size, 3, none⟩ = some (.int .i64 s.l1) := KE.out.cell 3
  have e4 : W.cell? ⟨w.heap.size, 4, none⟩ = some (.int .i64 s.l2) := KE.out.cell 4
  have e5 : W.cell? ⟨w.heap.size, 5, none⟩ = some (.int .i64 s.l3) := KE.out.cell 5
  have e6 : W.cell? ⟨w.heap.size, 6, none⟩ = some (.slice h.A3 s.rows.length h.c3) := KE.out.cell 6
  have e7 : W.cell? ⟨w.heap.size, 7, none⟩ = some (.slice h.A4 s.frames.length h.c4) := KE.out.cell 7
  have e8 : W.cell? ⟨w.heap.size, 8, none⟩ = some (.slice h.A5 s.tanks.length h.c5) := KE.out.cell 8
  have e9 : W.cell? ⟨w.heap.size, 9, none⟩ = some (.int .i64 s.m0) := KE.out.cell 9
  have e10 : W.cell? ⟨w.heap.size, 10, none⟩ = some (.int .i64 s.m1) := KE.out.cell 10
  have e11 : W.cell? ⟨w.heap.size, 11, none⟩ = some (.int .i64 s.m2) := KE.out.cell 11
  have e12 : W.cell? ⟨w.heap.size, 12, none⟩ = some (.int .i64 s.m3) := KE.out.cell 12
  go_wp2_with fail
  refine KF.out.mono ?_
  rintro e V ⟨fb, rfl, hf, hb⟩
  simp only
  clear KF e0 e1 e2 e3 e4 e5 e6 e7 e8 e9 e10 e11 e12
  have HBV := Lib.hid hb
  clear hb
  cases fb with
  | false =>
    have HE := Lib.hid (HB0.out.trans (HBV.out.mono HB0.out.size))
    clear hf
    have HQW := Lib.hid (HQ.out.below HE.out)
    go_wp2_with fail
    refine (awake08_true _ HQW.out).mono ?_
    rintro e Z ⟨rfl, hz⟩
    simp only
    go_wp2_with fail
    go_ret
    exact ⟨rfl, HE.out.trans (hz.mono HE.out.size)⟩
  | true =>
    have HP := Lib.hid (hf.1 rfl)
    clear hf
    have HFL : Hid (FewL s) := Lib.hid ⟨by have := HP.out.cols; omega, by have := HP.out.covs; omega, HI.out.rows, HI.out.frames, HI.out.tanks, HI.out.plugs, HI.out.hrows, HI.out.steps⟩
    have HF : Hid (Few s) := Lib.hid ⟨by have := HP.out.cols; omega, by have := HP.out.covs; omega, fun x hx => by have := HP.out.rows x hx; omega, fun c hc => by have := (HP.out.plugs c hc).1; omega⟩
    have HTN : Hid (∀ c, tiersN s c ≤ 12) := Lib.hid fun c => by
      unfold tiersN
      by_cases hc : c < s.cols.length
      · have := (HP.out.plugs _ (getD_memD hc default)).2
        omega
      · rw [List.getD_eq_getElem?_getD, List.getElem?_eq_none (by omega)]
        decide
    have hcl := HP.out.cols
    have KL := Lib.hid (lentShip_any s h V (HS.out.on HBV.out) HFL.out)
    have KV := Lib.hid (KE.out.below HBV.out KE.out.lt)
    unfold shpA at KL
    have e0 : V.cell? ⟨w.heap.size, 0, none⟩ = some (Value.slice h.A1 s.cols.length h.c1) := KV.out.cell 0
    have e1 : V.cell? ⟨w.heap.size, 1, none⟩ = some (Value.slice h.A2 s.covs.length h.c2) := KV.out.cell 1
    have e2 : V.cell? ⟨w.heap.size, 2, none⟩ = some (.int .i64 s.l0) := KV.out.cell 2
    have e3 : V.cell? ⟨w.heap.size, 3, none⟩ = some (.int .i64 s.l1) := KV.out.cell 3
    have e4 : V.cell? ⟨w.heap.size, 4, none⟩ = some (.int .i64 s.l2) := KV.out.cell 4
    have e5 : V.cell? ⟨w.heap.size, 5, none⟩ = some (.int .i64 s.l3) := KV.out.cell 5
    have e6 : V.cell? ⟨w.heap.size, 6, none⟩ = some (.slice h.A3 s.rows.length h.c3) := KV.out.cell 6
    have e7 : V.cell? ⟨w.heap.size, 7, none⟩ = some (.slice h.A4 s.frames.length h.c4) := KV.out.cell 7
    have e8 : V.cell? ⟨w.heap.size, 8, none⟩ = some (.slice h.A5 s.tanks.length h.c5) := KV.out.cell 8
    have e9 : V.cell? ⟨w.heap.size, 9, none⟩ = some (.int .i64 s.m0) := KV.out.cell 9
    have e10 : V.cell? ⟨w.heap.size, 10, none⟩ = some (.int .i64 s.m1) := KV.out.cell 10
    have e11 : V.cell? ⟨w.heap.size, 11, none⟩ = some (.int .i64 s.m2) := KV.out.cell 11
    have e12 : V.cell? ⟨w.heap.size, 12, none⟩ = some (.int .i64 s.m3) := KV.out.cell 12
    go_wp2_with fail
    refine KL.out.mono ?_
    rintro e V2 ⟨hb, h', B1, rfl, hl⟩
    simp only
    clear KL KV e0 e1 e2 e3 e4 e5 e6 e7 e8 e9 e10 e11 e12
    have hba := ba1 V2 (.cells (shpA s h') 32)
    have HB3 := Lib.hid (HBV.out.trans ((hb.trans (hba.mono hb.size)).mono HBV.out.size))
    have KT := Lib.hid (Bk.new V2 32 (shpA s h'))
    have HL := Lib.hid (hl.on hba)
    clear hba hb hl HBV
    unfold shpA at HB3 KT HL
    go_upto_region 4 with fail
    generalize V2.heap.size = gt at *
    generalize (V2.alloc _) = X at *
    try clear V2
    generalize V.heap.size + 2 = base at *
    try clear V
    have HR' : Hid (ShpR X (Lt X.heap.size) s h') := Lib.hid (HL.out.rd.more fun b hb => hb.2)
    have HSX := Lib.hid (HS.out.on HB3.out)
    replace KE := Lib.hid (KE.out.below HB3.out KE.out.lt)
    replace KX := Lib.hid (KX.out.below HB3.out KX.out.lt)
    have HE0 := Lib.hid (HB0.out.trans (HB3.out.mono HB0.out.size))
    have HQX := Lib.hid (HQ.out.below HE0.out)
    clear HS HB3 HB0
    have K1 : Hid (∀ U : World, Below X.heap.size X U → Calls Tryd.prog 8 #[.agg (shpA s h'), .agg (sltL ⟨xc, xt, xh⟩).toArray] U (Ret U (.tuple #[.string (strN (nameF s ⟨xc, xt, xh⟩).1), .int .i64 (nameF s ⟨xc, xt, xh⟩).2]))) := Lib.hid fun U hU => name_any s h' ⟨xc, xt, xh⟩ U (HR'.out.on hU) HF.out HI.out.ints (HQX.out.below hU)
    have K2 : Hid (∀ U : World, Below X.heap.size X U → Calls Tryd.prog 9 #[.agg (shpA s h), .agg (sltL ⟨xc, xt, xh⟩).toArray] U (Ret U (.tuple #[.string (strN (nameF s ⟨xc, xt, xh⟩).1), .int .i64 (nameF s ⟨xc, xt, xh⟩).2]))) := Lib.hid fun U hU => refName_any s h ⟨xc, xt, xh⟩ U (HSX.out.on hU) HF.out
    have K3 : Hid (∀ U : World, Below X.heap.size X U → Calls Tryd.prog 10 #[.agg (shpA s h'), .string nm] U (Ret U (.tuple #[.agg (sltL (findSF s nm).1).toArray, .int .i64 (findSF s nm).2]))) := Lib.hid fun U hU => findS_any s h' nm U (HR'.out.on hU) HF.out HI.out.ints (HQX.out.below hU)
    have K4 : Hid (∀ U : World, Below X.heap.size X U → Calls Tryd.prog 11 #[.agg (shpA s h), .string nm] U (Ret U (.tuple #[.agg (sltL (findSF s nm).1).toArray, .int .i64 (findSF s nm).2]))) := Lib.hid fun U hU => refFindS_any s h nm U (HSX.out.on hU) HF.out hcl HTN.out hnl
    generalize strN (nameF s ⟨xc, xt, xh⟩).1 = ns at *
    generalize (nameF s ⟨xc, xt, xh⟩).2 = ne at *
    generalize findSF s nm = F at *
    obtain ⟨⟨fc, ft, fh⟩, fe⟩ := F
    unfold shpA at K1 K2 K3 K4
    unfold sltL at K1 K2 K3 K4
    simp only at K1 K2 K3 K4
    have f0 : X.cell? ⟨gt, 0, none⟩ = some (Value.slice h'.A1 s.cols.length h'.c1) := KT.out.cell 0
    have f1 : X.cell? ⟨gt, 1, none⟩ = some (Value.slice h'.A2 s.covs.length h'.c2) := KT.out.cell 1
    have f2 : X.cell? ⟨gt, 2, none⟩ = some (.int .i64 s.l0) := KT.out.cell 2
    have f3 : X.cell? ⟨gt, 3, none⟩ = some (.int .i64 s.l1) := KT.out.cell 3
    have f4 : X.cell? ⟨gt, 4, none⟩ = some (.int .i64 s.l2) := KT.out.cell 4
    have f5 : X.cell? ⟨gt, 5, none⟩ = some (.int .i64 s.l3) := KT.out.cell 5
    have f6 : X.cell? ⟨gt, 6, none⟩ = some (.slice h'.A3 s.rows.length h'.c3) := KT.out.cell 6
    have f7 : X.cell? ⟨gt, 7, none⟩ = some (.slice h'.A4 s.frames.length h'.c4) := KT.out.cell 7
    have f8 : X.cell? ⟨gt, 8, none⟩ = some (.slice h'.A5 s.tanks.length h'.c5) := KT.out.cell 8
    have f9 : X.cell? ⟨gt, 9, none⟩ = some (.int .i64 s.m0) := KT.out.cell 9
    have f10 : X.cell? ⟨gt, 10, none⟩ = some (.int .i64 s.m1) := KT.out.cell 10
    have f11 : X.cell? ⟨gt, 11, none⟩ = some (.int .i64 s.m2) := KT.out.cell 11
    have f12 : X.cell? ⟨gt, 12, none⟩ = some (.int .i64 s.m3) := KT.out.cell 12
    have x0 : X.cell? ⟨w.heap.size + 1, 0, none⟩ = some (.int .i64 xc) := KX.out.cell 0
    have x1 : X.cell? ⟨w.heap.size + 1, 1, none⟩ = some (.int .i64 xt) := KX.out.cell 1
    have x2 : X.cell? ⟨w.heap.size + 1, 2, none⟩ = some (.int .u8 (xh : Nat)) := KX.out.cell 2
    go_wp2_with fail
    refine (K1.out X (Below.refl _ _)).mono ?_
    rintro e X1 ⟨rfl, hb⟩
    simp only
    have HX1 := Lib.hid hb
    clear K1 hb f0 f1 f2 f3 f4 f5 f6 f7 f8 f9 f10 f11 f12 x0 x1 x2
    have KEW := KE.out.below HX1.out KE.out.lt
    have KTW := KT.out.below HX1.out KT.out.lt
    have KXW := KX.out.below HX1.out KX.out.lt
    have e0 : X1.cell? ⟨w.heap.size, 0, none⟩ = some (Value.slice h.A1 s.cols.length h.c1) := KEW.cell 0
    have e1 : X1.cell? ⟨w.heap.size, 1, none⟩ = some (Value.slice h.A2 s.covs.length h.c2) := KEW.cell 1
    have e2 : X1.cell? ⟨w.heap.size, 2, none⟩ = some (.int .i64 s.l0) := KEW.cell 2
    have e3 : X1.cell? ⟨w.heap.size, 3, none⟩ = some (.int .i64 s.l1) := KEW.cell 3
    have e4 : X1.cell? ⟨w.heap.size, 4, none⟩ = some (.int .i64 s.l2) := KEW.cell 4
    have e5 : X1.cell? ⟨w.heap.size, 5, none⟩ = some (.int .i64 s.l3) := KEW.cell 5
    have e6 : X1.cell? ⟨w.heap.size, 6, none⟩ = some (.slice h.A3 s.rows.length h.c3) := KEW.cell 6
    have e7 : X1.cell? ⟨w.heap.size, 7, none⟩ = some (.slice h.A4 s.frames.length h.c4) := KEW.cell 7
    have e8 : X1.cell? ⟨w.heap.size, 8, none⟩ = some (.slice h.A5 s.tanks.length h.c5) := KEW.cell 8
    have e9 : X1.cell? ⟨w.heap.size, 9, none⟩ = some (.int .i64 s.m0) := KEW.cell 9
    have e10 : X1.cell? ⟨w.heap.size, 10, none⟩ = some (.int .i64 s.m1) := KEW.cell 10
    have e11 : X1.cell? ⟨w.heap.size, 11, none⟩ = some (.int .i64 s.m2) := KEW.cell 11
    have e12 : X1.cell? ⟨w.heap.size, 12, none⟩ = some (.int .i64 s.m3) := KEW.cell 12
    have x0 : X1.cell? ⟨w.heap.size + 1, 0, none⟩ = some (.int .i64 xc) := KXW.cell 0
    have x1 : X1.cell? ⟨w.heap.size + 1, 1, none⟩ = some (.int .i64 xt) := KXW.cell 1
    have x2 : X1.cell? ⟨w.heap.size + 1, 2, none⟩ = some (.int .u8 (xh : Nat)) := KXW.cell 2
    go_wp2_with fail
    refine (K2.out X1 HX1.out).mono ?_
    rintro e X2 ⟨rfl, hb⟩
    simp only
    have HX2 := Lib.hid (HX1.out.trans (hb.mono HX1.out.size))
    clear K2 hb HX1 KEW KTW KXW e0 e1 e2 e3 e4 e5 e6 e7 e8 e9 e10 e11 e12 x0 x1 x2
    try clear X1
    have KEW := KE.out.below HX2.out KE.out.lt
    have KTW := KT.out.below HX2.out KT.out.lt
    have KXW := KX.out.below HX2.out KX.out.lt
    have f0 : X2.cell? ⟨gt, 0, none⟩ = some (Value.slice h'.A1 s.cols.length h'.c1) := KTW.cell 0
    have f1 : X2.cell? ⟨gt, 1, none⟩ = some (Value.slice h'.A2 s.covs.length h'.c2) := KTW.cell 1
    have f2 : X2.cell? ⟨gt, 2, none⟩ = some (.int .i64 s.l0) := KTW.cell 2
    have f3 : X2.cell? ⟨gt, 3, none⟩ = some (.int .i64 s.l1) := KTW.cell 3
    have f4 : X2.cell? ⟨gt, 4, none⟩ = some (.int .i64 s.l2) := KTW.cell 4
    have f5 : X2.cell? ⟨gt, 5, none⟩ = some (.int .i64 s.l3) := KTW.cell 5
    have f6 : X2.cell? ⟨gt, 6, none⟩ = some (.slice h'.A3 s.rows.length h'.c3) := KTW.cell 6
    have f7 : X2.cell? ⟨gt, 7, none⟩ = some (.slice h'.A4 s.frames.length h'.c4) := KTW.cell 7
    have f8 : X2.cell? ⟨gt, 8, none⟩ = some (.slice h'.A5 s.tanks.length h'.c5) := KTW.cell 8
    have f9 : X2.cell? ⟨gt, 9, none⟩ = some (.int .i64 s.m0) := KTW.cell 9
    have f10 : X2.cell? ⟨gt, 10, none⟩ = some (.int .i64 s.m1) := KTW.cell 10
    have f11 : X2.cell? ⟨gt, 11, none⟩ = some (.int .i64 s.m2) := KTW.cell 11
    have f12 : X2.cell? ⟨gt, 12, none⟩ = some (.int .i64 s.m3) := KTW.cell 12
    go_wp2_with fail
    refine (K3.out X2 HX2.out).mono ?_
    rintro e X3 ⟨rfl, hb⟩
    simp only
    have HX3 := Lib.hid (HX2.out.trans (hb.mono HX2.out.size))
    clear K3 hb HX2 KEW KTW KXW f0 f1 f2 f3 f4 f5 f6 f7 f8 f9 f10 f11 f12
    try clear X2
    have hba := ba1 X3 (.cells #[.int .i64 fc, .int .i64 ft, .int .u8 (fh : Nat)] 34)
    have HY := Lib.hid (HX3.out.trans (hba.mono HX3.out.size))
    have KC := Lib.hid (Bk.new X3 34 #[.int .i64 fc, .int .i64 ft, .int .u8 (fh : Nat)])
    clear hba HX3
    go_upto_region 7 with fail
    generalize X3.heap.size = g1 at *
    generalize (X3.alloc _) = Y at *
    try clear X3
    have KEW := KE.out.below HY.out KE.out.lt
    have KTW := KT.out.below HY.out KT.out.lt
    have KXW := KX.out.below HY.out KX.out.lt
    have e0 : Y.cell? ⟨w.heap.size, 0, none⟩ = some (Value.slice h.A1 s.cols.length h.c1) := KEW.cell 0
    have e1 : Y.cell? ⟨w.heap.size, 1, none⟩ = some (Value.slice h.A2 s.covs.length h.c2) := KEW.cell 1
    have e2 : Y.cell? ⟨w.heap.size, 2, none⟩ = some (.int .i64 s.l0) := KEW.cell 2
    have e3 : Y.cell? ⟨w.heap.size, 3, none⟩ = some (.int .i64 s.l1) := KEW.cell 3
    have e4 : Y.cell? ⟨w.heap.size, 4, none⟩ = some (.int .i64 s.l2) := KEW.cell 4
    have e5 : Y.cell? ⟨w.heap.size, 5, none⟩ = some (.int .i64 s.l3) := KEW.cell 5
    have e6 : Y.cell? ⟨w.heap.size, 6, none⟩ = some (.slice h.A3 s.rows.length h.c3) := KEW.cell 6
    have e7 : Y.cell? ⟨w.heap.size, 7, none⟩ = some (.slice h.A4 s.frames.length h.c4) := KEW.cell 7
    have e8 : Y.cell? ⟨w.heap.size, 8, none⟩ = some (.slice h.A5 s.tanks.length h.c5) := KEW.cell 8
    have e9 : Y.cell? ⟨w.heap.size, 9, none⟩ = some (.int .i64 s.m0) := KEW.cell 9
    have e10 : Y.cell? ⟨w.heap.size, 10, none⟩ = some (.int .i64 s.m1) := KEW.cell 10
    have e11 : Y.cell? ⟨w.heap.size, 11, none⟩ = some (.int .i64 s.m2) := KEW.cell 11
    have e12 : Y.cell? ⟨w.heap.size, 12, none⟩ = some (.int .i64 s.m3) := KEW.cell 12
    go_wp2_with fail
    refine (K4.out Y HY.out).mono ?_
    rintro e X4 ⟨rfl, hb4⟩
    simp only
    have HX4 := Lib.hid (HY.out.trans (hb4.mono HY.out.size))
    clear K4 HY KEW KTW KXW e0 e1 e2 e3 e4 e5 e6 e7 e8 e9 e10 e11 e12
    have hba := ba1 X4 (.cells #[.int .i64 fc, .int .i64 ft, .int .u8 (fh : Nat)] 34)
    have HY := Lib.hid (HX4.out.trans (hba.mono HX4.out.size))
    have KD := Lib.hid (Bk.new X4 34 #[.int .i64 fc, .int .i64 ft, .int .u8 (fh : Nat)])
    replace KC := Lib.hid ((KC.out.below hb4 KC.out.lt).below hba (by have := hb4.size; have := KC.out.lt; omega))
    clear hba HX4
    go_upto_region 8 with fail
    generalize X4.heap.size = g2 at *
    generalize (X4.alloc _) = Z at *
    try clear X4
    clear hb4
    try clear Y
    have KK := Lib.hid (keptShip_any s h' h Z (HL.out.on HY.out) (HSX.out.on HY.out) HFL.out)
    unfold shpA at KK
    have KEW := KE.out.below HY.out KE.out.lt
    have KTW := KT.out.below HY.out KT.out.lt
    have KXW := KX.out.below HY.out KX.out.lt
    have e0 : Z.cell? ⟨w.heap.size, 0, none⟩ = some (Value.slice h.A1 s.cols.length h.c1) := KEW.cell 0
    have e1 : Z.cell? ⟨w.heap.size, 1, none⟩ = some (Value.slice h.A2 s.covs.length h.c2) := KEW.cell 1
    have e2 : Z.cell? ⟨w.heap.size, 2, none⟩ = some (.int .i64 s.l0) := KEW.cell 2
    have e3 : Z.cell? ⟨w.heap.size, 3, none⟩ = some (.int .i64 s.l1) := KEW.cell 3
    have e4 : Z.cell? ⟨w.heap.size, 4, none⟩ = some (.int .i64 s.l2) := KEW.cell 4
    have e5 : Z.cell? ⟨w.heap.size, 5, none⟩ = some (.int .i64 s.l3) := KEW.cell 5
    have e6 : Z.cell? ⟨w.heap.size, 6, none⟩ = some (.slice h.A3 s.rows.length h.c3) := KEW.cell 6
    have e7 : Z.cell? ⟨w.heap.size, 7, none⟩ = some (.slice h.A4 s.frames.length h.c4) := KEW.cell 7
    have e8 : Z.cell? ⟨w.heap.size, 8, none⟩ = some (.slice h.A5 s.tanks.length h.c5) := KEW.cell 8
    have e9 : Z.cell? ⟨w.heap.size, 9, none⟩ = some (.int .i64 s.m0) := KEW.cell 9
    have e10 : Z.cell? ⟨w.heap.size, 10, none⟩ = some (.int .i64 s.m1) := KEW.cell 10
    have e11 : Z.cell? ⟨w.heap.size, 11, none⟩ = some (.int .i64 s.m2) := KEW.cell 11
    have e12 : Z.cell? ⟨w.heap.size, 12, none⟩ = some (.int .i64 s.m3) := KEW.cell 12
    have f0 : Z.cell? ⟨gt, 0, none⟩ = some (Value.slice h'.A1 s.cols.length h'.c1) := KTW.cell 0
    have f1 : Z.cell? ⟨gt, 1, none⟩ = some (Value.slice h'.A2 s.covs.length h'.c2) := KTW.cell 1
    have f2 : Z.cell? ⟨gt, 2, none⟩ = some (.int .i64 s.l0) := KTW.cell 2
    have f3 : Z.cell? ⟨gt, 3, none⟩ = some (.int .i64 s.l1) := KTW.cell 3
    have f4 : Z.cell? ⟨gt, 4, none⟩ = some (.int .i64 s.l2) := KTW.cell 4
    have f5 : Z.cell? ⟨gt, 5, none⟩ = some (.int .i64 s.l3) := KTW.cell 5
    have f6 : Z.cell? ⟨gt, 6, none⟩ = some (.slice h'.A3 s.rows.length h'.c3) := KTW.cell 6
    have f7 : Z.cell? ⟨gt, 7, none⟩ = some (.slice h'.A4 s.frames.length h'.c4) := KTW.cell 7
    have f8 : Z.cell? ⟨gt, 8, none⟩ = some (.slice h'.A5 s.tanks.length h'.c5) := KTW.cell 8
    have f9 : Z.cell? ⟨gt, 9, none⟩ = some (.int .i64 s.m0) := KTW.cell 9
    have f10 : Z.cell? ⟨gt, 10, none⟩ = some (.int .i64 s.m1) := KTW.cell 10
    have f11 : Z.cell? ⟨gt, 11, none⟩ = some (.int .i64 s.m2) := KTW.cell 11
    have f12 : Z.cell? ⟨gt, 12, none⟩ = some (.int .i64 s.m3) := KTW.cell 12
    have c0 : Z.cell? ⟨g1, 0, none⟩ = some (.int .i64 fc) := KC.out.cell 0
    have c1 : Z.cell? ⟨g1, 1, none⟩ = some (.int .i64 ft) := KC.out.cell 1
    have c2 : Z.cell? ⟨g1, 2, none⟩ = some (.int .u8 (fh : Nat)) := KC.out.cell 2
    have d0 : Z.cell? ⟨g2, 0, none⟩ = some (.int .i64 fc) := KD.out.cell 0
    have d1 : Z.cell? ⟨g2, 1, none⟩ = some (.int .i64 ft) := KD.out.cell 1
    have d2 : Z.cell? ⟨g2, 2, none⟩ = some (.int .u8 (fh : Nat)) := KD.out.cell 2
    have q1 := b_eq (rfl : ns = ns)
    go_wp2_with fail
    refine KK.out.mono ?_
    rintro e X5 ⟨rfl, hb⟩
    simp only
    have HE := Lib.hid (HE0.out.trans ((HY.out.trans (hb.mono HY.out.size)).mono HE0.out.size))
    clear hb KK KEW KTW KXW e0 e1 e2 e3 e4 e5 e6 e7 e8 e9 e10 e11 e12 f0 f1 f2 f3 f4 f5 f6 f7 f8 f9 f10 f11 f12
    have HQW := Lib.hid (HQ.out.below HE.out)
    go_wp2_with fail
    refine (awake08_true _ HQW.out).mono ?_
    rintro e Z ⟨rfl, hz⟩
    simp only
    go_wp2_with fail
    go_ret
    exact ⟨rfl, HE.out.trans (hz.mono HE.out.size)⟩
end Go.Proofs.YtpmhchbkhohmjaaDoor
