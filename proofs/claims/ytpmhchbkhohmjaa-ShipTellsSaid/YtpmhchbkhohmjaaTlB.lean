/-
  The walk of the statement ShipTells.
-/
import Derived.Test.YtpmhchbkhohmjaaTlA
import Derived.Test.YtpmhchbkhohmjaaRfF
namespace Go.Proofs.Ytpmhchbkhohmjaa
open Go.RowKit

set_option maxRecDepth 100000 in
set_option maxHeartbeats 4000000 in
theorem shipTells_any (s : Shp) (h : Hd) (bay row n : Int) (deck : Bool) (w : World) (hs : ShpR w (Lt w.heap.size) s h) (hi : InS s) :
    Calls Try.prog 3 #[.agg (shpA s h), .int .i64 bay, .int .i64 row, .int .i64 n, .bool deck] w (TrueRet w) := by
  have hb0 := ba1 w (.cells (shpA s h) 32)
  have KE := Lib.hid (Bk.new w 32 (shpA s h))
  have HS := Lib.hid (hs.on hb0)
  have KF := Lib.hid (few_any s h _ (hs.on hb0))
  have HB0 := Lib.hid hb0
  have HI := Lib.hid hi
  clear hs hb0 hi
  unfold shpA at *
  go_enter Try.func3, Try.ntmps3
  go_upto_region 1 with fail
  generalize hW : (w.alloc _) = W at *
  clear hW
  have e0 : W.cell? ⟨w.heap.size, 0, none⟩ = some (Value.slice h.A1 s.cols.length h.c1) := KE.out.cell 0
  have e1 : W.cell? ⟨w.heap.size, 1, none⟩ = some (Value.slice h.A2 s.covs.length h.c2) := KE.out.cell 1
  have e2 : W.cell? ⟨w.heap.size, 2, none⟩ = some (.int .i64 s.l0) := KE.out.cell 2
  have e3 : W.cell? ⟨w.heap.size, 3, none⟩ = some (.int .i64 s.l1) := KE.out.cell 3
  have e4 : W.cell? ⟨w.heap.size, 4, none⟩ = some (.int .i64 s.l2) := KE.out.cell 4
  have e5 : W.cell? ⟨w.heap.size, 5, none⟩ = some (.int .i64 s.l3) := KE.out.cell 5
  have e6 : W.cell? ⟨w.heap.size, 6, none⟩ = some (.slice h.A3 s.rows.length h.c3) := KE.out.cell 6
  have e7 : W.cell? ⟨w.heap.size, 7, none⟩ = some (.slice h.A4 s.frames.length h.c4) := KE.out.cell 7
  have e8 : W.cell? ⟨w.heap.size, 8, none⟩ = some (.slice h.A5 s.tanks.length h.c5) := KE.out.cell 8
  have e9 : W.cell? ⟨w.heap.size, 9, none⟩ = some (.int .i64 s.m0) := KE.out.cell 9
  have e10 : W.cell? ⟨w.heap.size, 10, none⟩ = some (.int .i64 s.m1) := KE.out.cell 10
  have e11 : W.cell? ⟨w.heap.size, 11, none⟩ = some (.int .i64 s.m2) := KE.out.cell 11
  have e12 : W.cell? ⟨w.heap.size, 12, none⟩ = some (.int .i64 s.m3) := KE.out.cell 12
  go_wp2_with fail
  refine KF.out.mono ?_
  rintro e V ⟨fb, rfl, hf, hb⟩
  simp only
  clear KF e0 e1 e2 e3 e4 e5 e6 e7 e8 e9 e10 e11 e12
  have HBV := Lib.hid hb
  clear hb
  cases fb with
  | false =>
    have HE := Lib.hid (HB0.out.trans (HBV.out.mono HB0.out.size))
    clear hf
    go_wp2_with fail
    refine (awake_true _).mono ?_
    rintro e Z ⟨rfl, hz⟩
    simp only
    go_wp2_with fail
    go_ret
    exact ⟨rfl, HE.out.trans (hz.mono HE.out.size)⟩
  | true =>
    have HP := Lib.hid (hf.1 rfl)
    clear hf
    have HFL : Hid (FewL s) := Lib.hid ⟨by have := HP.out.cols; omega, by have := HP.out.covs; omega, HI.out.rows, HI.out.frames, HI.out.tanks, HI.out.plugs, HI.out.hrows, HI.out.steps⟩
    have HFW : Hid (Few s) := Lib.hid ⟨by have := HP.out.cols; omega, by have := HP.out.covs; omega, fun x hx => by have := HP.out.rows x hx; omega, fun x hx => by have := HP.out.plugs x hx; omega⟩
    have KL := Lib.hid (lentShip_any s h V (HS.out.on HBV.out) HFL.out)
    have KV := Lib.hid (KE.out.below HBV.out KE.out.lt)
    unfold shpA at KL
    have e0 : V.cell? ⟨w.heap.size, 0, none⟩ = some (Value.slice h.A1 s.cols.length h.c1) := KV.out.cell 0
    have e1 : V.cell? ⟨w.heap.size, 1, none⟩ = some (Value.slice h.A2 s.covs.length h.c2) := KV.out.cell 1
    have e2 : V.cell? ⟨w.heap.size, 2, none⟩ = some (.int .i64 s.l0) := KV.out.cell 2
    have e3 : V.cell? ⟨w.heap.size, 3, none⟩ = some (.int .i64 s.l1) := KV.out.cell 3
    have e4 : V.cell? ⟨w.heap.size, 4, none⟩ = some (.int .i64 s.l2) := KV.out.cell 4
    have e5 : V.cell? ⟨w.heap.size, 5, none⟩ = some (.int .i64 s.l3) := KV.out.cell 5
    have e6 : V.cell? ⟨w.heap.size, 6, none⟩ = some (.slice h.A3 s.rows.length h.c3) := KV.out.cell 6
    have e7 : V.cell? ⟨w.heap.size, 7, none⟩ = some (.slice h.A4 s.frames.length h.c4) := KV.out.cell 7
    have e8 : V.cell? ⟨w.heap.size, 8, none⟩ = some (.slice h.A5 s.tanks.length h.c5) := KV.out.cell 8
    have e9 : V.cell? ⟨w.heap.size, 9, none⟩ = some (.int .i64 s.m0) := KV.out.cell 9
    have e10 : V.cell? ⟨w.heap.size, 10, none⟩ = some (.int .i64 s.m1) := KV.out.cell 10
    have e11 : V.cell? ⟨w.heap.size, 11, none⟩ = some (.int .i64 s.m2) := KV.out.cell 11
    have e12 : V.cell? ⟨w.heap.size, 12, none⟩ = some (.int .i64 s.m3) := KV.out.cell 12
    go_wp2_with fail
    refine KL.out.mono ?_
    rintro e V2 ⟨hb, h', B1, rfl, hl⟩
    simp only
    clear KL KV e0 e1 e2 e3 e4 e5 e6 e7 e8 e9 e10 e11 e12
    have HB3 := Lib.hid (HBV.out.trans ((hb.trans ((ba1 V2 (.cells (shpA s h') 32)).mono hb.size)).mono HBV.out.size))
    have KT := Lib.hid (Bk.new V2 32 (shpA s h'))
    have HL := Lib.hid (hl.on (ba1 V2 (.cells (shpA s h') 32)))
    clear hb hl HBV
    unfold shpA at HB3 KT HL
    go_upto_region 4 with fail
    generalize V2.heap.size = gt at *
    generalize (V2.alloc _) = X at *
    try clear V2
    generalize V.heap.size + 2 = base at *
    try clear V
    have HR' : Hid (ShpR X (Lt X.heap.size) s h') := Lib.hid (HL.out.rd.more fun b hb => hb.2)
    have HSX := Lib.hid (HS.out.on HB3.out)
    have KX := Lib.hid (KE.out.below HB3.out KE.out.lt)
    clear HS KE
    have KA := Lib.hid (find_any s h' bay row deck X HR'.out HFW.out.cols)
    unfold shpA at KA
    generalize hap : findF s bay row deck = ap at *
    have HAP := Lib.hid hap
    clear hap
    obtain ⟨fp, fo⟩ := ap
    simp only at KA
    have e0 : X.cell? ⟨w.heap.size, 0, none⟩ = some (Value.slice h.A1 s.cols.length h.c1) := KX.out.cell 0
    have e1 : X.cell? ⟨w.heap.size, 1, none⟩ = some (Value.slice h.A2 s.covs.length h.c2) := KX.out.cell 1
    have e2 : X.cell? ⟨w.heap.size, 2, none⟩ = some (.int .i64 s.l0) := KX.out.cell 2
    have e3 : X.cell? ⟨w.heap.size, 3, none⟩ = some (.int .i64 s.l1) := KX.out.cell 3
    have e4 : X.cell? ⟨w.heap.size, 4, none⟩ = some (.int .i64 s.l2) := KX.out.cell 4
    have e5 : X.cell? ⟨w.heap.size, 5, none⟩ = some (.int .i64 s.l3) := KX.out.cell 5
    have e6 : X.cell? ⟨w.heap.size, 6, none⟩ = some (.slice h.A3 s.rows.length h.c3) := KX.out.cell 6
    have e7 : X.cell? ⟨w.heap.size, 7, none⟩ = some (.slice h.A4 s.frames.length h.c4) := KX.out.cell 7
    have e8 : X.cell? ⟨w.heap.size, 8, none⟩ = some (.slice h.A5 s.tanks.length h.c5) := KX.out.cell 8
    have e9 : X.cell? ⟨w.heap.size, 9, none⟩ = some (.int .i64 s.m0) := KX.out.cell 9
    have e10 : X.cell? ⟨w.heap.size, 10, none⟩ = some (.int .i64 s.m1) := KX.out.cell 10
    have e11 : X.cell? ⟨w.heap.size, 11, none⟩ = some (.int .i64 s.m2) := KX.out.cell 11
    have e12 : X.cell? ⟨w.heap.size, 12, none⟩ = some (.int .i64 s.m3) := KX.out.cell 12
    have f0 : X.cell? ⟨gt, 0, none⟩ = some (Value.slice h'.A1 s.cols.length h'.c1) := KT.out.cell 0
    have f1 : X.cell? ⟨gt, 1, none⟩ = some (Value.slice h'.A2 s.covs.length h'.c2) := KT.out.cell 1
    have f2 : X.cell? ⟨gt, 2, none⟩ = some (.int .i64 s.l0) := KT.out.cell 2
    have f3 : X.cell? ⟨gt, 3, none⟩ = some (.int .i64 s.l1) := KT.out.cell 3
    have f4 : X.cell? ⟨gt, 4, none⟩ = some (.int .i64 s.l2) := KT.out.cell 4
    have f5 : X.cell? ⟨gt, 5, none⟩ = some (.int .i64 s.l3) := KT.out.cell 5
    have f6 : X.cell? ⟨gt, 6, none⟩ = some (.slice h'.A3 s.rows.length h'.c3) := KT.out.cell 6
    have f7 : X.cell? ⟨gt, 7, none⟩ = some (.slice h'.A4 s.frames.length h'.c4) := KT.out.cell 7
    have f8 : X.cell? ⟨gt, 8, none⟩ = some (.slice h'.A5 s.tanks.length h'.c5) := KT.out.cell 8
    have f9 : X.cell? ⟨gt, 9, none⟩ = some (.int .i64 s.m0) := KT.out.cell 9
    have f10 : X.cell? ⟨gt, 10, none⟩ = some (.int .i64 s.m1) := KT.out.cell 10
    have f11 : X.cell? ⟨gt, 11, none⟩ = some (.int .i64 s.m2) := KT.out.cell 11
    have f12 : X.cell? ⟨gt, 12, none⟩ = some (.int .i64 s.m3) := KT.out.cell 12
    go_wp2_with fail
    refine KA.out.mono ?_
    rintro e X1 ⟨rfl, hb⟩
    simp only
    clear e0 e1 e2 e3 e4 e5 e6 e7 e8 e9 e10 e11 e12 f0 f1 f2 f3 f4 f5 f6 f7 f8 f9 f10 f11 f12
    replace HR' := Lib.hid (HR'.out.on hb)
    replace HL := Lib.hid (HL.out.on hb)
    replace HSX := Lib.hid (HSX.out.on hb)
    replace KX := Lib.hid (KX.out.below hb KX.out.lt)
    replace KT := Lib.hid (KT.out.below hb KT.out.lt)
    replace HB3 := Lib.hid (HB3.out.trans (hb.mono HB3.out.size))
    clear hb KA
    try clear X
    have KA := Lib.hid (refFind_any s h bay row deck X1 HSX.out HFW.out.cols)
    unfold shpA at KA
    rw [HAP.out] at KA
    simp only at KA
    have e0 : X1.cell? ⟨w.heap.size, 0, none⟩ = some (Value.slice h.A1 s.cols.length h.c1) := KX.out.cell 0
    have e1 : X1.cell? ⟨w.heap.size, 1, none⟩ = some (Value.slice h.A2 s.covs.length h.c2) := KX.out.cell 1
    have e2 : X1.cell? ⟨w.heap.size, 2, none⟩ = some (.int .i64 s.l0) := KX.out.cell 2
    have e3 : X1.cell? ⟨w.heap.size, 3, none⟩ = some (.int .i64 s.l1) := KX.out.cell 3
    have e4 : X1.cell? ⟨w.heap.size, 4, none⟩ = some (.int .i64 s.l2) := KX.out.cell 4
    have e5 : X1.cell? ⟨w.heap.size, 5, none⟩ = some (.int .i64 s.l3) := KX.out.cell 5
    have e6 : X1.cell? ⟨w.heap.size, 6, none⟩ = some (.slice h.A3 s.rows.length h.c3) := KX.out.cell 6
    have e7 : X1.cell? ⟨w.heap.size, 7, none⟩ = some (.slice h.A4 s.frames.length h.c4) := KX.out.cell 7
    have e8 : X1.cell? ⟨w.heap.size, 8, none⟩ = some (.slice h.A5 s.tanks.length h.c5) := KX.out.cell 8
    have e9 : X1.cell? ⟨w.heap.size, 9, none⟩ = some (.int .i64 s.m0) := KX.out.cell 9
    have e10 : X1.cell? ⟨w.heap.size, 10, none⟩ = some (.int .i64 s.m1) := KX.out.cell 10
    have e11 : X1.cell? ⟨w.heap.size, 11, none⟩ = some (.int .i64 s.m2) := KX.out.cell 11
    have e12 : X1.cell? ⟨w.heap.size, 12, none⟩ = some (.int .i64 s.m3) := KX.out.cell 12
    have f0 : X1.cell? ⟨gt, 0, none⟩ = some (Value.slice h'.A1 s.cols.length h'.c1) := KT.out.cell 0
    have f1 : X1.cell? ⟨gt, 1, none⟩ = some (Value.slice h'.A2 s.covs.length h'.c2) := KT.out.cell 1
    have f2 : X1.cell? ⟨gt, 2, none⟩ = some (.int .i64 s.l0) := KT.out.cell 2
    have f3 : X1.cell? ⟨gt, 3, none⟩ = some (.int .i64 s.l1) := KT.out.cell 3
    have f4 : X1.cell? ⟨gt, 4, none⟩ = some (.int .i64 s.l2) := KT.out.cell 4
    have f5 : X1.cell? ⟨gt, 5, none⟩ = some (.int .i64 s.l3) := KT.out.cell 5
    have f6 : X1.cell? ⟨gt, 6, none⟩ = some (.slice h'.A3 s.rows.length h'.c3) := KT.out.cell 6
    have f7 : X1.cell? ⟨gt, 7, none⟩ = some (.slice h'.A4 s.frames.length h'.c4) := KT.out.cell 7
    have f8 : X1.cell? ⟨gt, 8, none⟩ = some (.slice h'.A5 s.tanks.length h'.c5) := KT.out.cell 8
    have f9 : X1.cell? ⟨gt, 9, none⟩ = some (.int .i64 s.m0) := KT.out.cell 9
    have f10 : X1.cell? ⟨gt, 10, none⟩ = some (.int .i64 s.m1) := KT.out.cell 10
    have f11 : X1.cell? ⟨gt, 11, none⟩ = some (.int .i64 s.m2) := KT.out.cell 11
    have f12 : X1.cell? ⟨gt, 12, none⟩ = some (.int .i64 s.m3) := KT.out.cell 12
    go_wp2_with fail
    refine KA.out.mono ?_
    rintro e X2 ⟨rfl, hb⟩
    simp only
    clear e0 e1 e2 e3 e4 e5 e6 e7 e8 e9 e10 e11 e12 f0 f1 f2 f3 f4 f5 f6 f7 f8 f9 f10 f11 f12
    replace HR' := Lib.hid (HR'.out.on hb)
    replace HL := Lib.hid (HL.out.on hb)
    replace HSX := Lib.hid (HSX.out.on hb)
    replace KX := Lib.hid (KX.out.below hb KX.out.lt)
    replace KT := Lib.hid (KT.out.below hb KT.out.lt)
    replace HB3 := Lib.hid (HB3.out.trans (hb.mono HB3.out.size))
    clear hb KA
    try clear X1
    clear HAP
    have K1 : Hid (∀ U : World, Cb X2 U → Calls Try.prog 10 #[.agg (shpA s h')] U (Ret U (.bool (rightF s)))) := Lib.hid fun U hU => shipRight_any s h' U (HR'.out.on hU) HFW.out HI.out.ints
    have K2 : Hid (∀ U : World, Cb X2 U → Calls Try.prog 11 #[.agg (shpA s h)] U (Ret U (.bool (rightF s)))) := Lib.hid fun U hU => refRight_any s h U (HSX.out.on hU) HFW.out
    have K3 : Hid (∀ U : World, Cb X2 U → Calls Try.prog 12 #[.agg (shpA s h'), .int .i64 n] U (Ret U (.int .i64 (coverOfF s n)))) := Lib.hid fun U hU => coverOf_any s h' n U (HR'.out.on hU) HFW.out
    have K4 : Hid (∀ U : World, Cb X2 U → Calls Try.prog 13 #[.agg (shpA s h), .int .i64 n] U (Ret U (.int .i64 (coverOfF s n)))) := Lib.hid fun U hU => refCoverOf_any s h n U (HSX.out.on hU) HFW.out
    generalize rightF s = rr at *
    generalize coverOfF s n = cv at *
    unfold shpA at K1 K2 K3 K4
    have e0 : X2.cell? ⟨w.heap.size, 0, none⟩ = some (Value.slice h.A1 s.cols.length h.c1) := KX.out.cell 0
    have e1 : X2.cell? ⟨w.heap.size, 1, none⟩ = some (Value.slice h.A2 s.covs.length h.c2) := KX.out.cell 1
    have e2 : X2.cell? ⟨w.heap.size, 2, none⟩ = some (.int .i64 s.l0) := KX.out.cell 2
    have e3 : X2.cell? ⟨w.heap.size, 3, none⟩ = some (.int .i64 s.l1) := KX.out.cell 3
    have e4 : X2.cell? ⟨w.heap.size, 4, none⟩ = some (.int .i64 s.l2) := KX.out.cell 4
    have e5 : X2.cell? ⟨w.heap.size, 5, none⟩ = some (.int .i64 s.l3) := KX.out.cell 5
    have e6 : X2.cell? ⟨w.heap.size, 6, none⟩ = some (.slice h.A3 s.rows.length h.c3) := KX.out.cell 6
    have e7 : X2.cell? ⟨w.heap.size, 7, none⟩ = some (.slice h.A4 s.frames.length h.c4) := KX.out.cell 7
    have e8 : X2.cell? ⟨w.heap.size, 8, none⟩ = some (.slice h.A5 s.tanks.length h.c5) := KX.out.cell 8
    have e9 : X2.cell? ⟨w.heap.size, 9, none⟩ = some (.int .i64 s.m0) := KX.out.cell 9
    have e10 : X2.cell? ⟨w.heap.size, 10, none⟩ = some (.int .i64 s.m1) := KX.out.cell 10
    have e11 : X2.cell? ⟨w.heap.size, 11, none⟩ = some (.int .i64 s.m2) := KX.out.cell 11
    have e12 : X2.cell? ⟨w.heap.size, 12, none⟩ = some (.int .i64 s.m3) := KX.out.cell 12
    have f0 : X2.cell? ⟨gt, 0, none⟩ = some (Value.slice h'.A1 s.cols.length h'.c1) := KT.out.cell 0
    have f1 : X2.cell? ⟨gt, 1, none⟩ = some (Value.slice h'.A2 s.covs.length h'.c2) := KT.out.cell 1
    have f2 : X2.cell? ⟨gt, 2, none⟩ = some (.int .i64 s.l0) := KT.out.cell 2
    have f3 : X2.cell? ⟨gt, 3, none⟩ = some (.int .i64 s.l1) := KT.out.cell 3
    have f4 : X2.cell? ⟨gt, 4, none⟩ = some (.int .i64 s.l2) := KT.out.cell 4
    have f5 : X2.cell? ⟨gt, 5, none⟩ = some (.int .i64 s.l3) := KT.out.cell 5
    have f6 : X2.cell? ⟨gt, 6, none⟩ = some (.slice h'.A3 s.rows.length h'.c3) := KT.out.cell 6
    have f7 : X2.cell? ⟨gt, 7, none⟩ = some (.slice h'.A4 s.frames.length h'.c4) := KT.out.cell 7
    have f8 : X2.cell? ⟨gt, 8, none⟩ = some (.slice h'.A5 s.tanks.length h'.c5) := KT.out.cell 8
    have f9 : X2.cell? ⟨gt, 9, none⟩ = some (.int .i64 s.m0) := KT.out.cell 9
    have f10 : X2.cell? ⟨gt, 10, none⟩ = some (.int .i64 s.m1) := KT.out.cell 10
    have f11 : X2.cell? ⟨gt, 11, none⟩ = some (.int .i64 s.m2) := KT.out.cell 11
    have f12 : X2.cell? ⟨gt, 12, none⟩ = some (.int .i64 s.m3) := KT.out.cell 12
    go_upto_region 6 with fail
    refine wp_region_ogG [.val 0 (.int .i64 fp),
      .val 1 (.int .i64 fp),
      .val 2 (.bool false),
      .val 3 (.bool false),
      .val 4 (.bool fo),
      .val 5 (.bool fo),
      .val 6 (.bool false),
      .val 7 (.bool false),
      .val 8 (.bool false),
      .val 9 (.agg #[.slice h'.A1 s.cols.length h'.c1, .slice h'.A2 s.covs.length h'.c2, .int .i64 s.l0, .int .i64 s.l1, .int .i64 s.l2, .int .i64 s.l3, .slice h'.A3 s.rows.length h'.c3, .slice h'.A4 s.frames.length h'.c4, .slice h'.A5 s.tanks.length h'.c5, .int .i64 s.m0, .int .i64 s.m1, .int .i64 s.m2, .int .i64 s.m3]),
      .val 10 (.bool rr),
      .val 11 (.agg #[.slice h.A1 s.cols.length h.c1, .slice h.A2 s.covs.length h.c2, .int .i64 s.l0, .int .i64 s.l1, .int .i64 s.l2, .int .i64 s.l3, .slice h.A3 s.rows.length h.c3, .slice h.A4 s.frames.length h.c4, .slice h.A5 s.tanks.length h.c5, .int .i64 s.m0, .int .i64 s.m1, .int .i64 s.m2, .int .i64 s.m3]),
      .val 12 (.bool rr),
      .val 13 (.bool false),
      .val 14 (.bool false),
      .val 15 (.bool false),
      .val 16 (.agg #[.slice h'.A1 s.cols.length h'.c1, .slice h'.A2 s.covs.length h'.c2, .int .i64 s.l0, .int .i64 s.l1, .int .i64 s.l2, .int .i64 s.l3, .slice h'.A3 s.rows.length h'.c3, .slice h'.A4 s.frames.length h'.c4, .slice h'.A5 s.tanks.length h'.c5, .int .i64 s.m0, .int .i64 s.m1, .int .i64 s.m2, .int .i64 s.m3]),
      .val 17 (.int .i64 n),
      .val 18 (.int .i64 cv),
      .val 19 (.agg #[.slice h.A1 s.cols.length h.c1, .slice h.A2 s.covs.length h.c2, .int .i64 s.l0, .int .i64 s.l1, .int .i64 s.l2, .int .i64 s.l3, .slice h.A3 s.rows.length h.c3, .slice h.A4 s.frames.length h.c4, .slice h.A5 s.tanks.length h.c5, .int .i64 s.m0, .int .i64 s.m1, .int .i64 s.m2, .int .i64 s.m3]),
      .val 20 (.int .i64 n),
      .val 21 (.int .i64 cv),
      .val 22 (.bool false),
      .val 23 (.bool false)]
      [[], [], [0, 1], [2], [3], [3], [3, 4, 5], [3, 6], [7], [8], [8, 9], [8], [8, 11], [8, 10, 12], [8, 13], [14], [15], [15], [15, 16, 17], [15], [15], [15, 19, 20], [15, 18, 21], [15, 22]] [23] (Cb X2) (by kernel_rfl) (by kernel_rfl) (Cb.drew X2) ⟨?_, ?_, ?_, ?_, ?_, ?_, ?_, ?_, ?_, ?_, ?_, ?_, ?_, ?_, ?_, ?_, ?_, ?_, ?_, ?_, ?_, ?_, ?_, ?_, trivial⟩ ?_
    case refine_1 =>
      refine StepG.of rfl ?_
      refine StepL.up fun x V hV hu K Q hK => ?_
      clear hu
      rw [owp_eq]
      go_big_op
      exact hK _ _ (Below.refl _ _) rfl
    case refine_2 =>
      refine StepG.of rfl ?_
      refine StepL.up fun x V hV hu K Q hK => ?_
      clear hu
      simp only [putL, List.set_cons_zero, List.set_cons_succ] at hK ⊢
      rw [owp_eq]
      go_big_op
      exact hK _ _ (Below.refl _ _) rfl
    case refine_3 =>
      refine StepG.of rfl ?_
      refine StepL.up fun x V hV hu K Q hK => ?_
      have u0 : x 0 = _ := hu 0 (by decide)
      have u1 : x 1 = _ := hu 1 (by decide)
      clear hu
      simp only [putL, List.set_cons_zero, List.set_cons_succ] at hK ⊢
      rw [owp_eq]
      go_big_op
      exact hK _ _ (Below.refl _ _) rfl
    case refine_4 =>
      refine StepG.of rfl ?_
      refine StepL.up fun x V hV hu K Q hK => ?_
      have u2 : x 2 = _ := hu 2 (by decide)
      clear hu
      simp only [putL, List.set_cons_zero, List.set_cons_succ] at hK ⊢
      rw [owp_eq]
      go_big_op
      exact hK _ _ (Below.refl _ _) rfl
    case refine_5 =>
      refine StepG.yes 3 false 43 rfl rfl (fun x => by simp only [putL, List.set_cons_zero, List.set_cons_succ]; rfl) rfl (fun x w h => h) ?_
      refine StepL.up fun x V hV hu K Q hK => ?_
      have u3 : x 3 = _ := hu 3 (by decide)
      clear hu
      simp only [putL, List.set_cons_zero, List.set_cons_succ] at hK ⊢
      rw [owp_eq]
      go_big_op
      exact hK _ _ (Below.refl _ _) rfl
    case refine_6 =>
      refine StepG.yes 3 false 43 rfl rfl (fun x => by simp only [putL, List.set_cons_zero, List.set_cons_succ]; rfl) rfl (fun x w h => h) ?_
      refine StepL.up fun x V hV hu K Q hK => ?_
      have u3 : x 3 = _ := hu 3 (by decide)
      clear hu
      simp only [putL, List.set_cons_zero, List.set_cons_succ] at hK ⊢
      rw [owp_eq]
      go_big_op
      exact hK _ _ (Below.refl _ _) rfl
    case refine_7 =>
      refine StepG.yes 3 false 43 rfl rfl (fun x => by simp only [putL, List.set_cons_zero, List.set_cons_succ]; rfl) rfl (fun x w h => h) ?_
      refine StepL.up fun x V hV hu K Q hK => ?_
      have u3 : x 3 = _ := hu 3 (by decide)
      have u4 : x 4 = _ := hu 4 (by decide)
      have u5 : x 5 = _ := hu 5 (by decide)
      clear hu
      simp only [putL, List.set_cons_zero, List.set_cons_succ] at hK ⊢
      rw [owp_eq]
      go_big_op
      exact hK _ _ (Below.refl _ _) rfl
    case refine_8 =>
      refine StepG.of rfl ?_
      refine StepL.up fun x V hV hu K Q hK => ?_
      have u3 : x 3 = _ := hu 3 (by decide)
      have u6 : x 6 = _ := hu 6 (by decide)
      clear hu
      simp only [putL, List.set_cons_zero, List.set_cons_succ] at hK ⊢
      rw [owp_eq]
      go_big_op
      exact hK _ _ (Below.refl _ _) rfl
    case refine_9 =>
      refine StepG.of rfl ?_
      refine StepL.up fun x V hV hu K Q hK => ?_
      have u7 : x 7 = _ := hu 7 (by decide)
      clear hu
      simp only [putL, List.set_cons_zero, List.set_cons_succ] at hK ⊢
      rw [owp_eq]
      go_big_op
      exact hK _ _ (Below.refl _ _) rfl
    case refine_10 =>
      refine StepG.yes 8 false 48 rfl rfl (fun x => by simp only [putL, List.set_cons_zero, List.set_cons_succ]; rfl) rfl (fun x w h => h) ?_
      refine StepL.up fun x V hV hu K Q hK => ?_
      have u8 : x 8 = _ := hu 8 (by decide)
      have ff0 := hV.cell f0
      have ff1 := hV.cell f1
      have ff2 := hV.cell f2
      have ff3 := hV.cell f3
      have ff4 := hV.cell f4
      have ff5 := hV.cell f5
      have ff6 := hV.cell f6
      have ff7 := hV.cell f7
      have ff8 := hV.cell f8
      have ff9 := hV.cell f9
      have ff10 := hV.cell f10
      have ff11 := hV.cell f11
      have ff12 := hV.cell f12
      clear hu
      simp only [putL, List.set_cons_zero, List.set_cons_succ] at hK ⊢
      rw [owp_eq]
      go_big_op
      exact hK _ _ (Below.refl _ _) rfl
    case refine_11 =>
      refine StepG.yes 8 false 48 rfl rfl (fun x => by simp only [putL, List.set_cons_zero, List.set_cons_succ]; rfl) rfl (fun x w h => h) ?_
      refine StepL.up fun x V hV hu K Q hK => ?_
      have u8 : x 8 = _ := hu 8 (by decide)
      have u9 : x 9 = _ := hu 9 (by decide)
      clear hu
      simp only [putL, List.set_cons_zero, List.set_cons_succ] at hK ⊢
      rw [owp_eq]
      go_big_op
      refine (K1.out V hV).mono ?_
      rintro e V' ⟨rfl, hb⟩
      exact hK _ _ hb rfl
    case refine_12 =>
      refine StepG.yes 8 false 48 rfl rfl (fun x => by simp only [putL, List.set_cons_zero, List.set_cons_succ]; rfl) rfl (fun x w h => h) ?_
      refine StepL.up fun x V hV hu K Q hK => ?_
      have u8 : x 8 = _ := hu 8 (by decide)
      have fe0 := hV.cell e0
      have fe1 := hV.cell e1
      have fe2 := hV.cell e2
      have fe3 := hV.cell e3
      have fe4 := hV.cell e4
      have fe5 := hV.cell e5
      have fe6 := hV.cell e6
      have fe7 := hV.cell e7
      have fe8 := hV.cell e8
      have fe9 := hV.cell e9
      have fe10 := hV.cell e10
      have fe11 := hV.cell e11
      have fe12 := hV.cell e12
      clear hu
      simp only [putL, List.set_cons_zero, List.set_cons_succ] at hK ⊢
      rw [owp_eq]
      go_big_op
      exact hK _ _ (Below.refl _ _) rfl
    case refine_13 =>
      refine StepG.yes 8 false 48 rfl rfl (fun x => by simp only [putL, List.set_cons_zero, List.set_cons_succ]; rfl) rfl (fun x w h => h) ?_
      refine StepL.up fun x V hV hu K Q hK => ?_
      have u8 : x 8 = _ := hu 8 (by decide)
      have u11 : x 11 = _ := hu 11 (by decide)
      clear hu
      simp only [putL, List.set_cons_zero, List.set_cons_succ] at hK ⊢
      rw [owp_eq]
      go_big_op
      refine (K2.out V hV).mono ?_
      rintro e V' ⟨rfl, hb⟩
      exact hK _ _ hb rfl
    case refine_14 =>
      refine StepG.yes 8 false 48 rfl rfl (fun x => by simp only [putL, List.set_cons_zero, List.set_cons_succ]; rfl) rfl (fun x w h => h) ?_
      refine StepL.up fun x V hV hu K Q hK => ?_
      have u8 : x 8 = _ := hu 8 (by decide)
      have u10 : x 10 = _ := hu 10 (by decide)
      have u12 : x 12 = _ := hu 12 (by decide)
      clear hu
      simp only [putL, List.set_cons_zero, List.set_cons_succ] at hK ⊢
      rw [owp_eq]
      go_big_op
      exact hK _ _ (Below.refl _ _) rfl
    case refine_15 =>
      refine StepG.of rfl ?_
      refine StepL.up fun x V hV hu K Q hK => ?_
      have u8 : x 8 = _ := hu 8 (by decide)
      have u13 : x 13 = _ := hu 13 (by decide)
      clear hu
      simp only [putL, List.set_cons_zero, List.set_cons_succ] at hK ⊢
      rw [owp_eq]
      go_big_op
      exact hK _ _ (Below.refl _ _) rfl
    case refine_16 =>
      refine StepG.of rfl ?_
      refine StepL.up fun x V hV hu K Q hK => ?_
      have u14 : x 14 = _ := hu 14 (by decide)
      clear hu
      simp only [putL, List.set_cons_zero, List.set_cons_succ] at hK ⊢
      rw [owp_eq]
      go_big_op
      exact hK _ _ (Below.refl _ _) rfl
    case refine_17 =>
      refine StepG.yes 15 false 55 rfl rfl (fun x => by simp only [putL, List.set_cons_zero, List.set_cons_succ]; rfl) rfl (fun x w h => h) ?_
      refine StepL.up fun x V hV hu K Q hK => ?_
      have u15 : x 15 = _ := hu 15 (by decide)
      have ff0 := hV.cell f0
      have ff1 := hV.cell f1
      have ff2 := hV.cell f2
      have ff3 := hV.cell f3
      have ff4 := hV.cell f4
      have ff5 := hV.cell f5
      have ff6 := hV.cell f6
      have ff7 := hV.cell f7
      have ff8 := hV.cell f8
      have ff9 := hV.cell f9
      have ff10 := hV.cell f10
      have ff11 := hV.cell f11
      have ff12 := hV.cell f12
      clear hu
      simp only [putL, List.set_cons_zero, List.set_cons_succ] at hK ⊢
      rw [owp_eq]
      go_big_op
      exact hK _ _ (Below.refl _ _) rfl
    case refine_18 =>
      refine StepG.yes 15 false 55 rfl rfl (fun x => by simp only [putL, List.set_cons_zero, List.set_cons_succ]; rfl) rfl (fun x w h => h) ?_
      refine StepL.up fun x V hV hu K Q hK => ?_
      have u15 : x 15 = _ := hu 15 (by decide)
      clear hu
      simp only [putL, List.set_cons_zero, List.set_cons_succ] at hK ⊢
      rw [owp_eq]
      go_big_op
      exact hK _ _ (Below.refl _ _) rfl
    case refine_19 =>
      refine StepG.yes 15 false 55 rfl rfl (fun x => by simp only [putL, List.set_cons_zero, List.set_cons_succ]; rfl) rfl (fun x w h => h) ?_
      refine StepL.up fun x V hV hu K Q hK => ?_
      have u15 : x 15 = _ := hu 15 (by decide)
      have u16 : x 16 = _ := hu 16 (by decide)
      have u17 : x 17 = _ := hu 17 (by decide)
      clear hu
      simp only [putL, List.set_cons_zero, List.set_cons_succ] at hK ⊢
      rw [owp_eq]
      go_big_op
      refine (K3.out V hV).mono ?_
      rintro e V' ⟨rfl, hb⟩
      exact hK _ _ hb rfl
    case refine_20 =>
      refine StepG.yes 15 false 55 rfl rfl (fun x => by simp only [putL, List.set_cons_zero, List.set_cons_succ]; rfl) rfl (fun x w h => h) ?_
      refine StepL.up fun x V hV hu K Q hK => ?_
      have u15 : x 15 = _ := hu 15 (by decide)
      have fe0 := hV.cell e0
      have fe1 := hV.cell e1
      have fe2 := hV.cell e2
      have fe3 := hV.cell e3
      have fe4 := hV.cell e4
      have fe5 := hV.cell e5
      have fe6 := hV.cell e6
      have fe7 := hV.cell e7
      have fe8 := hV.cell e8
      have fe9 := hV.cell e9
      have fe10 := hV.cell e10
      have fe11 := hV.cell e11
      have fe12 := hV.cell e12
      clear hu
      simp only [putL, List.set_cons_zero, List.set_cons_succ] at hK ⊢
      rw [owp_eq]
      go_big_op
      exact hK _ _ (Below.refl _ _) rfl
    case refine_21 =>
      refine StepG.yes 15 false 55 rfl rfl (fun x => by simp only [putL, List.set_cons_zero, List.set_cons_succ]; rfl) rfl (fun x w h => h) ?_
      refine StepL.up fun x V hV hu K Q hK => ?_
      have u15 : x 15 = _ := hu 15 (by decide)
      clear hu
      simp only [putL, List.set_cons_zero, List.set_cons_succ] at hK ⊢
      rw [owp_eq]
      go_big_op
      exact hK _ _ (Below.refl _ _) rfl
    case refine_22 =>
      refine StepG.yes 15 false 55 rfl rfl (fun x => by simp only [putL, List.set_cons_zero, List.set_cons_succ]; rfl) rfl (fun x w h => h) ?_
      refine StepL.up fun x V hV hu K Q hK => ?_
      have u15 : x 15 = _ := hu 15 (by decide)
      have u19 : x 19 = _ := hu 19 (by decide)
      have u20 : x 20 = _ := hu 20 (by decide)
      clear hu
      simp only [putL, List.set_cons_zero, List.set_cons_succ] at hK ⊢
      rw [owp_eq]
      go_big_op
      refine (K4.out V hV).mono ?_
      rintro e V' ⟨rfl, hb⟩
      exact hK _ _ hb rfl
    case refine_23 =>
      refine StepG.yes 15 false 55 rfl rfl (fun x => by simp only [putL, List.set_cons_zero, List.set_cons_succ]; rfl) rfl (fun x w h => h) ?_
      refine StepL.up fun x V hV hu K Q hK => ?_
      have u15 : x 15 = _ := hu 15 (by decide)
      have u18 : x 18 = _ := hu 18 (by decide)
      have u21 : x 21 = _ := hu 21 (by decide)
      clear hu
      simp only [putL, List.set_cons_zero, List.set_cons_succ] at hK ⊢
      rw [owp_eq]
      go_big_op
      exact hK _ _ (Below.refl _ _) rfl
    case refine_24 =>
      refine StepG.of rfl ?_
      refine StepL.up fun x V hV hu K Q hK => ?_
      have u15 : x 15 = _ := hu 15 (by decide)
      have u22 : x 22 = _ := hu 22 (by decide)
      clear hu
      simp only [putL, List.set_cons_zero, List.set_cons_succ] at hK ⊢
      rw [owp_eq]
      go_big_op
      exact hK _ _ (Below.refl _ _) rfl
    case refine_25 =>
    intro xx X3 hV hA
    have h23 : xx 23 = _ := hA 23 rfl (by decide)
    have hb : Below X2.heap.size X2 X3 := hV
    replace HR' := Lib.hid (HR'.out.on hb)
    replace HL := Lib.hid (HL.out.on hb)
    replace HSX := Lib.hid (HSX.out.on hb)
    replace KX := Lib.hid (KX.out.below hb KX.out.lt)
    replace KT := Lib.hid (KT.out.below hb KT.out.lt)
    replace HB3 := Lib.hid (HB3.out.trans (hb.mono HB3.out.size))
    clear hA hV hb K1 K2 K3 K4 e0 e1 e2 e3 e4 e5 e6 e7 e8 e9 e10 e11 e12 f0 f1 f2 f3 f4 f5 f6 f7 f8 f9 f10 f11 f12
    try clear X2
    simp only [layL, putL, List.set_cons_zero, List.set_cons_succ]
    rw [h23]
    clear h23
    have K1 : Hid (∀ U : World, Cb X3 U → Calls Try.prog 14 #[.agg (shpA s h'), .int .i64 n] U (fun e w' => ∃ A c, e = .returned (.slice A (alongF s n false).length c) ∧ (alongF s n false).length ≤ c ∧ SlT tInt w' (Lt w'.heap.size) A (alongF s n false) ∧ Below U.heap.size U w')) := Lib.hid fun U hU => by
      refine (under_any s h' n U (HR'.out.on hU) HFW.out).mono ?_
      rintro e w' ho
      exact ho.sl
    have K2 : Hid (∀ U : World, Cb X3 U → Calls Try.prog 15 #[.agg (shpA s h'), .int .i64 n] U (fun e w' => ∃ A c, e = .returned (.slice A (alongF s n true).length c) ∧ (alongF s n true).length ≤ c ∧ SlT tInt w' (Lt w'.heap.size) A (alongF s n true) ∧ Below U.heap.size U w')) := Lib.hid fun U hU => by
      refine (upon_any s h' n U (HR'.out.on hU) HFW.out).mono ?_
      rintro e w' ho
      exact ho.sl
    have hal : ∀ d, (alongF s n d).length ≤ maxLen := fun d => by
      unfold alongF
      split
      · simp
      · have h1 := pick_len (alongB (s.covs.getD n.toNat default) d) s.cols
        have := HP.out.cols
        unfold maxLen
        omega
    have hLU := hal false
    have hLP := hal true
    clear hal
    generalize hlu : alongF s n false = LU at *
    generalize hlp : alongF s n true = LP at *
    have HLU := Lib.hid hlu
    have HLP := Lib.hid hlp
    clear hlu hlp
    unfold shpA at K1 K2
    have e0 : X3.cell? ⟨w.heap.size, 0, none⟩ = some (Value.slice h.A1 s.cols.length h.c1) := KX.out.cell 0
    have e1 : X3.cell? ⟨w.heap.size, 1, none⟩ = some (Value.slice h.A2 s.covs.length h.c2) := KX.out.cell 1
    have e2 : X3.cell? ⟨w.heap.size, 2, none⟩ = some (.int .i64 s.l0) := KX.out.cell 2
    have e3 : X3.cell? ⟨w.heap.size, 3, none⟩ = some (.int .i64 s.l1) := KX.out.cell 3
    have e4 : X3.cell? ⟨w.heap.size, 4, none⟩ = some (.int .i64 s.l2) := KX.out.cell 4
    have e5 : X3.cell? ⟨w.heap.size, 5, none⟩ = some (.int .i64 s.l3) := KX.out.cell 5
    have e6 : X3.cell? ⟨w.heap.size, 6, none⟩ = some (.slice h.A3 s.rows.length h.c3) := KX.out.cell 6
    have e7 : X3.cell? ⟨w.heap.size, 7, none⟩ = some (.slice h.A4 s.frames.length h.c4) := KX.out.cell 7
    have e8 : X3.cell? ⟨w.heap.size, 8, none⟩ = some (.slice h.A5 s.tanks.length h.c5) := KX.out.cell 8
    have e9 : X3.cell? ⟨w.heap.size, 9, none⟩ = some (.int .i64 s.m0) := KX.out.cell 9
    have e10 : X3.cell? ⟨w.heap.size, 10, none⟩ = some (.int .i64 s.m1) := KX.out.cell 10
    have e11 : X3.cell? ⟨w.heap.size, 11, none⟩ = some (.int .i64 s.m2) := KX.out.cell 11
    have e12 : X3.cell? ⟨w.heap.size, 12, none⟩ = some (.int .i64 s.m3) := KX.out.cell 12
    have f0 : X3.cell? ⟨gt, 0, none⟩ = some (Value.slice h'.A1 s.cols.length h'.c1) := KT.out.cell 0
    have f1 : X3.cell? ⟨gt, 1, none⟩ = some (Value.slice h'.A2 s.covs.length h'.c2) := KT.out.cell 1
    have f2 : X3.cell? ⟨gt, 2, none⟩ = some (.int .i64 s.l0) := KT.out.cell 2
    have f3 : X3.cell? ⟨gt, 3, none⟩ = some (.int .i64 s.l1) := KT.out.cell 3
    have f4 : X3.cell? ⟨gt, 4, none⟩ = some (.int .i64 s.l2) := KT.out.cell 4
    have f5 : X3.cell? ⟨gt, 5, none⟩ = some (.int .i64 s.l3) := KT.out.cell 5
    have f6 : X3.cell? ⟨gt, 6, none⟩ = some (.slice h'.A3 s.rows.length h'.c3) := KT.out.cell 6
    have f7 : X3.cell? ⟨gt, 7, none⟩ = some (.slice h'.A4 s.frames.length h'.c4) := KT.out.cell 7
    have f8 : X3.cell? ⟨gt, 8, none⟩ = some (.slice h'.A5 s.tanks.length h'.c5) := KT.out.cell 8
    have f9 : X3.cell? ⟨gt, 9, none⟩ = some (.int .i64 s.m0) := KT.out.cell 9
    have f10 : X3.cell? ⟨gt, 10, none⟩ = some (.int .i64 s.m1) := KT.out.cell 10
    have f11 : X3.cell? ⟨gt, 11, none⟩ = some (.int .i64 s.m2) := KT.out.cell 11
    have f12 : X3.cell? ⟨gt, 12, none⟩ = some (.int .i64 s.m3) := KT.out.cell 12
    go_upto_region 8 with fail
    refine wp_region_ogG [.val 0 (.agg #[.slice h'.A1 s.cols.length h'.c1, .slice h'.A2 s.covs.length h'.c2, .int .i64 s.l0, .int .i64 s.l1, .int .i64 s.l2, .int .i64 s.l3, .slice h'.A3 s.rows.length h'.c3, .slice h'.A4 s.frames.length h'.c4, .slice h'.A5 s.tanks.length h'.c5, .int .i64 s.m0, .int .i64 s.m1, .int .i64 s.m2, .int .i64 s.m3]),
      .val 1 (.int .i64 n),
      .slT tInt 2 LU,
      .val 3 (.agg #[.slice h'.A1 s.cols.length h'.c1, .slice h'.A2 s.covs.length h'.c2, .int .i64 s.l0, .int .i64 s.l1, .int .i64 s.l2, .int .i64 s.l3, .slice h'.A3 s.rows.length h'.c3, .slice h'.A4 s.frames.length h'.c4, .slice h'.A5 s.tanks.length h'.c5, .int .i64 s.m0, .int .i64 s.m1, .int .i64 s.m2, .int .i64 s.m3]),
      .val 4 (.int .i64 n),
      .slT tInt 5 LP,
      .slT tInt 6 LU,
      .slT tInt 7 LP]
      [[], [], [0, 1], [], [], [3, 4], [2], [5]] [6, 7] (Cb X3) (by kernel_rfl) (by kernel_rfl) (Cb.drew X3) ⟨?_, ?_, ?_, ?_, ?_, ?_, ?_, ?_, trivial⟩ ?_
    case refine_1 =>
      refine StepG.of rfl ?_
      refine StepL.up fun x V hV hu K Q hK => ?_
      have ff0 := hV.cell f0
      have ff1 := hV.cell f1
      have ff2 := hV.cell f2
      have ff3 := hV.cell f3
      have ff4 := hV.cell f4
      have ff5 := hV.cell f5
      have ff6 := hV.cell f6
      have ff7 := hV.cell f7
      have ff8 := hV.cell f8
      have ff9 := hV.cell f9
      have ff10 := hV.cell f10
      have ff11 := hV.cell f11
      have ff12 := hV.cell f12
      clear hu
      rw [owp_eq]
      go_big_op
      exact hK _ _ (Below.refl _ _) rfl
    case refine_2 =>
      refine StepG.of rfl ?_
      refine StepL.up fun x V hV hu K Q hK => ?_
      clear hu
      simp only [putL, List.set_cons_zero, List.set_cons_succ] at hK ⊢
      rw [owp_eq]
      go_big_op
      exact hK _ _ (Below.refl _ _) rfl
    case refine_3 =>
      refine StepG.of rfl ?_
      refine StepL.up fun x V hV hu K Q hK => ?_
      have u0 : x 0 = _ := hu 0 (by decide)
      have u1 : x 1 = _ := hu 1 (by decide)
      clear hu
      simp only [putL, List.set_cons_zero, List.set_cons_succ] at hK ⊢
      rw [owp_eq]
      go_big_op
      refine (K1.out V hV).mono ?_
      rintro e V' ⟨A, c, rfl, hc, hs, hb⟩
      exact hK _ _ hb ⟨A, c, rfl, hc, hs⟩
    case refine_4 =>
      refine StepG.of rfl ?_
      refine StepL.up fun x V hV hu K Q hK => ?_
      have ff0 := hV.cell f0
      have ff1 := hV.cell f1
      have ff2 := hV.cell f2
      have ff3 := hV.cell f3
      have ff4 := hV.cell f4
      have ff5 := hV.cell f5
      have ff6 := hV.cell f6
      have ff7 := hV.cell f7
      have ff8 := hV.cell f8
      have ff9 := hV.cell f9
      have ff10 := hV.cell f10
      have ff11 := hV.cell f11
      have ff12 := hV.cell f12
      clear hu
      simp only [putL, List.set_cons_zero, List.set_cons_succ] at hK ⊢
      rw [owp_eq]
      go_big_op
      exact hK _ _ (Below.refl _ _) rfl
    case refine_5 =>
      refine StepG.of rfl ?_
      refine StepL.up fun x V hV hu K Q hK => ?_
      clear hu
      simp only [putL, List.set_cons_zero, List.set_cons_succ] at hK ⊢
      rw [owp_eq]
      go_big_op
      exact hK _ _ (Below.refl _ _) rfl
    case refine_6 =>
      refine StepG.of rfl ?_
      refine StepL.up fun x V hV hu K Q hK => ?_
      have u3 : x 3 = _ := hu 3 (by decide)
      have u4 : x 4 = _ := hu 4 (by decide)
      clear hu
      simp only [putL, List.set_cons_zero, List.set_cons_succ] at hK ⊢
      rw [owp_eq]
      go_big_op
      refine (K2.out V hV).mono ?_
      rintro e V' ⟨A, c, rfl, hc, hs, hb⟩
      exact hK _ _ hb ⟨A, c, rfl, hc, hs⟩
    case refine_7 =>
      refine StepG.of rfl ?_
      refine StepL.up fun x V hV hu K Q hK => ?_
      obtain ⟨A2, c2, u2, hc2, hs2⟩ := hu 2 (by decide)
      clear hu
      simp only [putL, List.set_cons_zero, List.set_cons_succ] at hK ⊢
      rw [owp_eq]
      go_big_op
      exact hK _ _ (Below.refl _ _) ⟨A2, c2, rfl, hc2, hs2⟩
    case refine_8 =>
      refine StepG.of rfl ?_
      refine StepL.up fun x V hV hu K Q hK => ?_
      obtain ⟨A5, c5, u5, hc5, hs5⟩ := hu 5 (by decide)
      clear hu
      simp only [putL, List.set_cons_zero, List.set_cons_succ] at hK ⊢
      rw [owp_eq]
      go_big_op
      exact hK _ _ (Below.refl _ _) ⟨A5, c5, rfl, hc5, hs5⟩
    case refine_9 =>
    intro xx X4 hV hA
    obtain ⟨AU, cU, hU, hcU, hsU⟩ := hA 6 rfl (by decide)
    obtain ⟨AP, cP, hP, hcP, hsP⟩ := hA 7 rfl (by decide)
    have hb : Below X3.heap.size X3 X4 := hV
    replace HR' := Lib.hid (HR'.out.on hb)
    replace HL := Lib.hid (HL.out.on hb)
    replace HSX := Lib.hid (HSX.out.on hb)
    replace KX := Lib.hid (KX.out.below hb KX.out.lt)
    replace KT := Lib.hid (KT.out.below hb KT.out.lt)
    replace HB3 := Lib.hid (HB3.out.trans (hb.mono HB3.out.size))
    have HSU := Lib.hid hsU
    have HSP := Lib.hid hsP
    clear hA hV hb hsU hsP K1 K2 e0 e1 e2 e3 e4 e5 e6 e7 e8 e9 e10 e11 e12 f0 f1 f2 f3 f4 f5 f6 f7 f8 f9 f10 f11 f12
    try clear X3
    simp only [layL, putL, List.set_cons_zero, List.set_cons_succ]
    rw [hU, hP]
    clear hU hP
    have KB := Lib.hid (refAlong_any s h n false X4 HSX.out HFW.out)
    rw [HLU.out] at KB
    unfold shpA at KB
    have e0 : X4.cell? ⟨w.heap.size, 0, none⟩ = some (Value.slice h.A1 s.cols.length h.c1) := KX.out.cell 0
    have e1 : X4.cell? ⟨w.heap.size, 1, none⟩ = some (Value.slice h.A2 s.covs.length h.c2) := KX.out.cell 1
    have e2 : X4.cell? ⟨w.heap.size, 2, none⟩ = some (.int .i64 s.l0) := KX.out.cell 2
    have e3 : X4.cell? ⟨w.heap.size, 3, none⟩ = some (.int .i64 s.l1) := KX.out.cell 3
    have e4 : X4.cell? ⟨w.heap.size, 4, none⟩ = some (.int .i64 s.l2) := KX.out.cell 4
    have e5 : X4.cell? ⟨w.heap.size, 5, none⟩ = some (.int .i64 s.l3) := KX.out.cell 5
    have e6 : X4.cell? ⟨w.heap.size, 6, none⟩ = some (.slice h.A3 s.rows.length h.c3) := KX.out.cell 6
    have e7 : X4.cell? ⟨w.heap.size, 7, none⟩ = some (.slice h.A4 s.frames.length h.c4) := KX.out.cell 7
    have e8 : X4.cell? ⟨w.heap.size, 8, none⟩ = some (.slice h.A5 s.tanks.length h.c5) := KX.out.cell 8
    have e9 : X4.cell? ⟨w.heap.size, 9, none⟩ = some (.int .i64 s.m0) := KX.out.cell 9
    have e10 : X4.cell? ⟨w.heap.size, 10, none⟩ = some (.int .i64 s.m1) := KX.out.cell 10
    have e11 : X4.cell? ⟨w.heap.size, 11, none⟩ = some (.int .i64 s.m2) := KX.out.cell 11
    have e12 : X4.cell? ⟨w.heap.size, 12, none⟩ = some (.int .i64 s.m3) := KX.out.cell 12
    have f0 : X4.cell? ⟨gt, 0, none⟩ = some (Value.slice h'.A1 s.cols.length h'.c1) := KT.out.cell 0
    have f1 : X4.cell? ⟨gt, 1, none⟩ = some (Value.slice h'.A2 s.covs.length h'.c2) := KT.out.cell 1
    have f2 : X4.cell? ⟨gt, 2, none⟩ = some (.int .i64 s.l0) := KT.out.cell 2
    have f3 : X4.cell? ⟨gt, 3, none⟩ = some (.int .i64 s.l1) := KT.out.cell 3
    have f4 : X4.cell? ⟨gt, 4, none⟩ = some (.int .i64 s.l2) := KT.out.cell 4
    have f5 : X4.cell? ⟨gt, 5, none⟩ = some (.int .i64 s.l3) := KT.out.cell 5
    have f6 : X4.cell? ⟨gt, 6, none⟩ = some (.slice h'.A3 s.rows.length h'.c3) := KT.out.cell 6
    have f7 : X4.cell? ⟨gt, 7, none⟩ = some (.slice h'.A4 s.frames.length h'.c4) := KT.out.cell 7
    have f8 : X4.cell? ⟨gt, 8, none⟩ = some (.slice h'.A5 s.tanks.length h'.c5) := KT.out.cell 8
    have f9 : X4.cell? ⟨gt, 9, none⟩ = some (.int .i64 s.m0) := KT.out.cell 9
    have f10 : X4.cell? ⟨gt, 10, none⟩ = some (.int .i64 s.m1) := KT.out.cell 10
    have f11 : X4.cell? ⟨gt, 11, none⟩ = some (.int .i64 s.m2) := KT.out.cell 11
    have f12 : X4.cell? ⟨gt, 12, none⟩ = some (.int .i64 s.m3) := KT.out.cell 12
    go_wp2_with fail
    refine KB.out.mono ?_
    rintro e X5 ho
    obtain ⟨AU2, cU2, rfl, hcU2, hsU2, hb⟩ := ho.sl
    clear ho
    simp only
    clear e0 e1 e2 e3 e4 e5 e6 e7 e8 e9 e10 e11 e12 f0 f1 f2 f3 f4 f5 f6 f7 f8 f9 f10 f11 f12
    replace HR' := Lib.hid (HR'.out.on hb)
    replace HL := Lib.hid (HL.out.on hb)
    replace HSX := Lib.hid (HSX.out.on hb)
    replace KX := Lib.hid (KX.out.below hb KX.out.lt)
    replace KT := Lib.hid (KT.out.below hb KT.out.lt)
    replace HB3 := Lib.hid (HB3.out.trans (hb.mono HB3.out.size))
    replace HSU := Lib.hid (HSU.out.on hb)
    replace HSP := Lib.hid (HSP.out.on hb)
    clear hb KB
    try clear X4
    have KS := Lib.hid (sameInts_any AU AU2 cU cU2 LU LU (Lt X5.heap.size) (Lt X5.heap.size) X5 HSU.out hsU2 hLU)
    rw [decide_eq_true rfl] at KS
    go_wp2_with fail
    refine KS.out.mono ?_
    rintro e X6 ⟨rfl, mm, hmm⟩
    simp only
    have hb : Below X5.heap.size X5 X6 := by rw [hmm]; exact below_drewN (Below.refl _ _) mm
    clear hmm KS
    replace HR' := Lib.hid (HR'.out.on hb)
    replace HL := Lib.hid (HL.out.on hb)
    replace HSX := Lib.hid (HSX.out.on hb)
    replace KX := Lib.hid (KX.out.below hb KX.out.lt)
    replace KT := Lib.hid (KT.out.below hb KT.out.lt)
    replace HB3 := Lib.hid (HB3.out.trans (hb.mono HB3.out.size))
    replace HSP := Lib.hid (HSP.out.on hb)
    clear hb hsU2 HSU
    try clear X5
    have KB := Lib.hid (refAlong_any s h n true X6 HSX.out HFW.out)
    rw [HLP.out] at KB
    unfold shpA at KB
    have e0 : X6.cell? ⟨w.heap.size, 0, none⟩ = some (Value.slice h.A1 s.cols.length h.c1) := KX.out.cell 0
    have e1 : X6.cell? ⟨w.heap.size, 1, none⟩ = some (Value.slice h.A2 s.covs.length h.c2) := KX.out.cell 1
    have e2 : X6.cell? ⟨w.heap.size, 2, none⟩ = some (.int .i64 s.l0) := KX.out.cell 2
    have e3 : X6.cell? ⟨w.heap.size, 3, none⟩ = some (.int .i64 s.l1) := KX.out.cell 3
    have e4 : X6.cell? ⟨w.heap.size, 4, none⟩ = some (.int .i64 s.l2) := KX.out.cell 4
    have e5 : X6.cell? ⟨w.heap.size, 5, none⟩ = some (.int .i64 s.l3) := KX.out.cell 5
    have e6 : X6.cell? ⟨w.heap.size, 6, none⟩ = some (.slice h.A3 s.rows.length h.c3) := KX.out.cell 6
    have e7 : X6.cell? ⟨w.heap.size, 7, none⟩ = some (.slice h.A4 s.frames.length h.c4) := KX.out.cell 7
    have e8 : X6.cell? ⟨w.heap.size, 8, none⟩ = some (.slice h.A5 s.tanks.length h.c5) := KX.out.cell 8
    have e9 : X6.cell? ⟨w.heap.size, 9, none⟩ = some (.int .i64 s.m0) := KX.out.cell 9
    have e10 : X6.cell? ⟨w.heap.size, 10, none⟩ = some (.int .i64 s.m1) := KX.out.cell 10
    have e11 : X6.cell? ⟨w.heap.size, 11, none⟩ = some (.int .i64 s.m2) := KX.out.cell 11
    have e12 : X6.cell? ⟨w.heap.size, 12, none⟩ = some (.int .i64 s.m3) := KX.out.cell 12
    have f0 : X6.cell? ⟨gt, 0, none⟩ = some (Value.slice h'.A1 s.cols.length h'.c1) := KT.out.cell 0
    have f1 : X6.cell? ⟨gt, 1, none⟩ = some (Value.slice h'.A2 s.covs.length h'.c2) := KT.out.cell 1
    have f2 : X6.cell? ⟨gt, 2, none⟩ = some (.int .i64 s.l0) := KT.out.cell 2
    have f3 : X6.cell? ⟨gt, 3, none⟩ = some (.int .i64 s.l1) := KT.out.cell 3
    have f4 : X6.cell? ⟨gt, 4, none⟩ = some (.int .i64 s.l2) := KT.out.cell 4
    have f5 : X6.cell? ⟨gt, 5, none⟩ = some (.int .i64 s.l3) := KT.out.cell 5
    have f6 : X6.cell? ⟨gt, 6, none⟩ = some (.slice h'.A3 s.rows.length h'.c3) := KT.out.cell 6
    have f7 : X6.cell? ⟨gt, 7, none⟩ = some (.slice h'.A4 s.frames.length h'.c4) := KT.out.cell 7
    have f8 : X6.cell? ⟨gt, 8, none⟩ = some (.slice h'.A5 s.tanks.length h'.c5) := KT.out.cell 8
    have f9 : X6.cell? ⟨gt, 9, none⟩ = some (.int .i64 s.m0) := KT.out.cell 9
    have f10 : X6.cell? ⟨gt, 10, none⟩ = some (.int .i64 s.m1) := KT.out.cell 10
    have f11 : X6.cell? ⟨gt, 11, none⟩ = some (.int .i64 s.m2) := KT.out.cell 11
    have f12 : X6.cell? ⟨gt, 12, none⟩ = some (.int .i64 s.m3) := KT.out.cell 12
    go_wp2_with fail
    refine KB.out.mono ?_
    rintro e X7 ho
    obtain ⟨AP2, cP2, rfl, hcP2, hsP2, hb⟩ := ho.sl
    clear ho
    simp only
    clear e0 e1 e2 e3 e4 e5 e6 e7 e8 e9 e10 e11 e12 f0 f1 f2 f3 f4 f5 f6 f7 f8 f9 f10 f11 f12
    replace HR' := Lib.hid (HR'.out.on hb)
    replace HL := Lib.hid (HL.out.on hb)
    replace HSX := Lib.hid (HSX.out.on hb)
    replace KX := Lib.hid (KX.out.below hb KX.out.lt)
    replace KT := Lib.hid (KT.out.below hb KT.out.lt)
    replace HB3 := Lib.hid (HB3.out.trans (hb.mono HB3.out.size))
    replace HSP := Lib.hid (HSP.out.on hb)
    clear hb KB
    try clear X6
    have KS := Lib.hid (sameInts_any AP AP2 cP cP2 LP LP (Lt X7.heap.size) (Lt X7.heap.size) X7 HSP.out hsP2 hLP)
    rw [decide_eq_true rfl] at KS
    go_wp2_with fail
    refine KS.out.mono ?_
    rintro e X8 ⟨rfl, mm, hmm⟩
    simp only
    have hb : Below X7.heap.size X7 X8 := by rw [hmm]; exact below_drewN (Below.refl _ _) mm
    clear hmm KS
    replace HR' := Lib.hid (HR'.out.on hb)
    replace HL := Lib.hid (HL.out.on hb)
    replace HSX := Lib.hid (HSX.out.on hb)
    replace KX := Lib.hid (KX.out.below hb KX.out.lt)
    replace KT := Lib.hid (KT.out.below hb KT.out.lt)
    replace HB3 := Lib.hid (HB3.out.trans (hb.mono HB3.out.size))
    clear hb hsP2 HSP
    try clear X7
    have K1 : Hid (∀ U : World, Cb X8 U → Calls Try.prog 18 #[.agg (shpA s h')] U (Ret U (.int .i64 (tallTo s.cols s.cols.length)))) := Lib.hid fun U hU => tallest_any s h' U (HR'.out.on hU) HFW.out.cols
    have K2 : Hid (∀ U : World, Cb X8 U → Calls Try.prog 19 #[.agg (shpA s h)] U (Ret U (.int .i64 (tallTo s.cols s.cols.length)))) := Lib.hid fun U hU => refTallest_any s h U (HSX.out.on hU) HFW.out.cols
    have K3 : Hid (∀ U : World, Cb X8 U → Calls Try.prog 20 #[.agg (shpA s h')] U (Ret U (.int .i64 (placesTo s.cols s.cols.length)))) := Lib.hid fun U hU => places_any s h' U (HR'.out.on hU) HFW.out.cols
    have K4 : Hid (∀ U : World, Cb X8 U → Calls Try.prog 21 #[.agg (shpA s h)] U (Ret U (.int .i64 (placesTo s.cols s.cols.length)))) := Lib.hid fun U hU => refPlaces_any s h U (HSX.out.on hU) HFW.out.cols
    have KK : Hid (∀ U : World, Cb X8 U → Calls Try.prog 22 #[.agg (shpA s h'), .agg (shpA s h)] U (Ret U (.bool true))) := Lib.hid fun U hU => keptShip_any s h' h U (HL.out.on hU) (HSX.out.on hU) HFL.out
    generalize tallTo s.cols s.cols.length = tl at *
    generalize placesTo s.cols s.cols.length = pl at *
    unfold shpA at K1 K2 K3 K4 KK
    have e0 : X8.cell? ⟨w.heap.size, 0, none⟩ = some (Value.slice h.A1 s.cols.length h.c1) := KX.out.cell 0
    have e1 : X8.cell? ⟨w.heap.size, 1, none⟩ = some (Value.slice h.A2 s.covs.length h.c2) := KX.out.cell 1
    have e2 : X8.cell? ⟨w.heap.size, 2, none⟩ = some (.int .i64 s.l0) := KX.out.cell 2
    have e3 : X8.cell? ⟨w.heap.size, 3, none⟩ = some (.int .i64 s.l1) := KX.out.cell 3
    have e4 : X8.cell? ⟨w.heap.size, 4, none⟩ = some (.int .i64 s.l2) := KX.out.cell 4
    have e5 : X8.cell? ⟨w.heap.size, 5, none⟩ = some (.int .i64 s.l3) := KX.out.cell 5
    have e6 : X8.cell? ⟨w.heap.size, 6, none⟩ = some (.slice h.A3 s.rows.length h.c3) := KX.out.cell 6
    have e7 : X8.cell? ⟨w.heap.size, 7, none⟩ = some (.slice h.A4 s.frames.length h.c4) := KX.out.cell 7
    have e8 : X8.cell? ⟨w.heap.size, 8, none⟩ = some (.slice h.A5 s.tanks.length h.c5) := KX.out.cell 8
    have e9 : X8.cell? ⟨w.heap.size, 9, none⟩ = some (.int .i64 s.m0) := KX.out.cell 9
    have e10 : X8.cell? ⟨w.heap.size, 10, none⟩ = some (.int .i64 s.m1) := KX.out.cell 10
    have e11 : X8.cell? ⟨w.heap.size, 11, none⟩ = some (.int .i64 s.m2) := KX.out.cell 11
    have e12 : X8.cell? ⟨w.heap.size, 12, none⟩ = some (.int .i64 s.m3) := KX.out.cell 12
    have f0 : X8.cell? ⟨gt, 0, none⟩ = some (Value.slice h'.A1 s.cols.length h'.c1) := KT.out.cell 0
    have f1 : X8.cell? ⟨gt, 1, none⟩ = some (Value.slice h'.A2 s.covs.length h'.c2) := KT.out.cell 1
    have f2 : X8.cell? ⟨gt, 2, none⟩ = some (.int .i64 s.l0) := KT.out.cell 2
    have f3 : X8.cell? ⟨gt, 3, none⟩ = some (.int .i64 s.l1) := KT.out.cell 3
    have f4 : X8.cell? ⟨gt, 4, none⟩ = some (.int .i64 s.l2) := KT.out.cell 4
    have f5 : X8.cell? ⟨gt, 5, none⟩ = some (.int .i64 s.l3) := KT.out.cell 5
    have f6 : X8.cell? ⟨gt, 6, none⟩ = some (.slice h'.A3 s.rows.length h'.c3) := KT.out.cell 6
    have f7 : X8.cell? ⟨gt, 7, none⟩ = some (.slice h'.A4 s.frames.length h'.c4) := KT.out.cell 7
    have f8 : X8.cell? ⟨gt, 8, none⟩ = some (.slice h'.A5 s.tanks.length h'.c5) := KT.out.cell 8
    have f9 : X8.cell? ⟨gt, 9, none⟩ = some (.int .i64 s.m0) := KT.out.cell 9
    have f10 : X8.cell? ⟨gt, 10, none⟩ = some (.int .i64 s.m1) := KT.out.cell 10
    have f11 : X8.cell? ⟨gt, 11, none⟩ = some (.int .i64 s.m2) := KT.out.cell 11
    have f12 : X8.cell? ⟨gt, 12, none⟩ = some (.int .i64 s.m3) := KT.out.cell 12
    go_upto_region 11 with fail
    refine wp_region_ogG [.val 0 (.agg #[.slice h'.A1 s.cols.length h'.c1, .slice h'.A2 s.covs.length h'.c2, .int .i64 s.l0, .int .i64 s.l1, .int .i64 s.l2, .int .i64 s.l3, .slice h'.A3 s.rows.length h'.c3, .slice h'.A4 s.frames.length h'.c4, .slice h'.A5 s.tanks.length h'.c5, .int .i64 s.m0, .int .i64 s.m1, .int .i64 s.m2, .int .i64 s.m3]),
      .val 1 (.int .i64 tl),
      .val 2 (.agg #[.slice h.A1 s.cols.length h.c1, .slice h.A2 s.covs.length h.c2, .int .i64 s.l0, .int .i64 s.l1, .int .i64 s.l2, .int .i64 s.l3, .slice h.A3 s.rows.length h.c3, .slice h.A4 s.frames.length h.c4, .slice h.A5 s.tanks.length h.c5, .int .i64 s.m0, .int .i64 s.m1, .int .i64 s.m2, .int .i64 s.m3]),
      .val 3 (.int .i64 tl),
      .val 4 (.bool true),
      .val 5 (.bool true),
      .val 6 (.agg #[.slice h'.A1 s.cols.length h'.c1, .slice h'.A2 s.covs.length h'.c2, .int .i64 s.l0, .int .i64 s.l1, .int .i64 s.l2, .int .i64 s.l3, .slice h'.A3 s.rows.length h'.c3, .slice h'.A4 s.frames.length h'.c4, .slice h'.A5 s.tanks.length h'.c5, .int .i64 s.m0, .int .i64 s.m1, .int .i64 s.m2, .int .i64 s.m3]),
      .val 7 (.int .i64 pl),
      .val 8 (.agg #[.slice h.A1 s.cols.length h.c1, .slice h.A2 s.covs.length h.c2, .int .i64 s.l0, .int .i64 s.l1, .int .i64 s.l2, .int .i64 s.l3, .slice h.A3 s.rows.length h.c3, .slice h.A4 s.frames.length h.c4, .slice h.A5 s.tanks.length h.c5, .int .i64 s.m0, .int .i64 s.m1, .int .i64 s.m2, .int .i64 s.m3]),
      .val 9 (.int .i64 pl),
      .val 10 (.bool true),
      .val 11 (.bool true),
      .val 12 (.bool true),
      .val 13 (.agg #[.slice h'.A1 s.cols.length h'.c1, .slice h'.A2 s.covs.length h'.c2, .int .i64 s.l0, .int .i64 s.l1, .int .i64 s.l2, .int .i64 s.l3, .slice h'.A3 s.rows.length h'.c3, .slice h'.A4 s.frames.length h'.c4, .slice h'.A5 s.tanks.length h'.c5, .int .i64 s.m0, .int .i64 s.m1, .int .i64 s.m2, .int .i64 s.m3]),
      .val 14 (.agg #[.slice h.A1 s.cols.length h.c1, .slice h.A2 s.covs.length h.c2, .int .i64 s.l0, .int .i64 s.l1, .int .i64 s.l2, .int .i64 s.l3, .slice h.A3 s.rows.length h.c3, .slice h.A4 s.frames.length h.c4, .slice h.A5 s.tanks.length h.c5, .int .i64 s.m0, .int .i64 s.m1, .int .i64 s.m2, .int .i64 s.m3]),
      .val 15 (.bool true),
      .val 16 (.bool true),
      .val 17 (.bool true),
      .val 18 (.bool true),
      .val 19 (.bool true),
      .val 20 (.bool true)]
      [[], [0], [], [2], [1, 3], [4], [5], [5, 6], [5], [5, 8], [5, 7, 9], [5, 10], [11], [12], [12], [12, 13, 14], [12, 15], [16], [17], [17, 18], [19]] [20] (Cb X8) (by kernel_rfl) (by kernel_rfl) (Cb.drew X8) ⟨?_, ?_, ?_, ?_, ?_, ?_, ?_, ?_, ?_, ?_, ?_, ?_, ?_, ?_, ?_, ?_, ?_, ?_, ?_, ?_, ?_, trivial⟩ ?_
    case refine_1 =>
      refine StepG.of rfl ?_
      refine StepL.up fun x V hV hu K Q hK => ?_
      have ff0 := hV.cell f0
      have ff1 := hV.cell f1
      have ff2 := hV.cell f2
      have ff3 := hV.cell f3
      have ff4 := hV.cell f4
      have ff5 := hV.cell f5
      have ff6 := hV.cell f6
      have ff7 := hV.cell f7
      have ff8 := hV.cell f8
      have ff9 := hV.cell f9
      have ff10 := hV.cell f10
      have ff11 := hV.cell f11
      have ff12 := hV.cell f12
      clear hu
      rw [owp_eq]
      go_big_op
      exact hK _ _ (Below.refl _ _) rfl
    case refine_2 =>
      refine StepG.of rfl ?_
      refine StepL.up fun x V hV hu K Q hK => ?_
      have u0 : x 0 = _ := hu 0 (by decide)
      clear hu
      simp only [putL, List.set_cons_zero, List.set_cons_succ] at hK ⊢
      rw [owp_eq]
      go_big_op
      refine (K1.out V hV).mono ?_
      rintro e V' ⟨rfl, hb⟩
      exact hK _ _ hb rfl
    case refine_3 =>
      refine StepG.of rfl ?_
      refine StepL.up fun x V hV hu K Q hK => ?_
      have fe0 := hV.cell e0
      have fe1 := hV.cell e1
      have fe2 := hV.cell e2
      have fe3 := hV.cell e3
      have fe4 := hV.cell e4
      have fe5 := hV.cell e5
      have fe6 := hV.cell e6
      have fe7 := hV.cell e7
      have fe8 := hV.cell e8
      have fe9 := hV.cell e9
      have fe10 := hV.cell e10
      have fe11 := hV.cell e11
      have fe12 := hV.cell e12
      clear hu
      simp only [putL, List.set_cons_zero, List.set_cons_succ] at hK ⊢
      rw [owp_eq]
      go_big_op
      exact hK _ _ (Below.refl _ _) rfl
    case refine_4 =>
      refine StepG.of rfl ?_
      refine StepL.up fun x V hV hu K Q hK => ?_
      have u2 : x 2 = _ := hu 2 (by decide)
      clear hu
      simp only [putL, List.set_cons_zero, List.set_cons_succ] at hK ⊢
      rw [owp_eq]
      go_big_op
      refine (K2.out V hV).mono ?_
      rintro e V' ⟨rfl, hb⟩
      exact hK _ _ hb rfl
    case refine_5 =>
      refine StepG.of rfl ?_
      refine StepL.up fun x V hV hu K Q hK => ?_
      have u1 : x 1 = _ := hu 1 (by decide)
      have u3 : x 3 = _ := hu 3 (by decide)
      clear hu
      simp only [putL, List.set_cons_zero, List.set_cons_succ] at hK ⊢
      rw [owp_eq]
      go_big_op
      exact hK _ _ (Below.refl _ _) rfl
    case refine_6 =>
      refine StepG.of rfl ?_
      refine StepL.up fun x V hV hu K Q hK => ?_
      have u4 : x 4 = _ := hu 4 (by decide)
      clear hu
      simp only [putL, List.set_cons_zero, List.set_cons_succ] at hK ⊢
      rw [owp_eq]
      go_big_op
      exact hK _ _ (Below.refl _ _) rfl
    case refine_7 =>
      refine StepG.yes 5 true 89 rfl rfl (fun x => by simp only [putL, List.set_cons_zero, List.set_cons_succ]; rfl) rfl (fun x w h => h) ?_
      refine StepL.up fun x V hV hu K Q hK => ?_
      have u5 : x 5 = _ := hu 5 (by decide)
      have ff0 := hV.cell f0
      have ff1 := hV.cell f1
      have ff2 := hV.cell f2
      have ff3 := hV.cell f3
      have ff4 := hV.cell f4
      have ff5 := hV.cell f5
      have ff6 := hV.cell f6
      have ff7 := hV.cell f7
      have ff8 := hV.cell f8
      have ff9 := hV.cell f9
      have ff10 := hV.cell f10
      have ff11 := hV.cell f11
      have ff12 := hV.cell f12
      clear hu
      simp only [putL, List.set_cons_zero, List.set_cons_succ] at hK ⊢
      rw [owp_eq]
      go_big_op
      exact hK _ _ (Below.refl _ _) rfl
    case refine_8 =>
      refine StepG.yes 5 true 89 rfl rfl (fun x => by simp only [putL, List.set_cons_zero, List.set_cons_succ]; rfl) rfl (fun x w h => h) ?_
      refine StepL.up fun x V hV hu K Q hK => ?_
      have u5 : x 5 = _ := hu 5 (by decide)
      have u6 : x 6 = _ := hu 6 (by decide)
      clear hu
      simp only [putL, List.set_cons_zero, List.set_cons_succ] at hK ⊢
      rw [owp_eq]
      go_big_op
      refine (K3.out V hV).mono ?_
      rintro e V' ⟨rfl, hb⟩
      exact hK _ _ hb rfl
    case refine_9 =>
      refine StepG.yes 5 true 89 rfl rfl (fun x => by simp only [putL, List.set_cons_zero, List.set_cons_succ]; rfl) rfl (fun x w h => h) ?_
      refine StepL.up fun x V hV hu K Q hK => ?_
      have u5 : x 5 = _ := hu 5 (by decide)
      have fe0 := hV.cell e0
      have fe1 := hV.cell e1
      have fe2 := hV.cell e2
      have fe3 := hV.cell e3
      have fe4 := hV.cell e4
      have fe5 := hV.cell e5
      have fe6 := hV.cell e6
      have fe7 := hV.cell e7
      have fe8 := hV.cell e8
      have fe9 := hV.cell e9
      have fe10 := hV.cell e10
      have fe11 := hV.cell e11
      have fe12 := hV.cell e12
      clear hu
      simp only [putL, List.set_cons_zero, List.set_cons_succ] at hK ⊢
      rw [owp_eq]
      go_big_op
      exact hK _ _ (Below.refl _ _) rfl
    case refine_10 =>
      refine StepG.yes 5 true 89 rfl rfl (fun x => by simp only [putL, List.set_cons_zero, List.set_cons_succ]; rfl) rfl (fun x w h => h) ?_
      refine StepL.up fun x V hV hu K Q hK => ?_
      have u5 : x 5 = _ := hu 5 (by decide)
      have u8 : x 8 = _ := hu 8 (by decide)
      clear hu
      simp only [putL, List.set_cons_zero, List.set_cons_succ] at hK ⊢
      rw [owp_eq]
      go_big_op
      refine (K4.out V hV).mono ?_
      rintro e V' ⟨rfl, hb⟩
      exact hK _ _ hb rfl
    case refine_11 =>
      refine StepG.yes 5 true 89 rfl rfl (fun x => by simp only [putL, List.set_cons_zero, List.set_cons_succ]; rfl) rfl (fun x w h => h) ?_
      refine StepL.up fun x V hV hu K Q hK => ?_
      have u5 : x 5 = _ := hu 5 (by decide)
      have u7 : x 7 = _ := hu 7 (by decide)
      have u9 : x 9 = _ := hu 9 (by decide)
      clear hu
      simp only [putL, List.set_cons_zero, List.set_cons_succ] at hK ⊢
      rw [owp_eq]
      go_big_op
      exact hK _ _ (Below.refl _ _) rfl
    case refine_12 =>
      refine StepG.of rfl ?_
      refine StepL.up fun x V hV hu K Q hK => ?_
      have u5 : x 5 = _ := hu 5 (by decide)
      have u10 : x 10 = _ := hu 10 (by decide)
      clear hu
      simp only [putL, List.set_cons_zero, List.set_cons_succ] at hK ⊢
      rw [owp_eq]
      go_big_op
      exact hK _ _ (Below.refl _ _) rfl
    case refine_13 =>
      refine StepG.of rfl ?_
      refine StepL.up fun x V hV hu K Q hK => ?_
      have u11 : x 11 = _ := hu 11 (by decide)
      clear hu
      simp only [putL, List.set_cons_zero, List.set_cons_succ] at hK ⊢
      rw [owp_eq]
      go_big_op
      exact hK _ _ (Below.refl _ _) rfl
    case refine_14 =>
      refine StepG.yes 12 true 96 rfl rfl (fun x => by simp only [putL, List.set_cons_zero, List.set_cons_succ]; rfl) rfl (fun x w h => h) ?_
      refine StepL.up fun x V hV hu K Q hK => ?_
      have u12 : x 12 = _ := hu 12 (by decide)
      have ff0 := hV.cell f0
      have ff1 := hV.cell f1
      have ff2 := hV.cell f2
      have ff3 := hV.cell f3
      have ff4 := hV.cell f4
      have ff5 := hV.cell f5
      have ff6 := hV.cell f6
      have ff7 := hV.cell f7
      have ff8 := hV.cell f8
      have ff9 := hV.cell f9
      have ff10 := hV.cell f10
      have ff11 := hV.cell f11
      have ff12 := hV.cell f12
      clear hu
      simp only [putL, List.set_cons_zero, List.set_cons_succ] at hK ⊢
      rw [owp_eq]
      go_big_op
      exact hK _ _ (Below.refl _ _) rfl
    case refine_15 =>
      refine StepG.yes 12 true 96 rfl rfl (fun x => by simp only [putL, List.set_cons_zero, List.set_cons_succ]; rfl) rfl (fun x w h => h) ?_
      refine StepL.up fun x V hV hu K Q hK => ?_
      have u12 : x 12 = _ := hu 12 (by decide)
      have fe0 := hV.cell e0
      have fe1 := hV.cell e1
      have fe2 := hV.cell e2
      have fe3 := hV.cell e3
      have fe4 := hV.cell e4
      have fe5 := hV.cell e5
      have fe6 := hV.cell e6
      have fe7 := hV.cell e7
      have fe8 := hV.cell e8
      have fe9 := hV.cell e9
      have fe10 := hV.cell e10
      have fe11 := hV.cell e11
      have fe12 := hV.cell e12
      clear hu
      simp only [putL, List.set_cons_zero, List.set_cons_succ] at hK ⊢
      rw [owp_eq]
      go_big_op
      exact hK _ _ (Below.refl _ _) rfl
    case refine_16 =>
      refine StepG.yes 12 true 96 rfl rfl (fun x => by simp only [putL, List.set_cons_zero, List.set_cons_succ]; rfl) rfl (fun x w h => h) ?_
      refine StepL.up fun x V hV hu K Q hK => ?_
      have u12 : x 12 = _ := hu 12 (by decide)
      have u13 : x 13 = _ := hu 13 (by decide)
      have u14 : x 14 = _ := hu 14 (by decide)
      clear hu
      simp only [putL, List.set_cons_zero, List.set_cons_succ] at hK ⊢
      rw [owp_eq]
      go_big_op
      refine (KK.out V hV).mono ?_
      rintro e V' ⟨rfl, hb⟩
      exact hK _ _ hb rfl
    case refine_17 =>
      refine StepG.of rfl ?_
      refine StepL.up fun x V hV hu K Q hK => ?_
      have u12 : x 12 = _ := hu 12 (by decide)
      have u15 : x 15 = _ := hu 15 (by decide)
      clear hu
      simp only [putL, List.set_cons_zero, List.set_cons_succ] at hK ⊢
      rw [owp_eq]
      go_big_op
      exact hK _ _ (Below.refl _ _) rfl
    case refine_18 =>
      refine StepG.of rfl ?_
      refine StepL.up fun x V hV hu K Q hK => ?_
      have u16 : x 16 = _ := hu 16 (by decide)
      clear hu
      simp only [putL, List.set_cons_zero, List.set_cons_succ] at hK ⊢
      rw [owp_eq]
      go_big_op
      exact hK _ _ (Below.refl _ _) rfl
    case refine_19 =>
      refine StepG.yes 17 true 101 rfl rfl (fun x => by simp only [putL, List.set_cons_zero, List.set_cons_succ]; rfl) rfl (fun x w h => h) ?_
      refine StepL.up fun x V hV hu K Q hK => ?_
      have u17 : x 17 = _ := hu 17 (by decide)
      clear hu
      simp only [putL, List.set_cons_zero, List.set_cons_succ] at hK ⊢
      rw [owp_eq]
      go_big_op
      refine (awake_true V).mono ?_
      rintro e V' ⟨rfl, hb⟩
      exact hK _ _ hb rfl
    case refine_20 =>
      refine StepG.of rfl ?_
      refine StepL.up fun x V hV hu K Q hK => ?_
      have u17 : x 17 = _ := hu 17 (by decide)
      have u18 : x 18 = _ := hu 18 (by decide)
      clear hu
      simp only [putL, List.set_cons_zero, List.set_cons_succ] at hK ⊢
      rw [owp_eq]
      go_big_op
      exact hK _ _ (Below.refl _ _) rfl
    case refine_21 =>
      refine StepG.of rfl ?_
      refine StepL.up fun x V hV hu K Q hK => ?_
      have u19 : x 19 = _ := hu 19 (by decide)
      clear hu
      simp only [putL, List.set_cons_zero, List.set_cons_succ] at hK ⊢
      rw [owp_eq]
      go_big_op
      exact hK _ _ (Below.refl _ _) rfl
    case refine_22 =>
    intro xx Y hV hA
    have h20 : xx 20 = _ := hA 20 rfl (by decide)
    have HE := Lib.hid (HB0.out.trans ((HB3.out.trans (Below.mono hV HB3.out.size)).mono HB0.out.size))
    clear hA hV K1 K2 K3 K4 KK e0 e1 e2 e3 e4 e5 e6 e7 e8 e9 e10 e11 e12 f0 f1 f2 f3 f4 f5 f6 f7 f8 f9 f10 f11 f12 KX KT HSX HR' HL
    simp only [layL, putL, List.set_cons_zero, List.set_cons_succ]
    rw [h20]
    clear h20
    go_wp2_with fail
    go_ret
    exact ⟨rfl, HE.out⟩
end Go.Proofs.Ytpmhchbkhohmjaa
