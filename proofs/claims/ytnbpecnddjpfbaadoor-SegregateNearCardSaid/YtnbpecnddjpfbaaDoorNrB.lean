/-
  The walk of the statement SegregateNear.
-/
import Derived.Test.YtnbpecnddjpfbaaDoorNrA
import Derived.Test.YtnbpecnddjpfbaaDoorFw14
import Derived.Test.YtnbpecnddjpfbaaDoorRfZ
import Derived.Test.YtnbpecnddjpfbaaDoorKpZ
import Derived.Test.YtnbpecnddjpfbaaDoorOpW
namespace Go.Proofs.YtnbpecnddjpfbaaDoor
open Go.RowKit

theorem right_cs {s : Shp} (h : rightF s = true) : Cs s := fun c hc => by
  obtain ⟨i, hi, rfl⟩ := List.getElem_of_mem hc
  have h1 := (((right_iff s).1 h).2.1 i hi).1
  have e : s.cols.getD i default = s.cols[i] := by simp [hi]
  rw [e] at h1
  unfold colOK at h1
  rw [Bool.and_eq_true] at h1
  have h2 := h1.2
  simp only [spans, inB, List.all_cons, List.all_nil, Bool.and_true, Bool.and_eq_true, decide_eq_true_eq, Bool.not_eq_true', Bool.or_eq_false_iff, decide_eq_false_iff_not] at h2
  omega
set_option maxRecDepth 100000 in
set_option maxHeartbeats 4000000 in
theorem segregateNear_any (s : Shp) (h : Hd) (a b : Slt) (code : Nat) (w : World) (hs : ShpR w (Lt w.heap.size) s h) (hi : InS s) (hc : code < 256) (ht : TabOK w) (hn : NamesOK w) :
    Calls Tryd.prog 5 #[.agg (shpA s h), .agg (sltL a).toArray, .agg (sltL b).toArray, .int .u8 (code : Nat)] w (TrueRet w) := by
  obtain ⟨ac, at_, ah⟩ := a
  obtain ⟨bc, bt, bh⟩ := b
  have hb0 := ba3y w (.cells (shpA s h) 32) (.cells #[.int .i64 ac, .int .i64 at_, .int .u8 (ah : Nat)] 37) (.cells #[.int .i64 bc, .int .i64 bt, .int .u8 (bh : Nat)] 37)
  have KG := Lib.hid (((Bk.new w 32 (shpA s h)).alloc (.cells #[.int .i64 ac, .int .i64 at_, .int .u8 (ah : Nat)] 37)).alloc (.cells #[.int .i64 bc, .int .i64 bt, .int .u8 (bh : Nat)] 37))
  have KX := Lib.hid ((Bk.nxt14 (w := w) (.cells (shpA s h) 32) 37 #[.int .i64 ac, .int .i64 at_, .int .u8 (ah : Nat)]).alloc (.cells #[.int .i64 bc, .int .i64 bt, .int .u8 (bh : Nat)] 37))
  have KY := Lib.hid (bk14c (w := w) (.cells (shpA s h) 32) (.cells #[.int .i64 ac, .int .i64 at_, .int .u8 (ah : Nat)] 37) 37 #[.int .i64 bc, .int .i64 bt, .int .u8 (bh : Nat)])
  have HS := Lib.hid (hs.on hb0)
  have HB0 := Lib.hid hb0
  have HT := Lib.hid (ht.below hb0 ht.lt)
  have HN := Lib.hid (hn.below hb0 hn.lt)
  have HI := Lib.hid hi
  clear hs hb0 hi ht hn
  unfold sltL
  unfold shpA at KG KX KY HB0 HS HT HN ⊢
  simp only
  generalize hW : ((w.alloc _).alloc _).alloc _ = W at *
  have KF := Lib.hid (few14_any s h none 0 [] none 0 [] W HS.out (fun h => absurd h (by simp)) (by simp) (by decide) (by simp) (by decide))
  unfold shpA at KF
  simp only [List.length_nil] at KF
  go_enter Tryd.func5, Tryd.ntmps5
  go_upto_region 1 with fail
  try rw [hW]
  clear hW
  have e0 : W.cell? ⟨w.heap.size, 0, none⟩ = some (Value.slice h.A1 s.cols.length h.c1) := KG.out.cell 0
  have e1 : W.cell? ⟨w.heap.size, 1, none⟩ = some (Value.slice h.A2 s.covs.length h.c2) := KG.out.cell 1
  have e2 : W.cell? ⟨w.heap.size, 2, none⟩ = some (.int .i64 s.l0) := KG.out.cell 2
  have e3 : W.cell? ⟨w.heap.size, 3, none⟩ = some (.int .i64 s.l1) := KG.out.cell 3
  have e4 : W.cell? ⟨w.heap.size, 4, none⟩ = some (.int .i64 s.l2) := KG.out.cell 4
  have e5 : W.cell? ⟨w.heap.size, 5, none⟩ = some (.int .i64 s.l3) := KG.out.cell 5
  have e6 : W.cell? ⟨w.heap.size, 6, none⟩ = some (.slice h.A3 s.rows.length h.c3) := KG.out.cell 6
  have e7 : W.cell? ⟨w.heap.size, 7, none⟩ = some (.slice h.A4 s.frames.length h.c4) := KG.out.cell 7
  have e8 : W.cell? ⟨w.heap.size, 8, none⟩ = some (.slice h.A5 s.tanks.length h.c5) := KG.out.cell 8
  have e9 : W.cell? ⟨w.heap.size, 9, none⟩ = some (.int .i64 s.m0) := KG.out.cell 9
  have e10 : W.cell? ⟨w.heap.size, 10, none⟩ = some (.int .i64 s.m1) := KG.out.cell 10
  have e11 : W.cell? ⟨w.heap.size, 11, none⟩ = some (.int .i64 s.m2) := KG.out.cell 11
  have e12 : W.cell? ⟨w.heap.size, 12, none⟩ = some (.int .i64 s.m3) := KG.out.cell 12
  go_wp2_with fail
  refine KF.out.mono ?_
  rintro e V ⟨fb, rfl, hf, hb⟩
  simp only
  clear KF e0 e1 e2 e3 e4 e5 e6 e7 e8 e9 e10 e11 e12
  have HBV := Lib.hid hb
  clear hb
  have HTV := Lib.hid (HT.out.below HBV.out HT.out.lt)
  have HNV := Lib.hid (HN.out.below HBV.out HN.out.lt)
  cases fb with
  | false =>
    have HE := Lib.hid (HB0.out.trans (HBV.out.mono HB0.out.size))
    clear hf
    go_wp2_with fail
    refine (awake14_true _ HTV.out HNV.out).mono ?_
    rintro e Z ⟨rfl, hz⟩
    simp only
    go_wp2_with fail
    go_ret
    exact ⟨rfl, HE.out.trans (hz.mono HE.out.size)⟩
  | true =>
    have HP := Lib.hid (hf rfl)
    clear hf
    have HFL : Hid (FewL s) := Lib.hid ⟨by have := HP.out.cols; omega, by have := HP.out.covs; omega, HI.out.rows, HI.out.frames, HI.out.tanks, HI.out.plugs, HI.out.hrows, HI.out.steps⟩
    have HFW : Hid (Few s) := Lib.hid ⟨by have := HP.out.cols; omega, by have := HP.out.covs; omega, fun x hx => by have := HP.out.rows x hx; omega, fun x hx => by have := (HP.out.each x hx).1; omega⟩
    have hcl : s.cols.length ≤ 1000000 := HFW.out.cols
    have KR := Lib.hid (refRight_any s h V (HS.out.on HBV.out) HFW.out)
    have KV := Lib.hid (KG.out.below HBV.out KG.out.lt)
    unfold shpA at KR
    have e0 : V.cell? ⟨w.heap.size, 0, none⟩ = some (Value.slice h.A1 s.cols.length h.c1) := KV.out.cell 0
    have e1 : V.cell? ⟨w.heap.size, 1, none⟩ = some (Value.slice h.A2 s.covs.length h.c2) := KV.out.cell 1
    have e2 : V.cell? ⟨w.heap.size, 2, none⟩ = some (.int .i64 s.l0) := KV.out.cell 2
    have e3 : V.cell? ⟨w.heap.size, 3, none⟩ = some (.int .i64 s.l1) := KV.out.cell 3
    have e4 : V.cell? ⟨w.heap.size, 4, none⟩ = some (.int .i64 s.l2) := KV.out.cell 4
    have e5 : V.cell? ⟨w.heap.size, 5, none⟩ = some (.int .i64 s.l3) := KV.out.cell 5
    have e6 : V.cell? ⟨w.heap.size, 6, none⟩ = some (.slice h.A3 s.rows.length h.c3) := KV.out.cell 6
    have e7 : V.cell? ⟨w.heap.size, 7, none⟩ = some (.slice h.A4 s.frames.length h.c4) := KV.out.cell 7
    have e8 : V.cell? ⟨w.heap.size, 8, none⟩ = some (.slice h.A5 s.tanks.length h.c5) := KV.out.cell 8
    have e9 : V.cell? ⟨w.heap.size, 9, none⟩ = some (.int .i64 s.m0) := KV.out.cell 9
    have e10 : V.cell? ⟨w.heap.size, 10, none⟩ = some (.int .i64 s.m1) := KV.out.cell 10
    have e11 : V.cell? ⟨w.heap.size, 11, none⟩ = some (.int .i64 s.m2) := KV.out.cell 11
    have e12 : V.cell? ⟨w.heap.size, 12, none⟩ = some (.int .i64 s.m3) := KV.out.cell 12
    have HRC := Lib.hid (fun (hq : rightF s = true) => right_cs hq)
    generalize rightF s = R at *
    go_wp2_with fail
    refine KR.out.mono ?_
    rintro e V1 ⟨rfl, hb⟩
    simp only
    clear KR KV e0 e1 e2 e3 e4 e5 e6 e7 e8 e9 e10 e11 e12
    have HB1 := Lib.hid (HBV.out.trans (hb.mono HBV.out.size))
    have HT1 := Lib.hid (HTV.out.below hb HTV.out.lt)
    have HN1 := Lib.hid (HNV.out.below hb HNV.out.lt)
    clear hb HBV HTV HNV HT HN
    cases R with
    | false =>
      have HE := Lib.hid (HB0.out.trans (HB1.out.mono HB0.out.size))
      clear HRC
      go_wp2_with fail
      refine (awake14_true _ HT1.out HN1.out).mono ?_
      rintro e Z ⟨rfl, hz⟩
      simp only
      go_wp2_with fail
      go_ret
      exact ⟨rfl, HE.out.trans (hz.mono HE.out.size)⟩
    | true =>
      have HCS := Lib.hid (HRC.out rfl)
      clear HRC
      have KL := Lib.hid (lentShip_any s h V1 (HS.out.on HB1.out) HFL.out)
      have KV := Lib.hid (KG.out.below HB1.out KG.out.lt)
      unfold shpA at KL
      have e0 : V1.cell? ⟨w.heap.size, 0, none⟩ = some (Value.slice h.A1 s.cols.length h.c1) := KV.out.cell 0
      have e1 : V1.cell? ⟨w.heap.size, 1, none⟩ = some (Value.slice h.A2 s.covs.length h.c2) := KV.out.cell 1
      have e2 : V1.cell? ⟨w.heap.size, 2, none⟩ = some (.int .i64 s.l0) := KV.out.cell 2
      have e3 : V1.cell? ⟨w.heap.size, 3, none⟩ = some (.int .i64 s.l1) := KV.out.cell 3
      have e4 : V1.cell? ⟨w.heap.size, 4, none⟩ = some (.int .i64 s.l2) := KV.out.cell 4
      have e5 : V1.cell? ⟨w.heap.size, 5, none⟩ = some (.int .i64 s.l3) := KV.out.cell 5
      have e6 : V1.cell? ⟨w.heap.size, 6, none⟩ = some (.slice h.A3 s.rows.length h.c3) := KV.out.cell 6
      have e7 : V1.cell? ⟨w.heap.size, 7, none⟩ = some (.slice h.A4 s.frames.length h.c4) := KV.out.cell 7
      have e8 : V1.cell? ⟨w.heap.size, 8, none⟩ = some (.slice h.A5 s.tanks.length h.c5) := KV.out.cell 8
      have e9 : V1.cell? ⟨w.heap.size, 9, none⟩ = some (.int .i64 s.m0) := KV.out.cell 9
      have e10 : V1.cell? ⟨w.heap.size, 10, none⟩ = some (.int .i64 s.m1) := KV.out.cell 10
      have e11 : V1.cell? ⟨w.heap.size, 11, none⟩ = some (.int .i64 s.m2) := KV.out.cell 11
      have e12 : V1.cell? ⟨w.heap.size, 12, none⟩ = some (.int .i64 s.m3) := KV.out.cell 12
      go_wp2_with fail
      refine KL.out.mono ?_
      rintro e V2 ⟨hb, h', B1, rfl, hl⟩
      simp only
      clear KL KV e0 e1 e2 e3 e4 e5 e6 e7 e8 e9 e10 e11 e12
      have hb3 := hb.trans ((ba1 V2 (.cells (shpA s h') 32)).mono hb.size)
      have HB3 := Lib.hid (HB1.out.trans (hb3.mono HB1.out.size))
      have HT3 := Lib.hid (HT1.out.below hb3 HT1.out.lt)
      have HN3 := Lib.hid (HN1.out.below hb3 HN1.out.lt)
      have KT := Lib.hid (Bk.new V2 32 (shpA s h'))
      have HL := Lib.hid (hl.on (ba1 V2 (.cells (shpA s h') 32)))
      clear hb hl hb3 HB1 HT1 HN1
      unfold shpA at HB3 HT3 HN3 KT HL
      go_upto_region 4 with fail
      generalize V2.heap.size = gt at *
      generalize (V2.alloc _) = X at *
      try clear V2
      generalize V1.heap.size + 2 = base at *
      try clear V1
      have HR' : Hid (ShpR X (Lt X.heap.size) s h') := Lib.hid (HL.out.rd.more fun b hb => hb.2)
      have KNR := Lib.hid (fun (U : World) (hU : Below X.heap.size X U) (z : Nat) (hz : z < 256) => nearLaw_any s h' ⟨ac, at_, ah⟩ ⟨bc, bt, bh⟩ z U (HR'.out.on hU) hcl (fun c hc => (HI.out.ints.cols c hc).2.1) HCS.out hz)
      have K2 := Lib.hid (fun (U : World) (hU : Below X.heap.size X U) => keptShip_any s h' h U (HL.out.on hU) (HS.out.on (HB3.out.trans (hU.mono HB3.out.size))) HFL.out)
      have KGX := Lib.hid (KG.out.below HB3.out KG.out.lt)
      have KXX := Lib.hid (KX.out.below HB3.out KX.out.lt)
      have KYX := Lib.hid (KY.out.below HB3.out KY.out.lt)
      unfold shpA sltL at *
      simp only at KNR
      have f0 : X.cell? ⟨gt, 0, none⟩ = some (Value.slice h'.A1 s.cols.length h'.c1) := KT.out.cell 0
      have f1 : X.cell? ⟨gt, 1, none⟩ = some (Value.slice h'.A2 s.covs.length h'.c2) := KT.out.cell 1
      have f2 : X.cell? ⟨gt, 2, none⟩ = some (.int .i64 s.l0) := KT.out.cell 2
      have f3 : X.cell? ⟨gt, 3, none⟩ = some (.int .i64 s.l1) := KT.out.cell 3
      have f4 : X.cell? ⟨gt, 4, none⟩ = some (.int .i64 s.l2) := KT.out.cell 4
      have f5 : X.cell? ⟨gt, 5, none⟩ = some (.int .i64 s.l3) := KT.out.cell 5
      have f6 : X.cell? ⟨gt, 6, none⟩ = some (.slice h'.A3 s.rows.length h'.c3) := KT.out.cell 6
      have f7 : X.cell? ⟨gt, 7, none⟩ = some (.slice h'.A4 s.frames.length h'.c4) := KT.out.cell 7
      have f8 : X.cell? ⟨gt, 8, none⟩ = some (.slice h'.A5 s.tanks.length h'.c5) := KT.out.cell 8
      have f9 : X.cell? ⟨gt, 9, none⟩ = some (.int .i64 s.m0) := KT.out.cell 9
      have f10 : X.cell? ⟨gt, 10, none⟩ = some (.int .i64 s.m1) := KT.out.cell 10
      have f11 : X.cell? ⟨gt, 11, none⟩ = some (.int .i64 s.m2) := KT.out.cell 11
      have f12 : X.cell? ⟨gt, 12, none⟩ = some (.int .i64 s.m3) := KT.out.cell 12
      have x0 : X.cell? ⟨w.heap.size + 1, 0, none⟩ = some (.int .i64 ac) := KXX.out.cell 0
      have x1 : X.cell? ⟨w.heap.size + 1, 1, none⟩ = some (.int .i64 at_) := KXX.out.cell 1
      have x2 : X.cell? ⟨w.heap.size + 1, 2, none⟩ = some (.int .u8 (ah : Nat)) := KXX.out.cell 2
      have y0 : X.cell? ⟨w.heap.size + 1 + 1, 0, none⟩ = some (.int .i64 bc) := KYX.out.cell 0
      have y1 : X.cell? ⟨w.heap.size + 1 + 1, 1, none⟩ = some (.int .i64 bt) := KYX.out.cell 1
      have y2 : X.cell? ⟨w.heap.size + 1 + 1, 2, none⟩ = some (.int .u8 (bh : Nat)) := KYX.out.cell 2
      go_wp2_with fail
      refine (KNR.out X (Below.refl _ _) code hc).mono ?_
      rintro e Y1 ⟨rfl, hb⟩
      simp only
      have HY1 := Lib.hid hb
      clear hb f0 f1 f2 f3 f4 f5 f6 f7 f8 f9 f10 f11 f12 x0 x1 x2 y0 y1 y2
      have KT1 := Lib.hid (KT.out.below HY1.out KT.out.lt)
      have KX1 := Lib.hid (KXX.out.below HY1.out KXX.out.lt)
      have KY1 := Lib.hid (KYX.out.below HY1.out KYX.out.lt)
      have f0 : Y1.cell? ⟨gt, 0, none⟩ = some (Value.slice h'.A1 s.cols.length h'.c1) := KT1.out.cell 0
      have f1 : Y1.cell? ⟨gt, 1, none⟩ = some (Value.slice h'.A2 s.covs.length h'.c2) := KT1.out.cell 1
      have f2 : Y1.cell? ⟨gt, 2, none⟩ = some (.int .i64 s.l0) := KT1.out.cell 2
      have f3 : Y1.cell? ⟨gt, 3, none⟩ = some (.int .i64 s.l1) := KT1.out.cell 3
      have f4 : Y1.cell? ⟨gt, 4, none⟩ = some (.int .i64 s.l2) := KT1.out.cell 4
      have f5 : Y1.cell? ⟨gt, 5, none⟩ = some (.int .i64 s.l3) := KT1.out.cell 5
      have f6 : Y1.cell? ⟨gt, 6, none⟩ = some (.slice h'.A3 s.rows.length h'.c3) := KT1.out.cell 6
      have f7 : Y1.cell? ⟨gt, 7, none⟩ = some (.slice h'.A4 s.frames.length h'.c4) := KT1.out.cell 7
      have f8 : Y1.cell? ⟨gt, 8, none⟩ = some (.slice h'.A5 s.tanks.length h'.c5) := KT1.out.cell 8
      have f9 : Y1.cell? ⟨gt, 9, none⟩ = some (.int .i64 s.m0) := KT1.out.cell 9
      have f10 : Y1.cell? ⟨gt, 10, none⟩ = some (.int .i64 s.m1) := KT1.out.cell 10
      have f11 : Y1.cell? ⟨gt, 11, none⟩ = some (.int .i64 s.m2) := KT1.out.cell 11
      have f12 : Y1.cell? ⟨gt, 12, none⟩ = some (.int .i64 s.m3) := KT1.out.cell 12
      have x0 : Y1.cell? ⟨w.heap.size + 1, 0, none⟩ = some (.int .i64 ac) := KX1.out.cell 0
      have x1 : Y1.cell? ⟨w.heap.size + 1, 1, none⟩ = some (.int .i64 at_) := KX1.out.cell 1
      have x2 : Y1.cell? ⟨w.heap.size + 1, 2, none⟩ = some (.int .u8 (ah : Nat)) := KX1.out.cell 2
      have y0 : Y1.cell? ⟨w.heap.size + 1 + 1, 0, none⟩ = some (.int .i64 bc) := KY1.out.cell 0
      have y1 : Y1.cell? ⟨w.heap.size + 1 + 1, 1, none⟩ = some (.int .i64 bt) := KY1.out.cell 1
      have y2 : Y1.cell? ⟨w.heap.size + 1 + 1, 2, none⟩ = some (.int .u8 (bh : Nat)) := KY1.out.cell 2
      have hmod : ((code : Int) % 4) = ((code % 4 : Nat) : Int) := by omega
      have KN2 := KNR.out Y1 HY1.out (code % 4) (by omega)
      rw [← hmod] at KN2
      clear hmod
      replace KN2 := Lib.hid KN2
      go_wp2_with fail
      refine KN2.out.mono ?_
      rintro e Y2 ⟨rfl, hb⟩
      simp only
      have HY2 := Lib.hid (HY1.out.trans (hb.mono HY1.out.size))
      clear hb f0 f1 f2 f3 f4 f5 f6 f7 f8 f9 f10 f11 f12 x0 x1 x2 y0 y1 y2 KT1 KX1 KY1 HY1 KN2
      have KT2 := Lib.hid (KT.out.below HY2.out KT.out.lt)
      have KG2 := Lib.hid (KGX.out.below HY2.out KGX.out.lt)
      have f0 : Y2.cell? ⟨gt, 0, none⟩ = some (Value.slice h'.A1 s.cols.length h'.c1) := KT2.out.cell 0
      have f1 : Y2.cell? ⟨gt, 1, none⟩ = some (Value.slice h'.A2 s.covs.length h'.c2) := KT2.out.cell 1
      have f2 : Y2.cell? ⟨gt, 2, none⟩ = some (.int .i64 s.l0) := KT2.out.cell 2
      have f3 : Y2.cell? ⟨gt, 3, none⟩ = some (.int .i64 s.l1) := KT2.out.cell 3
      have f4 : Y2.cell? ⟨gt, 4, none⟩ = some (.int .i64 s.l2) := KT2.out.cell 4
      have f5 : Y2.cell? ⟨gt, 5, none⟩ = some (.int .i64 s.l3) := KT2.out.cell 5
      have f6 : Y2.cell? ⟨gt, 6, none⟩ = some (.slice h'.A3 s.rows.length h'.c3) := KT2.out.cell 6
      have f7 : Y2.cell? ⟨gt, 7, none⟩ = some (.slice h'.A4 s.frames.length h'.c4) := KT2.out.cell 7
      have f8 : Y2.cell? ⟨gt, 8, none⟩ = some (.slice h'.A5 s.tanks.length h'.c5) := KT2.out.cell 8
      have f9 : Y2.cell? ⟨gt, 9, none⟩ = some (.int .i64 s.m0) := KT2.out.cell 9
      have f10 : Y2.cell? ⟨gt, 10, none⟩ = some (.int .i64 s.m1) := KT2.out.cell 10
      have f11 : Y2.cell? ⟨gt, 11, none⟩ = some (.int .i64 s.m2) := KT2.out.cell 11
      have f12 : Y2.cell? ⟨gt, 12, none⟩ = some (.int .i64 s.m3) := KT2.out.cell 12
      have e0 : Y2.cell? ⟨w.heap.size, 0, none⟩ = some (Value.slice h.A1 s.cols.length h.c1) := KG2.out.cell 0
      have e1 : Y2.cell? ⟨w.heap.size, 1, none⟩ = some (Value.slice h.A2 s.covs.length h.c2) := KG2.out.cell 1
      have e2 : Y2.cell? ⟨w.heap.size, 2, none⟩ = some (.int .i64 s.l0) := KG2.out.cell 2
      have e3 : Y2.cell? ⟨w.heap.size, 3, none⟩ = some (.int .i64 s.l1) := KG2.out.cell 3
      have e4 : Y2.cell? ⟨w.heap.size, 4, none⟩ = some (.int .i64 s.l2) := KG2.out.cell 4
      have e5 : Y2.cell? ⟨w.heap.size, 5, none⟩ = some (.int .i64 s.l3) := KG2.out.cell 5
      have e6 : Y2.cell? ⟨w.heap.size, 6, none⟩ = some (.slice h.A3 s.rows.length h.c3) := KG2.out.cell 6
      have e7 : Y2.cell? ⟨w.heap.size, 7, none⟩ = some (.slice h.A4 s.frames.length h.c4) := KG2.out.cell 7
      have e8 : Y2.cell? ⟨w.heap.size, 8, none⟩ = some (.slice h.A5 s.tanks.length h.c5) := KG2.out.cell 8
      have e9 : Y2.cell? ⟨w.heap.size, 9, none⟩ = some (.int .i64 s.m0) := KG2.out.cell 9
      have e10 : Y2.cell? ⟨w.heap.size, 10, none⟩ = some (.int .i64 s.m1) := KG2.out.cell 10
      have e11 : Y2.cell? ⟨w.heap.size, 11, none⟩ = some (.int .i64 s.m2) := KG2.out.cell 11
      have e12 : Y2.cell? ⟨w.heap.size, 12, none⟩ = some (.int .i64 s.m3) := KG2.out.cell 12
      go_wp2_with fail
      refine (K2.out Y2 HY2.out).mono ?_
      rintro e Y3 ⟨rfl, hb⟩
      simp only
      have HY3 := Lib.hid (HY2.out.trans (hb.mono HY2.out.size))
      clear hb f0 f1 f2 f3 f4 f5 f6 f7 f8 f9 f10 f11 f12 e0 e1 e2 e3 e4 e5 e6 e7 e8 e9 e10 e11 e12 KT2 KG2 HY2 K2 KNR
      have HT4 := Lib.hid (HT3.out.below HY3.out HT3.out.lt)
      have HN4 := Lib.hid (HN3.out.below HY3.out HN3.out.lt)
      have HE := Lib.hid (HB0.out.trans ((HB3.out.trans (HY3.out.mono HB3.out.size)).mono HB0.out.size))
      go_wp2_with fail
      refine (awake14_true _ HT4.out HN4.out).mono ?_
      rintro e Z ⟨rfl, hz⟩
      simp only
      go_wp2_with fail
      go_ret
      exact ⟨rfl, HE.out.trans (hz.mono HE.out.size)⟩
end Go.Proofs.YtnbpecnddjpfbaaDoor
