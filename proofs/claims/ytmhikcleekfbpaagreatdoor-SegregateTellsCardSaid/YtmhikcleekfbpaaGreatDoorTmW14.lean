/-
  The walk of the statement SegregateTells.
-/
import Derived.Test.YtmhikcleekfbpaaGreatDoorRwG
import Derived.Test.YtmhikcleekfbpaaGreatDoorLsB
import Derived.Test.YtmhikcleekfbpaaGreatDoorLsC
import Derived.Test.YtmhikcleekfbpaaGreatDoorKpZ
import Derived.Test.YtmhikcleekfbpaaGreatDoorOpW
import Derived.Test.YtmhikcleekfbpaaGreatDoorSgL
import Derived.Test.YtmhikcleekfbpaaGreatDoorTmP
import Derived.Test.YtmhikcleekfbpaaGreatDoorRfZ
namespace Go.Proofs.YtmhikcleekfbpaaGreatDoor
open Go.RowKit

theorem right_cs {s : Shp} (h : rightF s = true) : Cs s := fun c hc => by
  obtain ⟨i, hi, rfl⟩ := List.getElem_of_mem hc
  have h1 := (((right_iff s).1 h).2.1 i hi).1
  have e : s.cols.getD i default = s.cols[i] := by simp [hi]
  rw [e] at h1
  unfold colOK at h1
  rw [Bool.and_eq_true] at h1
  have h2 := h1.2
  simp only [spans, inB, List.all_cons, List.all_nil, Bool.and_true, Bool.and_eq_true, Bool.not_eq_true', Bool.or_eq_false_iff, decide_eq_false_iff_not] at h2
  omega
set_option maxRecDepth 100000 in
set_option maxHeartbeats 8000000 in
theorem segregateTells_any (s : Shp) (h : Hd) (A : Option Addr) (c : Nat) (boxes : List Bx) (A2 : Option Addr) (c2 : Nat) (l : List Stw) (x : Stw) (w : World) (hsh : ShpR w (Lt w.heap.size) s h) (hi : InS s) (hb : SlT tBx w (Lt w.heap.size) A boxes) (hbc : boxes.length ≤ c) (hcm : c ≤ maxLen) (hs : SlT tStw w (Lt w.heap.size) A2 l) (hlc : l.length ≤ c2) (hcm2 : c2 ≤ maxLen)
    (hsz : ∀ b ∈ boxes, b.size < 256) (hti : ∀ y ∈ l, y.slot.tier ≤ 9223372036854775807) (htb : TabOK w) (hnm : NamesOK w) :
    Calls Tryz.prog 3 #[.agg (shpA s h), .slice A boxes.length c, .slice A2 l.length c2, .agg (stwL x).toArray] w (TrueRet w) := by
  obtain ⟨xb, ⟨xc, xt, xh⟩⟩ := x
  have hb0 := ba2 w (.cells (shpA s h) 32) (.cells #[.int .i64 xb, .int .i64 xc, .int .i64 xt, .int .u8 (xh : Nat)] 38)
  have KE := Lib.hid ((Bk.new w 32 (shpA s h)).alloc (.cells #[.int .i64 xb, .int .i64 xc, .int .i64 xt, .int .u8 (xh : Nat)] 38))
  have KX := Lib.hid (Bk.nxt14 (w := w) (.cells (shpA s h) 32) 38 #[.int .i64 xb, .int .i64 xc, .int .i64 xt, .int .u8 (xh : Nat)])
  have HB0 := Lib.hid hb0
  generalize hW : (w.alloc (.cells (shpA s h) 32)).alloc (.cells #[.int .i64 xb, .int .i64 xc, .int .i64 xt, .int .u8 (xh : Nat)] 38) = W at *
  have HSH := Lib.hid (hsh.on hb0)
  have HBX := Lib.hid (hb.on hb0)
  have HST := Lib.hid (hs.on hb0)
  have HSZ := Lib.hid hsz
  have HTI := Lib.hid hti
  have HTB := Lib.hid (htb.below hb0 htb.lt)
  have HNM := Lib.hid (hnm.below hb0 hnm.lt)
  have HI := Lib.hid hi
  have KFW := Lib.hid (few14_any s h A c boxes A2 c2 l W (hsh.on hb0) (hb.on hb0) hbc hcm hlc hcm2)
  clear hsh hb hs hsz hti htb hnm hi hb0
  unfold shpA at KE KFW hW
  unfold shpA stwL
  simp only
  go_enter Tryz.func3, Tryz.ntmps3
  go_upto_region 1 with fail
  try rw [hW]
  clear hW
  have e0 : W.cell? ⟨w.heap.size, 0, none⟩ = some (Value.slice h.A1 s.cols.length h.c1) := KE.out.cell 0
  have e1 : W.cell? ⟨w.heap.size, 1, none⟩ = some (Value.slice h.A2 s.covs.length h.c2) := KE.out.cell 1
  have e2 : W.cell? ⟨w.heap.size, 2, none⟩ = some (.int .i64 s.l0) := KE.out.cell 2
  have e3 : W.cell? ⟨w.heap.size, 3, none⟩ = some (.int .i64 s.l1) := KE.out.cell 3
  have e4 : W.cell? ⟨w.heap.size, 4, none⟩ = some (.int .i64 s.l2) := KE.out.cell 4
  have e5 : W.cell? ⟨w.heap.size, 5, none⟩ = some (.int .i64 s.l3) := KE.out.cell 5
  have e6 : W.cell? ⟨w.heap.size, 6, none⟩ = some (.slice h.A3 s.rows.length h.c3) := KE.out.cell 6
  have e7 : W.cell? ⟨w.heap.size, 7, none⟩ = some (.slice h.A4 s.frames.length h.c4) := KE.out.cell 7
  have e8 : W.cell? ⟨w.heap.size, 8, none⟩ = some (.slice h.A5 s.tanks.length h.c5) := KE.out.cell 8
  have e9 : W.cell? ⟨w.heap.size, 9, none⟩ = some (.int .i64 s.m0) := KE.out.cell 9
  have e10 : W.cell? ⟨w.heap.size, 10, none⟩ = some (.int .i64 s.m1) := KE.out.cell 10
  have e11 : W.cell? ⟨w.heap.size, 11, none⟩ = some (.int .i64 s.m2) := KE.out.cell 11
  have e12 : W.cell? ⟨w.heap.size, 12, none⟩ = some (.int .i64 s.m3) := KE.out.cell 12
  go_wp2_with fail
  refine KFW.out.mono ?_
  rintro e V ⟨fb, rfl, hf, hb⟩
  simp only
  clear KFW e0 e1 e2 e3 e4 e5 e6 e7 e8 e9 e10 e11 e12
  have HBV := Lib.hid hb
  clear hb
  have HTV := Lib.hid (HTB.out.below HBV.out HTB.out.lt)
  have HNV := Lib.hid (HNM.out.below HBV.out HNM.out.lt)
  cases fb with
  | false =>
    have HE := Lib.hid (HB0.out.trans (HBV.out.mono HB0.out.size))
    clear hf
    go_wp2_with fail
    refine (awake14_true _ HTV.out HNV.out).mono ?_
    rintro e Z ⟨rfl, hz⟩
    simp only
    go_wp2_with fail
    go_ret
    exact ⟨rfl, HE.out.trans (hz.mono HE.out.size)⟩
  | true =>
    have HP := Lib.hid (hf rfl)
    clear hf
    have hnb := HP.out.nbx
    have hnl := HP.out.nst
    have HFL : Hid (FewL s) := Lib.hid ⟨by have := HP.out.cols; omega, by have := HP.out.covs; omega, HI.out.rows, HI.out.frames, HI.out.tanks, HI.out.plugs, HI.out.hrows, HI.out.steps⟩
    have KL := Lib.hid (lentShip_any s h V (HSH.out.on HBV.out) HFL.out)
    have KV := Lib.hid (KE.out.below HBV.out KE.out.lt)
    unfold shpA at KL
    have e0 : V.cell? ⟨w.heap.size, 0, none⟩ = some (Value.slice h.A1 s.cols.length h.c1) := KV.out.cell 0
    have e1 : V.cell? ⟨w.heap.size, 1, none⟩ = some (Value.slice h.A2 s.covs.length h.c2) := KV.out.cell 1
    have e2 : V.cell? ⟨w.heap.size, 2, none⟩ = some (.int .i64 s.l0) := KV.out.cell 2
    have e3 : V.cell? ⟨w.heap.size, 3, none⟩ = some (.int .i64 s.l1) := KV.out.cell 3
    have e4 : V.cell? ⟨w.heap.size, 4, none⟩ = some (.int .i64 s.l2) := KV.out.cell 4
    have e5 : V.cell? ⟨w.heap.size, 5, none⟩ = some (.int .i64 s.l3) := KV.out.cell 5
    have e6 : V.cell? ⟨w.heap.size, 6, none⟩ = some (.slice h.A3 s.rows.length h.c3) := KV.out.cell 6
    have e7 : V.cell? ⟨w.heap.size, 7, none⟩ = some (.slice h.A4 s.frames.length h.c4) := KV.out.cell 7
    have e8 : V.cell? ⟨w.heap.size, 8, none⟩ = some (.slice h.A5 s.tanks.length h.c5) := KV.out.cell 8
    have e9 : V.cell? ⟨w.heap.size, 9, none⟩ = some (.int .i64 s.m0) := KV.out.cell 9
    have e10 : V.cell? ⟨w.heap.size, 10, none⟩ = some (.int .i64 s.m1) := KV.out.cell 10
    have e11 : V.cell? ⟨w.heap.size, 11, none⟩ = some (.int .i64 s.m2) := KV.out.cell 11
    have e12 : V.cell? ⟨w.heap.size, 12, none⟩ = some (.int .i64 s.m3) := KV.out.cell 12
    go_wp2_with fail
    refine KL.out.mono ?_
    rintro e V2 ⟨hb, h', B1, rfl, hl⟩
    simp only
    clear KL KV e0 e1 e2 e3 e4 e5 e6 e7 e8 e9 e10 e11 e12
    have HBV2 := Lib.hid (HBV.out.trans (hb.mono HBV.out.size))
    have KLB := Lib.hid (lentBoxes_any A c boxes V2 (HBX.out.on HBV2.out) (by omega))
    have HL2 := Lib.hid hl
    clear hb hl HBV
    go_wp2_with fail
    refine KLB.out.mono ?_
    rintro e V3 ⟨A3, c3, rfl, hc3, _, hs3, hb⟩
    simp only
    have HBV3 := Lib.hid (HBV2.out.trans (hb.mono HBV2.out.size))
    have KLC := Lib.hid (lentStoweds_any A2 c2 l V3 (HST.out.on HBV3.out) (by omega))
    have HL3 := Lib.hid (HL2.out.on hb)
    have HS3 := Lib.hid (hs3.more fun b hb => hb.2)
    clear hb hs3 KLB HL2 HBV2
    go_wp2_with fail
    refine KLC.out.mono ?_
    rintro e V4 ⟨A4, c4, rfl, hc4, _, hs4, hb⟩
    simp only
    have HBV4 := Lib.hid (HBV3.out.trans (hb.mono HBV3.out.size))
    have hba := ba1 V4 (.cells (shpA s h') 32)
    have KT := Lib.hid (Bk.new V4 32 (shpA s h'))
    have HBX4 := Lib.hid (HBV4.out.trans (hba.mono HBV4.out.size))
    have HL := Lib.hid ((HL3.out.on hb).on hba)
    have HSB := Lib.hid ((HS3.out.on hb).on hba)
    have HSC := Lib.hid ((hs4.more fun b hb => hb.2).on hba)
    clear hba hb hs4 KLC HL3 HS3 HBV3 HBV4
    unfold shpA at HBX4 KT HL HSB HSC
    go_upto_region 4 with fail
    generalize V4.heap.size = gt at *
    generalize (V4.alloc _) = X at *
    have HR' : Hid (ShpR X (Lt X.heap.size) s h') := Lib.hid (HL.out.rd.more fun b hb => hb.2)
    have HSB1 : Hid (SlT tBx X (Lt X.heap.size) A3 boxes) := Lib.hid HSB.out.left
    have HSC1 : Hid (SlT tStw X (Lt X.heap.size) A4 l) := Lib.hid HSC.out.left
    have HTX := Lib.hid (HTB.out.below HBX4.out HTB.out.lt)
    have HNX := Lib.hid (HNM.out.below HBX4.out HNM.out.lt)
    have HTN := Lib.hid (tiers_leG (fun c hc => (HP.out.each c hc).2))
    have hlc4 : l.length ≤ c4 := by simp [marksStowed_len] at hc4; omega
    have HCH : Hid (CH X s h' A3 boxes A4 c4 l) := Lib.hid ⟨HR'.out, ⟨by have := HP.out.cols; omega, by have := HP.out.covs; omega, fun x hx => by have := HP.out.rows x hx; omega, fun x hx => by have := (HP.out.each x hx).1; omega⟩, HI.out.ints, by have := HP.out.cols; omega, HTN.out, all_leG HTN.out (by have := HP.out.cols; omega), fun c hc => (HI.out.ints.cols c hc).2.1, HSB1.out, by omega, HSC1.out, by omega, hlc4, HTI.out, HSZ.out, HNX.out, HTX.out, fun h => right_cs (stowRight_parts.1 h).1⟩
    have K0 := Lib.hid (clashesLaw_any s h' A3 c3 boxes A4 c4 l X HCH.out)
    have K1 := Lib.hid (fun (U : World) (hU : Below X.heap.size X U) => againstLaw_any s h' A3 c3 boxes A4 c4 l ⟨xb, ⟨xc, xt, xh⟩⟩ U (HCH.out.on hU))
    clear HTN HCH
    have K2 := Lib.hid (fun (U : World) (hU : Below X.heap.size X U) => keptShip_any s h' h U (HL.out.on hU) (HSH.out.on (HBX4.out.trans (hU.mono HBX4.out.size))) HFL.out)
    have K3 := Lib.hid (fun (U : World) (hU : Below X.heap.size X U) => keptBoxes_any A3 A c3 c boxes U (HSB.out.on hU) (by simp [marksBox_len] at hc3; omega) (HBX.out.on (HBX4.out.trans (hU.mono HBX4.out.size))) (by omega))
    have K4 := Lib.hid (fun (U : World) (hU : Below X.heap.size X U) => keptStoweds_any A4 A2 c4 c2 l U (HSC.out.on hU) (by simp [marksStowed_len] at hc4; omega) (HST.out.on (HBX4.out.trans (hU.mono HBX4.out.size))) (by omega))
    unfold shpA stwL at *
    simp only at K1
    have KEX := Lib.hid (KE.out.below HBX4.out KE.out.lt)
    have KXX := Lib.hid (KX.out.below HBX4.out KX.out.lt)
    have f0 : X.cell? ⟨gt, 0, none⟩ = some (Value.slice h'.A1 s.cols.length h'.c1) := KT.out.cell 0
    have f1 : X.cell? ⟨gt, 1, none⟩ = some (Value.slice h'.A2 s.covs.length h'.c2) := KT.out.cell 1
    have f2 : X.cell? ⟨gt, 2, none⟩ = some (.int .i64 s.l0) := KT.out.cell 2
    have f3 : X.cell? ⟨gt, 3, none⟩ = some (.int .i64 s.l1) := KT.out.cell 3
    have f4 : X.cell? ⟨gt, 4, none⟩ = some (.int .i64 s.l2) := KT.out.cell 4
    have f5 : X.cell? ⟨gt, 5, none⟩ = some (.int .i64 s.l3) := KT.out.cell 5
    have f6 : X.cell? ⟨gt, 6, none⟩ = some (.slice h'.A3 s.rows.length h'.c3) := KT.out.cell 6
    have f7 : X.cell? ⟨gt, 7, none⟩ = some (.slice h'.A4 s.frames.length h'.c4) := KT.out.cell 7
    have f8 : X.cell? ⟨gt, 8, none⟩ = some (.slice h'.A5 s.tanks.length h'.c5) := KT.out.cell 8
    have f9 : X.cell? ⟨gt, 9, none⟩ = some (.int .i64 s.m0) := KT.out.cell 9
    have f10 : X.cell? ⟨gt, 10, none⟩ = some (.int .i64 s.m1) := KT.out.cell 10
    have f11 : X.cell? ⟨gt, 11, none⟩ = some (.int .i64 s.m2) := KT.out.cell 11
    have f12 : X.cell? ⟨gt, 12, none⟩ = some (.int .i64 s.m3) := KT.out.cell 12
    go_wp2_with fail
    refine K0.out.mono ?_
    rintro e Y0 ⟨rfl, hb⟩
    simp only
    have HY0 := Lib.hid hb
    clear hb K0 f0 f1 f2 f3 f4 f5 f6 f7 f8 f9 f10 f11 f12
    have KT0 := Lib.hid (KT.out.below HY0.out KT.out.lt)
    have KX0 := Lib.hid (KXX.out.below HY0.out KXX.out.lt)
    have f0 : Y0.cell? ⟨gt, 0, none⟩ = some (Value.slice h'.A1 s.cols.length h'.c1) := KT0.out.cell 0
    have f1 : Y0.cell? ⟨gt, 1, none⟩ = some (Value.slice h'.A2 s.covs.length h'.c2) := KT0.out.cell 1
    have f2 : Y0.cell? ⟨gt, 2, none⟩ = some (.int .i64 s.l0) := KT0.out.cell 2
    have f3 : Y0.cell? ⟨gt, 3, none⟩ = some (.int .i64 s.l1) := KT0.out.cell 3
    have f4 : Y0.cell? ⟨gt, 4, none⟩ = some (.int .i64 s.l2) := KT0.out.cell 4
    have f5 : Y0.cell? ⟨gt, 5, none⟩ = some (.int .i64 s.l3) := KT0.out.cell 5
    have f6 : Y0.cell? ⟨gt, 6, none⟩ = some (.slice h'.A3 s.rows.length h'.c3) := KT0.out.cell 6
    have f7 : Y0.cell? ⟨gt, 7, none⟩ = some (.slice h'.A4 s.frames.length h'.c4) := KT0.out.cell 7
    have f8 : Y0.cell? ⟨gt, 8, none⟩ = some (.slice h'.A5 s.tanks.length h'.c5) := KT0.out.cell 8
    have f9 : Y0.cell? ⟨gt, 9, none⟩ = some (.int .i64 s.m0) := KT0.out.cell 9
    have f10 : Y0.cell? ⟨gt, 10, none⟩ = some (.int .i64 s.m1) := KT0.out.cell 10
    have f11 : Y0.cell? ⟨gt, 11, none⟩ = some (.int .i64 s.m2) := KT0.out.cell 11
    have f12 : Y0.cell? ⟨gt, 12, none⟩ = some (.int .i64 s.m3) := KT0.out.cell 12
    have x0 : Y0.cell? ⟨w.heap.size + 1, 0, none⟩ = some (.int .i64 xb) := KX0.out.cell 0
    have x1 : Y0.cell? ⟨w.heap.size + 1, 1, none⟩ = some (.int .i64 xc) := KX0.out.cell 1
    have x2 : Y0.cell? ⟨w.heap.size + 1, 2, none⟩ = some (.int .i64 xt) := KX0.out.cell 2
    have x3 : Y0.cell? ⟨w.heap.size + 1, 3, none⟩ = some (.int .u8 (xh : Nat)) := KX0.out.cell 3
    go_wp2_with fail
    refine (K1.out Y0 HY0.out).mono ?_
    rintro e Y1 ⟨rfl, hb⟩
    simp only
    have HY1 := Lib.hid (HY0.out.trans (hb.mono HY0.out.size))
    clear hb K1 f0 f1 f2 f3 f4 f5 f6 f7 f8 f9 f10 f11 f12 x0 x1 x2 x3 KT0 KX0 HY0
    have KT1 := Lib.hid (KT.out.below HY1.out KT.out.lt)
    have KE1 := Lib.hid (KEX.out.below HY1.out KEX.out.lt)
    have f0 : Y1.cell? ⟨gt, 0, none⟩ = some (Value.slice h'.A1 s.cols.length h'.c1) := KT1.out.cell 0
    have f1 : Y1.cell? ⟨gt, 1, none⟩ = some (Value.slice h'.A2 s.covs.length h'.c2) := KT1.out.cell 1
    have f2 : Y1.cell? ⟨gt, 2, none⟩ = some (.int .i64 s.l0) := KT1.out.cell 2
    have f3 : Y1.cell? ⟨gt, 3, none⟩ = some (.int .i64 s.l1) := KT1.out.cell 3
    have f4 : Y1.cell? ⟨gt, 4, none⟩ = some (.int .i64 s.l2) := KT1.out.cell 4
    have f5 : Y1.cell? ⟨gt, 5, none⟩ = some (.int .i64 s.l3) := KT1.out.cell 5
    have f6 : Y1.cell? ⟨gt, 6, none⟩ = some (.slice h'.A3 s.rows.length h'.c3) := KT1.out.cell 6
    have f7 : Y1.cell? ⟨gt, 7, none⟩ = some (.slice h'.A4 s.frames.length h'.c4) := KT1.out.cell 7
    have f8 : Y1.cell? ⟨gt, 8, none⟩ = some (.slice h'.A5 s.tanks.length h'.c5) := KT1.out.cell 8
    have f9 : Y1.cell? ⟨gt, 9, none⟩ = some (.int .i64 s.m0) := KT1.out.cell 9
    have f10 : Y1.cell? ⟨gt, 10, none⟩ = some (.int .i64 s.m1) := KT1.out.cell 10
    have f11 : Y1.cell? ⟨gt, 11, none⟩ = some (.int .i64 s.m2) := KT1.out.cell 11
    have f12 : Y1.cell? ⟨gt, 12, none⟩ = some (.int .i64 s.m3) := KT1.out.cell 12
    have e0 : Y1.cell? ⟨w.heap.size, 0, none⟩ = some (Value.slice h.A1 s.cols.length h.c1) := KE1.out.cell 0
    have e1 : Y1.cell? ⟨w.heap.size, 1, none⟩ = some (Value.slice h.A2 s.covs.length h.c2) := KE1.out.cell 1
    have e2 : Y1.cell? ⟨w.heap.size, 2, none⟩ = some (.int .i64 s.l0) := KE1.out.cell 2
    have e3 : Y1.cell? ⟨w.heap.size, 3, none⟩ = some (.int .i64 s.l1) := KE1.out.cell 3
    have e4 : Y1.cell? ⟨w.heap.size, 4, none⟩ = some (.int .i64 s.l2) := KE1.out.cell 4
    have e5 : Y1.cell? ⟨w.heap.size, 5, none⟩ = some (.int .i64 s.l3) := KE1.out.cell 5
    have e6 : Y1.cell? ⟨w.heap.size, 6, none⟩ = some (.slice h.A3 s.rows.length h.c3) := KE1.out.cell 6
    have e7 : Y1.cell? ⟨w.heap.size, 7, none⟩ = some (.slice h.A4 s.frames.length h.c4) := KE1.out.cell 7
    have e8 : Y1.cell? ⟨w.heap.size, 8, none⟩ = some (.slice h.A5 s.tanks.length h.c5) := KE1.out.cell 8
    have e9 : Y1.cell? ⟨w.heap.size, 9, none⟩ = some (.int .i64 s.m0) := KE1.out.cell 9
    have e10 : Y1.cell? ⟨w.heap.size, 10, none⟩ = some (.int .i64 s.m1) := KE1.out.cell 10
    have e11 : Y1.cell? ⟨w.heap.size, 11, none⟩ = some (.int .i64 s.m2) := KE1.out.cell 11
    have e12 : Y1.cell? ⟨w.heap.size, 12, none⟩ = some (.int .i64 s.m3) := KE1.out.cell 12
    go_wp2_with fail
    refine (K2.out Y1 HY1.out).mono ?_
    rintro e Y2 ⟨rfl, hb⟩
    simp only
    have HY2 := Lib.hid (HY1.out.trans (hb.mono HY1.out.size))
    clear hb K2 f0 f1 f2 f3 f4 f5 f6 f7 f8 f9 f10 f11 f12 e0 e1 e2 e3 e4 e5 e6 e7 e8 e9 e10 e11 e12 KT1 KE1 HY1
    go_wp2_with fail
    refine (K3.out Y2 HY2.out).mono ?_
    rintro e Y3 ⟨rfl, hb⟩
    simp only
    have HY3 := Lib.hid (HY2.out.trans (hb.mono HY2.out.size))
    clear hb K3 HY2
    go_wp2_with fail
    refine (K4.out Y3 HY3.out).mono ?_
    rintro e Y4 ⟨rfl, hb⟩
    simp only
    have HY4 := Lib.hid (HY3.out.trans (hb.mono HY3.out.size))
    clear hb K4 HY3
    have HE := Lib.hid (HB0.out.trans ((HBX4.out.trans (HY4.out.mono HBX4.out.size)).mono HB0.out.size))
    go_wp2_with fail
    have HTE := Lib.hid (HTX.out.below HY4.out HTX.out.lt)
    have HNE := Lib.hid (HNX.out.below HY4.out HNX.out.lt)
    refine (awake14_true _ HTE.out HNE.out).mono ?_
    rintro e Z ⟨rfl, hz⟩
    simp only
    go_wp2_with fail
    go_ret
    exact ⟨rfl, HE.out.trans (hz.mono HE.out.size)⟩
end Go.Proofs.YtmhikcleekfbpaaGreatDoor
