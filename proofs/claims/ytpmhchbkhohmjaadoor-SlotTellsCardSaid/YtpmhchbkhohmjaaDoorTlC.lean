/-
  The walk of the statement SlotTells.
-/
import Derived.Test.YtpmhchbkhohmjaaDoorFw8
import Derived.Test.YtpmhchbkhohmjaaDoorOpW
import Derived.Test.YtpmhchbkhohmjaaDoorKpE
import Derived.Test.YtpmhchbkhohmjaaDoorRgB
import Derived.Test.YtpmhchbkhohmjaaDoorLsA
import Derived.Test.YtpmhchbkhohmjaaDoorB5
import Derived.Test.YtpmhchbkhohmjaaDoorSlTs
namespace Go.Proofs.YtpmhchbkhohmjaaDoor
open Go.RowKit

set_option maxRecDepth 100000 in
set_option maxHeartbeats 8000000 in
theorem slotTells_any (s : Shp) (h : Hd) (x y : Slt) (size : Nat) (hsz : size < 256) (A : Option Addr) (c : Nat) (l : List Slt) (w : World) (hs : ShpR w (Lt w.heap.size) s h) (hi : InS s) (hx : x.tier ≤ 9223372036854775807) (hl : SlT tSlt w (Lt w.heap.size) A l) (hq : QuarOK w) :
    Calls Tryd.prog 4 #[.agg (shpA s h), .agg (sltL x).toArray, .agg (sltL y).toArray, .int .u8 (size : Nat), .slice A l.length c] w (TrueRet w) := by
  obtain ⟨xc, xt, xh⟩ := x
  obtain ⟨yc, yt, yh⟩ := y
  simp only at hx
  have hb0 : Below w.heap.size w (((w.alloc (.cells (shpA s h) 32)).alloc (.cells #[.int .i64 xc, .int .i64 xt, .int .u8 (xh : Nat)] 34)).alloc (.cells #[.int .i64 yc, .int .i64 yt, .int .u8 (yh : Nat)] 34)) := (ba2 w (.cells (shpA s h) 32) (.cells #[.int .i64 xc, .int .i64 xt, .int .u8 (xh : Nat)] 34)).trans ((ba1 _ _).mono (by simp; omega))
  have KE := Lib.hid (((Bk.new w 32 (shpA s h)).alloc (.cells #[.int .i64 xc, .int .i64 xt, .int .u8 (xh : Nat)] 34)).alloc (.cells #[.int .i64 yc, .int .i64 yt, .int .u8 (yh : Nat)] 34))
  have KX := Lib.hid ((Bk.nxt8 (w := w) (.cells (shpA s h) 32) 34 #[.int .i64 xc, .int .i64 xt, .int .u8 (xh : Nat)]).alloc (.cells #[.int .i64 yc, .int .i64 yt, .int .u8 (yh : Nat)] 34))
  have KY : Hid (Bk (((w.alloc (.cells (shpA s h) 32)).alloc (.cells #[.int .i64 xc, .int .i64 xt, .int .u8 (xh : Nat)] 34)).alloc (.cells #[.int .i64 yc, .int .i64 yt, .int .u8 (yh : Nat)] 34)) (w.heap.size + 2) 34 #[.int .i64 yc, .int .i64 yt, .int .u8 (yh : Nat)]) := Lib.hid (by
    have h1 := Bk.new ((w.alloc (.cells (shpA s h) 32)).alloc (.cells #[.int .i64 xc, .int .i64 xt, .int .u8 (xh : Nat)] 34)) 34 #[.int .i64 yc, .int .i64 yt, .int .u8 (yh : Nat)]
    have e : ((w.alloc (.cells (shpA s h) 32)).alloc (.cells #[.int .i64 xc, .int .i64 xt, .int .u8 (xh : Nat)] 34)).heap.size = w.heap.size + 2 := by simp
    rw [e] at h1
    exact h1)
  have HS := Lib.hid (hs.on hb0)
  have HSL := Lib.hid (hl.on hb0)
  have KF := Lib.hid (few8_any s h _ (hs.on hb0))
  have HB0 := Lib.hid hb0
  have HI := Lib.hid hi
  have HQ := Lib.hid hq
  clear hs hb0 hi hl hq
  unfold shpA sltL at *
  simp only at *
  go_enter Tryd.func4, Tryd.ntmps4
  go_upto_region 1 with fail
  generalize hW : (((w.alloc _).alloc _).alloc _) = W at *
  clear hW
  have e0 : W.cell? ⟨w.heap.size, 0, none⟩ = some (Value.slice h.A1 s.cols.length h.c1) := KE.out.cell 0
  have e1 : W.cell? ⟨w.heap.size, 1, none⟩ = some (Value.slice h.A2 s.covs.length h.c2) := KE.out.cell 1
  have e2 : W.cell? ⟨w.heap.size, 2, none⟩ = some (.int .i64 s.l0) := KE.out.cell 2
  have e3 : W.cell? ⟨w.heap.size, 3, none⟩ = some (.int .i64 s.l1) := KE.out.cell 3
  have e4 : W.cell? ⟨w.heap.size, 4, none⟩ = some (.int .i64 s.l2) := KE.out.cell 4
  have e5 : W.cell? ⟨w.heap.size, 5, none⟩ = some (.int .i64 s.l3) := KE.out.cell 5
  have e6 : W.cell? ⟨w.heap.size, 6, none⟩ = some (.slice h.A3 s.rows.length h.c3) := KE.out.cell 6
  have e7 : W.cell? ⟨w.heap.size, 7, none⟩ = some (.slice h.A4 s.frames.length h.c4) := KE.out.cell 7
  have e8 : W.cell? ⟨w.heap.size, 8, none⟩ = some (.slice h.A5 s.tanks.length h.c5) := KE.out.cell 8
  have e9 : W.cell? ⟨w.heap.size, 9, none⟩ = some (.int .i64 s.m0) := KE.out.cell 9
  have e10 : W.cell? ⟨w.heap.size, 10, none⟩ = some (.int .i64 s.m1) := KE.out.cell 10
  have e11 : W.cell? ⟨w.heap.size, 11, none⟩ = some (.int .i64 s.m2) := KE.out.cell 11
  have e12 : W.cell? ⟨w.heap.size, 12, none⟩ = some (.int .i64 s.m3) := KE.out.cell 12
  go_wp2_with fail
  refine KF.out.mono ?_
  rintro e V ⟨fb, rfl, hf, hb⟩
  simp only
  clear KF e0 e1 e2 e3 e4 e5 e6 e7 e8 e9 e10 e11 e12
  have HBV := Lib.hid hb
  clear hb
  cases fb with
  | false =>
    have HE := Lib.hid (HB0.out.trans (HBV.out.mono HB0.out.size))
    clear hf
    have HQW := Lib.hid (HQ.out.below HE.out)
    go_wp2_with fail
    refine (awake08_true _ HQW.out).mono ?_
    rintro e Z ⟨rfl, hz⟩
    simp only
    go_wp2_with fail
    go_ret
    exact ⟨rfl, HE.out.trans (hz.mono HE.out.size)⟩
  | true =>
    by_cases hlong : 60 < l.length
    · have HE := Lib.hid (HB0.out.trans (HBV.out.mono HB0.out.size))
      have d1 : decide (60 < l.length) = true := decide_eq_true hlong
      have d2 : decide ((60 : Int) < (l.length : Int)) = true := decide_eq_true (by omega)
      clear hf hlong
      have HQW := Lib.hid (HQ.out.below HE.out)
      go_wp2_with fail
      refine (awake08_true _ HQW.out).mono ?_
      rintro e Z ⟨rfl, hz⟩
      simp only
      go_wp2_with fail
      go_ret
      exact ⟨rfl, HE.out.trans (hz.mono HE.out.size)⟩
    · have d1 : decide (60 < l.length) = false := decide_eq_false hlong
      have d2 : decide ((60 : Int) < (l.length : Int)) = false := decide_eq_false (by omega)
      have hll : l.length ≤ 60 := by omega
      clear hlong
      have HP := Lib.hid (hf.1 rfl)
      clear hf
      have HFL : Hid (FewL s) := Lib.hid ⟨by have := HP.out.cols; omega, by have := HP.out.covs; omega, HI.out.rows, HI.out.frames, HI.out.tanks, HI.out.plugs, HI.out.hrows, HI.out.steps⟩
      have HTN : Hid (∀ c, tiersN s c ≤ 12) := Lib.hid fun c => by
        unfold tiersN
        by_cases hc : c < s.cols.length
        · have := (HP.out.plugs _ (getD_memD hc default)).2
          omega
        · rw [List.getD_eq_getElem?_getD, List.getElem?_eq_none (by omega)]
          decide
      have hcl := HP.out.cols
      have hLA : (allF s size).length ≤ 1440 := by
        have := colsT_len s size HTN.out s.cols.length
        unfold allF
        omega
      have KL := Lib.hid (lentShip_any s h V (HS.out.on HBV.out) HFL.out)
      have KV := Lib.hid (KE.out.below HBV.out KE.out.lt)
      have HSV := Lib.hid (HSL.out.on HBV.out)
      unfold shpA at KL
      have e0 : V.cell? ⟨w.heap.size, 0, none⟩ = some (Value.slice h.A1 s.cols.length h.c1) := KV.out.cell 0
      have e1 : V.cell? ⟨w.heap.size, 1, none⟩ = some (Value.slice h.A2 s.covs.length h.c2) := KV.out.cell 1
      have e2 : V.cell? ⟨w.heap.size, 2, none⟩ = some (.int .i64 s.l0) := KV.out.cell 2
      have e3 : V.cell? ⟨w.heap.size, 3, none⟩ = some (.int .i64 s.l1) := KV.out.cell 3
      have e4 : V.cell? ⟨w.heap.size, 4, none⟩ = some (.int .i64 s.l2) := KV.out.cell 4
      have e5 : V.cell? ⟨w.heap.size, 5, none⟩ = some (.int .i64 s.l3) := KV.out.cell 5
      have e6 : V.cell? ⟨w.heap.size, 6, none⟩ = some (.slice h.A3 s.rows.length h.c3) := KV.out.cell 6
      have e7 : V.cell? ⟨w.heap.size, 7, none⟩ = some (.slice h.A4 s.frames.length h.c4) := KV.out.cell 7
      have e8 : V.cell? ⟨w.heap.size, 8, none⟩ = some (.slice h.A5 s.tanks.length h.c5) := KV.out.cell 8
      have e9 : V.cell? ⟨w.heap.size, 9, none⟩ = some (.int .i64 s.m0) := KV.out.cell 9
      have e10 : V.cell? ⟨w.heap.size, 10, none⟩ = some (.int .i64 s.m1) := KV.out.cell 10
      have e11 : V.cell? ⟨w.heap.size, 11, none⟩ = some (.int .i64 s.m2) := KV.out.cell 11
      have e12 : V.cell? ⟨w.heap.size, 12, none⟩ = some (.int .i64 s.m3) := KV.out.cell 12
      go_wp2_with fail
      refine KL.out.mono ?_
      rintro e V2 ⟨hb, h', B1, rfl, hl⟩
      simp only
      clear KL KV d1 d2 e0 e1 e2 e3 e4 e5 e6 e7 e8 e9 e10 e11 e12
      have KLS := Lib.hid (lentSlots_any A c l V2 (HSV.out.on hb) (by omega))
      have HBV2 := Lib.hid (HBV.out.trans (hb.mono HBV.out.size))
      have HL2 := Lib.hid hl
      clear hb hl HBV HSV
      go_wp2_with fail
      refine KLS.out.mono ?_
      rintro e V3 ⟨A', c', rfl, hc', _, hs', hb⟩
      simp only
      have hba := ba1 V3 (.cells (shpA s h') 32)
      have HB3 := Lib.hid (HBV2.out.trans ((hb.trans (hba.mono hb.size)).mono HBV2.out.size))
      have KT := Lib.hid (Bk.new V3 32 (shpA s h'))
      have HL := Lib.hid ((HL2.out.on hb).on hba)
      have HSO : Hid (SlT tSlt (V3.alloc (.cells (shpA s h') 32)) (Lt (V3.alloc (.cells (shpA s h') 32)).heap.size) A' (l ++ marksSlot 12)) := Lib.hid ((hs'.more fun b hb => hb.2).on hba)
      clear hba hb hs' KLS HL2 HBV2
      try clear V2
      unfold shpA at HB3 KT HL HSO
      go_upto_region 4 with fail
      generalize V3.heap.size = gt at *
      generalize (V3.alloc _) = X at *
      try clear V3
      generalize V.heap.size + 2 = base at *
      try clear V
      have HR' : Hid (ShpR X (Lt X.heap.size) s h') := Lib.hid (HL.out.rd.more fun b hb => hb.2)
      have HSX := Lib.hid (HS.out.on HB3.out)
      replace HSL := Lib.hid (HSL.out.on HB3.out)
      replace KE := Lib.hid (KE.out.below HB3.out KE.out.lt)
      replace KX := Lib.hid (KX.out.below HB3.out KX.out.lt)
      replace KY := Lib.hid (KY.out.below HB3.out KY.out.lt)
      clear HS
      have K1 : Hid (∀ U : World, Cb X U → Calls Tryd.prog 14 #[.agg (shpA s h'), .agg (sltL ⟨xc, xt, xh⟩).toArray, .int .u8 (size : Nat)] U (Ret U (.bool (slotRight s ⟨xc, xt, xh⟩ size)))) := Lib.hid fun U hU => slotRight_any s h' ⟨xc, xt, xh⟩ size U (HR'.out.on hU)
      have K2 : Hid (∀ U : World, Cb X U → Calls Tryd.prog 15 #[.agg (shpA s h), .agg (sltL ⟨xc, xt, xh⟩).toArray, .int .i64 (size : Nat)] U (Ret U (.bool (slotRight s ⟨xc, xt, xh⟩ size)))) := Lib.hid fun U hU => refRightS_any s h ⟨xc, xt, xh⟩ size U (HSX.out.on hU) hsz
      have K3 : Hid (∀ U : World, Cb X U → Calls Tryd.prog 17 #[.agg (shpA s h'), .int .u8 (size : Nat)] U (fun e w' => ∃ A c, e = .returned (.slice A (allF s size).length c) ∧ (allF s size).length ≤ c ∧ SlT tSlt w' (Lt w'.heap.size) A (allF s size) ∧ Below U.heap.size U w')) := Lib.hid fun U hU => by
        refine (all_any s h' size U (HR'.out.on hU) (by omega) (fun c => Nat.le_trans (HTN.out c) (by decide)) (by omega)).mono ?_
        rintro e w' ⟨v, rfl, ho, hb⟩
        obtain ⟨A, c, rfl, hc, _, hs⟩ := ho.sl
        exact ⟨A, c, rfl, hc, hs, hb⟩
      have K4 : Hid (∀ U : World, Cb X U → Calls Tryd.prog 18 #[.agg (shpA s h), .int .i64 (size : Nat)] U (fun e w' => ∃ A c, e = .returned (.slice A (allF s size).length c) ∧ (allF s size).length ≤ c ∧ SlT tSlt w' (Lt w'.heap.size) A (allF s size) ∧ Below U.heap.size U w')) := Lib.hid fun U hU => by
        refine (refAll_any s h size U (HSX.out.on hU) hcl HTN.out hsz).mono ?_
        rintro e w' ⟨v, rfl, ho, hb⟩
        obtain ⟨A, c, rfl, hc, _, hs⟩ := ho.sl
        exact ⟨A, c, rfl, hc, hs, hb⟩
      have K5 : Hid (∀ U : World, Cb X U → Calls Tryd.prog 19 #[.agg (sltL ⟨xc, xt, xh⟩).toArray, .agg (sltL ⟨yc, yt, yh⟩).toArray] U (Ret U (.int .i64 (cmpF ⟨xc, xt, xh⟩ ⟨yc, yt, yh⟩)))) := Lib.hid fun U hU => compare_any _ _ U
      have K6 : Hid (∀ U : World, Cb X U → Calls Tryd.prog 20 #[.agg (sltL ⟨xc, xt, xh⟩).toArray, .agg (sltL ⟨yc, yt, yh⟩).toArray] U (Ret U (.int .i64 (cmpF ⟨xc, xt, xh⟩ ⟨yc, yt, yh⟩)))) := Lib.hid fun U hU => refCompare_any _ _ U
      have KSS : Hid (∀ (U : World) (A c A2 c2), SlT tSlt U (Lt U.heap.size) A (allF s size) → SlT tSlt U (Lt U.heap.size) A2 (allF s size) → Calls Tryd.prog 16 #[.slice A (allF s size).length c, .slice A2 (allF s size).length c2] U (Ret U (.bool true))) := Lib.hid fun U A c A2 c2 h1 h2 => by
        have k1 := sameSlots_any A A2 c c2 _ _ U h1 h2 (by unfold maxLen; omega)
        rw [decide_eq_true rfl] at k1
        exact k1
      generalize slotRight s ⟨xc, xt, xh⟩ size = qr at *
      generalize allF s size = LA at *
      generalize cmpF ⟨xc, xt, xh⟩ ⟨yc, yt, yh⟩ = cf at *
      unfold shpA at K1 K2 K3 K4
      unfold sltL at K1 K2 K5 K6
      simp only at K1 K2 K5 K6
      have e0 : X.cell? ⟨w.heap.size, 0, none⟩ = some (Value.slice h.A1 s.cols.length h.c1) := KE.out.cell 0
      have e1 : X.cell? ⟨w.heap.size, 1, none⟩ = some (Value.slice h.A2 s.covs.length h.c2) := KE.out.cell 1
      have e2 : X.cell? ⟨w.heap.size, 2, none⟩ = some (.int .i64 s.l0) := KE.out.cell 2
      have e3 : X.cell? ⟨w.heap.size, 3, none⟩ = some (.int .i64 s.l1) := KE.out.cell 3
      have e4 : X.cell? ⟨w.heap.size, 4, none⟩ = some (.int .i64 s.l2) := KE.out.cell 4
      have e5 : X.cell? ⟨w.heap.size, 5, none⟩ = some (.int .i64 s.l3) := KE.out.cell 5
      have e6 : X.cell? ⟨w.heap.size, 6, none⟩ = some (.slice h.A3 s.rows.length h.c3) := KE.out.cell 6
      have e7 : X.cell? ⟨w.heap.size, 7, none⟩ = some (.slice h.A4 s.frames.length h.c4) := KE.out.cell 7
      have e8 : X.cell? ⟨w.heap.size, 8, none⟩ = some (.slice h.A5 s.tanks.length h.c5) := KE.out.cell 8
      have e9 : X.cell? ⟨w.heap.size, 9, none⟩ = some (.int .i64 s.m0) := KE.out.cell 9
      have e10 : X.cell? ⟨w.heap.size, 10, none⟩ = some (.int .i64 s.m1) := KE.out.cell 10
      have e11 : X.cell? ⟨w.heap.size, 11, none⟩ = some (.int .i64 s.m2) := KE.out.cell 11
      have e12 : X.cell? ⟨w.heap.size, 12, none⟩ = some (.int .i64 s.m3) := KE.out.cell 12
      have f0 : X.cell? ⟨gt, 0, none⟩ = some (Value.slice h'.A1 s.cols.length h'.c1) := KT.out.cell 0
      have f1 : X.cell? ⟨gt, 1, none⟩ = some (Value.slice h'.A2 s.covs.length h'.c2) := KT.out.cell 1
      have f2 : X.cell? ⟨gt, 2, none⟩ = some (.int .i64 s.l0) := KT.out.cell 2
      have f3 : X.cell? ⟨gt, 3, none⟩ = some (.int .i64 s.l1) := KT.out.cell 3
      have f4 : X.cell? ⟨gt, 4, none⟩ = some (.int .i64 s.l2) := KT.out.cell 4
      have f5 : X.cell? ⟨gt, 5, none⟩ = some (.int .i64 s.l3) := KT.out.cell 5
      have f6 : X.cell? ⟨gt, 6, none⟩ = some (.slice h'.A3 s.rows.length h'.c3) := KT.out.cell 6
      have f7 : X.cell? ⟨gt, 7, none⟩ = some (.slice h'.A4 s.frames.length h'.c4) := KT.out.cell 7
      have f8 : X.cell? ⟨gt, 8, none⟩ = some (.slice h'.A5 s.tanks.length h'.c5) := KT.out.cell 8
      have f9 : X.cell? ⟨gt, 9, none⟩ = some (.int .i64 s.m0) := KT.out.cell 9
      have f10 : X.cell? ⟨gt, 10, none⟩ = some (.int .i64 s.m1) := KT.out.cell 10
      have f11 : X.cell? ⟨gt, 11, none⟩ = some (.int .i64 s.m2) := KT.out.cell 11
      have f12 : X.cell? ⟨gt, 12, none⟩ = some (.int .i64 s.m3) := KT.out.cell 12
      have x0 : X.cell? ⟨w.heap.size + 1, 0, none⟩ = some (.int .i64 xc) := KX.out.cell 0
      have x1 : X.cell? ⟨w.heap.size + 1, 1, none⟩ = some (.int .i64 xt) := KX.out.cell 1
      have x2 : X.cell? ⟨w.heap.size + 1, 2, none⟩ = some (.int .u8 (xh : Nat)) := KX.out.cell 2
      have y0 : X.cell? ⟨w.heap.size + 2, 0, none⟩ = some (.int .i64 yc) := KY.out.cell 0
      have y1 : X.cell? ⟨w.heap.size + 2, 1, none⟩ = some (.int .i64 yt) := KY.out.cell 1
      have y2 : X.cell? ⟨w.heap.size + 2, 2, none⟩ = some (.int .u8 (yh : Nat)) := KY.out.cell 2
      go_upto_region 4 with fail
      refine wp_region_ogG [.val 0 (.agg #[.slice h'.A1 s.cols.length h'.c1, .slice h'.A2 s.covs.length h'.c2, .int .i64 s.l0, .int .i64 s.l1, .int .i64 s.l2, .int .i64 s.l3, .slice h'.A3 s.rows.length h'.c3, .slice h'.A4 s.frames.length h'.c4, .slice h'.A5 s.tanks.length h'.c5, .int .i64 s.m0, .int .i64 s.m1, .int .i64 s.m2, .int .i64 s.m3]),
        .val 1 (.agg #[.int .i64 xc, .int .i64 xt, .int .u8 (xh : Nat)]),
        .val 2 (.int .u8 (size : Nat)),
        .val 3 (.bool qr),
        .val 4 (.agg #[.slice h.A1 s.cols.length h.c1, .slice h.A2 s.covs.length h.c2, .int .i64 s.l0, .int .i64 s.l1, .int .i64 s.l2, .int .i64 s.l3, .slice h.A3 s.rows.length h.c3, .slice h.A4 s.frames.length h.c4, .slice h.A5 s.tanks.length h.c5, .int .i64 s.m0, .int .i64 s.m1, .int .i64 s.m2, .int .i64 s.m3]),
        .val 5 (.agg #[.int .i64 xc, .int .i64 xt, .int .u8 (xh : Nat)]),
        .val 6 (.int .u8 (size : Nat)),
        .val 7 (.int .i64 (size : Nat)),
        .val 8 (.bool qr),
        .val 9 (.bool false),
        .val 10 (.bool false),
        .val 11 (.agg #[.slice h'.A1 s.cols.length h'.c1, .slice h'.A2 s.covs.length h'.c2, .int .i64 s.l0, .int .i64 s.l1, .int .i64 s.l2, .int .i64 s.l3, .slice h'.A3 s.rows.length h'.c3, .slice h'.A4 s.frames.length h'.c4, .slice h'.A5 s.tanks.length h'.c5, .int .i64 s.m0, .int .i64 s.m1, .int .i64 s.m2, .int .i64 s.m3]),
        .val 12 (.int .u8 (size : Nat)),
        .slT tSlt 13 LA,
        .val 14 (.agg #[.slice h.A1 s.cols.length h.c1, .slice h.A2 s.covs.length h.c2, .int .i64 s.l0, .int .i64 s.l1, .int .i64 s.l2, .int .i64 s.l3, .slice h.A3 s.rows.length h.c3, .slice h.A4 s.frames.length h.c4, .slice h.A5 s.tanks.length h.c5, .int .i64 s.m0, .int .i64 s.m1, .int .i64 s.m2, .int .i64 s.m3]),
        .val 15 (.int .u8 (size : Nat)),
        .val 16 (.int .i64 (size : Nat)),
        .slT tSlt 17 LA,
        .val 18 (.bool true),
        .val 19 (.bool false),
        .val 20 (.bool false),
        .val 21 (.bool false),
        .val 22 (.agg #[.int .i64 xc, .int .i64 xt, .int .u8 (xh : Nat)]),
        .val 23 (.agg #[.int .i64 yc, .int .i64 yt, .int .u8 (yh : Nat)]),
        .val 24 (.int .i64 cf),
        .val 25 (.agg #[.int .i64 xc, .int .i64 xt, .int .u8 (xh : Nat)]),
        .val 26 (.agg #[.int .i64 yc, .int .i64 yt, .int .u8 (yh : Nat)]),
        .val 27 (.int .i64 cf),
        .val 28 (.bool false),
        .val 29 (.bool false)]
        [[], [], [], [0, 1, 2], [], [], [], [6], [4, 5, 7], [3, 8], [9], [10], [10], [10, 11, 12], [10], [10], [10, 15], [10, 14, 16], [10, 13, 17], [10, 18], [10, 19], [20], [21], [21], [21, 22, 23], [21], [21], [21, 25, 26], [21, 24, 27], [21, 28]] [29] (Cb X) (by kernel_rfl) (by kernel_rfl) (Cb.drew X) ⟨?_, ?_, ?_, ?_, ?_, ?_, ?_, ?_, ?_, ?_, ?_, ?_, ?_, ?_, ?_, ?_, ?_, ?_, ?_, ?_, ?_, ?_, ?_, ?_, ?_, ?_, ?_, ?_, ?_, ?_, trivial⟩ ?_
      case refine_1 =>
        refine StepG.of rfl ?_
        refine StepL.up fun x V hV hu K Q hK => ?_
        have ff0 := hV.cell f0
        have ff1 := hV.cell f1
        have ff2 := hV.cell f2
        have ff3 := hV.cell f3
        have ff4 := hV.cell f4
        have ff5 := hV.cell f5
        have ff6 := hV.cell f6
        have ff7 := hV.cell f7
        have ff8 := hV.cell f8
        have ff9 := hV.cell f9
        have ff10 := hV.cell f10
        have ff11 := hV.cell f11
        have ff12 := hV.cell f12
        clear hu
        rw [owp_eq]
        go_big_op
        exact hK _ _ (Below.refl _ _) rfl
      case refine_2 =>
        refine StepG.of rfl ?_
        refine StepL.up fun x V hV hu K Q hK => ?_
        have fx0 := hV.cell x0
        have fx1 := hV.cell x1
        have fx2 := hV.cell x2
        clear hu
        simp only [putL, List.set_cons_zero, List.set_cons_succ] at hK ⊢
        rw [owp_eq]
        go_big_op
        exact hK _ _ (Below.refl _ _) rfl
      case refine_3 =>
        refine StepG.of rfl ?_
        refine StepL.up fun x V hV hu K Q hK => ?_
        clear hu
        simp only [putL, List.set_cons_zero, List.set_cons_succ] at hK ⊢
        rw [owp_eq]
        go_big_op
        exact hK _ _ (Below.refl _ _) rfl
      case refine_4 =>
        refine StepG.of rfl ?_
        refine StepL.up fun x V hV hu K Q hK => ?_
        have u0 : x 0 = _ := hu 0 (by decide)
        have u1 : x 1 = _ := hu 1 (by decide)
        have u2 : x 2 = _ := hu 2 (by decide)
        clear hu
        simp only [putL, List.set_cons_zero, List.set_cons_succ] at hK ⊢
        rw [owp_eq]
        go_big_op
        refine (K1.out V hV).mono ?_
        rintro e V' ⟨rfl, hb⟩
        exact hK _ _ hb rfl
      case refine_5 =>
        refine StepG.of rfl ?_
        refine StepL.up fun x V hV hu K Q hK => ?_
        have fe0 := hV.cell e0
        have fe1 := hV.cell e1
        have fe2 := hV.cell e2
        have fe3 := hV.cell e3
        have fe4 := hV.cell e4
        have fe5 := hV.cell e5
        have fe6 := hV.cell e6
        have fe7 := hV.cell e7
        have fe8 := hV.cell e8
        have fe9 := hV.cell e9
        have fe10 := hV.cell e10
        have fe11 := hV.cell e11
        have fe12 := hV.cell e12
        clear hu
        simp only [putL, List.set_cons_zero, List.set_cons_succ] at hK ⊢
        rw [owp_eq]
        go_big_op
        exact hK _ _ (Below.refl _ _) rfl
      case refine_6 =>
        refine StepG.of rfl ?_
        refine StepL.up fun x V hV hu K Q hK => ?_
        have fx0 := hV.cell x0
        have fx1 := hV.cell x1
        have fx2 := hV.cell x2
        clear hu
        simp only [putL, List.set_cons_zero, List.set_cons_succ] at hK ⊢
        rw [owp_eq]
        go_big_op
        exact hK _ _ (Below.refl _ _) rfl
      case refine_7 =>
        refine StepG.of rfl ?_
        refine StepL.up fun x V hV hu K Q hK => ?_
        clear hu
        simp only [putL, List.set_cons_zero, List.set_cons_succ] at hK ⊢
        rw [owp_eq]
        go_big_op
        exact hK _ _ (Below.refl _ _) rfl
      case refine_8 =>
        refine StepG.of rfl ?_
        refine StepL.up fun x V hV hu K Q hK => ?_
        have u6 : x 6 = _ := hu 6 (by decide)
        clear hu
        simp only [putL, List.set_cons_zero, List.set_cons_succ] at hK ⊢
        rw [owp_eq]
        go_big_op
        exact hK _ _ (Below.refl _ _) rfl
      case refine_9 =>
        refine StepG.of rfl ?_
        refine StepL.up fun x V hV hu K Q hK => ?_
        have u4 : x 4 = _ := hu 4 (by decide)
        have u5 : x 5 = _ := hu 5 (by decide)
        have u7 : x 7 = _ := hu 7 (by decide)
        clear hu
        simp only [putL, List.set_cons_zero, List.set_cons_succ] at hK ⊢
        rw [owp_eq]
        go_big_op
        refine (K2.out V hV).mono ?_
        rintro e V' ⟨rfl, hb⟩
        exact hK _ _ hb rfl
      case refine_10 =>
        refine StepG.of rfl ?_
        refine StepL.up fun x V hV hu K Q hK => ?_
        have u3 : x 3 = _ := hu 3 (by decide)
        have u8 : x 8 = _ := hu 8 (by decide)
        clear hu
        simp only [putL, List.set_cons_zero, List.set_cons_succ] at hK ⊢
        rw [owp_eq]
        go_big_op
        exact hK _ _ (Below.refl _ _) rfl
      case refine_11 =>
        refine StepG.of rfl ?_
        refine StepL.up fun x V hV hu K Q hK => ?_
        have u9 : x 9 = _ := hu 9 (by decide)
        clear hu
        simp only [putL, List.set_cons_zero, List.set_cons_succ] at hK ⊢
        rw [owp_eq]
        go_big_op
        exact hK _ _ (Below.refl _ _) rfl
      case refine_12 =>
        refine StepG.yes 10 false 36 rfl rfl (fun x => by simp only [putL, List.set_cons_zero, List.set_cons_succ]; rfl) rfl (fun x w h => h) ?_
        refine StepL.up fun x V hV hu K Q hK => ?_
        have u10 : x 10 = _ := hu 10 (by decide)
        have ff0 := hV.cell f0
        have ff1 := hV.cell f1
        have ff2 := hV.cell f2
        have ff3 := hV.cell f3
        have ff4 := hV.cell f4
        have ff5 := hV.cell f5
        have ff6 := hV.cell f6
        have ff7 := hV.cell f7
        have ff8 := hV.cell f8
        have ff9 := hV.cell f9
        have ff10 := hV.cell f10
        have ff11 := hV.cell f11
        have ff12 := hV.cell f12
        clear hu
        simp only [putL, List.set_cons_zero, List.set_cons_succ] at hK ⊢
        rw [owp_eq]
        go_big_op
        exact hK _ _ (Below.refl _ _) rfl
      case refine_13 =>
        refine StepG.yes 10 false 36 rfl rfl (fun x => by simp only [putL, List.set_cons_zero, List.set_cons_succ]; rfl) rfl (fun x w h => h) ?_
        refine StepL.up fun x V hV hu K Q hK => ?_
        have u10 : x 10 = _ := hu 10 (by decide)
        clear hu
        simp only [putL, List.set_cons_zero, List.set_cons_succ] at hK ⊢
        rw [owp_eq]
        go_big_op
        exact hK _ _ (Below.refl _ _) rfl
      case refine_14 =>
        refine StepG.yes 10 false 36 rfl rfl (fun x => by simp only [putL, List.set_cons_zero, List.set_cons_succ]; rfl) rfl (fun x w h => h) ?_
        refine StepL.up fun x V hV hu K Q hK => ?_
        have u10 : x 10 = _ := hu 10 (by decide)
        have u11 : x 11 = _ := hu 11 (by decide)
        have u12 : x 12 = _ := hu 12 (by decide)
        clear hu
        simp only [putL, List.set_cons_zero, List.set_cons_succ] at hK ⊢
        rw [owp_eq]
        go_big_op
        refine (K3.out V hV).mono ?_
        rintro e V' ⟨A, c, rfl, hc, hs, hb⟩
        exact hK _ _ hb ⟨A, c, rfl, hc, hs⟩
      case refine_15 =>
        refine StepG.yes 10 false 36 rfl rfl (fun x => by simp only [putL, List.set_cons_zero, List.set_cons_succ]; rfl) rfl (fun x w h => h) ?_
        refine StepL.up fun x V hV hu K Q hK => ?_
        have u10 : x 10 = _ := hu 10 (by decide)
        have fe0 := hV.cell e0
        have fe1 := hV.cell e1
        have fe2 := hV.cell e2
        have fe3 := hV.cell e3
        have fe4 := hV.cell e4
        have fe5 := hV.cell e5
        have fe6 := hV.cell e6
        have fe7 := hV.cell e7
        have fe8 := hV.cell e8
        have fe9 := hV.cell e9
        have fe10 := hV.cell e10
        have fe11 := hV.cell e11
        have fe12 := hV.cell e12
        clear hu
        simp only [putL, List.set_cons_zero, List.set_cons_succ] at hK ⊢
        rw [owp_eq]
        go_big_op
        exact hK _ _ (Below.refl _ _) rfl
      case refine_16 =>
        refine StepG.yes 10 false 36 rfl rfl (fun x => by simp only [putL, List.set_cons_zero, List.set_cons_succ]; rfl) rfl (fun x w h => h) ?_
        refine StepL.up fun x V hV hu K Q hK => ?_
        have u10 : x 10 = _ := hu 10 (by decide)
        clear hu
        simp only [putL, List.set_cons_zero, List.set_cons_succ] at hK ⊢
        rw [owp_eq]
        go_big_op
        exact hK _ _ (Below.refl _ _) rfl
      case refine_17 =>
        refine StepG.yes 10 false 36 rfl rfl (fun x => by simp only [putL, List.set_cons_zero, List.set_cons_succ]; rfl) rfl (fun x w h => h) ?_
        refine StepL.up fun x V hV hu K Q hK => ?_
        have u10 : x 10 = _ := hu 10 (by decide)
        have u15 : x 15 = _ := hu 15 (by decide)
        clear hu
        simp only [putL, List.set_cons_zero, List.set_cons_succ] at hK ⊢
        rw [owp_eq]
        go_big_op
        exact hK _ _ (Below.refl _ _) rfl
      case refine_18 =>
        refine StepG.yes 10 false 36 rfl rfl (fun x => by simp only [putL, List.set_cons_zero, List.set_cons_succ]; rfl) rfl (fun x w h => h) ?_
        refine StepL.up fun x V hV hu K Q hK => ?_
        have u10 : x 10 = _ := hu 10 (by decide)
        have u14 : x 14 = _ := hu 14 (by decide)
        have u16 : x 16 = _ := hu 16 (by decide)
        clear hu
        simp only [putL, List.set_cons_zero, List.set_cons_succ] at hK ⊢
        rw [owp_eq]
        go_big_op
        refine (K4.out V hV).mono ?_
        rintro e V' ⟨A, c, rfl, hc, hs, hb⟩
        exact hK _ _ hb ⟨A, c, rfl, hc, hs⟩
      case refine_19 =>
        refine StepG.yes 10 false 36 rfl rfl (fun x => by simp only [putL, List.set_cons_zero, List.set_cons_succ]; rfl) rfl (fun x w h => h) ?_
        refine StepL.up fun x V hV hu K Q hK => ?_
        have u10 : x 10 = _ := hu 10 (by decide)
        obtain ⟨A13, c13, u13, hc13, hs13⟩ := hu 13 (by decide)
        obtain ⟨A17, c17, u17, hc17, hs17⟩ := hu 17 (by decide)
        clear hu
        simp only [putL, List.set_cons_zero, List.set_cons_succ] at hK ⊢
        rw [owp_eq]
        go_big_op
        refine (KSS.out V A13 c13 A17 c17 hs13 hs17).mono ?_
        rintro e V' ⟨rfl, hb⟩
        exact hK _ _ hb rfl
      case refine_20 =>
        refine StepG.yes 10 false 36 rfl rfl (fun x => by simp only [putL, List.set_cons_zero, List.set_cons_succ]; rfl) rfl (fun x w h => h) ?_
        refine StepL.up fun x V hV hu K Q hK => ?_
        have u10 : x 10 = _ := hu 10 (by decide)
        have u18 : x 18 = _ := hu 18 (by decide)
        clear hu
        simp only [putL, List.set_cons_zero, List.set_cons_succ] at hK ⊢
        rw [owp_eq]
        go_big_op
        exact hK _ _ (Below.refl _ _) rfl
      case refine_21 =>
        refine StepG.of rfl ?_
        refine StepL.up fun x V hV hu K Q hK => ?_
        have u10 : x 10 = _ := hu 10 (by decide)
        have u19 : x 19 = _ := hu 19 (by decide)
        clear hu
        simp only [putL, List.set_cons_zero, List.set_cons_succ] at hK ⊢
        rw [owp_eq]
        go_big_op
        exact hK _ _ (Below.refl _ _) rfl
      case refine_22 =>
        refine StepG.of rfl ?_
        refine StepL.up fun x V hV hu K Q hK => ?_
        have u20 : x 20 = _ := hu 20 (by decide)
        clear hu
        simp only [putL, List.set_cons_zero, List.set_cons_succ] at hK ⊢
        rw [owp_eq]
        go_big_op
        exact hK _ _ (Below.refl _ _) rfl
      case refine_23 =>
        refine StepG.yes 21 false 47 rfl rfl (fun x => by simp only [putL, List.set_cons_zero, List.set_cons_succ]; rfl) rfl (fun x w h => h) ?_
        refine StepL.up fun x V hV hu K Q hK => ?_
        have u21 : x 21 = _ := hu 21 (by decide)
        have fx0 := hV.cell x0
        have fx1 := hV.cell x1
        have fx2 := hV.cell x2
        clear hu
        simp only [putL, List.set_cons_zero, List.set_cons_succ] at hK ⊢
        rw [owp_eq]
        go_big_op
        exact hK _ _ (Below.refl _ _) rfl
      case refine_24 =>
        refine StepG.yes 21 false 47 rfl rfl (fun x => by simp only [putL, List.set_cons_zero, List.set_cons_succ]; rfl) rfl (fun x w h => h) ?_
        refine StepL.up fun x V hV hu K Q hK => ?_
        have u21 : x 21 = _ := hu 21 (by decide)
        have fy0 := hV.cell y0
        have fy1 := hV.cell y1
        have fy2 := hV.cell y2
        clear hu
        simp only [putL, List.set_cons_zero, List.set_cons_succ] at hK ⊢
        rw [owp_eq]
        go_big_op
        exact hK _ _ (Below.refl _ _) rfl
      case refine_25 =>
        refine StepG.yes 21 false 47 rfl rfl (fun x => by simp only [putL, List.set_cons_zero, List.set_cons_succ]; rfl) rfl (fun x w h => h) ?_
        refine StepL.up fun x V hV hu K Q hK => ?_
        have u21 : x 21 = _ := hu 21 (by decide)
        have u22 : x 22 = _ := hu 22 (by decide)
        have u23 : x 23 = _ := hu 23 (by decide)
        clear hu
        simp only [putL, List.set_cons_zero, List.set_cons_succ] at hK ⊢
        rw [owp_eq]
        go_big_op
        refine (K5.out V hV).mono ?_
        rintro e V' ⟨rfl, hb⟩
        exact hK _ _ hb rfl
      case refine_26 =>
        refine StepG.yes 21 false 47 rfl rfl (fun x => by simp only [putL, List.set_cons_zero, List.set_cons_succ]; rfl) rfl (fun x w h => h) ?_
        refine StepL.up fun x V hV hu K Q hK => ?_
        have u21 : x 21 = _ := hu 21 (by decide)
        have fx0 := hV.cell x0
        have fx1 := hV.cell x1
        have fx2 := hV.cell x2
        clear hu
        simp only [putL, List.set_cons_zero, List.set_cons_succ] at hK ⊢
        rw [owp_eq]
        go_big_op
        exact hK _ _ (Below.refl _ _) rfl
      case refine_27 =>
        refine StepG.yes 21 false 47 rfl rfl (fun x => by simp only [putL, List.set_cons_zero, List.set_cons_succ]; rfl) rfl (fun x w h => h) ?_
        refine StepL.up fun x V hV hu K Q hK => ?_
        have u21 : x 21 = _ := hu 21 (by decide)
        have fy0 := hV.cell y0
        have fy1 := hV.cell y1
        have fy2 := hV.cell y2
        clear hu
        simp only [putL, List.set_cons_zero, List.set_cons_succ] at hK ⊢
        rw [owp_eq]
        go_big_op
        exact hK _ _ (Below.refl _ _) rfl
      case refine_28 =>
        refine StepG.yes 21 false 47 rfl rfl (fun x => by simp only [putL, List.set_cons_zero, List.set_cons_succ]; rfl) rfl (fun x w h => h) ?_
        refine StepL.up fun x V hV hu K Q hK => ?_
        have u21 : x 21 = _ := hu 21 (by decide)
        have u25 : x 25 = _ := hu 25 (by decide)
        have u26 : x 26 = _ := hu 26 (by decide)
        clear hu
        simp only [putL, List.set_cons_zero, List.set_cons_succ] at hK ⊢
        rw [owp_eq]
        go_big_op
        refine (K6.out V hV).mono ?_
        rintro e V' ⟨rfl, hb⟩
        exact hK _ _ hb rfl
      case refine_29 =>
        refine StepG.yes 21 false 47 rfl rfl (fun x => by simp only [putL, List.set_cons_zero, List.set_cons_succ]; rfl) rfl (fun x w h => h) ?_
        refine StepL.up fun x V hV hu K Q hK => ?_
        have u21 : x 21 = _ := hu 21 (by decide)
        have u24 : x 24 = _ := hu 24 (by decide)
        have u27 : x 27 = _ := hu 27 (by decide)
        clear hu
        simp only [putL, List.set_cons_zero, List.set_cons_succ] at hK ⊢
        rw [owp_eq]
        go_big_op
        exact hK _ _ (Below.refl _ _) rfl
      case refine_30 =>
        refine StepG.of rfl ?_
        refine StepL.up fun x V hV hu K Q hK => ?_
        have u21 : x 21 = _ := hu 21 (by decide)
        have u28 : x 28 = _ := hu 28 (by decide)
        clear hu
        simp only [putL, List.set_cons_zero, List.set_cons_succ] at hK ⊢
        rw [owp_eq]
        go_big_op
        exact hK _ _ (Below.refl _ _) rfl
      case refine_31 =>
      intro xx X1 hV hA
      have h29 : xx 29 = _ := hA 29 rfl (by decide)
      have hb : Below X.heap.size X X1 := hV
      replace HR' := Lib.hid (HR'.out.on hb)
      replace HL := Lib.hid (HL.out.on hb)
      replace HSX := Lib.hid (HSX.out.on hb)
      replace HSL := Lib.hid (HSL.out.on hb)
      replace KE := Lib.hid (KE.out.below hb KE.out.lt)
      replace KT := Lib.hid (KT.out.below hb KT.out.lt)
      replace KX := Lib.hid (KX.out.below hb KX.out.lt)
      replace KY := Lib.hid (KY.out.below hb KY.out.lt)
      replace HSO := Lib.hid (HSO.out.on hb)
      replace HB3 := Lib.hid (HB3.out.trans (hb.mono HB3.out.size))
      clear hA hV hb K1 K2 K3 K4 K5 K6 KSS hLA e0 e1 e2 e3 e4 e5 e6 e7 e8 e9 e10 e11 e12 f0 f1 f2 f3 f4 f5 f6 f7 f8 f9 f10 f11 f12 x0 x1 x2 y0 y1 y2
      try clear X
      simp only [layL, putL, List.set_cons_zero, List.set_cons_succ]
      rw [h29]
      clear h29
      have K1 : Hid (∀ U : World, Cb X1 U → Calls Tryd.prog 21 #[.agg (sltL ⟨xc, xt, xh⟩).toArray, .agg (sltL ⟨yc, yt, yh⟩).toArray] U (Ret U (.bool (meetB ⟨xc, xt, xh⟩ ⟨yc, yt, yh⟩)))) := Lib.hid fun U hU => meet_any _ _ U
      have K2 : Hid (∀ U : World, Cb X1 U → Calls Tryd.prog 22 #[.agg (sltL ⟨xc, xt, xh⟩).toArray, .agg (sltL ⟨yc, yt, yh⟩).toArray] U (Ret U (.bool (meetB ⟨xc, xt, xh⟩ ⟨yc, yt, yh⟩)))) := Lib.hid fun U hU => refMeet_any _ _ U
      have K3 : Hid (∀ U : World, Cb X1 U → Calls Tryd.prog 23 #[.agg (sltL ⟨xc, xt, xh⟩).toArray, .agg (sltL ⟨yc, yt, yh⟩).toArray] U (Ret U (.bool (overB ⟨xc, xt, xh⟩ ⟨yc, yt, yh⟩)))) := Lib.hid fun U hU => over_any _ _ U
      have K4 : Hid (∀ U : World, Cb X1 U → Calls Tryd.prog 24 #[.agg (sltL ⟨xc, xt, xh⟩).toArray, .agg (sltL ⟨yc, yt, yh⟩).toArray] U (Ret U (.bool (overB ⟨xc, xt, xh⟩ ⟨yc, yt, yh⟩)))) := Lib.hid fun U hU => refOver_any _ _ U
      have K5 : Hid (∀ U : World, Cb X1 U → Calls Tryd.prog 25 #[.agg (sltL ⟨xc, xt, xh⟩).toArray, .slice A' l.length c'] U (Ret U (.bool (heldB ⟨xc, xt, xh⟩ l)))) := Lib.hid fun U hU => held_any ⟨xc, xt, xh⟩ A' c' l U (HSO.out.on hU).fst (by omega) hx
      have K6 : Hid (∀ U : World, Cb X1 U → Calls Tryd.prog 26 #[.agg (sltL ⟨xc, xt, xh⟩).toArray, .slice A l.length c] U (Ret U (.bool (heldB ⟨xc, xt, xh⟩ l)))) := Lib.hid fun U hU => refHeld_any ⟨xc, xt, xh⟩ A c l U (HSL.out.on hU) (by omega) hx
      generalize meetB ⟨xc, xt, xh⟩ ⟨yc, yt, yh⟩ = q1 at *
      generalize overB ⟨xc, xt, xh⟩ ⟨yc, yt, yh⟩ = q2 at *
      generalize heldB ⟨xc, xt, xh⟩ l = q3 at *
      unfold sltL at K1 K2 K3 K4 K5 K6
      simp only at K1 K2 K3 K4 K5 K6
      have x0 : X1.cell? ⟨w.heap.size + 1, 0, none⟩ = some (.int .i64 xc) := KX.out.cell 0
      have x1 : X1.cell? ⟨w.heap.size + 1, 1, none⟩ = some (.int .i64 xt) := KX.out.cell 1
      have x2 : X1.cell? ⟨w.heap.size + 1, 2, none⟩ = some (.int .u8 (xh : Nat)) := KX.out.cell 2
      have y0 : X1.cell? ⟨w.heap.size + 2, 0, none⟩ = some (.int .i64 yc) := KY.out.cell 0
      have y1 : X1.cell? ⟨w.heap.size + 2, 1, none⟩ = some (.int .i64 yt) := KY.out.cell 1
      have y2 : X1.cell? ⟨w.heap.size + 2, 2, none⟩ = some (.int .u8 (yh : Nat)) := KY.out.cell 2
      go_upto_region 6 with fail
      refine wp_region_ogG [.val 0 (.agg #[.int .i64 xc, .int .i64 xt, .int .u8 (xh : Nat)]),
        .val 1 (.agg #[.int .i64 yc, .int .i64 yt, .int .u8 (yh : Nat)]),
        .val 2 (.bool q1),
        .val 3 (.agg #[.int .i64 xc, .int .i64 xt, .int .u8 (xh : Nat)]),
        .val 4 (.agg #[.int .i64 yc, .int .i64 yt, .int .u8 (yh : Nat)]),
        .val 5 (.bool q1),
        .val 6 (.bool false),
        .val 7 (.bool false),
        .val 8 (.agg #[.int .i64 xc, .int .i64 xt, .int .u8 (xh : Nat)]),
        .val 9 (.agg #[.int .i64 yc, .int .i64 yt, .int .u8 (yh : Nat)]),
        .val 10 (.bool q2),
        .val 11 (.agg #[.int .i64 xc, .int .i64 xt, .int .u8 (xh : Nat)]),
        .val 12 (.agg #[.int .i64 yc, .int .i64 yt, .int .u8 (yh : Nat)]),
        .val 13 (.bool q2),
        .val 14 (.bool false),
        .val 15 (.bool false),
        .val 16 (.bool false),
        .val 17 (.agg #[.int .i64 xc, .int .i64 xt, .int .u8 (xh : Nat)]),
        .val 18 (.slice A' l.length c'),
        .val 19 (.bool q3),
        .val 20 (.agg #[.int .i64 xc, .int .i64 xt, .int .u8 (xh : Nat)]),
        .val 21 (.slice A l.length c),
        .val 22 (.bool q3),
        .val 23 (.bool false),
        .val 24 (.bool false)]
        [[], [], [0, 1], [], [], [3, 4], [2, 5], [6], [7], [7], [7, 8, 9], [7], [7], [7, 11, 12], [7, 10, 13], [7, 14], [15], [16], [16], [16, 17, 18], [16], [16], [16, 20, 21], [16, 19, 22], [16, 23]] [24] (Cb X1) (by kernel_rfl) (by kernel_rfl) (Cb.drew X1) ⟨?_, ?_, ?_, ?_, ?_, ?_, ?_, ?_, ?_, ?_, ?_, ?_, ?_, ?_, ?_, ?_, ?_, ?_, ?_, ?_, ?_, ?_, ?_, ?_, ?_, trivial⟩ ?_
      case refine_1 =>
        refine StepG.of rfl ?_
        refine StepL.up fun x V hV hu K Q hK => ?_
        have fx0 := hV.cell x0
        have fx1 := hV.cell x1
        have fx2 := hV.cell x2
        clear hu
        rw [owp_eq]
        go_big_op
        exact hK _ _ (Below.refl _ _) rfl
      case refine_2 =>
        refine StepG.of rfl ?_
        refine StepL.up fun x V hV hu K Q hK => ?_
        have fy0 := hV.cell y0
        have fy1 := hV.cell y1
        have fy2 := hV.cell y2
        clear hu
        simp only [putL, List.set_cons_zero, List.set_cons_succ] at hK ⊢
        rw [owp_eq]
        go_big_op
        exact hK _ _ (Below.refl _ _) rfl
      case refine_3 =>
        refine StepG.of rfl ?_
        refine StepL.up fun x V hV hu K Q hK => ?_
        have u0 : x 0 = _ := hu 0 (by decide)
        have u1 : x 1 = _ := hu 1 (by decide)
        clear hu
        simp only [putL, List.set_cons_zero, List.set_cons_succ] at hK ⊢
        rw [owp_eq]
        go_big_op
        refine (K1.out V hV).mono ?_
        rintro e V' ⟨rfl, hb⟩
        exact hK _ _ hb rfl
      case refine_4 =>
        refine StepG.of rfl ?_
        refine StepL.up fun x V hV hu K Q hK => ?_
        have fx0 := hV.cell x0
        have fx1 := hV.cell x1
        have fx2 := hV.cell x2
        clear hu
        simp only [putL, List.set_cons_zero, List.set_cons_succ] at hK ⊢
        rw [owp_eq]
        go_big_op
        exact hK _ _ (Below.refl _ _) rfl
      case refine_5 =>
        refine StepG.of rfl ?_
        refine StepL.up fun x V hV hu K Q hK => ?_
        have fy0 := hV.cell y0
        have fy1 := hV.cell y1
        have fy2 := hV.cell y2
        clear hu
        simp only [putL, List.set_cons_zero, List.set_cons_succ] at hK ⊢
        rw [owp_eq]
        go_big_op
        exact hK _ _ (Below.refl _ _) rfl
      case refine_6 =>
        refine StepG.of rfl ?_
        refine StepL.up fun x V hV hu K Q hK => ?_
        have u3 : x 3 = _ := hu 3 (by decide)
        have u4 : x 4 = _ := hu 4 (by decide)
        clear hu
        simp only [putL, List.set_cons_zero, List.set_cons_succ] at hK ⊢
        rw [owp_eq]
        go_big_op
        refine (K2.out V hV).mono ?_
        rintro e V' ⟨rfl, hb⟩
        exact hK _ _ hb rfl
      case refine_7 =>
        refine StepG.of rfl ?_
        refine StepL.up fun x V hV hu K Q hK => ?_
        have u2 : x 2 = _ := hu 2 (by decide)
        have u5 : x 5 = _ := hu 5 (by decide)
        clear hu
        simp only [putL, List.set_cons_zero, List.set_cons_succ] at hK ⊢
        rw [owp_eq]
        go_big_op
        exact hK _ _ (Below.refl _ _) rfl
      case refine_8 =>
        refine StepG.of rfl ?_
        refine StepL.up fun x V hV hu K Q hK => ?_
        have u6 : x 6 = _ := hu 6 (by decide)
        clear hu
        simp only [putL, List.set_cons_zero, List.set_cons_succ] at hK ⊢
        rw [owp_eq]
        go_big_op
        exact hK _ _ (Below.refl _ _) rfl
      case refine_9 =>
        refine StepG.yes 7 false 63 rfl rfl (fun x => by simp only [putL, List.set_cons_zero, List.set_cons_succ]; rfl) rfl (fun x w h => h) ?_
        refine StepL.up fun x V hV hu K Q hK => ?_
        have u7 : x 7 = _ := hu 7 (by decide)
        have fx0 := hV.cell x0
        have fx1 := hV.cell x1
        have fx2 := hV.cell x2
        clear hu
        simp only [putL, List.set_cons_zero, List.set_cons_succ] at hK ⊢
        rw [owp_eq]
        go_big_op
        exact hK _ _ (Below.refl _ _) rfl
      case refine_10 =>
        refine StepG.yes 7 false 63 rfl rfl (fun x => by simp only [putL, List.set_cons_zero, List.set_cons_succ]; rfl) rfl (fun x w h => h) ?_
        refine StepL.up fun x V hV hu K Q hK => ?_
        have u7 : x 7 = _ := hu 7 (by decide)
        have fy0 := hV.cell y0
        have fy1 := hV.cell y1
        have fy2 := hV.cell y2
        clear hu
        simp only [putL, List.set_cons_zero, List.set_cons_succ] at hK ⊢
        rw [owp_eq]
        go_big_op
        exact hK _ _ (Below.refl _ _) rfl
      case refine_11 =>
        refine StepG.yes 7 false 63 rfl rfl (fun x => by simp only [putL, List.set_cons_zero, List.set_cons_succ]; rfl) rfl (fun x w h => h) ?_
        refine StepL.up fun x V hV hu K Q hK => ?_
        have u7 : x 7 = _ := hu 7 (by decide)
        have u8 : x 8 = _ := hu 8 (by decide)
        have u9 : x 9 = _ := hu 9 (by decide)
        clear hu
        simp only [putL, List.set_cons_zero, List.set_cons_succ] at hK ⊢
        rw [owp_eq]
        go_big_op
        refine (K3.out V hV).mono ?_
        rintro e V' ⟨rfl, hb⟩
        exact hK _ _ hb rfl
      case refine_12 =>
        refine StepG.yes 7 false 63 rfl rfl (fun x => by simp only [putL, List.set_cons_zero, List.set_cons_succ]; rfl) rfl (fun x w h => h) ?_
        refine StepL.up fun x V hV hu K Q hK => ?_
        have u7 : x 7 = _ := hu 7 (by decide)
        have fx0 := hV.cell x0
        have fx1 := hV.cell x1
        have fx2 := hV.cell x2
        clear hu
        simp only [putL, List.set_cons_zero, List.set_cons_succ] at hK ⊢
        rw [owp_eq]
        go_big_op
        exact hK _ _ (Below.refl _ _) rfl
      case refine_13 =>
        refine StepG.yes 7 false 63 rfl rfl (fun x => by simp only [putL, List.set_cons_zero, List.set_cons_succ]; rfl) rfl (fun x w h => h) ?_
        refine StepL.up fun x V hV hu K Q hK => ?_
        have u7 : x 7 = _ := hu 7 (by decide)
        have fy0 := hV.cell y0
        have fy1 := hV.cell y1
        have fy2 := hV.cell y2
        clear hu
        simp only [putL, List.set_cons_zero, List.set_cons_succ] at hK ⊢
        rw [owp_eq]
        go_big_op
        exact hK _ _ (Below.refl _ _) rfl
      case refine_14 =>
        refine StepG.yes 7 false 63 rfl rfl (fun x => by simp only [putL, List.set_cons_zero, List.set_cons_succ]; rfl) rfl (fun x w h => h) ?_
        refine StepL.up fun x V hV hu K Q hK => ?_
        have u7 : x 7 = _ := hu 7 (by decide)
        have u11 : x 11 = _ := hu 11 (by decide)
        have u12 : x 12 = _ := hu 12 (by decide)
        clear hu
        simp only [putL, List.set_cons_zero, List.set_cons_succ] at hK ⊢
        rw [owp_eq]
        go_big_op
        refine (K4.out V hV).mono ?_
        rintro e V' ⟨rfl, hb⟩
        exact hK _ _ hb rfl
      case refine_15 =>
        refine StepG.yes 7 false 63 rfl rfl (fun x => by simp only [putL, List.set_cons_zero, List.set_cons_succ]; rfl) rfl (fun x w h => h) ?_
        refine StepL.up fun x V hV hu K Q hK => ?_
        have u7 : x 7 = _ := hu 7 (by decide)
        have u10 : x 10 = _ := hu 10 (by decide)
        have u13 : x 13 = _ := hu 13 (by decide)
        clear hu
        simp only [putL, List.set_cons_zero, List.set_cons_succ] at hK ⊢
        rw [owp_eq]
        go_big_op
        exact hK _ _ (Below.refl _ _) rfl
      case refine_16 =>
        refine StepG.of rfl ?_
        refine StepL.up fun x V hV hu K Q hK => ?_
        have u7 : x 7 = _ := hu 7 (by decide)
        have u14 : x 14 = _ := hu 14 (by decide)
        clear hu
        simp only [putL, List.set_cons_zero, List.set_cons_succ] at hK ⊢
        rw [owp_eq]
        go_big_op
        exact hK _ _ (Below.refl _ _) rfl
      case refine_17 =>
        refine StepG.of rfl ?_
        refine StepL.up fun x V hV hu K Q hK => ?_
        have u15 : x 15 = _ := hu 15 (by decide)
        clear hu
        simp only [putL, List.set_cons_zero, List.set_cons_succ] at hK ⊢
        rw [owp_eq]
        go_big_op
        exact hK _ _ (Below.refl _ _) rfl
      case refine_18 =>
        refine StepG.yes 16 false 72 rfl rfl (fun x => by simp only [putL, List.set_cons_zero, List.set_cons_succ]; rfl) rfl (fun x w h => h) ?_
        refine StepL.up fun x V hV hu K Q hK => ?_
        have u16 : x 16 = _ := hu 16 (by decide)
        have fx0 := hV.cell x0
        have fx1 := hV.cell x1
        have fx2 := hV.cell x2
        clear hu
        simp only [putL, List.set_cons_zero, List.set_cons_succ] at hK ⊢
        rw [owp_eq]
        go_big_op
        exact hK _ _ (Below.refl _ _) rfl
      case refine_19 =>
        refine StepG.yes 16 false 72 rfl rfl (fun x => by simp only [putL, List.set_cons_zero, List.set_cons_succ]; rfl) rfl (fun x w h => h) ?_
        refine StepL.up fun x V hV hu K Q hK => ?_
        have u16 : x 16 = _ := hu 16 (by decide)
        clear hu
        simp only [putL, List.set_cons_zero, List.set_cons_succ] at hK ⊢
        rw [owp_eq]
        go_big_op
        exact hK _ _ (Below.refl _ _) rfl
      case refine_20 =>
        refine StepG.yes 16 false 72 rfl rfl (fun x => by simp only [putL, List.set_cons_zero, List.set_cons_succ]; rfl) rfl (fun x w h => h) ?_
        refine StepL.up fun x V hV hu K Q hK => ?_
        have u16 : x 16 = _ := hu 16 (by decide)
        have u17 : x 17 = _ := hu 17 (by decide)
        have u18 : x 18 = _ := hu 18 (by decide)
        clear hu
        simp only [putL, List.set_cons_zero, List.set_cons_succ] at hK ⊢
        rw [owp_eq]
        go_big_op
        refine (K5.out V hV).mono ?_
        rintro e V' ⟨rfl, hb⟩
        exact hK _ _ hb rfl
      case refine_21 =>
        refine StepG.yes 16 false 72 rfl rfl (fun x => by simp only [putL, List.set_cons_zero, List.set_cons_succ]; rfl) rfl (fun x w h => h) ?_
        refine StepL.up fun x V hV hu K Q hK => ?_
        have u16 : x 16 = _ := hu 16 (by decide)
        have fx0 := hV.cell x0
        have fx1 := hV.cell x1
        have fx2 := hV.cell x2
        clear hu
        simp only [putL, List.set_cons_zero, List.set_cons_succ] at hK ⊢
        rw [owp_eq]
        go_big_op
        exact hK _ _ (Below.refl _ _) rfl
      case refine_22 =>
        refine StepG.yes 16 false 72 rfl rfl (fun x => by simp only [putL, List.set_cons_zero, List.set_cons_succ]; rfl) rfl (fun x w h => h) ?_
        refine StepL.up fun x V hV hu K Q hK => ?_
        have u16 : x 16 = _ := hu 16 (by decide)
        clear hu
        simp only [putL, List.set_cons_zero, List.set_cons_succ] at hK ⊢
        rw [owp_eq]
        go_big_op
        exact hK _ _ (Below.refl _ _) rfl
      case refine_23 =>
        refine StepG.yes 16 false 72 rfl rfl (fun x => by simp only [putL, List.set_cons_zero, List.set_cons_succ]; rfl) rfl (fun x w h => h) ?_
        refine StepL.up fun x V hV hu K Q hK => ?_
        have u16 : x 16 = _ := hu 16 (by decide)
        have u20 : x 20 = _ := hu 20 (by decide)
        have u21 : x 21 = _ := hu 21 (by decide)
        clear hu
        simp only [putL, List.set_cons_zero, List.set_cons_succ] at hK ⊢
        rw [owp_eq]
        go_big_op
        refine (K6.out V hV).mono ?_
        rintro e V' ⟨rfl, hb⟩
        exact hK _ _ hb rfl
      case refine_24 =>
        refine StepG.yes 16 false 72 rfl rfl (fun x => by simp only [putL, List.set_cons_zero, List.set_cons_succ]; rfl) rfl (fun x w h => h) ?_
        refine StepL.up fun x V hV hu K Q hK => ?_
        have u16 : x 16 = _ := hu 16 (by decide)
        have u19 : x 19 = _ := hu 19 (by decide)
        have u22 : x 22 = _ := hu 22 (by decide)
        clear hu
        simp only [putL, List.set_cons_zero, List.set_cons_succ] at hK ⊢
        rw [owp_eq]
        go_big_op
        exact hK _ _ (Below.refl _ _) rfl
      case refine_25 =>
        refine StepG.of rfl ?_
        refine StepL.up fun x V hV hu K Q hK => ?_
        have u16 : x 16 = _ := hu 16 (by decide)
        have u23 : x 23 = _ := hu 23 (by decide)
        clear hu
        simp only [putL, List.set_cons_zero, List.set_cons_succ] at hK ⊢
        rw [owp_eq]
        go_big_op
        exact hK _ _ (Below.refl _ _) rfl
      case refine_26 =>
      intro xx X2 hV hA
      have h24 : xx 24 = _ := hA 24 rfl (by decide)
      have hb : Below X1.heap.size X1 X2 := hV
      replace HR' := Lib.hid (HR'.out.on hb)
      replace HL := Lib.hid (HL.out.on hb)
      replace HSX := Lib.hid (HSX.out.on hb)
      replace HSL := Lib.hid (HSL.out.on hb)
      replace KE := Lib.hid (KE.out.below hb KE.out.lt)
      replace KT := Lib.hid (KT.out.below hb KT.out.lt)
      replace KX := Lib.hid (KX.out.below hb KX.out.lt)
      replace KY := Lib.hid (KY.out.below hb KY.out.lt)
      replace HSO := Lib.hid (HSO.out.on hb)
      replace HB3 := Lib.hid (HB3.out.trans (hb.mono HB3.out.size))
      clear hA hV hb K1 K2 K3 K4 K5 K6 x0 x1 x2 y0 y1 y2
      try clear X1
      simp only [layL, putL, List.set_cons_zero, List.set_cons_succ]
      rw [h24]
      clear h24
      have KK := Lib.hid (keptShip_any s h' h X2 HL.out HSX.out HFL.out)
      unfold shpA at KK
      have e0 : X2.cell? ⟨w.heap.size, 0, none⟩ = some (Value.slice h.A1 s.cols.length h.c1) := KE.out.cell 0
      have e1 : X2.cell? ⟨w.heap.size, 1, none⟩ = some (Value.slice h.A2 s.covs.length h.c2) := KE.out.cell 1
      have e2 : X2.cell? ⟨w.heap.size, 2, none⟩ = some (.int .i64 s.l0) := KE.out.cell 2
      have e3 : X2.cell? ⟨w.heap.size, 3, none⟩ = some (.int .i64 s.l1) := KE.out.cell 3
      have e4 : X2.cell? ⟨w.heap.size, 4, none⟩ = some (.int .i64 s.l2) := KE.out.cell 4
      have e5 : X2.cell? ⟨w.heap.size, 5, none⟩ = some (.int .i64 s.l3) := KE.out.cell 5
      have e6 : X2.cell? ⟨w.heap.size, 6, none⟩ = some (.slice h.A3 s.rows.length h.c3) := KE.out.cell 6
      have e7 : X2.cell? ⟨w.heap.size, 7, none⟩ = some (.slice h.A4 s.frames.length h.c4) := KE.out.cell 7
      have e8 : X2.cell? ⟨w.heap.size, 8, none⟩ = some (.slice h.A5 s.tanks.length h.c5) := KE.out.cell 8
      have e9 : X2.cell? ⟨w.heap.size, 9, none⟩ = some (.int .i64 s.m0) := KE.out.cell 9
      have e10 : X2.cell? ⟨w.heap.size, 10, none⟩ = some (.int .i64 s.m1) := KE.out.cell 10
      have e11 : X2.cell? ⟨w.heap.size, 11, none⟩ = some (.int .i64 s.m2) := KE.out.cell 11
      have e12 : X2.cell? ⟨w.heap.size, 12, none⟩ = some (.int .i64 s.m3) := KE.out.cell 12
      have f0 : X2.cell? ⟨gt, 0, none⟩ = some (Value.slice h'.A1 s.cols.length h'.c1) := KT.out.cell 0
      have f1 : X2.cell? ⟨gt, 1, none⟩ = some (Value.slice h'.A2 s.covs.length h'.c2) := KT.out.cell 1
      have f2 : X2.cell? ⟨gt, 2, none⟩ = some (.int .i64 s.l0) := KT.out.cell 2
      have f3 : X2.cell? ⟨gt, 3, none⟩ = some (.int .i64 s.l1) := KT.out.cell 3
      have f4 : X2.cell? ⟨gt, 4, none⟩ = some (.int .i64 s.l2) := KT.out.cell 4
      have f5 : X2.cell? ⟨gt, 5, none⟩ = some (.int .i64 s.l3) := KT.out.cell 5
      have f6 : X2.cell? ⟨gt, 6, none⟩ = some (.slice h'.A3 s.rows.length h'.c3) := KT.out.cell 6
      have f7 : X2.cell? ⟨gt, 7, none⟩ = some (.slice h'.A4 s.frames.length h'.c4) := KT.out.cell 7
      have f8 : X2.cell? ⟨gt, 8, none⟩ = some (.slice h'.A5 s.tanks.length h'.c5) := KT.out.cell 8
      have f9 : X2.cell? ⟨gt, 9, none⟩ = some (.int .i64 s.m0) := KT.out.cell 9
      have f10 : X2.cell? ⟨gt, 10, none⟩ = some (.int .i64 s.m1) := KT.out.cell 10
      have f11 : X2.cell? ⟨gt, 11, none⟩ = some (.int .i64 s.m2) := KT.out.cell 11
      have f12 : X2.cell? ⟨gt, 12, none⟩ = some (.int .i64 s.m3) := KT.out.cell 12
      go_wp2_with fail
      refine KK.out.mono ?_
      rintro e X3 ⟨rfl, hb⟩
      simp only
      replace HR' := Lib.hid (HR'.out.on hb)
      replace HL := Lib.hid (HL.out.on hb)
      replace HSX := Lib.hid (HSX.out.on hb)
      replace HSL := Lib.hid (HSL.out.on hb)
      replace KE := Lib.hid (KE.out.below hb KE.out.lt)
      replace KT := Lib.hid (KT.out.below hb KT.out.lt)
      replace KX := Lib.hid (KX.out.below hb KX.out.lt)
      replace KY := Lib.hid (KY.out.below hb KY.out.lt)
      replace HSO := Lib.hid (HSO.out.on hb)
      replace HB3 := Lib.hid (HB3.out.trans (hb.mono HB3.out.size))
      clear hb KK e0 e1 e2 e3 e4 e5 e6 e7 e8 e9 e10 e11 e12 f0 f1 f2 f3 f4 f5 f6 f7 f8 f9 f10 f11 f12
      try clear X2
      have KK := Lib.hid (keptSlots_any A' A c' c l X3 HSO.out (by have h1 := hc'; rw [marksSlot_len] at h1; exact h1) HSL.out (by omega))
      go_wp2_with fail
      refine KK.out.mono ?_
      rintro e X4 ⟨rfl, hb⟩
      simp only
      have HE := Lib.hid (HB0.out.trans ((HB3.out.trans (hb.mono HB3.out.size)).mono HB0.out.size))
      clear hb KK
      have HQW := Lib.hid (HQ.out.below HE.out)
      go_wp2_with fail
      refine (awake08_true _ HQW.out).mono ?_
      rintro e Z ⟨rfl, hz⟩
      simp only
      go_wp2_with fail
      go_ret
      exact ⟨rfl, HE.out.trans (hz.mono HE.out.size)⟩
end Go.Proofs.YtpmhchbkhohmjaaDoor
