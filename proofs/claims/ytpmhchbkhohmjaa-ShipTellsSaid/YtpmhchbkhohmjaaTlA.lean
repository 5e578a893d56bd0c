/-
  The walk of the statement ShipLies.
-/
import Derived.Test.YtpmhchbkhohmjaaFw
import Derived.Test.YtpmhchbkhohmjaaOpW
import Derived.Test.YtpmhchbkhohmjaaKpE
import Derived.Test.YtpmhchbkhohmjaaRfB
import Derived.Test.YtpmhchbkhohmjaaQg
import Derived.Test.YtpmhchbkhohmjaaSlTs
namespace Go.Proofs.Ytpmhchbkhohmjaa
open Go.RowKit

set_option maxRecDepth 100000 in
set_option maxHeartbeats 4000000 in
theorem shipLies_any (s : Shp) (h : Hd) (a b : Int) (w : World) (hs : ShpR w (Lt w.heap.size) s h) (hi : InS s) :
    Calls Try.prog 4 #[.agg (shpA s h), .int .i64 a, .int .i64 b] w (TrueRet w) := by
  have hb0 := ba1 w (.cells (shpA s h) 32)
  have KE := Lib.hid (Bk.new w 32 (shpA s h))
  have HS := Lib.hid (hs.on hb0)
  have KF := Lib.hid (few_any s h _ (hs.on hb0))
  have HB0 := Lib.hid hb0
  have HI := Lib.hid hi
  clear hs hb0 hi
  unfold shpA at *
  go_enter Try.func4, Try.ntmps4
  go_upto_region 1 with fail
  generalize hW : (w.alloc _) = W at *
  clear hW
  have e0 : W.cell? ⟨w.heap.size, 0, none⟩ = some (Value.slice h.A1 s.cols.length h.c1) := KE.out.cell 0
  have e1 : W.cell? ⟨w.heap.size, 1, none⟩ = some (Value.slice h.A2 s.covs.length h.c2) := KE.out.cell 1
  have e2 : W.cell? ⟨w.heap.size, 2, none⟩ = some (.int .i64 s.l0) := KE.out.cell 2
  have e3 : W.cell? ⟨w.heap.size, 3, none⟩ = some (.int .i64 s.l1) := KE.out.cell 3
  have e4 : W.cell? ⟨w.heap.size, 4, none⟩ = some (.int .i64 s.l2) := KE.out.cell 4
  have e5 : W.cell? ⟨w.heap.size, 5, none⟩ = some (.int .i64 s.l3) := KE.out.cell 5
  have e6 : W.cell? ⟨w.heap.size, 6, none⟩ = some (.slice h.A3 s.rows.length h.c3) := KE.out.cell 6
  have e7 : W.cell? ⟨w.heap.size, 7, none⟩ = some (.slice h.A4 s.frames.length h.c4) := KE.out.cell 7
  have e8 : W.cell? ⟨w.heap.size, 8, none⟩ = some (.slice h.A5 s.tanks.length h.c5) := KE.out.cell 8
  have e9 : W.cell? ⟨w.heap.size, 9, none⟩ = some (.int .i64 s.m0) := KE.out.cell 9
  have e10 : W.cell? ⟨w.heap.size, 10, none⟩ = some (.int .i64 s.m1) := KE.out.cell 10
  have e11 : W.cell? ⟨w.heap.size, 11, none⟩ = some (.int .i64 s.m2) := KE.out.cell 11
  have e12 : W.cell? ⟨w.heap.size, 12, none⟩ = some (.int .i64 s.m3) := KE.out.cell 12
  go_wp2_with fail
  refine KF.out.mono ?_
  rintro e V ⟨fb, rfl, hf, hb⟩
  simp only
  clear KF e0 e1 e2 e3 e4 e5 e6 e7 e8 e9 e10 e11 e12
  have HBV := Lib.hid hb
  clear hb
  cases fb with
  | false =>
    have HE := Lib.hid (HB0.out.trans (HBV.out.mono HB0.out.size))
    clear hf
    go_wp2_with fail
    refine (awake_true _).mono ?_
    rintro e Z ⟨rfl, hz⟩
    simp only
    go_wp2_with fail
    go_ret
    exact ⟨rfl, HE.out.trans (hz.mono HE.out.size)⟩
  | true =>
    have HP := Lib.hid (hf.1 rfl)
    clear hf
    have HFL : Hid (FewL s) := Lib.hid ⟨by have := HP.out.cols; omega, by have := HP.out.covs; omega, HI.out.rows, HI.out.frames, HI.out.tanks, HI.out.plugs, HI.out.hrows, HI.out.steps⟩
    have HFW : Hid (Few s) := Lib.hid ⟨by have := HP.out.cols; omega, by have := HP.out.covs; omega, fun x hx => by have := HP.out.rows x hx; omega, fun x hx => by have := HP.out.plugs x hx; omega⟩
    have KL := Lib.hid (lentShip_any s h V (HS.out.on HBV.out) HFL.out)
    have KV := Lib.hid (KE.out.below HBV.out KE.out.lt)
    unfold shpA at KL
    have e0 : V.cell? ⟨w.heap.size, 0, none⟩ = some (Value.slice h.A1 s.cols.length h.c1) := KV.out.cell 0
    have e1 : V.cell? ⟨w.heap.size, 1, none⟩ = some (Value.slice h.A2 s.covs.length h.c2) := KV.out.cell 1
    have e2 : V.cell? ⟨w.heap.size, 2, none⟩ = some (.int .i64 s.l0) := KV.out.cell 2
    have e3 : V.cell? ⟨w.heap.size, 3, none⟩ = some (.int .i64 s.l1) := KV.out.cell 3
    have e4 : V.cell? ⟨w.heap.size, 4, none⟩ = some (.int .i64 s.l2) := KV.out.cell 4
    have e5 : V.cell? ⟨w.heap.size, 5, none⟩ = some (.int .i64 s.l3) := KV.out.cell 5
    have e6 : V.cell? ⟨w.heap.size, 6, none⟩ = some (.slice h.A3 s.rows.length h.c3) := KV.out.cell 6
    have e7 : V.cell? ⟨w.heap.size, 7, none⟩ = some (.slice h.A4 s.frames.length h.c4) := KV.out.cell 7
    have e8 : V.cell? ⟨w.heap.size, 8, none⟩ = some (.slice h.A5 s.tanks.length h.c5) := KV.out.cell 8
    have e9 : V.cell? ⟨w.heap.size, 9, none⟩ = some (.int .i64 s.m0) := KV.out.cell 9
    have e10 : V.cell? ⟨w.heap.size, 10, none⟩ = some (.int .i64 s.m1) := KV.out.cell 10
    have e11 : V.cell? ⟨w.heap.size, 11, none⟩ = some (.int .i64 s.m2) := KV.out.cell 11
    have e12 : V.cell? ⟨w.heap.size, 12, none⟩ = some (.int .i64 s.m3) := KV.out.cell 12
    go_wp2_with fail
    refine KL.out.mono ?_
    rintro e V2 ⟨hb, h', B1, rfl, hl⟩
    simp only
    clear KL KV e0 e1 e2 e3 e4 e5 e6 e7 e8 e9 e10 e11 e12
    have HB3 := Lib.hid (HBV.out.trans ((hb.trans ((ba1 V2 (.cells (shpA s h') 32)).mono hb.size)).mono HBV.out.size))
    have KT := Lib.hid (Bk.new V2 32 (shpA s h'))
    have HL := Lib.hid (hl.on (ba1 V2 (.cells (shpA s h') 32)))
    clear hb hl HBV
    unfold shpA at HB3 KT HL
    go_upto_region 4 with fail
    generalize V2.heap.size = gt at *
    generalize (V2.alloc _) = X at *
    try clear V2
    generalize V.heap.size + 2 = base at *
    try clear V
    have HR' : Hid (ShpR X (Lt X.heap.size) s h') := Lib.hid (HL.out.rd.more fun b hb => hb.2)
    have HSX := Lib.hid (HS.out.on HB3.out)
    have KX := Lib.hid (KE.out.below HB3.out KE.out.lt)
    clear HS KE
    have KA := Lib.hid (apart_any s h' a b X HR'.out)
    unfold shpA at KA
    generalize hap : apartF s a b = ap at *
    have HAP := Lib.hid hap
    clear hap
    obtain ⟨an, ao⟩ := ap
    simp only at KA
    have e0 : X.cell? ⟨w.heap.size, 0, none⟩ = some (Value.slice h.A1 s.cols.length h.c1) := KX.out.cell 0
    have e1 : X.cell? ⟨w.heap.size, 1, none⟩ = some (Value.slice h.A2 s.covs.length h.c2) := KX.out.cell 1
    have e2 : X.cell? ⟨w.heap.size, 2, none⟩ = some (.int .i64 s.l0) := KX.out.cell 2
    have e3 : X.cell? ⟨w.heap.size, 3, none⟩ = some (.int .i64 s.l1) := KX.out.cell 3
    have e4 : X.cell? ⟨w.heap.size, 4, none⟩ = some (.int .i64 s.l2) := KX.out.cell 4
    have e5 : X.cell? ⟨w.heap.size, 5, none⟩ = some (.int .i64 s.l3) := KX.out.cell 5
    have e6 : X.cell? ⟨w.heap.size, 6, none⟩ = some (.slice h.A3 s.rows.length h.c3) := KX.out.cell 6
    have e7 : X.cell? ⟨w.heap.size, 7, none⟩ = some (.slice h.A4 s.frames.length h.c4) := KX.out.cell 7
    have e8 : X.cell? ⟨w.heap.size, 8, none⟩ = some (.slice h.A5 s.tanks.length h.c5) := KX.out.cell 8
    have e9 : X.cell? ⟨w.heap.size, 9, none⟩ = some (.int .i64 s.m0) := KX.out.cell 9
    have e10 : X.cell? ⟨w.heap.size, 10, none⟩ = some (.int .i64 s.m1) := KX.out.cell 10
    have e11 : X.cell? ⟨w.heap.size, 11, none⟩ = some (.int .i64 s.m2) := KX.out.cell 11
    have e12 : X.cell? ⟨w.heap.size, 12, none⟩ = some (.int .i64 s.m3) := KX.out.cell 12
    have f0 : X.cell? ⟨gt, 0, none⟩ = some (Value.slice h'.A1 s.cols.length h'.c1) := KT.out.cell 0
    have f1 : X.cell? ⟨gt, 1, none⟩ = some (Value.slice h'.A2 s.covs.length h'.c2) := KT.out.cell 1
    have f2 : X.cell? ⟨gt, 2, none⟩ = some (.int .i64 s.l0) := KT.out.cell 2
    have f3 : X.cell? ⟨gt, 3, none⟩ = some (.int .i64 s.l1) := KT.out.cell 3
    have f4 : X.cell? ⟨gt, 4, none⟩ = some (.int .i64 s.l2) := KT.out.cell 4
    have f5 : X.cell? ⟨gt, 5, none⟩ = some (.int .i64 s.l3) := KT.out.cell 5
    have f6 : X.cell? ⟨gt, 6, none⟩ = some (.slice h'.A3 s.rows.length h'.c3) := KT.out.cell 6
    have f7 : X.cell? ⟨gt, 7, none⟩ = some (.slice h'.A4 s.frames.length h'.c4) := KT.out.cell 7
    have f8 : X.cell? ⟨gt, 8, none⟩ = some (.slice h'.A5 s.tanks.length h'.c5) := KT.out.cell 8
    have f9 : X.cell? ⟨gt, 9, none⟩ = some (.int .i64 s.m0) := KT.out.cell 9
    have f10 : X.cell? ⟨gt, 10, none⟩ = some (.int .i64 s.m1) := KT.out.cell 10
    have f11 : X.cell? ⟨gt, 11, none⟩ = some (.int .i64 s.m2) := KT.out.cell 11
    have f12 : X.cell? ⟨gt, 12, none⟩ = some (.int .i64 s.m3) := KT.out.cell 12
    go_wp2_with fail
    refine KA.out.mono ?_
    rintro e X1 ⟨rfl, hb⟩
    simp only
    clear e0 e1 e2 e3 e4 e5 e6 e7 e8 e9 e10 e11 e12 f0 f1 f2 f3 f4 f5 f6 f7 f8 f9 f10 f11 f12
    replace HR' := Lib.hid (HR'.out.on hb)
    replace HL := Lib.hid (HL.out.on hb)
    replace HSX := Lib.hid (HSX.out.on hb)
    replace KX := Lib.hid (KX.out.below hb KX.out.lt)
    replace KT := Lib.hid (KT.out.below hb KT.out.lt)
    replace HB3 := Lib.hid (HB3.out.trans (hb.mono HB3.out.size))
    clear hb KA
    try clear X
    have KA := Lib.hid (refApart_any s h a b X1 HSX.out)
    unfold shpA at KA
    rw [HAP.out] at KA
    simp only at KA
    have e0 : X1.cell? ⟨w.heap.size, 0, none⟩ = some (Value.slice h.A1 s.cols.length h.c1) := KX.out.cell 0
    have e1 : X1.cell? ⟨w.heap.size, 1, none⟩ = some (Value.slice h.A2 s.covs.length h.c2) := KX.out.cell 1
    have e2 : X1.cell? ⟨w.heap.size, 2, none⟩ = some (.int .i64 s.l0) := KX.out.cell 2
    have e3 : X1.cell? ⟨w.heap.size, 3, none⟩ = some (.int .i64 s.l1) := KX.out.cell 3
    have e4 : X1.cell? ⟨w.heap.size, 4, none⟩ = some (.int .i64 s.l2) := KX.out.cell 4
    have e5 : X1.cell? ⟨w.heap.size, 5, none⟩ = some (.int .i64 s.l3) := KX.out.cell 5
    have e6 : X1.cell? ⟨w.heap.size, 6, none⟩ = some (.slice h.A3 s.rows.length h.c3) := KX.out.cell 6
    have e7 : X1.cell? ⟨w.heap.size, 7, none⟩ = some (.slice h.A4 s.frames.length h.c4) := KX.out.cell 7
    have e8 : X1.cell? ⟨w.heap.size, 8, none⟩ = some (.slice h.A5 s.tanks.length h.c5) := KX.out.cell 8
    have e9 : X1.cell? ⟨w.heap.size, 9, none⟩ = some (.int .i64 s.m0) := KX.out.cell 9
    have e10 : X1.cell? ⟨w.heap.size, 10, none⟩ = some (.int .i64 s.m1) := KX.out.cell 10
    have e11 : X1.cell? ⟨w.heap.size, 11, none⟩ = some (.int .i64 s.m2) := KX.out.cell 11
    have e12 : X1.cell? ⟨w.heap.size, 12, none⟩ = some (.int .i64 s.m3) := KX.out.cell 12
    have f0 : X1.cell? ⟨gt, 0, none⟩ = some (Value.slice h'.A1 s.cols.length h'.c1) := KT.out.cell 0
    have f1 : X1.cell? ⟨gt, 1, none⟩ = some (Value.slice h'.A2 s.covs.length h'.c2) := KT.out.cell 1
    have f2 : X1.cell? ⟨gt, 2, none⟩ = some (.int .i64 s.l0) := KT.out.cell 2
    have f3 : X1.cell? ⟨gt, 3, none⟩ = some (.int .i64 s.l1) := KT.out.cell 3
    have f4 : X1.cell? ⟨gt, 4, none⟩ = some (.int .i64 s.l2) := KT.out.cell 4
    have f5 : X1.cell? ⟨gt, 5, none⟩ = some (.int .i64 s.l3) := KT.out.cell 5
    have f6 : X1.cell? ⟨gt, 6, none⟩ = some (.slice h'.A3 s.rows.length h'.c3) := KT.out.cell 6
    have f7 : X1.cell? ⟨gt, 7, none⟩ = some (.slice h'.A4 s.frames.length h'.c4) := KT.out.cell 7
    have f8 : X1.cell? ⟨gt, 8, none⟩ = some (.slice h'.A5 s.tanks.length h'.c5) := KT.out.cell 8
    have f9 : X1.cell? ⟨gt, 9, none⟩ = some (.int .i64 s.m0) := KT.out.cell 9
    have f10 : X1.cell? ⟨gt, 10, none⟩ = some (.int .i64 s.m1) := KT.out.cell 10
    have f11 : X1.cell? ⟨gt, 11, none⟩ = some (.int .i64 s.m2) := KT.out.cell 11
    have f12 : X1.cell? ⟨gt, 12, none⟩ = some (.int .i64 s.m3) := KT.out.cell 12
    go_wp2_with fail
    refine KA.out.mono ?_
    rintro e X2 ⟨rfl, hb⟩
    simp only
    clear e0 e1 e2 e3 e4 e5 e6 e7 e8 e9 e10 e11 e12 f0 f1 f2 f3 f4 f5 f6 f7 f8 f9 f10 f11 f12
    replace HR' := Lib.hid (HR'.out.on hb)
    replace HL := Lib.hid (HL.out.on hb)
    replace HSX := Lib.hid (HSX.out.on hb)
    replace KX := Lib.hid (KX.out.below hb KX.out.lt)
    replace KT := Lib.hid (KT.out.below hb KT.out.lt)
    replace HB3 := Lib.hid (HB3.out.trans (hb.mono HB3.out.size))
    clear hb KA
    try clear X1
    obtain ⟨L, hL⟩ : ∃ L, besideF s a = L := ⟨_, rfl⟩
    have HLL := Lib.hid hL
    have hlen : L.length ≤ maxLen := by
      rw [← hL]
      unfold besideF
      split
      · simp
      · have h1 := pick_len (besB (s.cols.getD a.toNat default)) s.cols
        have := HP.out.cols
        unfold maxLen
        omega
    clear hL HAP
    have KB1 : Hid (∀ U : World, Cb X2 U → Calls Try.prog 25 #[.agg (shpA s h'), .int .i64 a] U (fun e w' => ∃ A c, e = .returned (.slice A L.length c) ∧ L.length ≤ c ∧ SlT tInt w' (Lt w'.heap.size) A L ∧ Below U.heap.size U w')) := Lib.hid fun U hU => by
      have k1 := beside_any s h' a U (HR'.out.on hU) HFW.out.cols (fun c hc => (HI.out.ints.cols c hc).2.1)
      refine k1.mono ?_
      rintro e w' ho
      rw [HLL.out] at ho
      exact ho.sl
    have KB2 : Hid (∀ U : World, Cb X2 U → Calls Try.prog 26 #[.agg (shpA s h), .int .i64 a] U (fun e w' => ∃ A c, e = .returned (.slice A L.length c) ∧ L.length ≤ c ∧ SlT tInt w' (Lt w'.heap.size) A L ∧ Below U.heap.size U w')) := Lib.hid fun U hU => by
      have k1 := refBeside_any s h a U (HSX.out.on hU) HFW.out.cols (fun c hc => (HI.out.ints.cols c hc).2.1)
      refine k1.mono ?_
      rintro e w' ho
      rw [HLL.out] at ho
      exact ho.sl
    have KK : Hid (∀ U : World, Cb X2 U → Calls Try.prog 22 #[.agg (shpA s h'), .agg (shpA s h)] U (Ret U (.bool true))) := Lib.hid fun U hU => keptShip_any s h' h U (HL.out.on hU) (HSX.out.on hU) HFL.out
    have KSI : Hid (∀ (U : World) (A c A2 c2), SlT tInt U (Lt U.heap.size) A L → SlT tInt U (Lt U.heap.size) A2 L → Calls Try.prog 16 #[.slice A L.length c, .slice A2 L.length c2] U (Ret U (.bool true))) := Lib.hid fun U A c A2 c2 h1 h2 => by
      refine (sameInts_any A A2 c c2 _ _ (Lt U.heap.size) (Lt U.heap.size) U h1 h2 hlen).mono ?_
      rintro e w' ⟨rfl, m, rfl⟩
      exact ⟨by rw [decide_eq_true rfl], below_drewN (Below.refl _ _) m⟩
    unfold shpA at KB1 KB2 KK
    have e0 : X2.cell? ⟨w.heap.size, 0, none⟩ = some (Value.slice h.A1 s.cols.length h.c1) := KX.out.cell 0
    have e1 : X2.cell? ⟨w.heap.size, 1, none⟩ = some (Value.slice h.A2 s.covs.length h.c2) := KX.out.cell 1
    have e2 : X2.cell? ⟨w.heap.size, 2, none⟩ = some (.int .i64 s.l0) := KX.out.cell 2
    have e3 : X2.cell? ⟨w.heap.size, 3, none⟩ = some (.int .i64 s.l1) := KX.out.cell 3
    have e4 : X2.cell? ⟨w.heap.size, 4, none⟩ = some (.int .i64 s.l2) := KX.out.cell 4
    have e5 : X2.cell? ⟨w.heap.size, 5, none⟩ = some (.int .i64 s.l3) := KX.out.cell 5
    have e6 : X2.cell? ⟨w.heap.size, 6, none⟩ = some (.slice h.A3 s.rows.length h.c3) := KX.out.cell 6
    have e7 : X2.cell? ⟨w.heap.size, 7, none⟩ = some (.slice h.A4 s.frames.length h.c4) := KX.out.cell 7
    have e8 : X2.cell? ⟨w.heap.size, 8, none⟩ = some (.slice h.A5 s.tanks.length h.c5) := KX.out.cell 8
    have e9 : X2.cell? ⟨w.heap.size, 9, none⟩ = some (.int .i64 s.m0) := KX.out.cell 9
    have e10 : X2.cell? ⟨w.heap.size, 10, none⟩ = some (.int .i64 s.m1) := KX.out.cell 10
    have e11 : X2.cell? ⟨w.heap.size, 11, none⟩ = some (.int .i64 s.m2) := KX.out.cell 11
    have e12 : X2.cell? ⟨w.heap.size, 12, none⟩ = some (.int .i64 s.m3) := KX.out.cell 12
    have f0 : X2.cell? ⟨gt, 0, none⟩ = some (Value.slice h'.A1 s.cols.length h'.c1) := KT.out.cell 0
    have f1 : X2.cell? ⟨gt, 1, none⟩ = some (Value.slice h'.A2 s.covs.length h'.c2) := KT.out.cell 1
    have f2 : X2.cell? ⟨gt, 2, none⟩ = some (.int .i64 s.l0) := KT.out.cell 2
    have f3 : X2.cell? ⟨gt, 3, none⟩ = some (.int .i64 s.l1) := KT.out.cell 3
    have f4 : X2.cell? ⟨gt, 4, none⟩ = some (.int .i64 s.l2) := KT.out.cell 4
    have f5 : X2.cell? ⟨gt, 5, none⟩ = some (.int .i64 s.l3) := KT.out.cell 5
    have f6 : X2.cell? ⟨gt, 6, none⟩ = some (.slice h'.A3 s.rows.length h'.c3) := KT.out.cell 6
    have f7 : X2.cell? ⟨gt, 7, none⟩ = some (.slice h'.A4 s.frames.length h'.c4) := KT.out.cell 7
    have f8 : X2.cell? ⟨gt, 8, none⟩ = some (.slice h'.A5 s.tanks.length h'.c5) := KT.out.cell 8
    have f9 : X2.cell? ⟨gt, 9, none⟩ = some (.int .i64 s.m0) := KT.out.cell 9
    have f10 : X2.cell? ⟨gt, 10, none⟩ = some (.int .i64 s.m1) := KT.out.cell 10
    have f11 : X2.cell? ⟨gt, 11, none⟩ = some (.int .i64 s.m2) := KT.out.cell 11
    have f12 : X2.cell? ⟨gt, 12, none⟩ = some (.int .i64 s.m3) := KT.out.cell 12
    go_upto_region 6 with fail
    refine wp_region_ogG [.val 0 (.int .i64 an),
      .val 1 (.int .i64 an),
      .val 2 (.bool true),
      .val 3 (.bool true),
      .val 4 (.bool ao),
      .val 5 (.bool ao),
      .val 6 (.bool true),
      .val 7 (.bool true),
      .val 8 (.bool true),
      .val 9 (.agg #[.slice h'.A1 s.cols.length h'.c1, .slice h'.A2 s.covs.length h'.c2, .int .i64 s.l0, .int .i64 s.l1, .int .i64 s.l2, .int .i64 s.l3, .slice h'.A3 s.rows.length h'.c3, .slice h'.A4 s.frames.length h'.c4, .slice h'.A5 s.tanks.length h'.c5, .int .i64 s.m0, .int .i64 s.m1, .int .i64 s.m2, .int .i64 s.m3]),
      .val 10 (.int .i64 a),
      .slT tInt 11 L,
      .val 12 (.agg #[.slice h.A1 s.cols.length h.c1, .slice h.A2 s.covs.length h.c2, .int .i64 s.l0, .int .i64 s.l1, .int .i64 s.l2, .int .i64 s.l3, .slice h.A3 s.rows.length h.c3, .slice h.A4 s.frames.length h.c4, .slice h.A5 s.tanks.length h.c5, .int .i64 s.m0, .int .i64 s.m1, .int .i64 s.m2, .int .i64 s.m3]),
      .val 13 (.int .i64 a),
      .slT tInt 14 L,
      .val 15 (.bool true),
      .val 16 (.bool true),
      .val 17 (.bool true),
      .val 18 (.agg #[.slice h'.A1 s.cols.length h'.c1, .slice h'.A2 s.covs.length h'.c2, .int .i64 s.l0, .int .i64 s.l1, .int .i64 s.l2, .int .i64 s.l3, .slice h'.A3 s.rows.length h'.c3, .slice h'.A4 s.frames.length h'.c4, .slice h'.A5 s.tanks.length h'.c5, .int .i64 s.m0, .int .i64 s.m1, .int .i64 s.m2, .int .i64 s.m3]),
      .val 19 (.agg #[.slice h.A1 s.cols.length h.c1, .slice h.A2 s.covs.length h.c2, .int .i64 s.l0, .int .i64 s.l1, .int .i64 s.l2, .int .i64 s.l3, .slice h.A3 s.rows.length h.c3, .slice h.A4 s.frames.length h.c4, .slice h.A5 s.tanks.length h.c5, .int .i64 s.m0, .int .i64 s.m1, .int .i64 s.m2, .int .i64 s.m3]),
      .val 20 (.bool true),
      .val 21 (.bool true),
      .val 22 (.bool true),
      .val 23 (.bool true),
      .val 24 (.bool true),
      .val 25 (.bool true)]
      [[], [], [0, 1], [2], [3], [3], [3, 4, 5], [3, 6], [7], [8], [8], [8, 9, 10], [8], [8], [8, 12, 13], [8, 11, 14], [8, 15], [16], [17], [17], [17, 18, 19], [17, 20], [21], [22], [22, 23], [24]] [25] (Cb X2) (by kernel_rfl) (by kernel_rfl) (Cb.drew X2) ⟨?_, ?_, ?_, ?_, ?_, ?_, ?_, ?_, ?_, ?_, ?_, ?_, ?_, ?_, ?_, ?_, ?_, ?_, ?_, ?_, ?_, ?_, ?_, ?_, ?_, ?_, trivial⟩ ?_
    case refine_1 =>
      refine StepG.of rfl ?_
      refine StepL.up fun x V hV hu K Q hK => ?_
      clear hu
      rw [owp_eq]
      go_big_op
      exact hK _ _ (Below.refl _ _) rfl
    case refine_2 =>
      refine StepG.of rfl ?_
      refine StepL.up fun x V hV hu K Q hK => ?_
      clear hu
      simp only [putL, List.set_cons_zero, List.set_cons_succ] at hK ⊢
      rw [owp_eq]
      go_big_op
      exact hK _ _ (Below.refl _ _) rfl
    case refine_3 =>
      refine StepG.of rfl ?_
      refine StepL.up fun x V hV hu K Q hK => ?_
      have u0 : x 0 = _ := hu 0 (by decide)
      have u1 : x 1 = _ := hu 1 (by decide)
      clear hu
      simp only [putL, List.set_cons_zero, List.set_cons_succ] at hK ⊢
      rw [owp_eq]
      go_big_op
      exact hK _ _ (Below.refl _ _) rfl
    case refine_4 =>
      refine StepG.of rfl ?_
      refine StepL.up fun x V hV hu K Q hK => ?_
      have u2 : x 2 = _ := hu 2 (by decide)
      clear hu
      simp only [putL, List.set_cons_zero, List.set_cons_succ] at hK ⊢
      rw [owp_eq]
      go_big_op
      exact hK _ _ (Below.refl _ _) rfl
    case refine_5 =>
      refine StepG.yes 3 true 35 rfl rfl (fun x => by simp only [putL, List.set_cons_zero, List.set_cons_succ]; rfl) rfl (fun x w h => h) ?_
      refine StepL.up fun x V hV hu K Q hK => ?_
      have u3 : x 3 = _ := hu 3 (by decide)
      clear hu
      simp only [putL, List.set_cons_zero, List.set_cons_succ] at hK ⊢
      rw [owp_eq]
      go_big_op
      exact hK _ _ (Below.refl _ _) rfl
    case refine_6 =>
      refine StepG.yes 3 true 35 rfl rfl (fun x => by simp only [putL, List.set_cons_zero, List.set_cons_succ]; rfl) rfl (fun x w h => h) ?_
      refine StepL.up fun x V hV hu K Q hK => ?_
      have u3 : x 3 = _ := hu 3 (by decide)
      clear hu
      simp only [putL, List.set_cons_zero, List.set_cons_succ] at hK ⊢
      rw [owp_eq]
      go_big_op
      exact hK _ _ (Below.refl _ _) rfl
    case refine_7 =>
      refine StepG.yes 3 true 35 rfl rfl (fun x => by simp only [putL, List.set_cons_zero, List.set_cons_succ]; rfl) rfl (fun x w h => h) ?_
      refine StepL.up fun x V hV hu K Q hK => ?_
      have u3 : x 3 = _ := hu 3 (by decide)
      have u4 : x 4 = _ := hu 4 (by decide)
      have u5 : x 5 = _ := hu 5 (by decide)
      clear hu
      simp only [putL, List.set_cons_zero, List.set_cons_succ] at hK ⊢
      rw [owp_eq]
      go_big_op
      exact hK _ _ (Below.refl _ _) rfl
    case refine_8 =>
      refine StepG.of rfl ?_
      refine StepL.up fun x V hV hu K Q hK => ?_
      have u3 : x 3 = _ := hu 3 (by decide)
      have u6 : x 6 = _ := hu 6 (by decide)
      clear hu
      simp only [putL, List.set_cons_zero, List.set_cons_succ] at hK ⊢
      rw [owp_eq]
      go_big_op
      exact hK _ _ (Below.refl _ _) rfl
    case refine_9 =>
      refine StepG.of rfl ?_
      refine StepL.up fun x V hV hu K Q hK => ?_
      have u7 : x 7 = _ := hu 7 (by decide)
      clear hu
      simp only [putL, List.set_cons_zero, List.set_cons_succ] at hK ⊢
      rw [owp_eq]
      go_big_op
      exact hK _ _ (Below.refl _ _) rfl
    case refine_10 =>
      refine StepG.yes 8 true 40 rfl rfl (fun x => by simp only [putL, List.set_cons_zero, List.set_cons_succ]; rfl) rfl (fun x w h => h) ?_
      refine StepL.up fun x V hV hu K Q hK => ?_
      have u8 : x 8 = _ := hu 8 (by decide)
      have ff0 := hV.cell f0
      have ff1 := hV.cell f1
      have ff2 := hV.cell f2
      have ff3 := hV.cell f3
      have ff4 := hV.cell f4
      have ff5 := hV.cell f5
      have ff6 := hV.cell f6
      have ff7 := hV.cell f7
      have ff8 := hV.cell f8
      have ff9 := hV.cell f9
      have ff10 := hV.cell f10
      have ff11 := hV.cell f11
      have ff12 := hV.cell f12
      clear hu
      simp only [putL, List.set_cons_zero, List.set_cons_succ] at hK ⊢
      rw [owp_eq]
      go_big_op
      exact hK _ _ (Below.refl _ _) rfl
    case refine_11 =>
      refine StepG.yes 8 true 40 rfl rfl (fun x => by simp only [putL, List.set_cons_zero, List.set_cons_succ]; rfl) rfl (fun x w h => h) ?_
      refine StepL.up fun x V hV hu K Q hK => ?_
      have u8 : x 8 = _ := hu 8 (by decide)
      clear hu
      simp only [putL, List.set_cons_zero, List.set_cons_succ] at hK ⊢
      rw [owp_eq]
      go_big_op
      exact hK _ _ (Below.refl _ _) rfl
    case refine_12 =>
      refine StepG.yes 8 true 40 rfl rfl (fun x => by simp only [putL, List.set_cons_zero, List.set_cons_succ]; rfl) rfl (fun x w h => h) ?_
      refine StepL.up fun x V hV hu K Q hK => ?_
      have u8 : x 8 = _ := hu 8 (by decide)
      have u9 : x 9 = _ := hu 9 (by decide)
      have u10 : x 10 = _ := hu 10 (by decide)
      clear hu
      simp only [putL, List.set_cons_zero, List.set_cons_succ] at hK ⊢
      rw [owp_eq]
      go_big_op
      refine (KB1.out V hV).mono ?_
      rintro e V' ⟨A, c, rfl, hc, hs, hb⟩
      exact hK _ _ hb ⟨A, c, rfl, hc, hs⟩
    case refine_13 =>
      refine StepG.yes 8 true 40 rfl rfl (fun x => by simp only [putL, List.set_cons_zero, List.set_cons_succ]; rfl) rfl (fun x w h => h) ?_
      refine StepL.up fun x V hV hu K Q hK => ?_
      have u8 : x 8 = _ := hu 8 (by decide)
      have fe0 := hV.cell e0
      have fe1 := hV.cell e1
      have fe2 := hV.cell e2
      have fe3 := hV.cell e3
      have fe4 := hV.cell e4
      have fe5 := hV.cell e5
      have fe6 := hV.cell e6
      have fe7 := hV.cell e7
      have fe8 := hV.cell e8
      have fe9 := hV.cell e9
      have fe10 := hV.cell e10
      have fe11 := hV.cell e11
      have fe12 := hV.cell e12
      clear hu
      simp only [putL, List.set_cons_zero, List.set_cons_succ] at hK ⊢
      rw [owp_eq]
      go_big_op
      exact hK _ _ (Below.refl _ _) rfl
    case refine_14 =>
      refine StepG.yes 8 true 40 rfl rfl (fun x => by simp only [putL, List.set_cons_zero, List.set_cons_succ]; rfl) rfl (fun x w h => h) ?_
      refine StepL.up fun x V hV hu K Q hK => ?_
      have u8 : x 8 = _ := hu 8 (by decide)
      clear hu
      simp only [putL, List.set_cons_zero, List.set_cons_succ] at hK ⊢
      rw [owp_eq]
      go_big_op
      exact hK _ _ (Below.refl _ _) rfl
    case refine_15 =>
      refine StepG.yes 8 true 40 rfl rfl (fun x => by simp only [putL, List.set_cons_zero, List.set_cons_succ]; rfl) rfl (fun x w h => h) ?_
      refine StepL.up fun x V hV hu K Q hK => ?_
      have u8 : x 8 = _ := hu 8 (by decide)
      have u12 : x 12 = _ := hu 12 (by decide)
      have u13 : x 13 = _ := hu 13 (by decide)
      clear hu
      simp only [putL, List.set_cons_zero, List.set_cons_succ] at hK ⊢
      rw [owp_eq]
      go_big_op
      refine (KB2.out V hV).mono ?_
      rintro e V' ⟨A, c, rfl, hc, hs, hb⟩
      exact hK _ _ hb ⟨A, c, rfl, hc, hs⟩
    case refine_16 =>
      refine StepG.yes 8 true 40 rfl rfl (fun x => by simp only [putL, List.set_cons_zero, List.set_cons_succ]; rfl) rfl (fun x w h => h) ?_
      refine StepL.up fun x V hV hu K Q hK => ?_
      have u8 : x 8 = _ := hu 8 (by decide)
      obtain ⟨A11, c11, u11, hc11, hs11⟩ := hu 11 (by decide)
      obtain ⟨A14, c14, u14, hc14, hs14⟩ := hu 14 (by decide)
      clear hu
      simp only [putL, List.set_cons_zero, List.set_cons_succ] at hK ⊢
      rw [owp_eq]
      go_big_op
      refine (KSI.out V A11 c11 A14 c14 hs11 hs14).mono ?_
      rintro e V' ⟨rfl, hb⟩
      exact hK _ _ hb rfl
    case refine_17 =>
      refine StepG.of rfl ?_
      refine StepL.up fun x V hV hu K Q hK => ?_
      have u8 : x 8 = _ := hu 8 (by decide)
      have u15 : x 15 = _ := hu 15 (by decide)
      clear hu
      simp only [putL, List.set_cons_zero, List.set_cons_succ] at hK ⊢
      rw [owp_eq]
      go_big_op
      exact hK _ _ (Below.refl _ _) rfl
    case refine_18 =>
      refine StepG.of rfl ?_
      refine StepL.up fun x V hV hu K Q hK => ?_
      have u16 : x 16 = _ := hu 16 (by decide)
      clear hu
      simp only [putL, List.set_cons_zero, List.set_cons_succ] at hK ⊢
      rw [owp_eq]
      go_big_op
      exact hK _ _ (Below.refl _ _) rfl
    case refine_19 =>
      refine StepG.yes 17 true 49 rfl rfl (fun x => by simp only [putL, List.set_cons_zero, List.set_cons_succ]; rfl) rfl (fun x w h => h) ?_
      refine StepL.up fun x V hV hu K Q hK => ?_
      have u17 : x 17 = _ := hu 17 (by decide)
      have ff0 := hV.cell f0
      have ff1 := hV.cell f1
      have ff2 := hV.cell f2
      have ff3 := hV.cell f3
      have ff4 := hV.cell f4
      have ff5 := hV.cell f5
      have ff6 := hV.cell f6
      have ff7 := hV.cell f7
      have ff8 := hV.cell f8
      have ff9 := hV.cell f9
      have ff10 := hV.cell f10
      have ff11 := hV.cell f11
      have ff12 := hV.cell f12
      clear hu
      simp only [putL, List.set_cons_zero, List.set_cons_succ] at hK ⊢
      rw [owp_eq]
      go_big_op
      exact hK _ _ (Below.refl _ _) rfl
    case refine_20 =>
      refine StepG.yes 17 true 49 rfl rfl (fun x => by simp only [putL, List.set_cons_zero, List.set_cons_succ]; rfl) rfl (fun x w h => h) ?_
      refine StepL.up fun x V hV hu K Q hK => ?_
      have u17 : x 17 = _ := hu 17 (by decide)
      have fe0 := hV.cell e0
      have fe1 := hV.cell e1
      have fe2 := hV.cell e2
      have fe3 := hV.cell e3
      have fe4 := hV.cell e4
      have fe5 := hV.cell e5
      have fe6 := hV.cell e6
      have fe7 := hV.cell e7
      have fe8 := hV.cell e8
      have fe9 := hV.cell e9
      have fe10 := hV.cell e10
      have fe11 := hV.cell e11
      have fe12 := hV.cell e12
      clear hu
      simp only [putL, List.set_cons_zero, List.set_cons_succ] at hK ⊢
      rw [owp_eq]
      go_big_op
      exact hK _ _ (Below.refl _ _) rfl
    case refine_21 =>
      refine StepG.yes 17 true 49 rfl rfl (fun x => by simp only [putL, List.set_cons_zero, List.set_cons_succ]; rfl) rfl (fun x w h => h) ?_
      refine StepL.up fun x V hV hu K Q hK => ?_
      have u17 : x 17 = _ := hu 17 (by decide)
      have u18 : x 18 = _ := hu 18 (by decide)
      have u19 : x 19 = _ := hu 19 (by decide)
      clear hu
      simp only [putL, List.set_cons_zero, List.set_cons_succ] at hK ⊢
      rw [owp_eq]
      go_big_op
      refine (KK.out V hV).mono ?_
      rintro e V' ⟨rfl, hb⟩
      exact hK _ _ hb rfl
    case refine_22 =>
      refine StepG.of rfl ?_
      refine StepL.up fun x V hV hu K Q hK => ?_
      have u17 : x 17 = _ := hu 17 (by decide)
      have u20 : x 20 = _ := hu 20 (by decide)
      clear hu
      simp only [putL, List.set_cons_zero, List.set_cons_succ] at hK ⊢
      rw [owp_eq]
      go_big_op
      exact hK _ _ (Below.refl _ _) rfl
    case refine_23 =>
      refine StepG.of rfl ?_
      refine StepL.up fun x V hV hu K Q hK => ?_
      have u21 : x 21 = _ := hu 21 (by decide)
      clear hu
      simp only [putL, List.set_cons_zero, List.set_cons_succ] at hK ⊢
      rw [owp_eq]
      go_big_op
      exact hK _ _ (Below.refl _ _) rfl
    case refine_24 =>
      refine StepG.yes 22 true 54 rfl rfl (fun x => by simp only [putL, List.set_cons_zero, List.set_cons_succ]; rfl) rfl (fun x w h => h) ?_
      refine StepL.up fun x V hV hu K Q hK => ?_
      have u22 : x 22 = _ := hu 22 (by decide)
      clear hu
      simp only [putL, List.set_cons_zero, List.set_cons_succ] at hK ⊢
      rw [owp_eq]
      go_big_op
      refine (awake_true V).mono ?_
      rintro e V' ⟨rfl, hb⟩
      exact hK _ _ hb rfl
    case refine_25 =>
      refine StepG.of rfl ?_
      refine StepL.up fun x V hV hu K Q hK => ?_
      have u22 : x 22 = _ := hu 22 (by decide)
      have u23 : x 23 = _ := hu 23 (by decide)
      clear hu
      simp only [putL, List.set_cons_zero, List.set_cons_succ] at hK ⊢
      rw [owp_eq]
      go_big_op
      exact hK _ _ (Below.refl _ _) rfl
    case refine_26 =>
      refine StepG.of rfl ?_
      refine StepL.up fun x V hV hu K Q hK => ?_
      have u24 : x 24 = _ := hu 24 (by decide)
      clear hu
      simp only [putL, List.set_cons_zero, List.set_cons_succ] at hK ⊢
      rw [owp_eq]
      go_big_op
      exact hK _ _ (Below.refl _ _) rfl
    case refine_27 =>
    intro xx Y hV hA
    have h25 : xx 25 = _ := hA 25 rfl (by decide)
    have HE := Lib.hid (HB0.out.trans ((HB3.out.trans (Below.mono hV HB3.out.size)).mono HB0.out.size))
    clear hA hV KB1 KB2 KK KSI e0 e1 e2 e3 e4 e5 e6 e7 e8 e9 e10 e11 e12 f0 f1 f2 f3 f4 f5 f6 f7 f8 f9 f10 f11 f12 KX KT HSX HR' HL
    simp only [layL, putL, List.set_cons_zero, List.set_cons_succ]
    rw [h25]
    clear h25
    go_wp2_with fail
    go_ret
    exact ⟨rfl, HE.out⟩
end Go.Proofs.Ytpmhchbkhohmjaa
