/-
  The walk of the statement PlugEnough.
-/
import Derived.Test.YthijgmkflfaccaaPeF
namespace Go.Proofs.Ythijgmkflfaccaa
open Go.RowKit

set_option maxRecDepth 100000 in
set_option maxHeartbeats 8000000 in
theorem plugEnough_any (A : Option Addr) (c : Nat) (pl : List (Nat × Nat × Nat × Bool)) (covers : Nat) (plugs : Nat) (hpl : plugs < 18446744073709551616) (reefers : Nat) (hrf : reefers < 65536) (A2 : Option Addr) (c2 : Nat) (ds : List Drp) (w : World)
    (hs : SlT tPl w (Lt w.heap.size) A pl) (hl : ∀ p ∈ pl, p.1 < 256 ∧ p.2.1 < 256 ∧ p.2.2.1 < 256) (hc : pl.length ≤ c) (hcm : c ≤ maxLen)
    (hs2 : SlT tDrp w (Lt w.heap.size) A2 ds) (hd : ∀ d ∈ ds, d.col < 256 ∧ d.kilos < 256) (hc2 : ds.length ≤ c2) (hcm2 : c2 ≤ maxLen) :
    Calls Try.prog 7 #[.slice A pl.length c, .int .u32 covers, .int .u64 (plugs : Nat), .int .u16 (reefers : Nat), .slice A2 ds.length c2] w (TrueRet w) := by
  have HC := Lib.hid (plugged_any A c pl covers plugs reefers hpl hrf A2 c2 ds w hs hl hc hcm hs2 hd hc2 hcm2)
  clear hs hl hc hcm hs2 hd hc2 hcm2
  go_enter Try.func7, Try.ntmps7
  go_wp2_with fail
  refine HC.out.mono ?_
  rintro e w1 ⟨s, h, v1, v2, bs, st, rfl, hLm, hPg, hLd, hrd, ob, os, hb1⟩
  simp only
  clear HC
  obtain ⟨A1, q1, rfl, hq1, hqm1, hsb⟩ := OwnS.sl' ob
  obtain ⟨A3, q3, rfl, hq3, hqm3, hss⟩ := OwnS.sl' os
  have hW : W5 w (w1.alloc (.cells (shpA s h) 37)) w1.heap.size s h A1 bs A3 st := by
    have hx := ba1 w1 (.cells (shpA s h) 37)
    exact ⟨Bk.new w1 _ _, (hrd.more fun x hx => hx.1).on hx, hsb.on hx, hss.on hx, hb1.trans (hx.mono hb1.size)⟩
  have HW := Lib.hid hW
  have HLM := Lib.hid hLm
  have HPG := Lib.hid hPg
  have HLD := Lib.hid hLd
  have HQ3 := Lib.hid hq3
  have HIN : Hid (∀ x ∈ st, 0 ≤ x.slot.tier ∧ x.slot.tier < 5 ∧ 0 ≤ x.slot.col ∧ x.slot.col < s.cols.length ∧ x.slot.half < 3) := Lib.hid fun x hx => hLd.tier hLm hx
  have HI6 := Lib.hid (hLd.i64s hLm)
  have hbl := hLd.nine
  have hsl := hLd.stlen
  have hc1 := hLm.one
  have hc12 := hLm.twelve
  clear hW ob os hsb hss hrd hb1 hLm hLd hPg hq1 hq3
  unfold maxLen at hqm1 hqm3
  unfold shpA at HW ⊢
  go_upto_region 2 with fail
  generalize w1.heap.size = g at *
  generalize (w1.alloc _) = V at *
  clear w1
  have HFL := Lib.hid (fed_ld HLM.out HLD.out)
  have HFP : Hid (pfF s bs (fedF s bs st) = []) := Lib.hid fed_pf
  have HDF := Lib.hid (demand_le HLM.out HFL.out HFP.out)
  have HDS : Hid (pfF s bs st = [] → demF (coldF bs st) ≤ (supF s : Nat)) := Lib.hid fun h => demand_le HLM.out HLD.out h
  have KFE := Lib.hid (fed_any s h A1 q1 bs A3 q3 st V HW.out.rd HLM.out HLD.out HW.out.bx HW.out.sx)
  have KCKF : ∀ (l : List Stw), Ld s bs l → Hid (∀ (V' : World) (A c), Below V.heap.size V V' → SlT tStw V' (Lt V'.heap.size) A l → l.length ≤ c → Calls Try.prog 9 #[.agg (shpA s h), .slice A1 bs.length q1, .slice A l.length c] V' (fun e w' => Below V'.heap.size V' w' ∧ ∃ A c, e = .returned (.tuple #[.slice A (pfF s bs l).length c, .int .i64 0]))) := fun l hl => Lib.hid fun V' A c hV hs hc => by
    have r := HW.out.on hV
    refine (pCheck_any s h A1 q1 bs A c l V' r.rd HLM.out.few HLM.out.ints HLM.out.short r.bx hl.bl hs hl.sl hc (hl.i64s HLM.out)).mono ?_
    rintro e w' ⟨hb, v, rfl, ho⟩
    rw [hl.right] at ho ⊢
    simp only [if_true] at ho ⊢
    obtain ⟨A, c, rfl, hc, _, hs⟩ := ho.sl
    exact ⟨hb, A, c, rfl⟩
  have KC1 := KCKF _ HFL.out
  have KC2 := KCKF _ HLD.out
  clear KCKF
  have KCOL : ∀ (l : List Stw), Ld s bs l → Hid (∀ (V' : World) (A c), Below V.heap.size V V' → SlT tStw V' (Lt V'.heap.size) A l → Calls Try.prog 12 #[.slice A1 bs.length q1, .slice A l.length c] V' (fun e w' => ∃ A c, e = .returned (.slice A (coldF bs l).length c) ∧ (coldF bs l).length ≤ c ∧ SlT tBx w' (Lt w'.heap.size) A (coldF bs l) ∧ Below V'.heap.size V' w')) := fun l hl => Lib.hid fun V' A c hV hs => by
    have r := HW.out.on hV
    refine (pCold_any A1 q1 bs A c l V' r.bx hl.bl hs hl.sl).mono ?_
    rintro e w' ⟨v, rfl, ho, hb⟩
    obtain ⟨A, c, rfl, hc, _, hs⟩ := ho.sl
    exact ⟨A, c, rfl, hc, hs, hb⟩
  have KO1 := KCOL _ HFL.out
  have KO2 := KCOL _ HLD.out
  clear KCOL
  have KDEM : ∀ (l : List Stw), Ld s bs l → Hid (∀ (V' : World) (A c), SlT tBx V' (Lt V'.heap.size) A (coldF bs l) → Calls Try.prog 21 #[.slice A (coldF bs l).length c] V' (Ret V' (.int .i64 (demF (coldF bs l))))) := fun l hl => Lib.hid fun V' A c hs => by
    refine pDemand_any A c _ V' hs ?_
    unfold coldF
    rw [List.length_map]
    exact Nat.le_trans (List.length_filter_le _ _) hl.sl
  have KD1 := KDEM _ HFL.out
  have KD2 := KDEM _ HLD.out
  clear KDEM
  have KSUP : Hid (∀ V' : World, Below V.heap.size V V' → Calls Try.prog 20 #[.agg (shpA s h)] V' (Ret V' (.int .i64 (supF s : Nat)))) := Lib.hid fun V' hV => pSupply_any s h V' (HW.out.on hV).rd HLM.out.few HLM.out.ints
  have hfl := HFL.out.stlen
  rw [HFP.out] at KC1
  clear HFL HFP
  generalize fedF s bs st = fd at *
  generalize hcf : coldF bs fd = cf at *
  clear hcf
  generalize hcs : coldF bs st = cs at *
  clear hcs
  generalize demF cf = dm at *
  generalize demF cs = dm2 at *
  generalize supF s = su at *
  have HPE : Hid ((pfF s bs st).length = 0 → dm2 ≤ (su : Int)) := Lib.hid fun h => HDS.out (List.eq_nil_of_length_eq_zero h)
  generalize (pfF s bs st).length = n at *
  clear HDS
  simp only [List.length_nil] at KC1
  have SC := HW.out.bk
  unfold shpA at KFE KC1 KC2 KSUP
  have e0 : V.cell? ⟨g, 0, none⟩ = some (.slice h.A1 s.cols.length h.c1) := SC.cell 0
  have e1 : V.cell? ⟨g, 1, none⟩ = some (.slice h.A2 s.covs.length h.c2) := SC.cell 1
  have e2 : V.cell? ⟨g, 2, none⟩ = some (.int .i64 s.l0) := SC.cell 2
  have e3 : V.cell? ⟨g, 3, none⟩ = some (.int .i64 s.l1) := SC.cell 3
  have e4 : V.cell? ⟨g, 4, none⟩ = some (.int .i64 s.l2) := SC.cell 4
  have e5 : V.cell? ⟨g, 5, none⟩ = some (.int .i64 s.l3) := SC.cell 5
  have e6 : V.cell? ⟨g, 6, none⟩ = some (.slice h.A3 s.rows.length h.c3) := SC.cell 6
  have e7 : V.cell? ⟨g, 7, none⟩ = some (.slice h.A4 s.frames.length h.c4) := SC.cell 7
  have e8 : V.cell? ⟨g, 8, none⟩ = some (.slice h.A5 s.tanks.length h.c5) := SC.cell 8
  have e9 : V.cell? ⟨g, 9, none⟩ = some (.int .i64 s.m0) := SC.cell 9
  have e10 : V.cell? ⟨g, 10, none⟩ = some (.int .i64 s.m1) := SC.cell 10
  have e11 : V.cell? ⟨g, 11, none⟩ = some (.int .i64 s.m2) := SC.cell 11
  have e12 : V.cell? ⟨g, 12, none⟩ = some (.int .i64 s.m3) := SC.cell 12
  clear SC
  go_wp2_with fail
  refine KFE.out.mono ?_
  rintro e X1 ⟨v, rfl, ho, hb⟩
  simp only
  clear KFE e0 e1 e2 e3 e4 e5 e6 e7 e8 e9 e10 e11 e12
  obtain ⟨A5, c5, rfl, hc5, hcm5, hs5⟩ := ho.sl
  have HC5 := Lib.hid hc5
  have HS5 := Lib.hid hs5
  have HVX := Lib.hid hb
  clear ho hb hs5 hc5
  have HWX := Lib.hid (HW.out.on HVX.out)
  have SC := HWX.out.bk
  have e0 : X1.cell? ⟨g, 0, none⟩ = some (.slice h.A1 s.cols.length h.c1) := SC.cell 0
  have e1 : X1.cell? ⟨g, 1, none⟩ = some (.slice h.A2 s.covs.length h.c2) := SC.cell 1
  have e2 : X1.cell? ⟨g, 2, none⟩ = some (.int .i64 s.l0) := SC.cell 2
  have e3 : X1.cell? ⟨g, 3, none⟩ = some (.int .i64 s.l1) := SC.cell 3
  have e4 : X1.cell? ⟨g, 4, none⟩ = some (.int .i64 s.l2) := SC.cell 4
  have e5 : X1.cell? ⟨g, 5, none⟩ = some (.int .i64 s.l3) := SC.cell 5
  have e6 : X1.cell? ⟨g, 6, none⟩ = some (.slice h.A3 s.rows.length h.c3) := SC.cell 6
  have e7 : X1.cell? ⟨g, 7, none⟩ = some (.slice h.A4 s.frames.length h.c4) := SC.cell 7
  have e8 : X1.cell? ⟨g, 8, none⟩ = some (.slice h.A5 s.tanks.length h.c5) := SC.cell 8
  have e9 : X1.cell? ⟨g, 9, none⟩ = some (.int .i64 s.m0) := SC.cell 9
  have e10 : X1.cell? ⟨g, 10, none⟩ = some (.int .i64 s.m1) := SC.cell 10
  have e11 : X1.cell? ⟨g, 11, none⟩ = some (.int .i64 s.m2) := SC.cell 11
  have e12 : X1.cell? ⟨g, 12, none⟩ = some (.int .i64 s.m3) := SC.cell 12
  clear SC
  have KC := Lib.hid (KC1.out X1 A5 c5 HVX.out HS5.out HC5.out)
  go_wp2_with fail
  refine KC.out.mono ?_
  rintro e X2 ⟨hb, A6, c6, rfl⟩
  simp only
  clear KC KC1 e0 e1 e2 e3 e4 e5 e6 e7 e8 e9 e10 e11 e12
  replace HVX := Lib.hid (HVX.out.trans (hb.mono HVX.out.size))
  replace HS5 := Lib.hid (HS5.out.on hb)
  clear hb HWX
  try clear X1
  have HWX := Lib.hid (HW.out.on HVX.out)
  have SC := HWX.out.bk
  have e0 : X2.cell? ⟨g, 0, none⟩ = some (.slice h.A1 s.cols.length h.c1) := SC.cell 0
  have e1 : X2.cell? ⟨g, 1, none⟩ = some (.slice h.A2 s.covs.length h.c2) := SC.cell 1
  have e2 : X2.cell? ⟨g, 2, none⟩ = some (.int .i64 s.l0) := SC.cell 2
  have e3 : X2.cell? ⟨g, 3, none⟩ = some (.int .i64 s.l1) := SC.cell 3
  have e4 : X2.cell? ⟨g, 4, none⟩ = some (.int .i64 s.l2) := SC.cell 4
  have e5 : X2.cell? ⟨g, 5, none⟩ = some (.int .i64 s.l3) := SC.cell 5
  have e6 : X2.cell? ⟨g, 6, none⟩ = some (.slice h.A3 s.rows.length h.c3) := SC.cell 6
  have e7 : X2.cell? ⟨g, 7, none⟩ = some (.slice h.A4 s.frames.length h.c4) := SC.cell 7
  have e8 : X2.cell? ⟨g, 8, none⟩ = some (.slice h.A5 s.tanks.length h.c5) := SC.cell 8
  have e9 : X2.cell? ⟨g, 9, none⟩ = some (.int .i64 s.m0) := SC.cell 9
  have e10 : X2.cell? ⟨g, 10, none⟩ = some (.int .i64 s.m1) := SC.cell 10
  have e11 : X2.cell? ⟨g, 11, none⟩ = some (.int .i64 s.m2) := SC.cell 11
  have e12 : X2.cell? ⟨g, 12, none⟩ = some (.int .i64 s.m3) := SC.cell 12
  clear SC
  have KCF : Hid (∀ U : World, Cb X2 U → Calls Try.prog 12 #[.slice A1 bs.length q1, .slice A5 fd.length c5] U (fun e w' => ∃ A c, e = .returned (.slice A cf.length c) ∧ cf.length ≤ c ∧ SlT tBx w' (Lt w'.heap.size) A cf ∧ Below U.heap.size U w')) := Lib.hid fun U hU => KO1.out U A5 c5 (HVX.out.trans (Below.mono hU HVX.out.size)) (HS5.out.on hU)
  have KDF : Hid (∀ U : World, Cb X2 U → ∀ A c, SlT tBx U (Lt U.heap.size) A cf → Calls Try.prog 21 #[.slice A cf.length c] U (Ret U (.int .i64 dm))) := Lib.hid fun U _ A c hs => KD1.out U A c hs
  have KSU : Hid (∀ U : World, Cb X2 U → Calls Try.prog 20 #[.agg #[.slice h.A1 s.cols.length h.c1, .slice h.A2 s.covs.length h.c2, .int .i64 s.l0, .int .i64 s.l1, .int .i64 s.l2, .int .i64 s.l3, .slice h.A3 s.rows.length h.c3, .slice h.A4 s.frames.length h.c4, .slice h.A5 s.tanks.length h.c5, .int .i64 s.m0, .int .i64 s.m1, .int .i64 s.m2, .int .i64 s.m3]] U (Ret U (.int .i64 (su : Nat)))) := Lib.hid fun U hU => KSUP.out U (HVX.out.trans (Below.mono hU HVX.out.size))
  have hdl : decide ((su : Int) < dm) = false := by have := HDF.out; simp; omega
  go_upto_region 4 with fail
  refine wp_region_ogG [.val 0 (.int .i64 0),
    .val 1 (.bool false),
    .val 2 (.bool false),
    .val 3 (.slice A6 0 c6),
    .val 4 (.int .i64 0),
    .val 5 (.bool false),
    .val 6 (.bool false),
    .val 7 (.bool false),
    .val 8 (.slice A1 bs.length q1),
    .val 9 (.slice A5 fd.length c5),
    .slT tBx 10 cf,
    .val 11 (.int .i64 dm),
    .val 12 (.agg #[.slice h.A1 s.cols.length h.c1, .slice h.A2 s.covs.length h.c2, .int .i64 s.l0, .int .i64 s.l1, .int .i64 s.l2, .int .i64 s.l3, .slice h.A3 s.rows.length h.c3, .slice h.A4 s.frames.length h.c4, .slice h.A5 s.tanks.length h.c5, .int .i64 s.m0, .int .i64 s.m1, .int .i64 s.m2, .int .i64 s.m3]),
    .val 13 (.int .i64 (su : Nat)),
    .val 14 (.bool false),
    .val 15 (.bool false)]
    [[], [0], [1], [2], [2, 3], [2, 4], [2, 5], [6], [7], [7], [7, 8, 9], [7, 10], [7], [7, 12], [7, 11, 13], [7, 14]] [15] (Cb X2) (by kernel_rfl) (by kernel_rfl) (Cb.drew X2) ⟨?_, ?_, ?_, ?_, ?_, ?_, ?_, ?_, ?_, ?_, ?_, ?_, ?_, ?_, ?_, ?_, trivial⟩ ?_
  case refine_1 =>
    refine StepG.of rfl ?_
    refine StepL.up fun x V hV hu K Q hK => ?_
    clear hu
    rw [owp_eq]
    go_big_op
    exact hK _ _ (Below.refl _ _) rfl
  case refine_2 =>
    refine StepG.of rfl ?_
    refine StepL.up fun x V hV hu K Q hK => ?_
    have u0 : x 0 = _ := hu 0 (by decide)
    clear hu
    simp only [putL, List.set_cons_zero, List.set_cons_succ] at hK ⊢
    rw [owp_eq]
    go_big_op
    exact hK _ _ (Below.refl _ _) rfl
  case refine_3 =>
    refine StepG.of rfl ?_
    refine StepL.up fun x V hV hu K Q hK => ?_
    have u1 : x 1 = _ := hu 1 (by decide)
    clear hu
    simp only [putL, List.set_cons_zero, List.set_cons_succ] at hK ⊢
    rw [owp_eq]
    go_big_op
    exact hK _ _ (Below.refl _ _) rfl
  case refine_4 =>
    refine StepG.yes 2 false 42 rfl rfl (fun x => by simp only [putL, List.set_cons_zero, List.set_cons_succ]; rfl) rfl (fun x w h => h) ?_
    refine StepL.up fun x V hV hu K Q hK => ?_
    have u2 : x 2 = _ := hu 2 (by decide)
    clear hu
    simp only [putL, List.set_cons_zero, List.set_cons_succ] at hK ⊢
    rw [owp_eq]
    go_big_op
    exact hK _ _ (Below.refl _ _) rfl
  case refine_5 =>
    refine StepG.yes 2 false 42 rfl rfl (fun x => by simp only [putL, List.set_cons_zero, List.set_cons_succ]; rfl) rfl (fun x w h => h) ?_
    refine StepL.up fun x V hV hu K Q hK => ?_
    have u2 : x 2 = _ := hu 2 (by decide)
    have u3 : x 3 = _ := hu 3 (by decide)
    clear hu
    simp only [putL, List.set_cons_zero, List.set_cons_succ] at hK ⊢
    rw [owp_eq]
    go_big_op
    exact hK _ _ (Below.refl _ _) rfl
  case refine_6 =>
    refine StepG.yes 2 false 42 rfl rfl (fun x => by simp only [putL, List.set_cons_zero, List.set_cons_succ]; rfl) rfl (fun x w h => h) ?_
    refine StepL.up fun x V hV hu K Q hK => ?_
    have u2 : x 2 = _ := hu 2 (by decide)
    have u4 : x 4 = _ := hu 4 (by decide)
    clear hu
    simp only [putL, List.set_cons_zero, List.set_cons_succ] at hK ⊢
    rw [owp_eq]
    go_big_op
    exact hK _ _ (Below.refl _ _) rfl
  case refine_7 =>
    refine StepG.of rfl ?_
    refine StepL.up fun x V hV hu K Q hK => ?_
    have u2 : x 2 = _ := hu 2 (by decide)
    have u5 : x 5 = _ := hu 5 (by decide)
    clear hu
    simp only [putL, List.set_cons_zero, List.set_cons_succ] at hK ⊢
    rw [owp_eq]
    go_big_op
    exact hK _ _ (Below.refl _ _) rfl
  case refine_8 =>
    refine StepG.of rfl ?_
    refine StepL.up fun x V hV hu K Q hK => ?_
    have u6 : x 6 = _ := hu 6 (by decide)
    clear hu
    simp only [putL, List.set_cons_zero, List.set_cons_succ] at hK ⊢
    rw [owp_eq]
    go_big_op
    exact hK _ _ (Below.refl _ _) rfl
  case refine_9 =>
    refine StepG.yes 7 false 47 rfl rfl (fun x => by simp only [putL, List.set_cons_zero, List.set_cons_succ]; rfl) rfl (fun x w h => h) ?_
    refine StepL.up fun x V hV hu K Q hK => ?_
    have u7 : x 7 = _ := hu 7 (by decide)
    clear hu
    simp only [putL, List.set_cons_zero, List.set_cons_succ] at hK ⊢
    rw [owp_eq]
    go_big_op
    exact hK _ _ (Below.refl _ _) rfl
  case refine_10 =>
    refine StepG.yes 7 false 47 rfl rfl (fun x => by simp only [putL, List.set_cons_zero, List.set_cons_succ]; rfl) rfl (fun x w h => h) ?_
    refine StepL.up fun x V hV hu K Q hK => ?_
    have u7 : x 7 = _ := hu 7 (by decide)
    clear hu
    simp only [putL, List.set_cons_zero, List.set_cons_succ] at hK ⊢
    rw [owp_eq]
    go_big_op
    exact hK _ _ (Below.refl _ _) rfl
  case refine_11 =>
    refine StepG.yes 7 false 47 rfl rfl (fun x => by simp only [putL, List.set_cons_zero, List.set_cons_succ]; rfl) rfl (fun x w h => h) ?_
    refine StepL.up fun x V hV hu K Q hK => ?_
    have u7 : x 7 = _ := hu 7 (by decide)
    have u8 : x 8 = _ := hu 8 (by decide)
    have u9 : x 9 = _ := hu 9 (by decide)
    clear hu
    simp only [putL, List.set_cons_zero, List.set_cons_succ] at hK ⊢
    rw [owp_eq]
    go_big_op
    refine (KCF.out V hV).mono ?_
    rintro e V' ⟨A, c, rfl, hc, hs, hb⟩
    exact hK _ _ hb ⟨A, c, rfl, hc, hs⟩
  case refine_12 =>
    refine StepG.yes 7 false 47 rfl rfl (fun x => by simp only [putL, List.set_cons_zero, List.set_cons_succ]; rfl) rfl (fun x w h => h) ?_
    refine StepL.up fun x V hV hu K Q hK => ?_
    have u7 : x 7 = _ := hu 7 (by decide)
    obtain ⟨A10, c10, u10, hc10, hs10⟩ := hu 10 (by decide)
    clear hu
    simp only [putL, List.set_cons_zero, List.set_cons_succ] at hK ⊢
    rw [owp_eq]
    go_big_op
    refine (KDF.out V hV A10 c10 hs10).mono ?_
    rintro e V' ⟨rfl, hb⟩
    exact hK _ _ hb rfl
  case refine_13 =>
    refine StepG.yes 7 false 47 rfl rfl (fun x => by simp only [putL, List.set_cons_zero, List.set_cons_succ]; rfl) rfl (fun x w h => h) ?_
    refine StepL.up fun x V hV hu K Q hK => ?_
    have u7 : x 7 = _ := hu 7 (by decide)
    have fe0 := hV.cell e0
    have fe1 := hV.cell e1
    have fe2 := hV.cell e2
    have fe3 := hV.cell e3
    have fe4 := hV.cell e4
    have fe5 := hV.cell e5
    have fe6 := hV.cell e6
    have fe7 := hV.cell e7
    have fe8 := hV.cell e8
    have fe9 := hV.cell e9
    have fe10 := hV.cell e10
    have fe11 := hV.cell e11
    have fe12 := hV.cell e12
    clear hu
    simp only [putL, List.set_cons_zero, List.set_cons_succ] at hK ⊢
    rw [owp_eq]
    go_big_op
    exact hK _ _ (Below.refl _ _) rfl
  case refine_14 =>
    refine StepG.yes 7 false 47 rfl rfl (fun x => by simp only [putL, List.set_cons_zero, List.set_cons_succ]; rfl) rfl (fun x w h => h) ?_
    refine StepL.up fun x V hV hu K Q hK => ?_
    have u7 : x 7 = _ := hu 7 (by decide)
    have u12 : x 12 = _ := hu 12 (by decide)
    clear hu
    simp only [putL, List.set_cons_zero, List.set_cons_succ] at hK ⊢
    rw [owp_eq]
    go_big_op
    refine (KSU.out V hV).mono ?_
    rintro e V' ⟨rfl, hb⟩
    exact hK _ _ hb rfl
  case refine_15 =>
    refine StepG.yes 7 false 47 rfl rfl (fun x => by simp only [putL, List.set_cons_zero, List.set_cons_succ]; rfl) rfl (fun x w h => h) ?_
    refine StepL.up fun x V hV hu K Q hK => ?_
    have u7 : x 7 = _ := hu 7 (by decide)
    have u11 : x 11 = _ := hu 11 (by decide)
    have u13 : x 13 = _ := hu 13 (by decide)
    clear hu
    simp only [putL, List.set_cons_zero, List.set_cons_succ] at hK ⊢
    rw [owp_eq]
    go_big_op
    exact hK _ _ (Below.refl _ _) rfl
  case refine_16 =>
    refine StepG.of rfl ?_
    refine StepL.up fun x V hV hu K Q hK => ?_
    have u7 : x 7 = _ := hu 7 (by decide)
    have u14 : x 14 = _ := hu 14 (by decide)
    clear hu
    simp only [putL, List.set_cons_zero, List.set_cons_succ] at hK ⊢
    rw [owp_eq]
    go_big_op
    exact hK _ _ (Below.refl _ _) rfl
  case refine_17 =>
    intro x X3 hV hA
    have h15 : x 15 = _ := hA 15 rfl (by decide)
    have hVX3 : Below X2.heap.size X2 X3 := hV
    replace HVX := Lib.hid (HVX.out.trans (hVX3.mono HVX.out.size))
    clear hA hV hVX3 KCF KDF KSU hdl e0 e1 e2 e3 e4 e5 e6 e7 e8 e9 e10 e11 e12 HWX HS5 KO1 KD1 HDF
    try clear X2
    simp only [layL, putL, List.set_cons_zero, List.set_cons_succ]
    rw [h15]
    have HWX := Lib.hid (HW.out.on HVX.out)
    have SC := HWX.out.bk
    have e0 : X3.cell? ⟨g, 0, none⟩ = some (.slice h.A1 s.cols.length h.c1) := SC.cell 0
    have e1 : X3.cell? ⟨g, 1, none⟩ = some (.slice h.A2 s.covs.length h.c2) := SC.cell 1
    have e2 : X3.cell? ⟨g, 2, none⟩ = some (.int .i64 s.l0) := SC.cell 2
    have e3 : X3.cell? ⟨g, 3, none⟩ = some (.int .i64 s.l1) := SC.cell 3
    have e4 : X3.cell? ⟨g, 4, none⟩ = some (.int .i64 s.l2) := SC.cell 4
    have e5 : X3.cell? ⟨g, 5, none⟩ = some (.int .i64 s.l3) := SC.cell 5
    have e6 : X3.cell? ⟨g, 6, none⟩ = some (.slice h.A3 s.rows.length h.c3) := SC.cell 6
    have e7 : X3.cell? ⟨g, 7, none⟩ = some (.slice h.A4 s.frames.length h.c4) := SC.cell 7
    have e8 : X3.cell? ⟨g, 8, none⟩ = some (.slice h.A5 s.tanks.length h.c5) := SC.cell 8
    have e9 : X3.cell? ⟨g, 9, none⟩ = some (.int .i64 s.m0) := SC.cell 9
    have e10 : X3.cell? ⟨g, 10, none⟩ = some (.int .i64 s.m1) := SC.cell 10
    have e11 : X3.cell? ⟨g, 11, none⟩ = some (.int .i64 s.m2) := SC.cell 11
    have e12 : X3.cell? ⟨g, 12, none⟩ = some (.int .i64 s.m3) := SC.cell 12
    clear SC
    have KC := Lib.hid (KC2.out X3 A3 q3 HVX.out HWX.out.sx HQ3.out)
    go_wp2_with fail
    refine KC.out.mono ?_
    rintro e X4 ⟨hb, A7, c7, rfl⟩
    simp only
    clear KC KC2 e0 e1 e2 e3 e4 e5 e6 e7 e8 e9 e10 e11 e12
    replace HVX := Lib.hid (HVX.out.trans (hb.mono HVX.out.size))
    clear hb HWX
    try clear X3
    have HW2 := Lib.hid (HW.out.on HVX.out)
    clear h15
    have SC := HW2.out.bk
    have e0 : X4.cell? ⟨g, 0, none⟩ = some (.slice h.A1 s.cols.length h.c1) := SC.cell 0
    have e1 : X4.cell? ⟨g, 1, none⟩ = some (.slice h.A2 s.covs.length h.c2) := SC.cell 1
    have e2 : X4.cell? ⟨g, 2, none⟩ = some (.int .i64 s.l0) := SC.cell 2
    have e3 : X4.cell? ⟨g, 3, none⟩ = some (.int .i64 s.l1) := SC.cell 3
    have e4 : X4.cell? ⟨g, 4, none⟩ = some (.int .i64 s.l2) := SC.cell 4
    have e5 : X4.cell? ⟨g, 5, none⟩ = some (.int .i64 s.l3) := SC.cell 5
    have e6 : X4.cell? ⟨g, 6, none⟩ = some (.slice h.A3 s.rows.length h.c3) := SC.cell 6
    have e7 : X4.cell? ⟨g, 7, none⟩ = some (.slice h.A4 s.frames.length h.c4) := SC.cell 7
    have e8 : X4.cell? ⟨g, 8, none⟩ = some (.slice h.A5 s.tanks.length h.c5) := SC.cell 8
    have e9 : X4.cell? ⟨g, 9, none⟩ = some (.int .i64 s.m0) := SC.cell 9
    have e10 : X4.cell? ⟨g, 10, none⟩ = some (.int .i64 s.m1) := SC.cell 10
    have e11 : X4.cell? ⟨g, 11, none⟩ = some (.int .i64 s.m2) := SC.cell 11
    have e12 : X4.cell? ⟨g, 12, none⟩ = some (.int .i64 s.m3) := SC.cell 12
    clear SC
    have KCS : Hid (∀ U : World, Cb X4 U → Calls Try.prog 12 #[.slice A1 bs.length q1, .slice A3 st.length q3] U (fun e w' => ∃ A c, e = .returned (.slice A cs.length c) ∧ cs.length ≤ c ∧ SlT tBx w' (Lt w'.heap.size) A cs ∧ Below U.heap.size U w')) := Lib.hid fun U hU => KO2.out U A3 q3 (HVX.out.trans (Below.mono hU HVX.out.size)) ((HW.out.on (HVX.out.trans (Below.mono hU HVX.out.size))).sx)
    have KDS : Hid (∀ U : World, Cb X4 U → ∀ A c, SlT tBx U (Lt U.heap.size) A cs → Calls Try.prog 21 #[.slice A cs.length c] U (Ret U (.int .i64 dm2))) := Lib.hid fun U _ A c hs => KD2.out U A c hs
    have KSU : Hid (∀ U : World, Cb X4 U → Calls Try.prog 20 #[.agg #[.slice h.A1 s.cols.length h.c1, .slice h.A2 s.covs.length h.c2, .int .i64 s.l0, .int .i64 s.l1, .int .i64 s.l2, .int .i64 s.l3, .slice h.A3 s.rows.length h.c3, .slice h.A4 s.frames.length h.c4, .slice h.A5 s.tanks.length h.c5, .int .i64 s.m0, .int .i64 s.m1, .int .i64 s.m2, .int .i64 s.m3]] U (Ret U (.int .i64 (su : Nat)))) := Lib.hid fun U hU => KSUP.out U (HVX.out.trans (Below.mono hU HVX.out.size))
    replace HW := HW2
    clear HW2 KO2 KD2 KSUP
    go_upto_region 7 with fail
    by_cases hn : 0 < n
    · have hn1 : decide ((0 : Int) < (n : Int)) = true := by simp; omega
      have hn2 : decide (0 < n) = true := by simp; omega
      clear HPE
      refine wp_region_ogG [.val 0 (.int .i64 0),
        .val 1 (.bool true),
        .val 2 (.bool true),
        .val 3 (.slice A7 n c7),
        .val 4 (.int .i64 (n : Nat)),
        .val 5 (.bool true),
        .val 6 (.bool true),
        .val 7 undef,
        .val 8 undef,
        .val 9 undef,
        .val 10 undef,
        .val 11 undef,
        .val 12 undef,
        .val 13 undef,
        .val 14 (.bool true),
        .val 15 (.bool true),
        .val 16 (.bool true),
        .val 17 (.bool true),
        .val 18 (.bool true),
        .val 19 (.bool true)]
        [[], [0], [1], [2], [2, 3], [2, 4], [2, 5], [6], [6], [6], [6], [6], [6], [6], [2, 6, 13], [2, 14], [15], [16], [16, 17], [18]] [19] (Cb X4) (by kernel_rfl) (by kernel_rfl) (Cb.drew X4) ⟨?_, ?_, ?_, ?_, ?_, ?_, ?_, ?_, ?_, ?_, ?_, ?_, ?_, ?_, ?_, ?_, ?_, ?_, ?_, ?_, trivial⟩ ?_
      case refine_1 =>
        refine StepG.of rfl ?_
        refine StepL.up fun x V hV hu K Q hK => ?_
        clear hu
        rw [owp_eq]
        go_big_op
        exact hK _ _ (Below.refl _ _) rfl
      case refine_2 =>
        refine StepG.of rfl ?_
        refine StepL.up fun x V hV hu K Q hK => ?_
        have u0 : x 0 = _ := hu 0 (by decide)
        clear hu
        simp only [putL, List.set_cons_zero, List.set_cons_succ] at hK ⊢
        rw [owp_eq]
        go_big_op
        exact hK _ _ (Below.refl _ _) rfl
      case refine_3 =>
        refine StepG.of rfl ?_
        refine StepL.up fun x V hV hu K Q hK => ?_
        have u1 : x 1 = _ := hu 1 (by decide)
        clear hu
        simp only [putL, List.set_cons_zero, List.set_cons_succ] at hK ⊢
        rw [owp_eq]
        go_big_op
        exact hK _ _ (Below.refl _ _) rfl
      case refine_4 =>
        refine StepG.yes 2 true 65 rfl rfl (fun x => by simp only [putL, List.set_cons_zero, List.set_cons_succ]; rfl) rfl (fun x w h => h) ?_
        refine StepL.up fun x V hV hu K Q hK => ?_
        have u2 : x 2 = _ := hu 2 (by decide)
        clear hu
        simp only [putL, List.set_cons_zero, List.set_cons_succ] at hK ⊢
        rw [owp_eq]
        go_big_op
        exact hK _ _ (Below.refl _ _) rfl
      case refine_5 =>
        refine StepG.yes 2 true 65 rfl rfl (fun x => by simp only [putL, List.set_cons_zero, List.set_cons_succ]; rfl) rfl (fun x w h => h) ?_
        refine StepL.up fun x V hV hu K Q hK => ?_
        have u2 : x 2 = _ := hu 2 (by decide)
        have u3 : x 3 = _ := hu 3 (by decide)
        clear hu
        simp only [putL, List.set_cons_zero, List.set_cons_succ] at hK ⊢
        rw [owp_eq]
        go_big_op
        exact hK _ _ (Below.refl _ _) rfl
      case refine_6 =>
        refine StepG.yes 2 true 65 rfl rfl (fun x => by simp only [putL, List.set_cons_zero, List.set_cons_succ]; rfl) rfl (fun x w h => h) ?_
        refine StepL.up fun x V hV hu K Q hK => ?_
        have u2 : x 2 = _ := hu 2 (by decide)
        have u4 : x 4 = _ := hu 4 (by decide)
        clear hu
        simp only [putL, List.set_cons_zero, List.set_cons_succ] at hK ⊢
        rw [owp_eq]
        go_big_op
        exact hK _ _ (Below.refl _ _) rfl
      case refine_7 =>
        refine StepG.yes 2 true 65 rfl rfl (fun x => by simp only [putL, List.set_cons_zero, List.set_cons_succ]; rfl) rfl (fun x w h => h) ?_
        refine StepL.up fun x V hV hu K Q hK => ?_
        have u2 : x 2 = _ := hu 2 (by decide)
        have u5 : x 5 = _ := hu 5 (by decide)
        clear hu
        simp only [putL, List.set_cons_zero, List.set_cons_succ] at hK ⊢
        rw [owp_eq]
        go_big_op
        exact hK _ _ (Below.refl _ _) rfl
      case refine_8 =>
        exact StepG.no 6 false 69 (.bool true) rfl rfl (fun x => by simp only [putL, List.set_cons_zero, List.set_cons_succ]; rfl) rfl (fun x w h => h) (by simp) (fun x w => upd_same ..)
      case refine_9 =>
        exact StepG.no 6 false 69 (.bool true) rfl rfl (fun x => by simp only [putL, List.set_cons_zero, List.set_cons_succ]; rfl) rfl (fun x w h => h) (by simp) (fun x w => upd_same ..)
      case refine_10 =>
        exact StepG.no 6 false 69 (.bool true) rfl rfl (fun x => by simp only [putL, List.set_cons_zero, List.set_cons_succ]; rfl) rfl (fun x w h => h) (by simp) (fun x w => upd_same ..)
      case refine_11 =>
        exact StepG.no 6 false 69 (.bool true) rfl rfl (fun x => by simp only [putL, List.set_cons_zero, List.set_cons_succ]; rfl) rfl (fun x w h => h) (by simp) (fun x w => upd_same ..)
      case refine_12 =>
        exact StepG.no 6 false 69 (.bool true) rfl rfl (fun x => by simp only [putL, List.set_cons_zero, List.set_cons_succ]; rfl) rfl (fun x w h => h) (by simp) (fun x w => upd_same ..)
      case refine_13 =>
        exact StepG.no 6 false 69 (.bool true) rfl rfl (fun x => by simp only [putL, List.set_cons_zero, List.set_cons_succ]; rfl) rfl (fun x w h => h) (by simp) (fun x w => upd_same ..)
      case refine_14 =>
        exact StepG.no 6 false 69 (.bool true) rfl rfl (fun x => by simp only [putL, List.set_cons_zero, List.set_cons_succ]; rfl) rfl (fun x w h => h) (by simp) (fun x w => upd_same ..)
      case refine_15 =>
        refine StepG.yes 2 true 65 rfl rfl (fun x => by simp only [putL, List.set_cons_zero, List.set_cons_succ]; rfl) rfl (fun x w h => h) ?_
        refine StepL.up fun x V hV hu K Q hK => ?_
        have u2 : x 2 = _ := hu 2 (by decide)
        have u6 : x 6 = _ := hu 6 (by decide)
        have u13 : x 13 = _ := hu 13 (by decide)
        clear hu
        simp only [putL, List.set_cons_zero, List.set_cons_succ] at hK ⊢
        rw [owp_eq]
        go_big_op
        exact hK _ _ (Below.refl _ _) rfl
      case refine_16 =>
        refine StepG.of rfl ?_
        refine StepL.up fun x V hV hu K Q hK => ?_
        have u2 : x 2 = _ := hu 2 (by decide)
        have u14 : x 14 = _ := hu 14 (by decide)
        clear hu
        simp only [putL, List.set_cons_zero, List.set_cons_succ] at hK ⊢
        rw [owp_eq]
        go_big_op
        exact hK _ _ (Below.refl _ _) rfl
      case refine_17 =>
        refine StepG.of rfl ?_
        refine StepL.up fun x V hV hu K Q hK => ?_
        have u15 : x 15 = _ := hu 15 (by decide)
        clear hu
        simp only [putL, List.set_cons_zero, List.set_cons_succ] at hK ⊢
        rw [owp_eq]
        go_big_op
        exact hK _ _ (Below.refl _ _) rfl
      case refine_18 =>
        refine StepG.yes 16 true 79 rfl rfl (fun x => by simp only [putL, List.set_cons_zero, List.set_cons_succ]; rfl) rfl (fun x w h => h) ?_
        refine StepL.up fun x V hV hu K Q hK => ?_
        have u16 : x 16 = _ := hu 16 (by decide)
        clear hu
        simp only [putL, List.set_cons_zero, List.set_cons_succ] at hK ⊢
        rw [owp_eq]
        go_big_op
        refine (awake12_true V).mono ?_
        rintro e V' ⟨rfl, hb⟩
        exact hK _ _ hb rfl
      case refine_19 =>
        refine StepG.of rfl ?_
        refine StepL.up fun x V hV hu K Q hK => ?_
        have u16 : x 16 = _ := hu 16 (by decide)
        have u17 : x 17 = _ := hu 17 (by decide)
        clear hu
        simp only [putL, List.set_cons_zero, List.set_cons_succ] at hK ⊢
        rw [owp_eq]
        go_big_op
        exact hK _ _ (Below.refl _ _) rfl
      case refine_20 =>
        refine StepG.of rfl ?_
        refine StepL.up fun x V hV hu K Q hK => ?_
        have u18 : x 18 = _ := hu 18 (by decide)
        clear hu
        simp only [putL, List.set_cons_zero, List.set_cons_succ] at hK ⊢
        rw [owp_eq]
        go_big_op
        exact hK _ _ (Below.refl _ _) rfl
      case refine_21 =>
        intro x Y hV hA
        have h19 : x 19 = _ := hA 19 rfl (by decide)
        have HVY := Lib.hid hV
        clear hA hV
        simp only [layL, putL, List.set_cons_zero, List.set_cons_succ]
        rw [h19]
        go_wp2_with fail
        go_ret
        exact ⟨rfl, HW.out.be.trans (Below.mono HVY.out HW.out.be.size)⟩
    · have hn1 : decide ((0 : Int) < (n : Int)) = false := by simp; omega
      have hn2 : decide (0 < n) = false := by simp; omega
      have hdl : decide (dm2 ≤ (su : Int)) = true := by have := HPE.out (by omega); simpa using this
      refine wp_region_ogG [.val 0 (.int .i64 0),
        .val 1 (.bool true),
        .val 2 (.bool true),
        .val 3 (.slice A7 n c7),
        .val 4 (.int .i64 (n : Nat)),
        .val 5 (.bool false),
        .val 6 (.bool false),
        .val 7 (.slice A1 bs.length q1),
        .val 8 (.slice A3 st.length q3),
        .slT tBx 9 cs,
        .val 10 (.int .i64 dm2),
        .val 11 (.agg #[.slice h.A1 s.cols.length h.c1, .slice h.A2 s.covs.length h.c2, .int .i64 s.l0, .int .i64 s.l1, .int .i64 s.l2, .int .i64 s.l3, .slice h.A3 s.rows.length h.c3, .slice h.A4 s.frames.length h.c4, .slice h.A5 s.tanks.length h.c5, .int .i64 s.m0, .int .i64 s.m1, .int .i64 s.m2, .int .i64 s.m3]),
        .val 12 (.int .i64 (su : Nat)),
        .val 13 (.bool true),
        .val 14 (.bool true),
        .val 15 (.bool true),
        .val 16 (.bool true),
        .val 17 (.bool true),
        .val 18 (.bool true),
        .val 19 (.bool true)]
        [[], [0], [1], [2], [2, 3], [2, 4], [2, 5], [6], [6], [6, 7, 8], [6, 9], [6], [6, 11], [6, 10, 12], [2, 6, 13], [2, 14], [15], [16], [16, 17], [18]] [19] (Cb X4) (by kernel_rfl) (by kernel_rfl) (Cb.drew X4) ⟨?_, ?_, ?_, ?_, ?_, ?_, ?_, ?_, ?_, ?_, ?_, ?_, ?_, ?_, ?_, ?_, ?_, ?_, ?_, ?_, trivial⟩ ?_
      case refine_1 =>
        refine StepG.of rfl ?_
        refine StepL.up fun x V hV hu K Q hK => ?_
        clear hu
        rw [owp_eq]
        go_big_op
        exact hK _ _ (Below.refl _ _) rfl
      case refine_2 =>
        refine StepG.of rfl ?_
        refine StepL.up fun x V hV hu K Q hK => ?_
        have u0 : x 0 = _ := hu 0 (by decide)
        clear hu
        simp only [putL, List.set_cons_zero, List.set_cons_succ] at hK ⊢
        rw [owp_eq]
        go_big_op
        exact hK _ _ (Below.refl _ _) rfl
      case refine_3 =>
        refine StepG.of rfl ?_
        refine StepL.up fun x V hV hu K Q hK => ?_
        have u1 : x 1 = _ := hu 1 (by decide)
        clear hu
        simp only [putL, List.set_cons_zero, List.set_cons_succ] at hK ⊢
        rw [owp_eq]
        go_big_op
        exact hK _ _ (Below.refl _ _) rfl
      case refine_4 =>
        refine StepG.yes 2 true 65 rfl rfl (fun x => by simp only [putL, List.set_cons_zero, List.set_cons_succ]; rfl) rfl (fun x w h => h) ?_
        refine StepL.up fun x V hV hu K Q hK => ?_
        have u2 : x 2 = _ := hu 2 (by decide)
        clear hu
        simp only [putL, List.set_cons_zero, List.set_cons_succ] at hK ⊢
        rw [owp_eq]
        go_big_op
        exact hK _ _ (Below.refl _ _) rfl
      case refine_5 =>
        refine StepG.yes 2 true 65 rfl rfl (fun x => by simp only [putL, List.set_cons_zero, List.set_cons_succ]; rfl) rfl (fun x w h => h) ?_
        refine StepL.up fun x V hV hu K Q hK => ?_
        have u2 : x 2 = _ := hu 2 (by decide)
        have u3 : x 3 = _ := hu 3 (by decide)
        clear hu
        simp only [putL, List.set_cons_zero, List.set_cons_succ] at hK ⊢
        rw [owp_eq]
        go_big_op
        exact hK _ _ (Below.refl _ _) rfl
      case refine_6 =>
        refine StepG.yes 2 true 65 rfl rfl (fun x => by simp only [putL, List.set_cons_zero, List.set_cons_succ]; rfl) rfl (fun x w h => h) ?_
        refine StepL.up fun x V hV hu K Q hK => ?_
        have u2 : x 2 = _ := hu 2 (by decide)
        have u4 : x 4 = _ := hu 4 (by decide)
        clear hu
        simp only [putL, List.set_cons_zero, List.set_cons_succ] at hK ⊢
        rw [owp_eq]
        go_big_op
        exact hK _ _ (Below.refl _ _) rfl
      case refine_7 =>
        refine StepG.yes 2 true 65 rfl rfl (fun x => by simp only [putL, List.set_cons_zero, List.set_cons_succ]; rfl) rfl (fun x w h => h) ?_
        refine StepL.up fun x V hV hu K Q hK => ?_
        have u2 : x 2 = _ := hu 2 (by decide)
        have u5 : x 5 = _ := hu 5 (by decide)
        clear hu
        simp only [putL, List.set_cons_zero, List.set_cons_succ] at hK ⊢
        rw [owp_eq]
        go_big_op
        exact hK _ _ (Below.refl _ _) rfl
      case refine_8 =>
        refine StepG.yes 6 false 69 rfl rfl (fun x => by simp only [putL, List.set_cons_zero, List.set_cons_succ]; rfl) rfl (fun x w h => h) ?_
        refine StepL.up fun x V hV hu K Q hK => ?_
        have u6 : x 6 = _ := hu 6 (by decide)
        clear hu
        simp only [putL, List.set_cons_zero, List.set_cons_succ] at hK ⊢
        rw [owp_eq]
        go_big_op
        exact hK _ _ (Below.refl _ _) rfl
      case refine_9 =>
        refine StepG.yes 6 false 69 rfl rfl (fun x => by simp only [putL, List.set_cons_zero, List.set_cons_succ]; rfl) rfl (fun x w h => h) ?_
        refine StepL.up fun x V hV hu K Q hK => ?_
        have u6 : x 6 = _ := hu 6 (by decide)
        clear hu
        simp only [putL, List.set_cons_zero, List.set_cons_succ] at hK ⊢
        rw [owp_eq]
        go_big_op
        exact hK _ _ (Below.refl _ _) rfl
      case refine_10 =>
        refine StepG.yes 6 false 69 rfl rfl (fun x => by simp only [putL, List.set_cons_zero, List.set_cons_succ]; rfl) rfl (fun x w h => h) ?_
        refine StepL.up fun x V hV hu K Q hK => ?_
        have u6 : x 6 = _ := hu 6 (by decide)
        have u7 : x 7 = _ := hu 7 (by decide)
        have u8 : x 8 = _ := hu 8 (by decide)
        clear hu
        simp only [putL, List.set_cons_zero, List.set_cons_succ] at hK ⊢
        rw [owp_eq]
        go_big_op
        refine (KCS.out V hV).mono ?_
        rintro e V' ⟨A, c, rfl, hc, hs, hb⟩
        exact hK _ _ hb ⟨A, c, rfl, hc, hs⟩
      case refine_11 =>
        refine StepG.yes 6 false 69 rfl rfl (fun x => by simp only [putL, List.set_cons_zero, List.set_cons_succ]; rfl) rfl (fun x w h => h) ?_
        refine StepL.up fun x V hV hu K Q hK => ?_
        have u6 : x 6 = _ := hu 6 (by decide)
        obtain ⟨A9, c9, u9, hc9, hs9⟩ := hu 9 (by decide)
        clear hu
        simp only [putL, List.set_cons_zero, List.set_cons_succ] at hK ⊢
        rw [owp_eq]
        go_big_op
        refine (KDS.out V hV A9 c9 hs9).mono ?_
        rintro e V' ⟨rfl, hb⟩
        exact hK _ _ hb rfl
      case refine_12 =>
        refine StepG.yes 6 false 69 rfl rfl (fun x => by simp only [putL, List.set_cons_zero, List.set_cons_succ]; rfl) rfl (fun x w h => h) ?_
        refine StepL.up fun x V hV hu K Q hK => ?_
        have u6 : x 6 = _ := hu 6 (by decide)
        have fe0 := hV.cell e0
        have fe1 := hV.cell e1
        have fe2 := hV.cell e2
        have fe3 := hV.cell e3
        have fe4 := hV.cell e4
        have fe5 := hV.cell e5
        have fe6 := hV.cell e6
        have fe7 := hV.cell e7
        have fe8 := hV.cell e8
        have fe9 := hV.cell e9
        have fe10 := hV.cell e10
        have fe11 := hV.cell e11
        have fe12 := hV.cell e12
        clear hu
        simp only [putL, List.set_cons_zero, List.set_cons_succ] at hK ⊢
        rw [owp_eq]
        go_big_op
        exact hK _ _ (Below.refl _ _) rfl
      case refine_13 =>
        refine StepG.yes 6 false 69 rfl rfl (fun x => by simp only [putL, List.set_cons_zero, List.set_cons_succ]; rfl) rfl (fun x w h => h) ?_
        refine StepL.up fun x V hV hu K Q hK => ?_
        have u6 : x 6 = _ := hu 6 (by decide)
        have u11 : x 11 = _ := hu 11 (by decide)
        clear hu
        simp only [putL, List.set_cons_zero, List.set_cons_succ] at hK ⊢
        rw [owp_eq]
        go_big_op
        refine (KSU.out V hV).mono ?_
        rintro e V' ⟨rfl, hb⟩
        exact hK _ _ hb rfl
      case refine_14 =>
        refine StepG.yes 6 false 69 rfl rfl (fun x => by simp only [putL, List.set_cons_zero, List.set_cons_succ]; rfl) rfl (fun x w h => h) ?_
        refine StepL.up fun x V hV hu K Q hK => ?_
        have u6 : x 6 = _ := hu 6 (by decide)
        have u10 : x 10 = _ := hu 10 (by decide)
        have u12 : x 12 = _ := hu 12 (by decide)
        clear hu
        simp only [putL, List.set_cons_zero, List.set_cons_succ] at hK ⊢
        rw [owp_eq]
        go_big_op
        exact hK _ _ (Below.refl _ _) rfl
      case refine_15 =>
        refine StepG.yes 2 true 65 rfl rfl (fun x => by simp only [putL, List.set_cons_zero, List.set_cons_succ]; rfl) rfl (fun x w h => h) ?_
        refine StepL.up fun x V hV hu K Q hK => ?_
        have u2 : x 2 = _ := hu 2 (by decide)
        have u6 : x 6 = _ := hu 6 (by decide)
        have u13 : x 13 = _ := hu 13 (by decide)
        clear hu
        simp only [putL, List.set_cons_zero, List.set_cons_succ] at hK ⊢
        rw [owp_eq]
        go_big_op
        exact hK _ _ (Below.refl _ _) rfl
      case refine_16 =>
        refine StepG.of rfl ?_
        refine StepL.up fun x V hV hu K Q hK => ?_
        have u2 : x 2 = _ := hu 2 (by decide)
        have u14 : x 14 = _ := hu 14 (by decide)
        clear hu
        simp only [putL, List.set_cons_zero, List.set_cons_succ] at hK ⊢
        rw [owp_eq]
        go_big_op
        exact hK _ _ (Below.refl _ _) rfl
      case refine_17 =>
        refine StepG.of rfl ?_
        refine StepL.up fun x V hV hu K Q hK => ?_
        have u15 : x 15 = _ := hu 15 (by decide)
        clear hu
        simp only [putL, List.set_cons_zero, List.set_cons_succ] at hK ⊢
        rw [owp_eq]
        go_big_op
        exact hK _ _ (Below.refl _ _) rfl
      case refine_18 =>
        refine StepG.yes 16 true 79 rfl rfl (fun x => by simp only [putL, List.set_cons_zero, List.set_cons_succ]; rfl) rfl (fun x w h => h) ?_
        refine StepL.up fun x V hV hu K Q hK => ?_
        have u16 : x 16 = _ := hu 16 (by decide)
        clear hu
        simp only [putL, List.set_cons_zero, List.set_cons_succ] at hK ⊢
        rw [owp_eq]
        go_big_op
        refine (awake12_true V).mono ?_
        rintro e V' ⟨rfl, hb⟩
        exact hK _ _ hb rfl
      case refine_19 =>
        refine StepG.of rfl ?_
        refine StepL.up fun x V hV hu K Q hK => ?_
        have u16 : x 16 = _ := hu 16 (by decide)
        have u17 : x 17 = _ := hu 17 (by decide)
        clear hu
        simp only [putL, List.set_cons_zero, List.set_cons_succ] at hK ⊢
        rw [owp_eq]
        go_big_op
        exact hK _ _ (Below.refl _ _) rfl
      case refine_20 =>
        refine StepG.of rfl ?_
        refine StepL.up fun x V hV hu K Q hK => ?_
        have u18 : x 18 = _ := hu 18 (by decide)
        clear hu
        simp only [putL, List.set_cons_zero, List.set_cons_succ] at hK ⊢
        rw [owp_eq]
        go_big_op
        exact hK _ _ (Below.refl _ _) rfl
      case refine_21 =>
        intro x Y hV hA
        have h19 : x 19 = _ := hA 19 rfl (by decide)
        have HVY := Lib.hid hV
        clear hA hV
        simp only [layL, putL, List.set_cons_zero, List.set_cons_succ]
        rw [h19]
        go_wp2_with fail
        go_ret
        exact ⟨rfl, HW.out.be.trans (Below.mono HVY.out HW.out.be.size)⟩
end Go.Proofs.Ythijgmkflfaccaa
