/-
  The walk of the statement PlugMore.
-/
import Derived.Test.YthijgmkflfaccaaPmX
namespace Go.Proofs.Ythijgmkflfaccaa
open Go.RowKit

set_option maxRecDepth 100000 in
set_option maxHeartbeats 8000000 in
theorem plugMore_any (A : Option Addr) (c : Nat) (pl : List (Nat × Nat × Nat × Bool)) (covers : Nat) (plugs : Nat) (hpl : plugs < 18446744073709551616) (reefers : Nat) (hrf : reefers < 65536) (A2 : Option Addr) (c2 : Nat) (ds : List Drp) (which : Nat) (hwh : which < 256) (w : World)
    (hs : SlT tPl w (Lt w.heap.size) A pl) (hl : ∀ p ∈ pl, p.1 < 256 ∧ p.2.1 < 256 ∧ p.2.2.1 < 256) (hc : pl.length ≤ c) (hcm : c ≤ maxLen)
    (hs2 : SlT tDrp w (Lt w.heap.size) A2 ds) (hd : ∀ d ∈ ds, d.col < 256 ∧ d.kilos < 256) (hc2 : ds.length ≤ c2) (hcm2 : c2 ≤ maxLen) :
    Calls Try.prog 5 #[.slice A pl.length c, .int .u32 covers, .int .u64 (plugs : Nat), .int .u16 (reefers : Nat), .slice A2 ds.length c2, .int .u8 (which : Nat)] w (TrueRet w) := by
  have HC := Lib.hid (plugged_own A c pl covers plugs reefers hpl hrf A2 c2 ds w hs hl hc hcm hs2 hd hc2 hcm2)
  clear hs hl hc hcm hs2 hd hc2 hcm2
  go_enter Try.func5, Try.ntmps5
  go_wp2_with fail
  refine HC.out.mono ?_
  rintro e w1 ⟨s, h, v1, v2, bs, st, rfl, hLm, hPg, hLd, hrd, ob, os, hb1, B, bc, hpo, hv1, hv2⟩
  simp only
  clear HC
  obtain ⟨A1, q1, rfl, hq1, hqm1, hsb⟩ := OwnS.sl' ob
  obtain ⟨A3, q3, rfl, hq3, hqm3, hss⟩ := OwnS.sl' os
  have hW : W5 w (w1.alloc (.cells (shpA s h) 37)) w1.heap.size s h A1 bs A3 st := by
    have hx := ba1 w1 (.cells (shpA s h) 37)
    exact ⟨Bk.new w1 _ _, (hrd.more fun x hx => hx.1).on hx, hsb.on hx, hss.on hx, hb1.trans (hx.mono hb1.size)⟩
  have HW := Lib.hid hW
  have HPO := Lib.hid (hpo.below (ba1 w1 (.cells (shpA s h) 37)))
  have HGB : Hid (B ≤ w1.heap.size) := Lib.hid hpo.sz
  have HV1 := Lib.hid hv1
  have HOB := Lib.hid (OwnS.below ob (ba1 w1 (.cells (shpA s h) 37)))
  have HFL := Lib.hid (few_lent hLm hpo.z)
  have HLM := Lib.hid hLm
  have HPG := Lib.hid hPg
  have HLD := Lib.hid hLd
  have HQ3 := Lib.hid hq3
  have HIN : Hid (∀ x ∈ st, 0 ≤ x.slot.tier ∧ x.slot.tier < 5 ∧ 0 ≤ x.slot.col ∧ x.slot.col < s.cols.length ∧ x.slot.half < 3) := Lib.hid fun x hx => hLd.tier hLm hx
  have HI6 := Lib.hid (hLd.i64s hLm)
  have hbl := hLd.nine
  have hsl := hLd.stlen
  have hc1 := hLm.one
  have hc12 := hLm.twelve
  clear hW ob os hpo hv1 hv2 hsb hss hrd hb1 hLm hLd hPg hq1 hq3
  unfold maxLen at hqm1 hqm3
  unfold shpA at HW HPO HOB ⊢
  go_upto_region 2 with fail
  generalize w1.heap.size = g at *
  generalize (w1.alloc _) = V at *
  clear w1
  have KFA : Hid (∀ V' : World, Below V.heap.size V V' → Calls Try.prog 15 #[.agg (shpA s h), .slice A1 bs.length q1, .slice A3 st.length q3] V' (fun e w' => ∃ A c, e = .returned (.slice A (pfF s bs st).length c) ∧ (pfF s bs st).length ≤ c ∧ SlT tInt w' (Lt w'.heap.size) A (pfF s bs st) ∧ Below V'.heap.size V' w')) := Lib.hid fun V' hV => by
    have r := HW.out.on hV
    refine (pFaults_any s h A1 q1 bs A3 q3 st V' r.rd HLM.out.few HLM.out.ints r.bx HLD.out.bl r.sx HLD.out.sl HI6.out).mono ?_
    rintro e w' ⟨v, rfl, ho, hb⟩
    obtain ⟨A, c, rfl, hc, _, hs⟩ := ho.sl
    exact ⟨A, c, rfl, hc, hs, hb⟩
  have SC := HW.out.bk
  unfold shpA at KFA
  have e0 : V.cell? ⟨g, 0, none⟩ = some (.slice h.A1 s.cols.length h.c1) := SC.cell 0
  have e1 : V.cell? ⟨g, 1, none⟩ = some (.slice h.A2 s.covs.length h.c2) := SC.cell 1
  have e2 : V.cell? ⟨g, 2, none⟩ = some (.int .i64 s.l0) := SC.cell 2
  have e3 : V.cell? ⟨g, 3, none⟩ = some (.int .i64 s.l1) := SC.cell 3
  have e4 : V.cell? ⟨g, 4, none⟩ = some (.int .i64 s.l2) := SC.cell 4
  have e5 : V.cell? ⟨g, 5, none⟩ = some (.int .i64 s.l3) := SC.cell 5
  have e6 : V.cell? ⟨g, 6, none⟩ = some (.slice h.A3 s.rows.length h.c3) := SC.cell 6
  have e7 : V.cell? ⟨g, 7, none⟩ = some (.slice h.A4 s.frames.length h.c4) := SC.cell 7
  have e8 : V.cell? ⟨g, 8, none⟩ = some (.slice h.A5 s.tanks.length h.c5) := SC.cell 8
  have e9 : V.cell? ⟨g, 9, none⟩ = some (.int .i64 s.m0) := SC.cell 9
  have e10 : V.cell? ⟨g, 10, none⟩ = some (.int .i64 s.m1) := SC.cell 10
  have e11 : V.cell? ⟨g, 11, none⟩ = some (.int .i64 s.m2) := SC.cell 11
  have e12 : V.cell? ⟨g, 12, none⟩ = some (.int .i64 s.m3) := SC.cell 12
  clear SC
  have KF := Lib.hid (KFA.out V (Below.refl _ _))
  go_wp2_with fail
  refine KF.out.mono ?_
  rintro e W ⟨A6, c6, rfl, hc6, hs6, hb⟩
  simp only
  clear KF KFA e0 e1 e2 e3 e4 e5 e6 e7 e8 e9 e10 e11 e12
  have HBE := Lib.hid hb
  have HS6 := Lib.hid hs6
  clear hb hs6
  have hpl9 : (pfF s bs st).length ≤ 9 := by
    rw [pf_eq, List.length_map]
    exact Nat.le_trans (List.length_filter_le _ _) hsl
  have HWQ := Lib.hid (fun (c k : Nat) (h1 : c < s.cols.length) (h2 : (k : Int) < (s.cols.getD c default).tiers) => want_pf HLD.out h1 h2)
  generalize pfF s bs st = was at *
  have HWW := Lib.hid (HW.out.on HBE.out)
  have e0 : W.cell? ⟨g, 0, none⟩ = some (.slice h.A1 s.cols.length h.c1) := HWW.out.bk.cell 0
  go_wp2_with fail
  clear e0 HWW
  go_loopw [17, 48] (fun cc i wr => ∃ k : Nat, k ≤ s.cols.length ∧ i = .int .i64 k ∧ Hid (Below W.heap.size W wr)) (fun _ i _ => s.cols.length - (intOf i).toNat)
  case atStart => exact ⟨0, Nat.zero_le _, rfl, Lib.hid (Below.refl _ _)⟩
  case round =>
    obtain ⟨k, hk, rfl, HB⟩ := hrel
    obtain ⟨Y, rfl⟩ : ∃ V, V = wr := ⟨_, rfl⟩
    by_cases hlt : k < s.cols.length
    · have i0 : (0 : Int) ≤ (k : Int) := by omega
      have i1 : (k : Int) < (s.cols.length : Int) := by omega
      have HK2 := Lib.hid (HLM.out.at_ hlt)
      have HCY := Lib.hid ((HW.out.on (HBE.out.trans (HB.out.mono HBE.out.size))).rd.cols.col hlt)
      have HA1 := Lib.hid HPO.out.a1
      generalize hcx : s.cols.getD k default = x at *
      have HCX := Lib.hid hcx
      clear hcx
      have ht2 := HK2.out.1
      have ht5 := HK2.out.2.1
      go_wp2_with fail
      go_loopw [18] (fun t wr => ∃ t0 : Nat, (t0 : Int) ≤ x.tiers ∧ t = .int .i64 t0 ∧ Hid (Below W.heap.size W wr)) (fun t _ => x.tiers.toNat - (intOf t).toNat)
      case atStart => exact ⟨0, by omega, rfl, HB⟩
      case round =>
        clear HB HCY
        try clear Y
        obtain ⟨t, ht, rfl, HB⟩ := hrel
        obtain ⟨Y, rfl⟩ : ∃ V, V = wr := ⟨_, rfl⟩
        have HBY := Lib.hid (HBE.out.trans (HB.out.mono HBE.out.size))
        have HWY := Lib.hid (HW.out.on HBY.out)
        have e0 : Y.cell? ⟨g, 0, none⟩ = some (.slice (some ⟨bc, 0, none⟩) s.cols.length h.c1) := by
          have h0 : Y.cell? ⟨g, 0, none⟩ = some (.slice h.A1 s.cols.length h.c1) := HWY.out.bk.cell 0
          rw [HA1.out] at h0
          exact h0
        have d3 : Y.cell? ⟨bc, k * 12 + 3, none⟩ = some (.int .i64 x.tiers) := by
          obtain ⟨b, off, Ap, p, eA, _, _, _, hcells⟩ := HWY.out.rd.cols.col hlt
          rw [HA1.out] at eA
          injection eA with eA
          injection eA with eb eo _
          subst eb eo
          rw [HCX.out] at hcells
          simpa using hcells.2.2.2.1
        by_cases htl : (t : Int) < x.tiers
        · have i2 : (0 : Int) ≤ (t : Int) := by omega
          have HB1 := Lib.hid (HB.out.trans ((ba1 Y (.cells #[.int .i64 (k : Nat), .int .i64 (t : Nat), .int .u8 0] 47)).mono HB.out.size))
          have HKX := Lib.hid (Bk.new Y 47 #[.int .i64 (k : Nat), .int .i64 (t : Nat), .int .u8 0])
          go_upto_region 10 with fail
          clear e0 d3 HB HBY HWY
          generalize Y.heap.size = gx at *
          generalize (Y.alloc _) = Y1 at *
          try clear Y
          have HBY := Lib.hid (HBE.out.trans (HB1.out.mono HBE.out.size))
          have HWY := Lib.hid (HW.out.on HBY.out)
          have hkc : (t : Int) < (s.cols.getD k default).tiers := by rw [HCX.out]; exact htl
          have KAT : Hid (Calls Try.prog 11 #[.agg (shpA s h), .agg #[.int .i64 (k : Nat), .int .i64 (t : Nat), .int .u8 0]] Y1 (Ret Y1 (.bool (pluggedB s k t)))) := Lib.hid (by
            have := pAt_any s h ⟨k, t, 0⟩ Y1 HWY.out.rd HLM.out.few HLM.out.ints ⟨by unfold I64; simp only; omega, by unfold I64; simp only; omega⟩
            rw [at_zero hlt hkc] at this
            exact this)
          have SC := HWY.out.bk
          unfold shpA at SC KAT
          have e0 : Y1.cell? ⟨g, 0, none⟩ = some (.slice h.A1 s.cols.length h.c1) := SC.cell 0
          have e1 : Y1.cell? ⟨g, 1, none⟩ = some (.slice h.A2 s.covs.length h.c2) := SC.cell 1
          have e2 : Y1.cell? ⟨g, 2, none⟩ = some (.int .i64 s.l0) := SC.cell 2
          have e3 : Y1.cell? ⟨g, 3, none⟩ = some (.int .i64 s.l1) := SC.cell 3
          have e4 : Y1.cell? ⟨g, 4, none⟩ = some (.int .i64 s.l2) := SC.cell 4
          have e5 : Y1.cell? ⟨g, 5, none⟩ = some (.int .i64 s.l3) := SC.cell 5
          have e6 : Y1.cell? ⟨g, 6, none⟩ = some (.slice h.A3 s.rows.length h.c3) := SC.cell 6
          have e7 : Y1.cell? ⟨g, 7, none⟩ = some (.slice h.A4 s.frames.length h.c4) := SC.cell 7
          have e8 : Y1.cell? ⟨g, 8, none⟩ = some (.slice h.A5 s.tanks.length h.c5) := SC.cell 8
          have e9 : Y1.cell? ⟨g, 9, none⟩ = some (.int .i64 s.m0) := SC.cell 9
          have e10 : Y1.cell? ⟨g, 10, none⟩ = some (.int .i64 s.m1) := SC.cell 10
          have e11 : Y1.cell? ⟨g, 11, none⟩ = some (.int .i64 s.m2) := SC.cell 11
          have e12 : Y1.cell? ⟨g, 12, none⟩ = some (.int .i64 s.m3) := SC.cell 12
          clear SC
          have x0 : Y1.cell? ⟨gx, 0, none⟩ = some (.int .i64 (k : Nat)) := HKX.out.cell 0
          have x1 : Y1.cell? ⟨gx, 1, none⟩ = some (.int .i64 (t : Nat)) := HKX.out.cell 1
          have x2 : Y1.cell? ⟨gx, 2, none⟩ = some (.int .u8 0) := HKX.out.cell 2
          go_wp2_with fail
          refine KAT.out.mono ?_
          rintro e Y2 ⟨rfl, hb⟩
          simp only
          clear KAT e0 e1 e2 e3 e4 e5 e6 e7 e8 e9 e10 e11 e12 x0 x1 x2 HWY HBY
          have HB2 := Lib.hid (HB1.out.trans (hb.mono HB1.out.size))
          have HKX2 := Lib.hid (HKX.out.below hb HKX.out.lt)
          clear hb HB1 HKX
          try clear Y1
          cases hpb : pluggedB s k t with
          | true =>
            go_wp2_with fail
            go_roundw
            case rel => first | exact ⟨t + 1, by omega, by go_num, HB2⟩ | ((repeat apply Exists.intro); (first | exact ⟨⟨t + 1, by omega, by go_num, HB2⟩, rfl⟩ | exact ⟨by omega, by go_num, HB2⟩))
            case measure => simp [intOf]; omega
          | false =>
            have HBY := Lib.hid (HBE.out.trans (HB2.out.mono HBE.out.size))
            have HWY := Lib.hid (HW.out.on HBY.out)
            have KL := Lib.hid (lentShip_any s h Y2 HWY.out.rd HFL.out)
            have SC := HWY.out.bk
            unfold shpA at SC KL
            have e0 : Y2.cell? ⟨g, 0, none⟩ = some (.slice h.A1 s.cols.length h.c1) := SC.cell 0
            have e1 : Y2.cell? ⟨g, 1, none⟩ = some (.slice h.A2 s.covs.length h.c2) := SC.cell 1
            have e2 : Y2.cell? ⟨g, 2, none⟩ = some (.int .i64 s.l0) := SC.cell 2
            have e3 : Y2.cell? ⟨g, 3, none⟩ = some (.int .i64 s.l1) := SC.cell 3
            have e4 : Y2.cell? ⟨g, 4, none⟩ = some (.int .i64 s.l2) := SC.cell 4
            have e5 : Y2.cell? ⟨g, 5, none⟩ = some (.int .i64 s.l3) := SC.cell 5
            have e6 : Y2.cell? ⟨g, 6, none⟩ = some (.slice h.A3 s.rows.length h.c3) := SC.cell 6
            have e7 : Y2.cell? ⟨g, 7, none⟩ = some (.slice h.A4 s.frames.length h.c4) := SC.cell 7
            have e8 : Y2.cell? ⟨g, 8, none⟩ = some (.slice h.A5 s.tanks.length h.c5) := SC.cell 8
            have e9 : Y2.cell? ⟨g, 9, none⟩ = some (.int .i64 s.m0) := SC.cell 9
            have e10 : Y2.cell? ⟨g, 10, none⟩ = some (.int .i64 s.m1) := SC.cell 10
            have e11 : Y2.cell? ⟨g, 11, none⟩ = some (.int .i64 s.m2) := SC.cell 11
            have e12 : Y2.cell? ⟨g, 12, none⟩ = some (.int .i64 s.m3) := SC.cell 12
            clear SC
            go_wp2_with fail
            refine KL.out.mono ?_
            rintro e Y3 ⟨hb, h', B1, rfl, hl⟩
            simp only
            clear KL e0 e1 e2 e3 e4 e5 e6 e7 e8 e9 e10 e11 e12 HWY HBY
            have HB3 := Lib.hid ((HB2.out.trans (hb.mono HB2.out.size)).trans ((ba1 Y3 (.cells (shpA s h') 37)).mono (Nat.le_trans HB2.out.size hb.size)))
            have HKX3 := Lib.hid ((HKX2.out.below hb HKX2.out.lt).alloc (.cells (shpA s h') 37))
            have HKT := Lib.hid (Bk.new Y3 37 (shpA s h'))
            have HL := Lib.hid (hl.on (ba1 Y3 (.cells (shpA s h') 37)))
            have HGX : Hid (gx < Y2.heap.size + 2) := Lib.hid (by have := HKX2.out.lt; omega)
            have HGT : Hid (B1 ≤ Y3.heap.size) := Lib.hid hl.mid.2
            have HWB : Hid (W.heap.size ≤ Y2.heap.size + 2) := Lib.hid (by have := HB2.out.size; omega)
            clear hb hl HB2 HKX2
            unfold shpA at HB3 HKX3 HKT HL
            go_upto_region 12 with fail
            generalize Y3.heap.size = gt at *
            generalize (Y3.alloc _) = Y4 at *
            try clear Y3
            generalize Y2.heap.size + 2 = B0 at *
            try clear Y2
            go_wp2_with fail
            go_loopw [21, 22] (fun v j wr => ∃ j0 : Nat, (j0 : Int) ≤ x.tiers ∧ j = .int .i64 j0 ∧ Hid (OwnS tInt 3 wr Y4.heap.size (Lt Y4.heap.size) v (moreL s k t j0) ∧ Below Y4.heap.size Y4 wr)) (fun _ j _ => x.tiers.toNat - (intOf j).toNat)
            case atStart => exact ⟨0, by omega, rfl, Lib.hid ⟨OwnS.nil fun b hb => hb, Below.refl _ _⟩⟩
            case round =>
              obtain ⟨j, hj, rfl, HLJ⟩ := hrel
              obtain ⟨Z, rfl⟩ : ∃ V, V = wr := ⟨_, rfl⟩
              have HBZ := Lib.hid (HBE.out.trans ((HB3.out.trans (HLJ.out.2.mono HB3.out.size)).mono HBE.out.size))
              have HWZ := Lib.hid (HW.out.on HBZ.out)
              have e0 : Z.cell? ⟨g, 0, none⟩ = some (.slice (some ⟨bc, 0, none⟩) s.cols.length h.c1) := by
                have h0 : Z.cell? ⟨g, 0, none⟩ = some (.slice h.A1 s.cols.length h.c1) := HWZ.out.bk.cell 0
                rw [HA1.out] at h0
                exact h0
              have d3 : Z.cell? ⟨bc, k * 12 + 3, none⟩ = some (.int .i64 x.tiers) := by
                obtain ⟨b, off, Ap, p, eA, _, _, _, hcells⟩ := HWZ.out.rd.cols.col hlt
                rw [HA1.out] at eA
                injection eA with eA
                injection eA with eb eo _
                subst eb eo
                rw [HCX.out] at hcells
                simpa using hcells.2.2.2.1
              by_cases hjl : (j : Int) < x.tiers
              · have j0' : (0 : Int) ≤ (j : Int) := by omega
                have hjc : (j : Int) < (s.cols.getD k default).tiers := by rw [HCX.out]; exact hjl
                have HML := Lib.hid (moreL_succ s k t j)
                have hml : (moreL s k t j).length ≤ j := moreL_len s k t j
                go_upto_region 16 with fail
                clear e0 d3
                have HOZ := Lib.hid HLJ.out.1
                have HBJ := Lib.hid HLJ.out.2
                clear HLJ
                generalize moreL s k t j = m at *
                by_cases hjt : j = t
                · have hjb : ((j : Int) == (t : Int)) = true := by simp [hjt]
                  have hjb2 : (j == t) = true := by simp [hjt]
                  have HN : Hid (moreL s k t (j + 1) = m ++ [(j : Int)]) := Lib.hid (by rw [HML.out, hjt]; simp)
                  clear HML HWZ HBZ hjt
                  obtain ⟨xs, ho, hf, hS⟩ := HOZ.out
                  have hsz := HBJ.out.size
                  go_wp2_with (at_builtin; (refine wpList_append1 el_int rfl (.tmp 89) (.tmp 91) rfl Y4.heap.size _ m.length xs rfl ho #[.int .i64 j] _ rfl rfl rfl ?c1 ?c2 ?c3 ?_))
                  case c1 => unfold maxLen; omega
                  case c2 => omega
                  case c3 => omega
                  intro v' w3 hown' hgr hd3 hbel
                  go_wp2
                  go_roundw
                  case rel => first | exact ⟨j + 1, by omega, by go_num, Lib.hid ⟨by rw [HN.out]; exact OwnS.int1 hf hS hown' hgr hd3, HBJ.out.trans hbel⟩⟩ | ((repeat apply Exists.intro); (first | exact ⟨⟨j + 1, by omega, by go_num, Lib.hid ⟨by rw [HN.out]; exact OwnS.int1 hf hS hown' hgr hd3, HBJ.out.trans hbel⟩⟩, rfl⟩ | exact ⟨by omega, by go_num, Lib.hid ⟨by rw [HN.out]; exact OwnS.int1 hf hS hown' hgr hd3, HBJ.out.trans hbel⟩⟩))
                  case measure => simp [intOf]; omega
                · have hjb : ((j : Int) == (t : Int)) = false := by simp; omega
                  have hjb2 : (j == t) = false := by simp; omega
                  have KA2 : Hid (Calls Try.prog 11 #[.agg (shpA s h), .agg #[.int .i64 (k : Nat), .int .i64 (j : Nat), .int .u8 0]] Z (Ret Z (.bool (pluggedB s k j)))) := Lib.hid (by
                    have := pAt_any s h ⟨k, j, 0⟩ Z HWZ.out.rd HLM.out.few HLM.out.ints ⟨by unfold I64; simp only; omega, by unfold I64; simp only; omega⟩
                    rw [at_zero hlt hjc] at this
                    exact this)
                  have SC := HWZ.out.bk
                  unfold shpA at SC KA2
                  have e0 : Z.cell? ⟨g, 0, none⟩ = some (.slice h.A1 s.cols.length h.c1) := SC.cell 0
                  have e1 : Z.cell? ⟨g, 1, none⟩ = some (.slice h.A2 s.covs.length h.c2) := SC.cell 1
                  have e2 : Z.cell? ⟨g, 2, none⟩ = some (.int .i64 s.l0) := SC.cell 2
                  have e3 : Z.cell? ⟨g, 3, none⟩ = some (.int .i64 s.l1) := SC.cell 3
                  have e4 : Z.cell? ⟨g, 4, none⟩ = some (.int .i64 s.l2) := SC.cell 4
                  have e5 : Z.cell? ⟨g, 5, none⟩ = some (.int .i64 s.l3) := SC.cell 5
                  have e6 : Z.cell? ⟨g, 6, none⟩ = some (.slice h.A3 s.rows.length h.c3) := SC.cell 6
                  have e7 : Z.cell? ⟨g, 7, none⟩ = some (.slice h.A4 s.frames.length h.c4) := SC.cell 7
                  have e8 : Z.cell? ⟨g, 8, none⟩ = some (.slice h.A5 s.tanks.length h.c5) := SC.cell 8
                  have e9 : Z.cell? ⟨g, 9, none⟩ = some (.int .i64 s.m0) := SC.cell 9
                  have e10 : Z.cell? ⟨g, 10, none⟩ = some (.int .i64 s.m1) := SC.cell 10
                  have e11 : Z.cell? ⟨g, 11, none⟩ = some (.int .i64 s.m2) := SC.cell 11
                  have e12 : Z.cell? ⟨g, 12, none⟩ = some (.int .i64 s.m3) := SC.cell 12
                  clear SC
                  go_wp2_with fail
                  refine KA2.out.mono ?_
                  rintro e Z2 ⟨rfl, hb⟩
                  simp only
                  clear KA2 e0 e1 e2 e3 e4 e5 e6 e7 e8 e9 e10 e11 e12 HWZ HBZ
                  replace HOZ := Lib.hid (HOZ.out.below hb)
                  replace HBJ := Lib.hid (HBJ.out.trans (hb.mono HBJ.out.size))
                  clear hb
                  try clear Z
                  cases hpj : pluggedB s k j with
                  | true =>
                    have HN : Hid (moreL s k t (j + 1) = m ++ [(j : Int)]) := Lib.hid (by rw [HML.out, hpj]; simp)
                    clear HML
                    obtain ⟨xs, ho, hf, hS⟩ := HOZ.out
                    have hsz := HBJ.out.size
                    go_wp2_with (at_builtin; (refine wpList_append1 el_int rfl (.tmp 89) (.tmp 91) rfl Y4.heap.size _ m.length xs rfl ho #[.int .i64 j] _ rfl rfl rfl ?c1 ?c2 ?c3 ?_))
                    case c1 => unfold maxLen; omega
                    case c2 => omega
                    case c3 => omega
                    intro v' w3 hown' hgr hd3 hbel
                    go_wp2
                    go_roundw
                    case rel => first | exact ⟨j + 1, by omega, by go_num, Lib.hid ⟨by rw [HN.out]; exact OwnS.int1 hf hS hown' hgr hd3, HBJ.out.trans hbel⟩⟩ | ((repeat apply Exists.intro); (first | exact ⟨⟨j + 1, by omega, by go_num, Lib.hid ⟨by rw [HN.out]; exact OwnS.int1 hf hS hown' hgr hd3, HBJ.out.trans hbel⟩⟩, rfl⟩ | exact ⟨by omega, by go_num, Lib.hid ⟨by rw [HN.out]; exact OwnS.int1 hf hS hown' hgr hd3, HBJ.out.trans hbel⟩⟩))
                    case measure => simp [intOf]; omega
                  | false =>
                    have HN : Hid (moreL s k t (j + 1) = m) := Lib.hid (by rw [HML.out, hpj]; simp [hjt])
                    clear HML
                    go_wp2_with fail
                    go_roundw
                    case rel => first | exact ⟨j + 1, by omega, by go_num, Lib.hid ⟨by rw [HN.out]; exact HOZ.out, HBJ.out⟩⟩ | ((repeat apply Exists.intro); (first | exact ⟨⟨j + 1, by omega, by go_num, Lib.hid ⟨by rw [HN.out]; exact HOZ.out, HBJ.out⟩⟩, rfl⟩ | exact ⟨by omega, by go_num, Lib.hid ⟨by rw [HN.out]; exact HOZ.out, HBJ.out⟩⟩))
                    case measure => simp [intOf]; omega
              · skip
                have hj' : ((j : Nat) : Int) = x.tiers := by omega
                have hjc : (j : Int) = (s.cols.getD k default).tiers := by rw [HCX.out]; exact hj'
                have htc : (t : Int) < (s.cols.getD k default).tiers := by rw [HCX.out]; exact htl
                have HOZ := Lib.hid HLJ.out.1
                have HBJ := Lib.hid HLJ.out.2
                clear HLJ HWZ HBZ
                obtain ⟨A7, c7, rfl, hc7, _, _⟩ := HOZ.out.sl'
                rw [← hj'] at d3
                have HLZ := Lib.hid (HL.out.on HBJ.out)
                obtain ⟨q, hq, hqb, hqB, _⟩ := HLZ.out.block
                have HMP := Lib.hid (MP.make (W := W) (BL := Y4.heap.size) HLZ.out hq hqb hqB hlt hjc (HKT.out.below HBJ.out HKT.out.lt) (HKX3.out.below HBJ.out HKX3.out.lt) HGT.out HGX.out HWB.out (HB3.out.trans (HBJ.out.mono HB3.out.size)) HL.out.mid.2 HOZ.out)
                obtain ⟨Ap, p8, d8, f8⟩ := HLZ.out.cell8 hq hlt
                have t0 : Z.cell? ⟨gt, 0, none⟩ = some (.slice (some ⟨q, 0, none⟩) s.cols.length h'.c1) := by
                  have h0 : Z.cell? ⟨gt, 0, none⟩ = some (.slice h'.A1 s.cols.length h'.c1) := (HKT.out.below HBJ.out HKT.out.lt).cell 0
                  rw [hq] at h0
                  exact h0
                clear HOZ HBJ HL HLZ HKT HKX3 HGT HGX HB3 HWB hj hjl hq hqb hqB hjc hc7 hj'
                generalize (moreL s k t j).length = n7 at *
                go_upto_region 19 with fail
                clear e0 d3 d8 f8 t0
                generalize (World.setCell Z _ _) = Z9 at *
                try clear Z
                try clear Y4
                have HW9 := Lib.hid (HBE.out.trans (HMP.out.be.mono HBE.out.size))
                have HWK := Lib.hid (HWQ.out k t hlt htc)
                obtain ⟨qq, hqq⟩ : ∃ f : Stw → Bool, f = (fun x : Stw => !(decide (x.slot.col = (k : Int)) && decide (x.slot.tier = (t : Int)))) := ⟨_, rfl⟩
                rw [← hqq] at HWK
                have HQQ : Hid (∀ y : Stw, qq y = !(decide (y.slot.col = (k : Int)) && decide (y.slot.tier = (t : Int)))) := Lib.hid (fun y => by rw [hqq])
                clear hqq
                go_wp2_with fail
                go_loopw [23, 101] (fun v i wr => ∃ i0 : Nat, i0 ≤ was.length ∧ i = .int .i64 i0 ∧ Hid (OwnS tInt 3 wr Z9.heap.size (Lt Z9.heap.size) v ((was.take i0).flatMap (wantR qq st)) ∧ Below Z9.heap.size Z9 wr)) (fun _ i _ => was.length - (intOf i).toNat)
                case atStart => exact ⟨0, Nat.zero_le _, rfl, Lib.hid ⟨OwnS.nil fun b hb => hb, Below.refl _ _⟩⟩
                case round =>
                  obtain ⟨i, hi, rfl, HVI⟩ := hrel
                  obtain ⟨X, rfl⟩ : ∃ V, V = wr := ⟨_, rfl⟩
                  by_cases hil : i < was.length
                  · obtain ⟨b6, off6, rfl, _, c6e⟩ := (HS6.out.on (HMP.out.be.trans (HVI.out.2.mono HMP.out.be.size))).int hil
                    have i0 : (0 : Int) ≤ (i : Int) := by omega
                    have i1 : (i : Int) < (was.length : Int) := by omega
                    have HFS := Lib.hid (flat_succ (wantR qq st) was hil)
                    have hfl := flat_take_len qq st was i hsl hpl9
                    generalize was.getD i 0 = id at *
                    generalize (was.take i).flatMap (wantR qq st) = pre at *
                    go_upto_region 23 with fail
                    clear c6e
                    go_wp2_with fail
                    go_loopw [23, 107] (fun v j wr => ∃ j0 : Nat, j0 ≤ st.length ∧ j = .int .i64 j0 ∧ Hid (OwnS tInt 3 wr Z9.heap.size (Lt Z9.heap.size) v (pre ++ wantR qq (st.take j0) id) ∧ Below Z9.heap.size Z9 wr)) (fun _ j _ => st.length - (intOf j).toNat)
                    case atStart => exact ⟨0, Nat.zero_le _, rfl, Lib.hid ⟨by simpa [wantR] using HVI.out.1, HVI.out.2⟩⟩
                    case round =>
                      clear HVI
                      try clear X
                      obtain ⟨j, hj, rfl, HVJ⟩ := hrel
                      obtain ⟨X2, rfl⟩ : ∃ V, V = wr := ⟨_, rfl⟩
                      by_cases hjl : j < st.length
                      · skip
                        obtain ⟨b4, off4, rfl, hb4, d0, d1, d2, d3⟩ := (HW.out.on (HW9.out.trans (HVJ.out.2.mono HW9.out.size))).sx.stw hjl
                        have j0 : (0 : Int) ≤ (j : Int) := by omega
                        have j1 : (j : Int) < (st.length : Int) := by omega
                        have HTS := Lib.hid (want_succ qq st id hjl)
                        have hwl := want_len qq st id j
                        have HQY := Lib.hid (HQQ.out (st.getD j default))
                        generalize wantR qq (st.take j) id = wl at *
                        generalize st.getD j default = y at *
                        obtain ⟨yb, yc, yt, yh⟩ := y
                        simp only at d0 d1 d2 d3 HTS HQY
                        have HKY := Lib.hid (Bk.new X2 49 #[.int .i64 yb, .int .i64 yc, .int .i64 yt, .int .u8 (yh : Nat)])
                        have hz := ba1 X2 (.cells #[.int .i64 yb, .int .i64 yc, .int .i64 yt, .int .u8 (yh : Nat)] 49)
                        have HOX := Lib.hid (HVJ.out.1.below hz)
                        have HBJ := Lib.hid (HVJ.out.2.trans (hz.mono HVJ.out.2.size))
                        clear hz HVJ
                        go_upto_region 26 with fail
                        clear d0 d1 d2 d3
                        generalize X2.heap.size = gy at *
                        generalize (X2.alloc _) = X3 at *
                        try clear X2
                        have y0 : X3.cell? ⟨gy, 0, none⟩ = some (.int .i64 yb) := HKY.out.cell 0
                        have y1 : X3.cell? ⟨gy, 1, none⟩ = some (.int .i64 yc) := HKY.out.cell 1
                        have y2 : X3.cell? ⟨gy, 2, none⟩ = some (.int .i64 yt) := HKY.out.cell 2
                        clear HKY
                        by_cases p1 : yb = id
                        · have b1 : (yb == id) = true := by simp [p1]
                          by_cases p2 : yc = (k : Int)
                          · have b2 : (yc == (k : Int)) = true := by simp [p2]
                            have b2' : (yc != (k : Int)) = false := by simp [p2]
                            by_cases p3 : yt = (t : Int)
                            · have b3 : (yt == (t : Int)) = true := by simp [p3]
                              have b3' : (yt != (t : Int)) = false := by simp [p3]
                              have HN : Hid (pre ++ wantR qq (st.take (j + 1)) id = pre ++ wl) := Lib.hid (by rw [HTS.out, if_neg (by rw [HQY.out]; simp [p1, p2, p3]), List.append_nil])
                              clear HTS HQY
                              clear p1 p2 p3
                              go_wp2_with fail
                              go_roundw
                              case rel => first | exact ⟨j + 1, by omega, by go_num, Lib.hid ⟨by rw [HN.out]; exact HOX.out, HBJ.out⟩⟩ | ((repeat apply Exists.intro); (first | exact ⟨⟨j + 1, by omega, by go_num, Lib.hid ⟨by rw [HN.out]; exact HOX.out, HBJ.out⟩⟩, rfl⟩ | exact ⟨by omega, by go_num, Lib.hid ⟨by rw [HN.out]; exact HOX.out, HBJ.out⟩⟩))
                              case measure => simp [intOf]; omega
                            · have b3 : (yt == (t : Int)) = false := by simp [p3]
                              have b3' : (yt != (t : Int)) = true := by simp [p3]
                              have HN : Hid (pre ++ wantR qq (st.take (j + 1)) id = pre ++ (wl ++ [id])) := Lib.hid (by rw [HTS.out, if_pos (by rw [HQY.out]; simp [p1, p2, p3])])
                              clear HTS HQY
                              clear p1 p2 p3
                              obtain ⟨xs, ho, hf, hS⟩ := HOX.out
                              have hsz := HBJ.out.size
                              go_wp2_with (at_builtin; (refine wpList_append1 el_int rfl (.tmp 129) (.tmp 131) rfl Z9.heap.size _ (pre ++ wl).length xs rfl ho #[.int .i64 id] _ rfl rfl rfl ?c1 ?c2 ?c3 ?_))
                              case c1 => unfold maxLen; rw [List.length_append]; omega
                              case c2 => rw [List.length_append]; omega
                              case c3 => omega
                              intro v' w3 hown' hgr hd3 hbel
                              have ho2 := OwnS.int1 (l := pre ++ wl) (x := id) hf hS (by rw [List.length_append]; exact hown') hgr hd3
                              rw [List.append_assoc, ← HN.out] at ho2
                              have HO2 := Lib.hid ho2
                              clear ho2 hown' hf hS hgr hd3 ho
                              go_wp2
                              go_roundw
                              case rel => first | exact ⟨j + 1, by omega, by go_num, Lib.hid ⟨HO2.out, HBJ.out.trans hbel⟩⟩ | ((repeat apply Exists.intro); (first | exact ⟨⟨j + 1, by omega, by go_num, Lib.hid ⟨HO2.out, HBJ.out.trans hbel⟩⟩, rfl⟩ | exact ⟨by omega, by go_num, Lib.hid ⟨HO2.out, HBJ.out.trans hbel⟩⟩))
                              case measure => simp [intOf]; omega
                          · have b2 : (yc == (k : Int)) = false := by simp [p2]
                            have b2' : (yc != (k : Int)) = true := by simp [p2]
                            have HN : Hid (pre ++ wantR qq (st.take (j + 1)) id = pre ++ (wl ++ [id])) := Lib.hid (by rw [HTS.out, if_pos (by rw [HQY.out]; simp [p1, p2])])
                            clear HTS HQY
                            clear p1 p2
                            obtain ⟨xs, ho, hf, hS⟩ := HOX.out
                            have hsz := HBJ.out.size
                            go_wp2_with (at_builtin; (refine wpList_append1 el_int rfl (.tmp 129) (.tmp 131) rfl Z9.heap.size _ (pre ++ wl).length xs rfl ho #[.int .i64 id] _ rfl rfl rfl ?c1 ?c2 ?c3 ?_))
                            case c1 => unfold maxLen; rw [List.length_append]; omega
                            case c2 => rw [List.length_append]; omega
                            case c3 => omega
                            intro v' w3 hown' hgr hd3 hbel
                            have ho2 := OwnS.int1 (l := pre ++ wl) (x := id) hf hS (by rw [List.length_append]; exact hown') hgr hd3
                            rw [List.append_assoc, ← HN.out] at ho2
                            have HO2 := Lib.hid ho2
                            clear ho2 hown' hf hS hgr hd3 ho
                            go_wp2
                            go_roundw
                            case rel => first | exact ⟨j + 1, by omega, by go_num, Lib.hid ⟨HO2.out, HBJ.out.trans hbel⟩⟩ | ((repeat apply Exists.intro); (first | exact ⟨⟨j + 1, by omega, by go_num, Lib.hid ⟨HO2.out, HBJ.out.trans hbel⟩⟩, rfl⟩ | exact ⟨by omega, by go_num, Lib.hid ⟨HO2.out, HBJ.out.trans hbel⟩⟩))
                            case measure => simp [intOf]; omega
                        · have b1 : (yb == id) = false := by simp [p1]
                          have HN : Hid (pre ++ wantR qq (st.take (j + 1)) id = pre ++ wl) := Lib.hid (by rw [HTS.out, if_neg (by rw [HQY.out]; simp [p1]), List.append_nil])
                          clear HTS HQY
                          clear p1
                          go_wp2_with fail
                          go_roundw
                          case rel => first | exact ⟨j + 1, by omega, by go_num, Lib.hid ⟨by rw [HN.out]; exact HOX.out, HBJ.out⟩⟩ | ((repeat apply Exists.intro); (first | exact ⟨⟨j + 1, by omega, by go_num, Lib.hid ⟨by rw [HN.out]; exact HOX.out, HBJ.out⟩⟩, rfl⟩ | exact ⟨by omega, by go_num, Lib.hid ⟨by rw [HN.out]; exact HOX.out, HBJ.out⟩⟩))
                          case measure => simp [intOf]; omega
                      · obtain rfl : j = st.length := by omega
                        have HVK : Hid (OwnS tInt 3 X2 Z9.heap.size (Lt Z9.heap.size) _ (pre ++ wantR qq st id) ∧ Below Z9.heap.size Z9 X2) := Lib.hid (by have := HVJ.out; rw [List.take_length] at this; exact this)
                        clear HVJ
                        go_wp2_with fail
                        go_roundw
                        case rel => first | exact ⟨i + 1, by omega, by go_num, Lib.hid ⟨by rw [HFS.out]; exact HVK.out.1, HVK.out.2⟩⟩ | ((repeat apply Exists.intro); (first | exact ⟨⟨i + 1, by omega, by go_num, Lib.hid ⟨by rw [HFS.out]; exact HVK.out.1, HVK.out.2⟩⟩, rfl⟩ | exact ⟨by omega, by go_num, Lib.hid ⟨by rw [HFS.out]; exact HVK.out.1, HVK.out.2⟩⟩))
                        case measure => simp [intOf]; omega
                  · obtain rfl : i = was.length := by omega
                    have HVK : Hid (OwnS tInt 3 X Z9.heap.size (Lt Z9.heap.size) _ (pfF (moreS s k t) bs st) ∧ Below Z9.heap.size Z9 X) := Lib.hid (by have := HVI.out; rw [List.take_length, HWK.out] at this; exact this)
                    clear HVI HWK HQQ HWQ
                    obtain ⟨A8, c8, rfl, hc8, hm8, hs8⟩ := HVK.out.1.sl'
                    have HS8 := Lib.hid hs8
                    have HMX := Lib.hid (HMP.out.on HVK.out.2)
                    have HBX := Lib.hid (HBE.out.trans (HMX.out.be.mono HBE.out.size))
                    have HWX := Lib.hid (HW.out.on HBX.out)
                    clear hs8 HVK HMP HW9
                    try clear Z9
                    have KS1 : Hid (∀ U : World, Cb X U → Calls Try.prog 20 #[.agg (shpA s h')] U (Ret U (.int .i64 ((supF s : Int) + 1)))) := Lib.hid fun U hU => by
                      have k1 := pSupply_any (moreS s k t) h' U (HMX.out.on hU).rd (more_few HLM.out hlt) (more_ints HLM.out hlt)
                      rw [more_sup hlt htc hpb, more_shpA] at k1
                      exact k1
                    have KS2 : Hid (∀ U : World, Cb X U → Calls Try.prog 20 #[.agg (shpA s h)] U (Ret U (.int .i64 (supF s : Nat)))) := Lib.hid fun U hU => pSupply_any s h U (HWX.out.on hU).rd HLM.out.few HLM.out.ints
                    have KA2 : Hid (∀ U : World, Cb X U → Calls Try.prog 11 #[.agg (shpA s h'), .agg #[.int .i64 (k : Nat), .int .i64 (t : Nat), .int .u8 0]] U (Ret U (.bool true))) := Lib.hid fun U hU => by
                      have k1 := pAt_any (moreS s k t) h' ⟨k, t, 0⟩ U (HMX.out.on hU).rd (more_few HLM.out hlt) (more_ints HLM.out hlt) ⟨by unfold I64; simp only; omega, by unfold I64; simp only; omega⟩
                      rw [more_at hlt htc, more_shpA] at k1
                      exact k1
                    have KF2 : Hid (∀ U : World, Cb X U → Calls Try.prog 15 #[.agg (shpA s h'), .slice A1 bs.length q1, .slice A3 st.length q3] U (fun e w' => ∃ A c, e = .returned (.slice A (pfF (moreS s k t) bs st).length c) ∧ (pfF (moreS s k t) bs st).length ≤ c ∧ SlT tInt w' (Lt w'.heap.size) A (pfF (moreS s k t) bs st) ∧ Below U.heap.size U w')) := Lib.hid fun U hU => by
                      have r := HWX.out.on hU
                      have k1 := pFaults_any (moreS s k t) h' A1 q1 bs A3 q3 st U (HMX.out.on hU).rd (more_few HLM.out hlt) (more_ints HLM.out hlt) r.bx HLD.out.bl r.sx HLD.out.sl HI6.out
                      rw [more_shpA] at k1
                      refine k1.mono ?_
                      rintro e w' ⟨v, rfl, ho, hb⟩
                      obtain ⟨A, c, rfl, hc, _, hs⟩ := ho.sl
                      exact ⟨A, c, rfl, hc, hs, hb⟩
                    have KSI : Hid (∀ (U : World) (A c), Cb X U → SlT tInt U (Lt U.heap.size) A (pfF (moreS s k t) bs st) → Calls Try.prog 18 #[.slice A (pfF (moreS s k t) bs st).length c, .slice A8 (pfF (moreS s k t) bs st).length c8] U (Rets U (.bool true))) := Lib.hid fun U A c hU hs => by
                      have k1 := sameInts_any A A8 c c8 _ _ (Lt U.heap.size) (Lt U.heap.size) U hs (HS8.out.on hU) (by rw [pf_eq, List.length_map]; have := List.length_filter_le (cuB (moreS s k t) bs) st; unfold maxLen; omega)
                      rw [decide_eq_true rfl] at k1
                      exact k1
                    have hsu := sup_few HLM.out
                    generalize pfF (moreS s k t) bs st = L at *
                    generalize supF s = su at *
                    have SC := HWX.out.bk
                    have TC := HMX.out.kt
                    have x0 : X.cell? ⟨gx, 0, none⟩ = some (.int .i64 (k : Nat)) := HMX.out.kx.cell 0
                    have x1 : X.cell? ⟨gx, 1, none⟩ = some (.int .i64 (t : Nat)) := HMX.out.kx.cell 1
                    have x2 : X.cell? ⟨gx, 2, none⟩ = some (.int .u8 0) := HMX.out.kx.cell 2
                    unfold shpA at SC TC KS1 KS2 KA2 KF2
                    have e0 : X.cell? ⟨g, 0, none⟩ = some (.slice h.A1 s.cols.length h.c1) := SC.cell 0
                    have e1 : X.cell? ⟨g, 1, none⟩ = some (.slice h.A2 s.covs.length h.c2) := SC.cell 1
                    have e2 : X.cell? ⟨g, 2, none⟩ = some (.int .i64 s.l0) := SC.cell 2
                    have e3 : X.cell? ⟨g, 3, none⟩ = some (.int .i64 s.l1) := SC.cell 3
                    have e4 : X.cell? ⟨g, 4, none⟩ = some (.int .i64 s.l2) := SC.cell 4
                    have e5 : X.cell? ⟨g, 5, none⟩ = some (.int .i64 s.l3) := SC.cell 5
                    have e6 : X.cell? ⟨g, 6, none⟩ = some (.slice h.A3 s.rows.length h.c3) := SC.cell 6
                    have e7 : X.cell? ⟨g, 7, none⟩ = some (.slice h.A4 s.frames.length h.c4) := SC.cell 7
                    have e8 : X.cell? ⟨g, 8, none⟩ = some (.slice h.A5 s.tanks.length h.c5) := SC.cell 8
                    have e9 : X.cell? ⟨g, 9, none⟩ = some (.int .i64 s.m0) := SC.cell 9
                    have e10 : X.cell? ⟨g, 10, none⟩ = some (.int .i64 s.m1) := SC.cell 10
                    have e11 : X.cell? ⟨g, 11, none⟩ = some (.int .i64 s.m2) := SC.cell 11
                    have e12 : X.cell? ⟨g, 12, none⟩ = some (.int .i64 s.m3) := SC.cell 12
                    have f0 : X.cell? ⟨gt, 0, none⟩ = some (Value.slice h'.A1 s.cols.length h'.c1) := TC.cell 0
                    have f1 : X.cell? ⟨gt, 1, none⟩ = some (Value.slice h'.A2 s.covs.length h'.c2) := TC.cell 1
                    have f2 : X.cell? ⟨gt, 2, none⟩ = some (.int .i64 s.l0) := TC.cell 2
                    have f3 : X.cell? ⟨gt, 3, none⟩ = some (.int .i64 s.l1) := TC.cell 3
                    have f4 : X.cell? ⟨gt, 4, none⟩ = some (.int .i64 s.l2) := TC.cell 4
                    have f5 : X.cell? ⟨gt, 5, none⟩ = some (.int .i64 s.l3) := TC.cell 5
                    have f6 : X.cell? ⟨gt, 6, none⟩ = some (.slice h'.A3 s.rows.length h'.c3) := TC.cell 6
                    have f7 : X.cell? ⟨gt, 7, none⟩ = some (.slice h'.A4 s.frames.length h'.c4) := TC.cell 7
                    have f8 : X.cell? ⟨gt, 8, none⟩ = some (.slice h'.A5 s.tanks.length h'.c5) := TC.cell 8
                    have f9 : X.cell? ⟨gt, 9, none⟩ = some (.int .i64 s.m0) := TC.cell 9
                    have f10 : X.cell? ⟨gt, 10, none⟩ = some (.int .i64 s.m1) := TC.cell 10
                    have f11 : X.cell? ⟨gt, 11, none⟩ = some (.int .i64 s.m2) := TC.cell 11
                    have f12 : X.cell? ⟨gt, 12, none⟩ = some (.int .i64 s.m3) := TC.cell 12
                    clear SC TC
                    go_upto_region 30 with fail
                    refine wp_region_ogG [.val 0 (.agg #[.slice h'.A1 s.cols.length h'.c1, .slice h'.A2 s.covs.length h'.c2, .int .i64 s.l0, .int .i64 s.l1, .int .i64 s.l2, .int .i64 s.l3, .slice h'.A3 s.rows.length h'.c3, .slice h'.A4 s.frames.length h'.c4, .slice h'.A5 s.tanks.length h'.c5, .int .i64 s.m0, .int .i64 s.m1, .int .i64 s.m2, .int .i64 s.m3]),
                      .val 1 (.int .i64 ((su : Int) + 1)),
                      .val 2 (.agg #[.slice h.A1 s.cols.length h.c1, .slice h.A2 s.covs.length h.c2, .int .i64 s.l0, .int .i64 s.l1, .int .i64 s.l2, .int .i64 s.l3, .slice h.A3 s.rows.length h.c3, .slice h.A4 s.frames.length h.c4, .slice h.A5 s.tanks.length h.c5, .int .i64 s.m0, .int .i64 s.m1, .int .i64 s.m2, .int .i64 s.m3]),
                      .val 3 (.int .i64 (su : Nat)),
                      .val 4 (.int .i64 ((su : Int) + 1)),
                      .val 5 (.bool false),
                      .val 6 (.bool false),
                      .val 7 (.agg #[.slice h'.A1 s.cols.length h'.c1, .slice h'.A2 s.covs.length h'.c2, .int .i64 s.l0, .int .i64 s.l1, .int .i64 s.l2, .int .i64 s.l3, .slice h'.A3 s.rows.length h'.c3, .slice h'.A4 s.frames.length h'.c4, .slice h'.A5 s.tanks.length h'.c5, .int .i64 s.m0, .int .i64 s.m1, .int .i64 s.m2, .int .i64 s.m3]),
                      .val 8 (.agg #[.int .i64 (k : Nat), .int .i64 (t : Nat), .int .u8 0]),
                      .val 9 (.bool true),
                      .val 10 (.bool false),
                      .val 11 (.bool false),
                      .val 12 (.bool false),
                      .val 13 (.agg #[.slice h'.A1 s.cols.length h'.c1, .slice h'.A2 s.covs.length h'.c2, .int .i64 s.l0, .int .i64 s.l1, .int .i64 s.l2, .int .i64 s.l3, .slice h'.A3 s.rows.length h'.c3, .slice h'.A4 s.frames.length h'.c4, .slice h'.A5 s.tanks.length h'.c5, .int .i64 s.m0, .int .i64 s.m1, .int .i64 s.m2, .int .i64 s.m3]),
                      .val 14 (.slice A1 bs.length q1),
                      .val 15 (.slice A3 st.length q3),
                      .slT tInt 16 L,
                      .val 17 (.slice A8 L.length c8),
                      .val 18 (.bool true),
                      .val 19 (.bool false),
                      .val 20 (.bool false)]
                      [[], [0], [], [2], [3], [1, 4], [5], [6], [6], [6, 7, 8], [6, 9], [6, 10], [11], [12], [12], [12], [12, 13, 14, 15], [12], [12, 16, 17], [12, 18], [12, 19]] [20] (Cb X) (by kernel_rfl) (by kernel_rfl) (Cb.drew X) ⟨?_, ?_, ?_, ?_, ?_, ?_, ?_, ?_, ?_, ?_, ?_, ?_, ?_, ?_, ?_, ?_, ?_, ?_, ?_, ?_, ?_, trivial⟩ ?_
                    case refine_1 =>
                      refine StepG.of rfl ?_
                      refine StepL.up fun x V hV hu K Q hK => ?_
                      have ff0 := hV.cell f0
                      have ff1 := hV.cell f1
                      have ff2 := hV.cell f2
                      have ff3 := hV.cell f3
                      have ff4 := hV.cell f4
                      have ff5 := hV.cell f5
                      have ff6 := hV.cell f6
                      have ff7 := hV.cell f7
                      have ff8 := hV.cell f8
                      have ff9 := hV.cell f9
                      have ff10 := hV.cell f10
                      have ff11 := hV.cell f11
                      have ff12 := hV.cell f12
                      clear hu
                      rw [owp_eq]
                      go_big_op
                      exact hK _ _ (Below.refl _ _) rfl
                    case refine_2 =>
                      refine StepG.of rfl ?_
                      refine StepL.up fun x V hV hu K Q hK => ?_
                      have u0 : x 0 = _ := hu 0 (by decide)
                      clear hu
                      simp only [putL, List.set_cons_zero, List.set_cons_succ] at hK ⊢
                      rw [owp_eq]
                      go_big_op
                      refine (KS1.out V hV).mono ?_
                      rintro e V' ⟨rfl, hb⟩
                      exact hK _ _ hb rfl
                    case refine_3 =>
                      refine StepG.of rfl ?_
                      refine StepL.up fun x V hV hu K Q hK => ?_
                      have fe0 := hV.cell e0
                      have fe1 := hV.cell e1
                      have fe2 := hV.cell e2
                      have fe3 := hV.cell e3
                      have fe4 := hV.cell e4
                      have fe5 := hV.cell e5
                      have fe6 := hV.cell e6
                      have fe7 := hV.cell e7
                      have fe8 := hV.cell e8
                      have fe9 := hV.cell e9
                      have fe10 := hV.cell e10
                      have fe11 := hV.cell e11
                      have fe12 := hV.cell e12
                      clear hu
                      simp only [putL, List.set_cons_zero, List.set_cons_succ] at hK ⊢
                      rw [owp_eq]
                      go_big_op
                      exact hK _ _ (Below.refl _ _) rfl
                    case refine_4 =>
                      refine StepG.of rfl ?_
                      refine StepL.up fun x V hV hu K Q hK => ?_
                      have u2 : x 2 = _ := hu 2 (by decide)
                      clear hu
                      simp only [putL, List.set_cons_zero, List.set_cons_succ] at hK ⊢
                      rw [owp_eq]
                      go_big_op
                      refine (KS2.out V hV).mono ?_
                      rintro e V' ⟨rfl, hb⟩
                      exact hK _ _ hb rfl
                    case refine_5 =>
                      refine StepG.of rfl ?_
                      refine StepL.up fun x V hV hu K Q hK => ?_
                      have u3 : x 3 = _ := hu 3 (by decide)
                      clear hu
                      simp only [putL, List.set_cons_zero, List.set_cons_succ] at hK ⊢
                      rw [owp_eq]
                      go_big_op
                      exact hK _ _ (Below.refl _ _) rfl
                    case refine_6 =>
                      refine StepG.of rfl ?_
                      refine StepL.up fun x V hV hu K Q hK => ?_
                      have u1 : x 1 = _ := hu 1 (by decide)
                      have u4 : x 4 = _ := hu 4 (by decide)
                      clear hu
                      simp only [putL, List.set_cons_zero, List.set_cons_succ] at hK ⊢
                      rw [owp_eq]
                      go_big_op
                      exact hK _ _ (Below.refl _ _) rfl
                    case refine_7 =>
                      refine StepG.of rfl ?_
                      refine StepL.up fun x V hV hu K Q hK => ?_
                      have u5 : x 5 = _ := hu 5 (by decide)
                      clear hu
                      simp only [putL, List.set_cons_zero, List.set_cons_succ] at hK ⊢
                      rw [owp_eq]
                      go_big_op
                      exact hK _ _ (Below.refl _ _) rfl
                    case refine_8 =>
                      refine StepG.yes 6 false 141 rfl rfl (fun x => by simp only [putL, List.set_cons_zero, List.set_cons_succ]; rfl) rfl (fun x w h => h) ?_
                      refine StepL.up fun x V hV hu K Q hK => ?_
                      have u6 : x 6 = _ := hu 6 (by decide)
                      have ff0 := hV.cell f0
                      have ff1 := hV.cell f1
                      have ff2 := hV.cell f2
                      have ff3 := hV.cell f3
                      have ff4 := hV.cell f4
                      have ff5 := hV.cell f5
                      have ff6 := hV.cell f6
                      have ff7 := hV.cell f7
                      have ff8 := hV.cell f8
                      have ff9 := hV.cell f9
                      have ff10 := hV.cell f10
                      have ff11 := hV.cell f11
                      have ff12 := hV.cell f12
                      clear hu
                      simp only [putL, List.set_cons_zero, List.set_cons_succ] at hK ⊢
                      rw [owp_eq]
                      go_big_op
                      exact hK _ _ (Below.refl _ _) rfl
                    case refine_9 =>
                      refine StepG.yes 6 false 141 rfl rfl (fun x => by simp only [putL, List.set_cons_zero, List.set_cons_succ]; rfl) rfl (fun x w h => h) ?_
                      refine StepL.up fun x V hV hu K Q hK => ?_
                      have u6 : x 6 = _ := hu 6 (by decide)
                      have fx0 := hV.cell x0
                      have fx1 := hV.cell x1
                      have fx2 := hV.cell x2
                      clear hu
                      simp only [putL, List.set_cons_zero, List.set_cons_succ] at hK ⊢
                      rw [owp_eq]
                      go_big_op
                      exact hK _ _ (Below.refl _ _) rfl
                    case refine_10 =>
                      refine StepG.yes 6 false 141 rfl rfl (fun x => by simp only [putL, List.set_cons_zero, List.set_cons_succ]; rfl) rfl (fun x w h => h) ?_
                      refine StepL.up fun x V hV hu K Q hK => ?_
                      have u6 : x 6 = _ := hu 6 (by decide)
                      have u7 : x 7 = _ := hu 7 (by decide)
                      have u8 : x 8 = _ := hu 8 (by decide)
                      clear hu
                      simp only [putL, List.set_cons_zero, List.set_cons_succ] at hK ⊢
                      rw [owp_eq]
                      go_big_op
                      refine (KA2.out V hV).mono ?_
                      rintro e V' ⟨rfl, hb⟩
                      exact hK _ _ hb rfl
                    case refine_11 =>
                      refine StepG.yes 6 false 141 rfl rfl (fun x => by simp only [putL, List.set_cons_zero, List.set_cons_succ]; rfl) rfl (fun x w h => h) ?_
                      refine StepL.up fun x V hV hu K Q hK => ?_
                      have u6 : x 6 = _ := hu 6 (by decide)
                      have u9 : x 9 = _ := hu 9 (by decide)
                      clear hu
                      simp only [putL, List.set_cons_zero, List.set_cons_succ] at hK ⊢
                      rw [owp_eq]
                      go_big_op
                      exact hK _ _ (Below.refl _ _) rfl
                    case refine_12 =>
                      refine StepG.of rfl ?_
                      refine StepL.up fun x V hV hu K Q hK => ?_
                      have u6 : x 6 = _ := hu 6 (by decide)
                      have u10 : x 10 = _ := hu 10 (by decide)
                      clear hu
                      simp only [putL, List.set_cons_zero, List.set_cons_succ] at hK ⊢
                      rw [owp_eq]
                      go_big_op
                      exact hK _ _ (Below.refl _ _) rfl
                    case refine_13 =>
                      refine StepG.of rfl ?_
                      refine StepL.up fun x V hV hu K Q hK => ?_
                      have u11 : x 11 = _ := hu 11 (by decide)
                      clear hu
                      simp only [putL, List.set_cons_zero, List.set_cons_succ] at hK ⊢
                      rw [owp_eq]
                      go_big_op
                      exact hK _ _ (Below.refl _ _) rfl
                    case refine_14 =>
                      refine StepG.yes 12 false 147 rfl rfl (fun x => by simp only [putL, List.set_cons_zero, List.set_cons_succ]; rfl) rfl (fun x w h => h) ?_
                      refine StepL.up fun x V hV hu K Q hK => ?_
                      have u12 : x 12 = _ := hu 12 (by decide)
                      have ff0 := hV.cell f0
                      have ff1 := hV.cell f1
                      have ff2 := hV.cell f2
                      have ff3 := hV.cell f3
                      have ff4 := hV.cell f4
                      have ff5 := hV.cell f5
                      have ff6 := hV.cell f6
                      have ff7 := hV.cell f7
                      have ff8 := hV.cell f8
                      have ff9 := hV.cell f9
                      have ff10 := hV.cell f10
                      have ff11 := hV.cell f11
                      have ff12 := hV.cell f12
                      clear hu
                      simp only [putL, List.set_cons_zero, List.set_cons_succ] at hK ⊢
                      rw [owp_eq]
                      go_big_op
                      exact hK _ _ (Below.refl _ _) rfl
                    case refine_15 =>
                      refine StepG.yes 12 false 147 rfl rfl (fun x => by simp only [putL, List.set_cons_zero, List.set_cons_succ]; rfl) rfl (fun x w h => h) ?_
                      refine StepL.up fun x V hV hu K Q hK => ?_
                      have u12 : x 12 = _ := hu 12 (by decide)
                      clear hu
                      simp only [putL, List.set_cons_zero, List.set_cons_succ] at hK ⊢
                      rw [owp_eq]
                      go_big_op
                      exact hK _ _ (Below.refl _ _) rfl
                    case refine_16 =>
                      refine StepG.yes 12 false 147 rfl rfl (fun x => by simp only [putL, List.set_cons_zero, List.set_cons_succ]; rfl) rfl (fun x w h => h) ?_
                      refine StepL.up fun x V hV hu K Q hK => ?_
                      have u12 : x 12 = _ := hu 12 (by decide)
                      clear hu
                      simp only [putL, List.set_cons_zero, List.set_cons_succ] at hK ⊢
                      rw [owp_eq]
                      go_big_op
                      exact hK _ _ (Below.refl _ _) rfl
                    case refine_17 =>
                      refine StepG.yes 12 false 147 rfl rfl (fun x => by simp only [putL, List.set_cons_zero, List.set_cons_succ]; rfl) rfl (fun x w h => h) ?_
                      refine StepL.up fun x V hV hu K Q hK => ?_
                      have u12 : x 12 = _ := hu 12 (by decide)
                      have u13 : x 13 = _ := hu 13 (by decide)
                      have u14 : x 14 = _ := hu 14 (by decide)
                      have u15 : x 15 = _ := hu 15 (by decide)
                      clear hu
                      simp only [putL, List.set_cons_zero, List.set_cons_succ] at hK ⊢
                      rw [owp_eq]
                      go_big_op
                      refine (KF2.out V hV).mono ?_
                      rintro e V' ⟨A, c, rfl, hc, hs, hb⟩
                      exact hK _ _ hb ⟨A, c, rfl, hc, hs⟩
                    case refine_18 =>
                      refine StepG.yes 12 false 147 rfl rfl (fun x => by simp only [putL, List.set_cons_zero, List.set_cons_succ]; rfl) rfl (fun x w h => h) ?_
                      refine StepL.up fun x V hV hu K Q hK => ?_
                      have u12 : x 12 = _ := hu 12 (by decide)
                      clear hu
                      simp only [putL, List.set_cons_zero, List.set_cons_succ] at hK ⊢
                      rw [owp_eq]
                      go_big_op
                      exact hK _ _ (Below.refl _ _) rfl
                    case refine_19 =>
                      refine StepG.yes 12 false 147 rfl rfl (fun x => by simp only [putL, List.set_cons_zero, List.set_cons_succ]; rfl) rfl (fun x w h => h) ?_
                      refine StepL.up fun x V hV hu K Q hK => ?_
                      have u12 : x 12 = _ := hu 12 (by decide)
                      obtain ⟨A16, c16, u16, hc16, hs16⟩ := hu 16 (by decide)
                      have u17 : x 17 = _ := hu 17 (by decide)
                      clear hu
                      simp only [putL, List.set_cons_zero, List.set_cons_succ] at hK ⊢
                      rw [owp_eq]
                      go_big_op
                      refine (KSI.out V A16 c16 hV hs16).mono ?_
                      rintro e V' ⟨rfl, m, rfl⟩
                      exact hK _ _ (below_drewN (Below.refl _ _) m) rfl
                    case refine_20 =>
                      refine StepG.yes 12 false 147 rfl rfl (fun x => by simp only [putL, List.set_cons_zero, List.set_cons_succ]; rfl) rfl (fun x w h => h) ?_
                      refine StepL.up fun x V hV hu K Q hK => ?_
                      have u12 : x 12 = _ := hu 12 (by decide)
                      have u18 : x 18 = _ := hu 18 (by decide)
                      clear hu
                      simp only [putL, List.set_cons_zero, List.set_cons_succ] at hK ⊢
                      rw [owp_eq]
                      go_big_op
                      exact hK _ _ (Below.refl _ _) rfl
                    case refine_21 =>
                      refine StepG.of rfl ?_
                      refine StepL.up fun x V hV hu K Q hK => ?_
                      have u12 : x 12 = _ := hu 12 (by decide)
                      have u19 : x 19 = _ := hu 19 (by decide)
                      clear hu
                      simp only [putL, List.set_cons_zero, List.set_cons_succ] at hK ⊢
                      rw [owp_eq]
                      go_big_op
                      exact hK _ _ (Below.refl _ _) rfl
                    case refine_22 =>
                    intro xx Y9 hV hA
                    have h20 : xx 20 = _ := hA 20 rfl (by decide)
                    have HBF := Lib.hid (HMX.out.be.trans (Below.mono hV HMX.out.be.size))
                    clear hA hV KS1 KS2 KA2 KF2 KSI e0 e1 e2 e3 e4 e5 e6 e7 e8 e9 e10 e11 e12 f0 f1 f2 f3 f4 f5 f6 f7 f8 f9 f10 f11 f12 x0 x1 x2 HMX HWX HBX
                    simp only [layL, putL, List.set_cons_zero, List.set_cons_succ]
                    rw [h20]
                    clear h20
                    go_wp2_with fail
                    go_roundw
                    case rel => first | exact ⟨t + 1, by omega, by go_num, HBF⟩ | ((repeat apply Exists.intro); (first | exact ⟨⟨t + 1, by omega, by go_num, HBF⟩, rfl⟩ | exact ⟨by omega, by go_num, HBF⟩))
                    case measure => simp [intOf]; omega
        · have ht' : ((t : Nat) : Int) = x.tiers := by omega
          rw [← ht'] at d3
          clear htl ht'
          go_wp2_with fail
          go_roundw
          case rel => first | exact ⟨k + 1, by omega, by go_num, HB⟩ | ((repeat apply Exists.intro); (first | exact ⟨⟨k + 1, by omega, by go_num, HB⟩, rfl⟩ | exact ⟨by omega, by go_num, HB⟩))
          case measure => simp [intOf]; omega
    · skip
      obtain rfl : k = s.cols.length := by omega
      have HBY := Lib.hid (HBE.out.trans (HB.out.mono HBE.out.size))
      clear HB HPO
      by_cases hz : bs.length = 0
      · have z1 : decide ((0 : Int) < (bs.length : Int)) = false := decide_eq_false (by omega)
        have z2 : decide (0 < bs.length) = false := decide_eq_false (by omega)
        have HW9 := Lib.hid (HW.out.be.trans (HBY.out.mono HW.out.be.size))
        clear hz
        go_wp2_with fail
        refine (awake12_true _).mono ?_
        rintro e W9 ⟨rfl, hb⟩
        simp only
        go_wp2_with fail
        go_ret
        exact ⟨rfl, HW9.out.trans (hb.mono HW9.out.size)⟩
      · have z1 : decide ((0 : Int) < (bs.length : Int)) = true := decide_eq_true (by omega)
        have z2 : decide (0 < bs.length) = true := decide_eq_true (by omega)
        have KD1 := Lib.hid (pDemand_any A1 q1 bs Y (HW.out.on HBY.out).bx (by omega))
        go_upto_region 34 with fail
        go_wp2_with fail
        refine KD1.out.mono ?_
        rintro e Y2 ⟨rfl, hb⟩
        simp only
        replace HBY := Lib.hid (HBY.out.trans (hb.mono HBY.out.size))
        clear KD1 hb z1 z2
        try clear Y
        have hkk : which % bs.length < bs.length := Nat.mod_lt _ (by omega)
        have HMD : Hid (Int.tmod (which : Int) (bs.length : Int) = ((which % bs.length : Nat) : Int)) := Lib.hid (by rw [Int.tmod_eq_emod_of_nonneg (by omega)]; simp)
        generalize which % bs.length = kk at *
        have hmd := HMD.out
        have HDT := Lib.hid (demand_turn bs hkk)
        obtain ⟨bb, rfl, hbB, f8, c8, hset⟩ := box_turn (HOB.out.below HBY.out) hkk
        have HSET := Lib.hid hset
        clear hset HOB
        have k0' : (0 : Int) ≤ (kk : Int) := by omega
        have k1' : (kk : Int) < (bs.length : Int) := by omega
        have z3 : ((bs.length : Int) == 0) = false := beq_eq_false_iff_ne.2 (by omega)
        have z4 : ¬ (bs.length : Int) = 0 := by omega
        cases hr : (bs.getD kk zBx).reefer with
        | false =>
          rw [hr] at c8
          have KD2 : Hid (Calls Try.prog 21 #[.slice (some ⟨bb, 0, none⟩) bs.length q1] (Y2.setCell ⟨bb, kk * 9 + 8, none⟩ (.bool true)) (Ret (Y2.setCell ⟨bb, kk * 9 + 8, none⟩ (.bool true)) (.int .i64 (demF (bs.set kk (rfB true (bs.getD kk zBx))))))) := Lib.hid (by
            have k1 := pDemand_any (some ⟨bb, 0, none⟩) q1 _ _ (HSET.out true) (by rw [List.length_set]; omega)
            rw [List.length_set] at k1
            exact k1)
          have c9 : (Y2.setCell ⟨bb, kk * 9 + 8, none⟩ (.bool true)).cell? ⟨bb, kk * 9 + 8, none⟩ = some (.bool true) := World.cell?_setCell_same _ _ _ c8
          have HBN : Hid (Below w.heap.size w (Y2.setCell ⟨bb, kk * 9 + 8, none⟩ (.bool true))) := Lib.hid ((HW.out.be.trans (HBY.out.mono HW.out.be.size)).setCell (p := ⟨bb, kk * 9 + 8, none⟩) hbB _)
          rw [hr] at HDT
          have HDD : Hid (demF bs - 1 ≤ demF (bs.set kk (rfB true (bs.getD kk zBx))) ∧ demF (bs.set kk (rfB true (bs.getD kk zBx))) ≤ demF bs + 1 ∧ demF bs ≤ demF (bs.set kk (rfB true (bs.getD kk zBx)))) := Lib.hid ⟨HDT.out.1, HDT.out.2.1, HDT.out.2.2.1 rfl⟩
          clear HDT HSET
          have hd9 := dem_few bs
          generalize demF bs = d1 at *
          generalize demF (bs.set kk (rfB true (bs.getD kk zBx))) = d2 at *
          have q1' : decide (d2 < d1 - 1) = false := by have := HDD.out.1; simp; omega
          have q2' : decide (d1 + 1 < d2) = false := by have := HDD.out.2.1; simp; omega
          have q3' : decide (d2 < d1) = false := by have := HDD.out.2.2; simp; omega
          have hd8 := HDD.out
          go_upto_region 37 with fail
          generalize (World.setCell Y2 _ _) = Y3 at *
          clear c8
          try clear Y2
          go_wp2_with fail
          refine KD2.out.mono ?_
          rintro e Y4 ⟨rfl, hb⟩
          simp only
          have c9' : Y4.cell? ⟨bb, kk * 9 + 8, none⟩ = some (.bool true) := (hb.cell (p := ⟨bb, kk * 9 + 8, none⟩) (block_lt_of_cell c9)).trans c9
          have HW9 := Lib.hid (HBN.out.trans (hb.mono HBN.out.size))
          clear KD2 c9 HBN hb
          try clear Y3
          go_wp2_with fail
          refine (awake12_true _).mono ?_
          rintro e W9 ⟨rfl, hb⟩
          simp only
          go_wp2_with fail
          go_ret
          exact ⟨rfl, HW9.out.trans (hb.mono HW9.out.size)⟩
        | true =>
          rw [hr] at c8
          have KD2 : Hid (Calls Try.prog 21 #[.slice (some ⟨bb, 0, none⟩) bs.length q1] (Y2.setCell ⟨bb, kk * 9 + 8, none⟩ (.bool false)) (Ret (Y2.setCell ⟨bb, kk * 9 + 8, none⟩ (.bool false)) (.int .i64 (demF (bs.set kk (rfB false (bs.getD kk zBx))))))) := Lib.hid (by
            have k1 := pDemand_any (some ⟨bb, 0, none⟩) q1 _ _ (HSET.out false) (by rw [List.length_set]; omega)
            rw [List.length_set] at k1
            exact k1)
          have c9 : (Y2.setCell ⟨bb, kk * 9 + 8, none⟩ (.bool false)).cell? ⟨bb, kk * 9 + 8, none⟩ = some (.bool false) := World.cell?_setCell_same _ _ _ c8
          have HBN : Hid (Below w.heap.size w (Y2.setCell ⟨bb, kk * 9 + 8, none⟩ (.bool false))) := Lib.hid ((HW.out.be.trans (HBY.out.mono HW.out.be.size)).setCell (p := ⟨bb, kk * 9 + 8, none⟩) hbB _)
          rw [hr] at HDT
          have HDD : Hid (demF bs - 1 ≤ demF (bs.set kk (rfB false (bs.getD kk zBx))) ∧ demF (bs.set kk (rfB false (bs.getD kk zBx))) ≤ demF bs + 1 ∧ demF (bs.set kk (rfB false (bs.getD kk zBx))) ≤ demF bs) := Lib.hid ⟨HDT.out.1, HDT.out.2.1, HDT.out.2.2.2 rfl⟩
          clear HDT HSET
          have hd9 := dem_few bs
          generalize demF bs = d1 at *
          generalize demF (bs.set kk (rfB false (bs.getD kk zBx))) = d2 at *
          have q1' : decide (d2 < d1 - 1) = false := by have := HDD.out.1; simp; omega
          have q2' : decide (d1 + 1 < d2) = false := by have := HDD.out.2.1; simp; omega
          have q3' : decide (d1 < d2) = false := by have := HDD.out.2.2; simp; omega
          have hd8 := HDD.out
          go_upto_region 37 with fail
          generalize (World.setCell Y2 _ _) = Y3 at *
          clear c8
          try clear Y2
          go_wp2_with fail
          refine KD2.out.mono ?_
          rintro e Y4 ⟨rfl, hb⟩
          simp only
          have c9' : Y4.cell? ⟨bb, kk * 9 + 8, none⟩ = some (.bool false) := (hb.cell (p := ⟨bb, kk * 9 + 8, none⟩) (block_lt_of_cell c9)).trans c9
          have HW9 := Lib.hid (HBN.out.trans (hb.mono HBN.out.size))
          clear KD2 c9 HBN hb
          try clear Y3
          go_wp2_with fail
          refine (awake12_true _).mono ?_
          rintro e W9 ⟨rfl, hb⟩
          simp only
          go_wp2_with fail
          go_ret
          exact ⟨rfl, HW9.out.trans (hb.mono HW9.out.size)⟩
end Go.Proofs.Ythijgmkflfaccaa
