/-
  The walk of the statement LashFaults.
-/
import Derived.Test.YtncfakkajknhaaaLaFp
import Derived.Test.YtncfakkajknhaaaStY
namespace Go.Proofs.Ytncfakkajknhaaa
open Go.RowKit

set_option maxRecDepth 100000 in
set_option maxHeartbeats 8000000 in
theorem lashFaults_any (A : Option Addr) (c : Nat) (pl : List (Nat × Nat × Nat × Bool)) (covers : Nat) (q : Nat) (hq : q < 65536) (A2 : Option Addr) (c2 : Nat) (ds : List Drp) (w : World)
    (hs : SlT tPl w (Lt w.heap.size) A pl) (hl : ∀ p ∈ pl, p.1 < 256 ∧ p.2.1 < 256 ∧ p.2.2.1 < 256) (hc : pl.length ≤ c) (hcm : c ≤ maxLen)
    (hs2 : SlT tDrp w (Lt w.heap.size) A2 ds) (hd : ∀ d ∈ ds, d.col < 256 ∧ d.kilos < 256) (hc2 : ds.length ≤ c2) (hcm2 : c2 ≤ maxLen) :
    Calls Try.prog 11 #[.slice A pl.length c, .int .u32 covers, .int .u16 (q : Nat), .slice A2 ds.length c2] w (TrueRet w) := by
  have HC := Lib.hid (lashedShip_any A c pl covers q hq A2 c2 ds w hs hl hc hcm hs2 hd hc2 hcm2)
  clear hs hl hc hcm hs2 hd hc2 hcm2
  go_enter Try.func11, Try.ntmps11
  go_wp2_with fail
  refine HC.out.mono ?_
  rintro e w1 ⟨s, h, v1, v2, bs, st, rfl, hLm, hLd, hrd, ob, os, hb1⟩
  simp only
  clear HC
  obtain ⟨A1, q1, rfl, hq1, hqm1, hsb⟩ := OwnS.sl' ob
  obtain ⟨A3, q3, rfl, hq3, hqm3, hss⟩ := OwnS.sl' os
  have hW : WW w (w1.alloc (.cells (shpA s h) 37)) w1.heap.size s h A1 bs A3 st := by
    have hx := ba1 w1 (.cells (shpA s h) 37)
    exact ⟨Bk.new w1 _ _, (hrd.more fun x hx => hx.1).on hx, hsb.on hx, hss.on hx, hb1.trans (hx.mono hb1.size)⟩
  have HW := Lib.hid hW
  have HLM := Lib.hid hLm
  have HLD := Lib.hid hLd
  have HQ3 := Lib.hid hq3
  have HLH : Hid (∀ c ∈ s.cols, c.lash ≤ 1000000000000000) := Lib.hid fun c hc => by have := hLm.col c hc; omega
  have HKL : Hid (KgL bs) := Lib.hid fun b hb => by have := (hLd.box b hb).2; omega
  have HIN : Hid (∀ x ∈ st, 0 ≤ x.slot.tier ∧ x.slot.tier < 5 ∧ 0 ≤ x.slot.col ∧ x.slot.col < s.cols.length ∧ x.slot.half < 3) := Lib.hid fun x hx => hLd.tier hLm hx
  have hbl := hLd.nine
  have hsl := hLd.stlen
  have hc1 := hLm.one
  have hc12 := hLm.twelve
  clear hW ob os hsb hss hrd hb1 hLm hLd hq1 hq3
  unfold maxLen at hqm1 hqm3
  unfold shpA at HW ⊢
  go_upto_region 2 with fail
  generalize w1.heap.size = g at *
  generalize (w1.alloc _) = V at *
  clear w1
  have HCK : Hid (Calls Try.prog 36 #[.agg (shpA s h), .slice A1 bs.length q1, .slice A3 st.length q3] V (ChkOK V (lcheckF s bs st s.cols.length))) := Lib.hid (by
    refine (lCheck_any s h A1 q1 bs A3 q3 st V HKL.out HLH.out HW.out.rd HLM.out.few HLM.out.ints HLM.out.short HW.out.bx HLD.out.bl HW.out.sx HLD.out.sl (by omega) HQ3.out (HLD.out.max HLM.out)).mono ?_
    rintro e w' ⟨v, rfl, ho, hb⟩
    unfold lcheckL at ho
    rw [if_pos HLD.out.right] at ho
    obtain ⟨A', c', rfl, hs⟩ := lcheck_len ho
    exact ⟨A', c', by rw [if_pos HLD.out.right], hs, hb⟩)
  have HNT : Hid (∀ c j, c < s.cols.length → j < 2 → lashF s c ≠ 0 → lashF s c < momentF bs st c (1 + j) → nAt s bs st c j < (lcheckF s bs st s.cols.length).length ∧ (lcheckF s bs st s.cols.length).getD (nAt s bs st c j) default = ⟨c, 1 + j, momentF bs st c (1 + j) - lashF s c⟩) := Lib.hid fun c j hc hj hz h => nAt_fault hc hj hz h
  have HNE : Hid (nAt s bs st s.cols.length 0 = (lcheckF s bs st s.cols.length).length) := Lib.hid (nAt_zero _ _ _ _)
  have hFl : (lcheckF s bs st s.cols.length).length ≤ 1000 := by have := lcheckF_len s bs st s.cols.length; omega
  generalize lcheckF s bs st s.cols.length = F at *
  have SC := HW.out.bk
  unfold shpA at HCK
  have e0 : V.cell? ⟨g, 0, none⟩ = some (.slice h.A1 s.cols.length h.c1) := SC.cell 0
  have e1 : V.cell? ⟨g, 1, none⟩ = some (.slice h.A2 s.covs.length h.c2) := SC.cell 1
  have e2 : V.cell? ⟨g, 2, none⟩ = some (.int .i64 s.l0) := SC.cell 2
  have e3 : V.cell? ⟨g, 3, none⟩ = some (.int .i64 s.l1) := SC.cell 3
  have e4 : V.cell? ⟨g, 4, none⟩ = some (.int .i64 s.l2) := SC.cell 4
  have e5 : V.cell? ⟨g, 5, none⟩ = some (.int .i64 s.l3) := SC.cell 5
  have e6 : V.cell? ⟨g, 6, none⟩ = some (.slice h.A3 s.rows.length h.c3) := SC.cell 6
  have e7 : V.cell? ⟨g, 7, none⟩ = some (.slice h.A4 s.frames.length h.c4) := SC.cell 7
  have e8 : V.cell? ⟨g, 8, none⟩ = some (.slice h.A5 s.tanks.length h.c5) := SC.cell 8
  have e9 : V.cell? ⟨g, 9, none⟩ = some (.int .i64 s.m0) := SC.cell 9
  have e10 : V.cell? ⟨g, 10, none⟩ = some (.int .i64 s.m1) := SC.cell 10
  have e11 : V.cell? ⟨g, 11, none⟩ = some (.int .i64 s.m2) := SC.cell 11
  have e12 : V.cell? ⟨g, 12, none⟩ = some (.int .i64 s.m3) := SC.cell 12
  clear SC
  go_wp2_with fail
  refine HCK.out.mono ?_
  rintro e V1 ⟨A7, c7, rfl, hs7, hb⟩
  simp only
  clear HCK
  clear e0 e1 e2 e3 e4 e5 e6 e7 e8 e9 e10 e11 e12
  have HSF := Lib.hid hs7
  replace HW := Lib.hid (HW.out.on hb)
  clear hs7 hb
  try clear V
  go_upto_region 6 with fail
  obtain ⟨b, off, hA0⟩ : ∃ b off, h.A1 = some ⟨b, off, none⟩ := by
    obtain ⟨b, off, _, _, hA1, _⟩ := HW.out.rd.cols.col (i := 0) (by omega)
    exact ⟨b, off, hA1⟩
  have e0 : V1.cell? ⟨g, 0, none⟩ = some (.slice (some ⟨b, off, none⟩) s.cols.length h.c1) := by rw [← hA0]; exact HW.out.bk.cell 0
  have HA0 := Lib.hid hA0
  clear hA0
  go_wp2_with fail
  clear e0
  go_loopw [14, 41] (fun nv i wr => ∃ (k N : Nat), k ≤ s.cols.length ∧ i = .int .i64 k ∧ nv = .int .i64 N ∧ Hid (N = nAt s bs st k 0) ∧ Hid (Below V1.heap.size V1 wr)) (fun _ i _ => s.cols.length - (intOf i).toNat)
  case atStart => exact ⟨0, 0, Nat.zero_le _, rfl, rfl, Lib.hid (by rw [nAt_zero]; rfl), Lib.hid (Below.refl _ _)⟩
  case round =>
    obtain ⟨k, N0, hk, rfl, rfl, HN0, HB⟩ := hrel
    obtain ⟨W, rfl⟩ : ∃ V, V = wr := ⟨_, rfl⟩
    by_cases hlt : k < s.cols.length
    · have i0 : (0 : Int) ≤ (k : Int) := by omega
      have i1 : (k : Int) < (s.cols.length : Int) := by omega
      have hk1 : k + 1 ≤ s.cols.length := hlt
      obtain ⟨b', off', Ap, q', hA1, hbB, hpq, hpl, d0, d1, d2, d3, d4, d5, d6, d7, d8, d9, d10, d11⟩ := (HW.out.on HB.out).rd.cols.col (i := k) hlt
      rw [HA0.out] at hA1
      injection hA1 with hA1
      injection hA1 with hA1 hA2 _
      subst hA1 hA2
      have HLF := Lib.hid (lashF_at HLM.out hlt)
      have hF0 := HLM.out.at_ hlt
      have HPL9 := Lib.hid (fun j => HNT.out k j hlt)
      clear hpq hpl
      generalize s.cols.getD k default = cl at *
      obtain ⟨z0, z1, z2, z3, z4, z5, z6, z7, z8, z9, z10, z11⟩ := cl
      simp only at d0 d1 d2 d3 d4 d5 d6 d7 d8 d9 d10 d11 HLF hF0
      obtain ⟨-, -, -, -, -, -, -, l0, l1⟩ := hF0
      have hY := ba1 W (.cells #[.int .i64 z0, .int .i64 z1, .bool z2, .int .i64 z3, .int .i64 z4, .int .i64 z5, .int .i64 z6, .int .i64 z7, .slice Ap z8.length q', .int .i64 z9, .int .i64 z10, .int .i64 z11] 67)
      have HKC := Lib.hid (Bk.new W 67 #[.int .i64 z0, .int .i64 z1, .bool z2, .int .i64 z3, .int .i64 z4, .int .i64 z5, .int .i64 z6, .int .i64 z7, .slice Ap z8.length q', .int .i64 z9, .int .i64 z10, .int .i64 z11])
      have HB1 := Lib.hid (HB.out.trans (hY.mono HB.out.size))
      clear hY HB
      go_upto_region 9 with fail
      clear d0 d1 d2 d3 d4 d5 d6 d7 d8 d9 d10 d11
      generalize W.heap.size = gc at *
      generalize (W.alloc _) = Y at *
      try clear W
      have HK5 : Hid (Bk (Y.alloc (.cells #[.int .u8 1, .int .u8 2] 5)) Y.heap.size 5 #[.int .u8 1, .int .u8 2]) := Lib.hid (Bk.new _ _ _)
      have hY := ba1 Y (.cells #[.int .u8 1, .int .u8 2] 5)
      have HB2 := Lib.hid (HB1.out.trans (hY.mono HB1.out.size))
      have HKC1 := Lib.hid (HKC.out.below hY HKC.out.lt)
      clear hY HB1 HKC
      go_wp2_with fail
      generalize Y.heap.size = g5 at *
      generalize (Y.alloc _) = Y1 at *
      try clear Y
      go_loopw [14, 48] (fun nv i wx => ∃ (j N : Nat), j ≤ 2 ∧ i = .int .i64 j ∧ nv = .int .i64 N ∧ Hid (N = nAt s bs st k j) ∧ Hid (Below Y1.heap.size Y1 wx)) (fun _ i _ => 2 - (intOf i).toNat)
      case atStart => exact ⟨0, N0, by omega, rfl, rfl, HN0, Lib.hid (Below.refl _ _)⟩
      case round =>
        obtain ⟨j, N, hj, rfl, rfl, HN, HBi⟩ := hrel
        obtain ⟨X, rfl⟩ : ∃ V, V = wr := ⟨_, rfl⟩
        by_cases hjl : j < 2
        · have j0 : (0 : Int) ≤ (j : Int) := by omega
          have j1 : (j : Int) < 2 := by omega
          have hj1 : j + 1 ≤ 2 := hjl
          have cH : X.cell? ⟨g5, j, none⟩ = some (.int .u8 ((1 + j : Nat) : Int)) := by
            have kb := HK5.out.below HBi.out HK5.out.lt
            obtain rfl | rfl : j = 0 ∨ j = 1 := by omega
            · exact kb.cell 0
            · exact kb.cell 1
          have HPL := Lib.hid (HPL9.out j hjl)
          have hmb := moment_bd HKL.out (l := st) (by omega) (k : Nat) (1 + j)
          have HBX := Lib.hid (HB2.out.trans (HBi.out.mono HB2.out.size))
          have HHX : Hid (∃ hf, hf = 1 + j) := Lib.hid ⟨_, rfl⟩
          obtain ⟨hf, hhf⟩ := HHX.out
          rw [← hhf] at cH
          have HHF := Lib.hid hhf
          have hf9 : hf < 256 := by omega
          clear hhf HHX
          have KM := Lib.hid (moment_any A1 q1 bs A3 q3 st (k : Nat) hf X HKL.out (HW.out.on HBX.out).bx HLD.out.bl (HW.out.on HBX.out).sx (by omega))
          have HMX : Hid (∃ mv, mv = momentF bs st (k : Nat) (1 + j)) := Lib.hid ⟨_, rfl⟩
          obtain ⟨mv, hmv⟩ := HMX.out
          rw [show momentF bs st (k : Nat) hf = mv by rw [hmv, HHF.out]] at KM
          rw [← hmv] at hmb
          have HMV := Lib.hid hmv.symm
          obtain ⟨mb0, mb1⟩ := hmb
          clear hmv HMX
          go_upto_region 12 with fail
          clear cH
          go_wp2_with fail
          refine KM.out.mono ?_
          rintro e V2 ⟨rfl, hb⟩
          simp only
          clear KM
          have HB9 := Lib.hid (HBi.out.trans (hb.mono HBi.out.size))
          have HBV2 := Lib.hid (HBX.out.trans (hb.mono HBX.out.size))
          clear hb HBi HBX
          have HKC2 := Lib.hid (HKC1.out.below HB9.out HKC1.out.lt)
          have d2' : V2.cell? ⟨gc, 2, none⟩ = some (.bool z2) := HKC2.out.cell 2
          have d7' : V2.cell? ⟨gc, 7, none⟩ = some (.int .i64 z7) := HKC2.out.cell 7
          go_upto_region 13 with fail
          cases z2 with
          | false =>
            have HNF : Hid (N = nAt s bs st k (j + 1)) := Lib.hid (by rw [HN.out, nAt_no (.inl (by rw [HLF.out]; rfl))])
            clear HN
            go_wp2_with fail
            go_roundw
            case rel => (repeat apply Exists.intro); (first | exact ⟨⟨j + 1, N, hj1, by go_num, rfl, HNF, HB9⟩, rfl⟩ | exact ⟨hj1, by go_num, rfl, HNF, HB9⟩)
            case measure => simp [intOf]; omega
          | true =>
            by_cases hz : z7 = 0
            · have hzb : (z7 == 0) = true := by simpa using hz
              have HNF : Hid (N = nAt s bs st k (j + 1)) := Lib.hid (by rw [HN.out, nAt_no (.inl (by rw [HLF.out]; exact hz))])
              clear HN
              go_wp2_with fail
              go_roundw
              case rel => (repeat apply Exists.intro); (first | exact ⟨⟨j + 1, N, hj1, by go_num, rfl, HNF, HB9⟩, rfl⟩ | exact ⟨hj1, by go_num, rfl, HNF, HB9⟩)
              case measure => simp [intOf]; omega
            · have hzb : (z7 == 0) = false := by simpa using hz
              by_cases hm : mv ≤ z7
              · have HNF : Hid (N = nAt s bs st k (j + 1)) := Lib.hid (by rw [HN.out, nAt_no (.inr (by rw [HMV.out, HLF.out]; exact hm))])
                clear HN
                go_wp2_with fail
                go_roundw
                case rel => (repeat apply Exists.intro); (first | exact ⟨⟨j + 1, N, hj1, by go_num, rfl, HNF, HB9⟩, rfl⟩ | exact ⟨hj1, by go_num, rfl, HNF, HB9⟩)
                case measure => simp [intOf]; omega
              · have hmn : z7 < mv := by omega
                obtain ⟨hp1, hp2⟩ := HPL.out (by rw [HLF.out]; exact hz) (by rw [HMV.out, HLF.out]; exact hmn)
                rw [← HN.out] at hp1 hp2
                have HNF : Hid (N + 1 = nAt s bs st k (j + 1)) := Lib.hid (by rw [HN.out, nAt_yes (by rw [HLF.out]; exact hz) (by rw [HMV.out, HLF.out]; exact hmn)])
                obtain ⟨b4, off4, hA7, hbB4, p0', p1', p2'⟩ := (HSF.out.below HBV2.out).flt hp1
                subst hA7
                rw [hp2] at p0' p1' p2'
                simp only at p0' p1' p2'
                rw [HMV.out, HLF.out, if_pos rfl] at p2'
                rw [← HHF.out] at p1'
                clear hp2
                have hn0 : (0 : Int) ≤ (N : Int) := by omega
                have hn1 : (N : Int) < (F.length : Int) := by omega
                have hn2 : ¬ (F.length : Int) ≤ (N : Int) := by omega
                have hsub : IntKind.i64.wrap (mv - z7) = mv - z7 := IntWalk.i64_in _ (by omega)
                go_upto_region 14 with fail
                clear d2' d7'
                have HBZ := Lib.hid (drew_below V2 1)
                have hrun := run_neq_lf (k : Nat) (hf : Nat) (mv - z7)
                have p0 : ∀ p : Gr V2, p.W.cell? ⟨b4, off4 + N * 3, none⟩ = some (.int .i64 (k : Nat)) := Gr.cell p0'
                have p1 : ∀ p : Gr V2, p.W.cell? ⟨b4, off4 + N * 3 + 1, none⟩ = some (.int .u8 (hf : Nat)) := Gr.cell p1'
                have p2 : ∀ p : Gr V2, p.W.cell? ⟨b4, off4 + N * 3 + 2, none⟩ = some (.int .i64 (mv - z7)) := Gr.cell p2'
                have r7 : ∀ p : Gr V2, p.W.cell? ⟨gc, 7, none⟩ = some (.int .i64 z7) := Gr.cell (HKC2.out.cell 7)
                clear p0' p1' p2'
                refine wp_region_gr (by kernel_rfl) (by kernel_rfl) ?_
                repeat (go_big_quiet_step (fail))
                refine wpQuiet_nil ?_
                rintro Y9 ⟨⟨_, hbY⟩, rfl⟩
                clear p0 p1 p2 r7 hrun HBZ
                replace HB9 := Lib.hid (HB9.out.trans (hbY.mono HB9.out.size))
                clear hbY hsub HN
                have hN9 : N + 1 ≤ 1001 := by omega
                go_wp2_with fail
                go_roundw
                case rel => (repeat apply Exists.intro); (first | exact ⟨⟨j + 1, N + 1, hj1, by go_num, by go_num, HNF, HB9⟩, rfl⟩ | exact ⟨hj1, by go_num, by go_num, HNF, HB9⟩)
                case measure => simp [intOf]; omega
        · obtain rfl : j = 2 := by omega
          have HN2 : Hid (N = nAt s bs st (k + 1) 0) := Lib.hid (by rw [HN.out, nAt_two, nAt_zero])
          have HBX := Lib.hid (HB2.out.trans (HBi.out.mono HB2.out.size))
          have HKC2 := Lib.hid (HKC1.out.below HBi.out HKC1.out.lt)
          clear HBi HB2 HKC1 HN HN0
          have KR : Hid (lashF s (k : Nat) = 0 → Calls Try.prog 31 #[.agg (shpA s h), .slice A1 bs.length q1, .slice A3 st.length q3, .agg #[.int .i64 (k : Nat), .int .i64 1, .int .u8 0]] X (Ret X (.int .i64 500000000))) := Lib.hid fun hz => by
            have k1 := lRoom_any s h A1 q1 bs A3 q3 st ⟨(k : Nat), 1, 0⟩ X HKL.out HLH.out (HW.out.on HBX.out).rd HLM.out.short (HW.out.on HBX.out).bx HLD.out.bl (HW.out.on HBX.out).sx (by omega)
            rw [show lroomF s bs st ⟨(k : Nat), 1, 0⟩ = 500000000 by
              unfold lroomF
              simp only
              rw [show thereB s (k : Int) = true by unfold thereB; simp; omega, if_pos rfl, if_pos hz]] at k1
            exact k1
          unfold shpA at KR
          have d2' : X.cell? ⟨gc, 2, none⟩ = some (.bool z2) := HKC2.out.cell 2
          have d7' : X.cell? ⟨gc, 7, none⟩ = some (.int .i64 z7) := HKC2.out.cell 7
          have SC := (HW.out.on HBX.out).bk
          have e0 : X.cell? ⟨g, 0, none⟩ = some (.slice h.A1 s.cols.length h.c1) := SC.cell 0
          have e1 : X.cell? ⟨g, 1, none⟩ = some (.slice h.A2 s.covs.length h.c2) := SC.cell 1
          have e2 : X.cell? ⟨g, 2, none⟩ = some (.int .i64 s.l0) := SC.cell 2
          have e3 : X.cell? ⟨g, 3, none⟩ = some (.int .i64 s.l1) := SC.cell 3
          have e4 : X.cell? ⟨g, 4, none⟩ = some (.int .i64 s.l2) := SC.cell 4
          have e5 : X.cell? ⟨g, 5, none⟩ = some (.int .i64 s.l3) := SC.cell 5
          have e6 : X.cell? ⟨g, 6, none⟩ = some (.slice h.A3 s.rows.length h.c3) := SC.cell 6
          have e7 : X.cell? ⟨g, 7, none⟩ = some (.slice h.A4 s.frames.length h.c4) := SC.cell 7
          have e8 : X.cell? ⟨g, 8, none⟩ = some (.slice h.A5 s.tanks.length h.c5) := SC.cell 8
          have e9 : X.cell? ⟨g, 9, none⟩ = some (.int .i64 s.m0) := SC.cell 9
          have e10 : X.cell? ⟨g, 10, none⟩ = some (.int .i64 s.m1) := SC.cell 10
          have e11 : X.cell? ⟨g, 11, none⟩ = some (.int .i64 s.m2) := SC.cell 11
          have e12 : X.cell? ⟨g, 12, none⟩ = some (.int .i64 s.m3) := SC.cell 12
          clear SC
          cases z2 with
          | false =>
            have K1 := Lib.hid (KR.out (by rw [HLF.out]; rfl))
            clear KR
            go_wp2_with fail
            refine K1.out.mono ?_
            rintro e X2 ⟨rfl, hb⟩
            simp only
            clear e0 e1 e2 e3 e4 e5 e6 e7 e8 e9 e10 e11 e12
            clear K1 d2' d7'
            have HBX2 := Lib.hid (HBX.out.trans (hb.mono HBX.out.size))
            clear hb HBX
            go_wp2_with fail
            go_roundw
            case rel => (repeat apply Exists.intro); (first | exact ⟨⟨k + 1, N, hk1, by go_num, rfl, HN2, HBX2⟩, rfl⟩ | exact ⟨hk1, by go_num, rfl, HN2, HBX2⟩)
            case measure => simp [intOf]; omega
          | true =>
            by_cases hz : z7 = 0
            · have K1 := Lib.hid (KR.out (by rw [HLF.out]; exact hz))
              have hzb : (z7 == 0) = true := by simpa using hz
              clear KR hz
              go_wp2_with fail
              refine K1.out.mono ?_
              rintro e X2 ⟨rfl, hb⟩
              simp only
              clear e0 e1 e2 e3 e4 e5 e6 e7 e8 e9 e10 e11 e12
              clear K1 d2' d7'
              have HBX2 := Lib.hid (HBX.out.trans (hb.mono HBX.out.size))
              clear hb HBX
              go_wp2_with fail
              go_roundw
              case rel => (repeat apply Exists.intro); (first | exact ⟨⟨k + 1, N, hk1, by go_num, rfl, HN2, HBX2⟩, rfl⟩ | exact ⟨hk1, by go_num, rfl, HN2, HBX2⟩)
              case measure => simp [intOf]; omega
            · have hzb : (z7 == 0) = false := by simpa using hz
              clear KR hz
              go_wp2_with fail
              go_roundw
              case rel => (repeat apply Exists.intro); (first | exact ⟨⟨k + 1, N, hk1, by go_num, rfl, HN2, HBX⟩, rfl⟩ | exact ⟨hk1, by go_num, rfl, HN2, HBX⟩)
              case measure => simp [intOf]; omega
    · obtain rfl : k = s.cols.length := by omega
      obtain rfl : N0 = F.length := by rw [HN0.out, HNE.out]
      have HW9 := Lib.hid (HW.out.on HB.out).be
      clear HN0 HB HW HSF HNT HNE HIN HLH HKL HLM HLD
      go_wp2_with fail
      refine (awake11_true _).mono ?_
      rintro e W9 ⟨rfl, hb⟩
      simp only
      go_wp2_with fail
      go_ret
      exact ⟨rfl, HW9.out.trans (hb.mono HW9.out.size)⟩
end Go.Proofs.Ytncfakkajknhaaa
