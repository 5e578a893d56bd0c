/-
  The walk of the statement LashSums.
-/
import Derived.Test.YtncfakkajknhaaaLaSp
namespace Go.Proofs.Ytncfakkajknhaaa
open Go.RowKit

set_option maxRecDepth 100000 in
set_option maxHeartbeats 8000000 in
theorem lashSums_any (A : Option Addr) (c : Nat) (pl : List (Nat × Nat × Nat × Bool)) (covers : Nat) (A2 : Option Addr) (c2 : Nat) (ds : List Drp) (w : World)
    (hs : SlT tPl w (Lt w.heap.size) A pl) (hl : ∀ p ∈ pl, p.1 < 256 ∧ p.2.1 < 256 ∧ p.2.2.1 < 256) (hc : pl.length ≤ c) (hcm : c ≤ maxLen)
    (hs2 : SlT tDrp w (Lt w.heap.size) A2 ds) (hd : ∀ d ∈ ds, d.col < 256 ∧ d.kilos < 256) (hc2 : ds.length ≤ c2) (hcm2 : c2 ≤ maxLen) :
    Calls Try.prog 10 #[.slice A pl.length c, .int .u32 covers, .slice A2 ds.length c2] w (TrueRet w) := by
  have HC := Lib.hid (lashedShipB_any A c pl covers 0 (by decide) A2 c2 ds w hs hl hc hcm hs2 hd hc2 hcm2)
  clear hs hl hc hcm hs2 hd hc2 hcm2
  go_enter Try.func10, Try.ntmps10
  go_wp2_with fail
  refine HC.out.mono ?_
  rintro e w1 ⟨s, h, v1, v2, bs, st, rfl, hLm, hLd, hLow, hrd, ob, os, hb1⟩
  simp only
  clear HC
  obtain ⟨A1, q1, rfl, hq1, hqm1, hsb⟩ := OwnS.sl' ob
  obtain ⟨A3, q3, rfl, hq3, hqm3, hss⟩ := OwnS.sl' os
  have hW : WW w (w1.alloc (.cells (shpA s h) 37)) w1.heap.size s h A1 bs A3 st := by
    have hx := ba1 w1 (.cells (shpA s h) 37)
    exact ⟨Bk.new w1 _ _, (hrd.more fun x hx => hx.1).on hx, hsb.on hx, hss.on hx, hb1.trans (hx.mono hb1.size)⟩
  have HW := Lib.hid hW
  have HLOW := Lib.hid hLow
  have HLM := Lib.hid hLm
  have HLD := Lib.hid hLd
  have HQ3 := Lib.hid hq3
  have HLH : Hid (∀ c ∈ s.cols, c.lash ≤ 1000000000000000) := Lib.hid fun c hc => by have := hLm.col c hc; omega
  have HKL : Hid (KgL bs) := Lib.hid fun b hb => by have := (hLd.box b hb).2; omega
  have HIN : Hid (∀ x ∈ st, 0 ≤ x.slot.tier ∧ x.slot.tier < 5 ∧ 0 ≤ x.slot.col ∧ x.slot.col < s.cols.length ∧ x.slot.half < 3) := Lib.hid fun x hx => hLd.tier hLm hx
  have hbl := hLd.nine
  have hsl := hLd.stlen
  have hc1 := hLm.one
  have hc12 := hLm.twelve
  clear hW ob os hsb hss hrd hb1 hLm hLd hLow hq1 hq3
  unfold maxLen at hqm1 hqm3
  unfold shpA at HW ⊢
  go_upto_region 2 with fail
  generalize w1.heap.size = g at *
  generalize (w1.alloc _) = V at *
  clear w1
  obtain ⟨b, off, hA0⟩ : ∃ b off, h.A1 = some ⟨b, off, none⟩ := by
    obtain ⟨b, off, _, _, hA1, _⟩ := HW.out.rd.cols.col (i := 0) (by omega)
    exact ⟨b, off, hA1⟩
  have e0 : V.cell? ⟨g, 0, none⟩ = some (.slice (some ⟨b, off, none⟩) s.cols.length h.c1) := by rw [← hA0]; exact HW.out.bk.cell 0
  have HE0 : Hid (∀ X : World, Below V.heap.size V X → X.cell? ⟨g, 0, none⟩ = some (.slice (some ⟨b, off, none⟩) s.cols.length h.c1)) := Lib.hid fun X hX => by rw [← hA0]; exact (HW.out.on hX).bk.cell 0
  have HD3 : Hid (∀ (k : Nat) (X : World), k < s.cols.length → Below V.heap.size V X → X.cell? ⟨b, off + k * 12 + 3, none⟩ = some (.int .i64 (s.cols.getD k default).tiers)) := Lib.hid fun k X hk hX => by
    obtain ⟨b', off', Ap, q', hA1, hbB, hpq, hpl, d0, d1, d2, d3, _⟩ := (HW.out.on hX).rd.cols.col (i := k) hk
    rw [hA0] at hA1
    injection hA1 with hA1
    injection hA1 with hA1 hA2 _
    subst hA1 hA2
    exact d3
  clear hA0
  go_wp2_with fail
  clear e0
  go_loopw [31] (fun i wr => ∃ k : Nat, k ≤ s.cols.length ∧ i = .int .i64 k ∧ Hid (Below V.heap.size V wr)) (fun i _ => s.cols.length - (intOf i).toNat)
  case atStart => exact ⟨0, Nat.zero_le _, rfl, Lib.hid (Below.refl _ _)⟩
  case round =>
    obtain ⟨k, hk, rfl, HB⟩ := hrel
    obtain ⟨W, rfl⟩ : ∃ V, V = wr := ⟨_, rfl⟩
    by_cases hlt : k < s.cols.length
    · have i0 : (0 : Int) ≤ (k : Int) := by omega
      have i1 : (k : Int) < (s.cols.length : Int) := by omega
      have hk1 : k + 1 ≤ s.cols.length := hlt
      have hT0 := HLM.out.at_ hlt
      have HHA := Lib.hid (fun hf => hgt_all HLD.out k hf)
      have HMA := Lib.hid (fun hf => mom_all HLD.out k hf)
      have HDK := Lib.hid (fun (X : World) (hX : Below V.heap.size V X) => HD3.out k X hlt hX)
      generalize (s.cols.getD k default).tiers = T at *
      obtain ⟨tt0, tt1, -⟩ := hT0
      have HK5 : Hid (Bk (W.alloc (.cells #[.int .u8 1, .int .u8 2] 5)) W.heap.size 5 #[.int .u8 1, .int .u8 2]) := Lib.hid (Bk.new _ _ _)
      have hY := ba1 W (.cells #[.int .u8 1, .int .u8 2] 5)
      have HB1 := Lib.hid (HB.out.trans (hY.mono HB.out.size))
      clear hY HB
      go_wp2_with fail
      generalize W.heap.size = g5 at *
      generalize (W.alloc _) = Y1 at *
      try clear W
      go_loopw [36] (fun i wx => ∃ j : Nat, j ≤ 2 ∧ i = .int .i64 j ∧ Hid (Below Y1.heap.size Y1 wx)) (fun i _ => 2 - (intOf i).toNat)
      case atStart => exact ⟨0, by omega, rfl, Lib.hid (Below.refl _ _)⟩
      case round =>
        obtain ⟨j, hj, rfl, HBi⟩ := hrel
        obtain ⟨X, rfl⟩ : ∃ V, V = wr := ⟨_, rfl⟩
        by_cases hjl : j < 2
        · have j0 : (0 : Int) ≤ (j : Int) := by omega
          have j1 : (j : Int) < 2 := by omega
          have hj1 : j + 1 ≤ 2 := hjl
          have cH : X.cell? ⟨g5, j, none⟩ = some (.int .u8 ((1 + j : Nat) : Int)) := by
            have kb := HK5.out.below HBi.out HK5.out.lt
            obtain rfl | rfl : j = 0 ∨ j = 1 := by omega
            · exact kb.cell 0
            · exact kb.cell 1
          have HBX := Lib.hid (HB1.out.trans (HBi.out.mono HB1.out.size))
          have HHX : Hid (∃ hf, hf = 1 + j) := Lib.hid ⟨_, rfl⟩
          obtain ⟨hf, hhf⟩ := HHX.out
          rw [← hhf] at cH
          have H12 : Hid (hf = 1 ∨ hf = 2) := Lib.hid (by omega)
          have hf9 : hf < 256 := by omega
          have HHAF := Lib.hid (HHA.out hf)
          have HMAF := Lib.hid (HMA.out hf)
          clear hhf HHX
          go_upto_region 8 with fail
          clear cH
          go_wp2_with fail
          go_loopw [13, 14, 15] (fun hv mv tv wy => ∃ (t : Nat) (H M : Int), (t : Int) ≤ T ∧ tv = .int .i64 t ∧ hv = .int .i64 H ∧ mv = .int .i64 M ∧ Hid (H = hgtF bs st (k : Nat) hf (t : Nat)) ∧ Hid (M = momT bs st (k : Nat) hf (t : Nat)) ∧ Hid (Below X.heap.size X wy)) (fun _ _ i _ => (T - intOf i).toNat)
          case atStart => exact ⟨0, 0, 0, by omega, rfl, rfl, rfl, Lib.hid (hgt_zero HLM.out HLD.out _ _).symm, Lib.hid (mom_zero HLM.out HLD.out _ _).symm, Lib.hid (Below.refl _ _)⟩
          case round =>
            obtain ⟨t, H, M, ht, rfl, rfl, rfl, HH, HM, HBt⟩ := hrel
            obtain ⟨Z, rfl⟩ : ∃ V, V = wr := ⟨_, rfl⟩
            have HBZ := Lib.hid (HBX.out.trans (HBt.out.mono HBX.out.size))
            have e0 := HE0.out Z HBZ.out
            have d3 := HDK.out Z HBZ.out
            have hhb := hgt_bd HLD.out (k : Nat) hf (t : Nat)
            rw [← HH.out] at hhb
            obtain ⟨H0, H1⟩ := hhb
            have hmb := mom_bd HLD.out (k : Nat) hf (t : Nat)
            rw [← HM.out] at hmb
            obtain ⟨M0, M1⟩ := hmb
            have HH0 : Hid (t = 0 → H = 0) := Lib.hid fun h0 => by rw [HH.out, h0]; exact hgt_zero HLM.out HLD.out _ _
            by_cases htl : (t : Int) < T
            · have ht1 : ((t + 1 : Nat) : Int) ≤ T := by omega
              go_upto_region 12 with fail
              clear e0 d3
              go_wp2_with fail
              go_loopw [13, 14, 52] (fun hv mv i wz => ∃ n : Nat, n ≤ st.length ∧ i = .int .i64 n ∧ hv = .int .i64 H ∧ mv = .int .i64 M ∧ Hid (∀ m, m < n → inT (k : Nat) hf (t : Nat) (st.getD m default).slot = false) ∧ Hid (Below Z.heap.size Z wz)) (fun _ _ i _ => st.length - (intOf i).toNat)
              case atStart => exact ⟨0, Nat.zero_le _, rfl, rfl, rfl, Lib.hid (fun m hm => absurd hm (by omega)), Lib.hid (Below.refl _ _)⟩
              case round =>
                obtain ⟨n, hn, rfl, rfl, rfl, HNO, HBn⟩ := hrel
                obtain ⟨Q, rfl⟩ : ∃ V, V = wr := ⟨_, rfl⟩
                have HBQ := Lib.hid (HBZ.out.trans (HBn.out.mono HBZ.out.size))
                by_cases hnl : n < st.length
                · obtain ⟨b2, off2, rfl, hbB2, c0, c1, c2', c3⟩ := (HW.out.on HBQ.out).sx.stw hnl
                  have hn0 : (0 : Int) ≤ (n : Int) := by omega
                  have hn2 : (n : Int) < (st.length : Int) := by omega
                  have hn1 : n + 1 ≤ st.length := hnl
                  have HX := Lib.hid (HLD.out.box_at (getD_memD hnl default))
                  have HKG := Lib.hid (HLD.out.box _ HX.out.2.1).2
                  have HSTEP : Hid (inT (k : Nat) hf (t : Nat) (st.getD n default).slot = true → H + tallB (findBx bs (st.getD n default).box).1 = hgtF bs st (k : Nat) hf ((t + 1 : Nat) : Int) ∧ M + (findBx bs (st.getD n default).box).1.kilos * H = momT bs st (k : Nat) hf ((t + 1 : Nat) : Int) ∧ liftF bs st (st.getD n default).slot = H) := Lib.hid fun hi => by
                    have hl := lift_hgt HLM.out HLD.out HLOW.out H12.out (getD_memD hnl default) hi
                    have e1 : ((t + 1 : Nat) : Int) = (t : Int) + 1 := by omega
                    refine ⟨?_, ?_, ?_⟩
                    · rw [HH.out, e1]; exact (step_yes HLD.out (fun y => tallB (findBx bs y.box).1) hnl hi).symm
                    · rw [e1]
                      have := step_yes HLD.out (fun y => (findBx bs y.box).1.kilos * liftF bs st y.slot) hnl hi
                      rw [hl, ← HH.out] at this
                      rw [HM.out]
                      exact this.symm
                    · rw [hl, HH.out]
                  have HNO1 : Hid (inT (k : Nat) hf (t : Nat) (st.getD n default).slot = false → ∀ m, m < n + 1 → inT (k : Nat) hf (t : Nat) (st.getD m default).slot = false) := Lib.hid fun hi m hm => by
                    rcases Nat.lt_or_ge m n with h1 | h1
                    · exact HNO.out m h1
                    · obtain rfl : m = n := by omega
                      exact hi
                  have KF := Lib.hid (fun (V' : World) (hV : Below Q.heap.size Q V') => stowFind_any A1 q1 bs (st.getD n default).box V' ((HW.out.on HBQ.out).on hV).bx HLD.out.bl)
                  have KL0 := Lib.hid (fun (V' : World) (hV : Below Q.heap.size Q V') => lift_any A1 q1 bs (some ⟨b2, off2, none⟩) q3 st (st.getD n default).slot V' ((HW.out.on HBQ.out).on hV).bx HLD.out.bl ((HW.out.on HBQ.out).on hV).sx (by omega))
                  have HXX : Hid (∃ x, x = st.getD n default) := Lib.hid ⟨_, rfl⟩
                  obtain ⟨x, hx⟩ := HXX.out
                  rw [← hx] at c0 c1 c2' c3 HX HKG HSTEP HNO1 KF KL0
                  clear hx HXX
                  obtain ⟨xb, xc, xt, xh⟩ := x
                  simp only at c0 c1 c2' c3 HX HKG HSTEP HNO1 KF KL0
                  generalize findBx bs xb = fb at *
                  obtain ⟨⟨z0, z1, z2, z3, z4, z5, z6, z7, z8⟩, ok⟩ := fb
                  obtain rfl : ok = true := HX.out.1
                  simp only at HKG KF HSTEP
                  obtain ⟨kg0, kg1⟩ : 1000 ≤ z4 ∧ z4 ≤ 26500 := ⟨HKG.out.1, HKG.out.2.1⟩
                  have hzm := mul_bd (k := z4) (L := H) (by omega) (by omega) H0 (by omega)
                  obtain ⟨zm0, zm1⟩ := hzm
                  clear HX HKG
                  have HKX := Lib.hid (Bk.new Q 61 #[.int .i64 xb, .int .i64 xc, .int .i64 xt, .int .u8 (xh : Nat)])
                  have hY2 := ba1 Q (.cells #[.int .i64 xb, .int .i64 xc, .int .i64 xt, .int .u8 (xh : Nat)] 61)
                  have KF2 := Lib.hid (KF.out _ hY2)
                  have KL := Lib.hid (fun (V' : World) (hV : Below _ (Q.alloc (.cells #[.int .i64 xb, .int .i64 xc, .int .i64 xt, .int .u8 (xh : Nat)] 61)) V') => KL0.out V' (hY2.trans (hV.mono hY2.size)))
                  have HBn1 := Lib.hid (HBn.out.trans (hY2.mono HBn.out.size))
                  clear KF KL0 hY2 HBn HBQ
                  unfold bxL at KF2
                  unfold sltL at KL
                  simp only at KF2 KL
                  go_upto_region 15 with fail
                  clear c0 c1 c2' c3
                  generalize Q.heap.size = gy at *
                  generalize (Q.alloc _) = Y at *
                  try clear Q
                  have x1 : Y.cell? ⟨gy, 1, none⟩ = some (.int .i64 xc) := HKX.out.cell 1
                  have x2 : Y.cell? ⟨gy, 2, none⟩ = some (.int .i64 xt) := HKX.out.cell 2
                  have x3 : Y.cell? ⟨gy, 3, none⟩ = some (.int .u8 (xh : Nat)) := HKX.out.cell 3
                  cases h1 : (xc == (k : Int)) with
                  | false =>
                    have HNOF := Lib.hid (HNO1.out (by unfold inT; simp only; rw [h1]; rfl))
                    clear HNO1 HSTEP
                    go_wp2_with fail
                    go_roundw
                    case rel => first | exact ⟨n + 1, hn1, by go_num, rfl, rfl, HNOF, HBn1⟩ | (repeat apply Exists.intro; exact ⟨⟨n + 1, hn1, by go_num, rfl, rfl, HNOF, HBn1⟩, rfl⟩) | ((repeat apply Exists.intro); exact ⟨hn1, by go_num, rfl, rfl, HNOF, HBn1⟩)
                    case measure => simp [intOf]; omega
                  | true =>
                    cases h2 : (xt == (t : Int)) with
                    | false =>
                      have HNOF := Lib.hid (HNO1.out (by unfold inT; simp only; rw [h1, h2]; rfl))
                      clear HNO1 HSTEP
                      go_wp2_with fail
                      go_roundw
                      case rel => first | exact ⟨n + 1, hn1, by go_num, rfl, rfl, HNOF, HBn1⟩ | (repeat apply Exists.intro; exact ⟨⟨n + 1, hn1, by go_num, rfl, rfl, HNOF, HBn1⟩, rfl⟩) | ((repeat apply Exists.intro); exact ⟨hn1, by go_num, rfl, rfl, HNOF, HBn1⟩)
                      case measure => simp [intOf]; omega
                    | true =>
                      cases h3 : (xh == hf) with
                      | true =>
                        have h3' : ((xh : Int) == (hf : Int)) = true := by rw [int_beq]; exact h3
                        go_upto_region 16 with fail
                        clear x1 x2 x3
                        obtain ⟨hs1, hs2, hs3⟩ := HSTEP.out (by unfold inT; simp only; rw [h1, h2, h3]; rfl)
                        clear HSTEP HNO1
                        have HS1 := Lib.hid hs1
                        have KL2 := Lib.hid (fun (V' : World) (hV : Below Y.heap.size Y V') => KL.out V' hV)
                        rw [hs3] at KL2
                        clear KL hs1 hs3
                        have hT : IntKind.i64.wrap (z4 * H) = z4 * H := IntWalk.i64_in _ (by omega)
                        obtain ⟨P, hP⟩ : ∃ P, P = z4 * H := ⟨_, rfl⟩
                        rw [← hP] at hs2 hT
                        have hT1 : IntKind.i64.wrap (z4 * H) = P := by rw [hP]; exact IntWalk.i64_in _ (by omega)
                        have hT2 : wrap64 (z4 * H) = P := by rw [← hT1]; exact (IntWalk.i64_left _).symm
                        clear hT
                        have hmb := mom_bd HLD.out (k : Nat) hf ((t + 1 : Nat) : Int)
                        rw [← hs2] at hmb
                        obtain ⟨n0, n1⟩ := hmb
                        have HMF := Lib.hid hs2
                        clear hs2 hP
                        have x0 : Y.cell? ⟨gy, 0, none⟩ = some (.int .i64 xb) := HKX.out.cell 0
                        go_wp2_with fail
                        refine KF2.out.mono ?_
                        rintro e Y1 ⟨rfl, hb⟩
                        simp only
                        clear KF2 x0
                        have HKZ := Lib.hid (Bk.new Y1 43 #[.int .i64 z0, .string z1, .int .u8 (z2 : Nat), .bool z3, .int .i64 z4, .int .i64 z5, .int .i64 z6, .int .u8 (z7 : Nat), .bool z8])
                        have hY := hb.trans ((ba1 Y1 (.cells #[.int .i64 z0, .string z1, .int .u8 (z2 : Nat), .bool z3, .int .i64 z4, .int .i64 z5, .int .i64 z6, .int .u8 (z7 : Nat), .bool z8] 43)).mono hb.size)
                        have KL3 := Lib.hid (KL2.out _ hY)
                        have HKX1 := Lib.hid (HKX.out.below hY HKX.out.lt)
                        have HBn2 := Lib.hid (HBn1.out.trans (hY.mono HBn1.out.size))
                        clear hY hb HBn1 HKX KL2
                        go_upto_region 17 with fail
                        generalize Y1.heap.size = gz at *
                        generalize (Y1.alloc _) = Y1' at *
                        try clear Y1
                        try clear Y
                        have x1 : Y1'.cell? ⟨gy, 1, none⟩ = some (.int .i64 xc) := HKX1.out.cell 1
                        have x2 : Y1'.cell? ⟨gy, 2, none⟩ = some (.int .i64 xt) := HKX1.out.cell 2
                        have x3 : Y1'.cell? ⟨gy, 3, none⟩ = some (.int .u8 (xh : Nat)) := HKX1.out.cell 3
                        go_wp2_with fail
                        refine KL3.out.mono ?_
                        rintro e Y2 ⟨rfl, hb⟩
                        simp only
                        clear KL3
                        have HKZ2 := Lib.hid (HKZ.out.below hb HKZ.out.lt)
                        have HBn3 := Lib.hid (HBn2.out.trans (hb.mono HBn2.out.size))
                        have HBF := Lib.hid (HBt.out.trans (HBn3.out.mono HBt.out.size))
                        clear hb HBn2 HKZ HKX1
                        by_cases ht0 : t = 0
                        · have htb : ((t : Int) == 0) = true := by rw [ht0]; rfl
                          have hHb : (H == 0) = true := by rw [HH0.out ht0]; rfl
                          clear ht0
                          go_upto_region 19 with fail
                          clear x1 x2 x3
                          have y4 : Y2.cell? ⟨gz, 4, none⟩ = some (.int .i64 z4) := HKZ2.out.cell 4
                          have y3 : Y2.cell? ⟨gz, 3, none⟩ = some (.bool z3) := HKZ2.out.cell 3
                          cases z3 with
                          | false =>
                            have HHF : Hid (H + 2591 = hgtF bs st (k : Nat) hf ((t + 1 : Nat) : Int)) := Lib.hid (by rw [← HS1.out]; unfold tallB; simp only [Bool.false_eq_true, if_false])
                            clear HS1
                            go_wp2_with fail
                            go_roundw
                            case rel => first | exact ⟨t + 1, H + 2591, M + P, ht1, by go_num, rfl, rfl, HHF, HMF, HBF⟩ | ((repeat apply Exists.intro); exact ⟨⟨t + 1, H + 2591, M + P, ht1, by go_num, rfl, rfl, HHF, HMF, HBF⟩, rfl⟩) | ((repeat apply Exists.intro); exact ⟨ht1, by go_num, rfl, rfl, HHF, HMF, HBF⟩)
                            case measure => simp [intOf]; omega
                          | true =>
                            have HHF : Hid (H + 2591 + 305 = hgtF bs st (k : Nat) hf ((t + 1 : Nat) : Int)) := Lib.hid (by rw [← HS1.out]; unfold tallB; simp only [if_true]; omega)
                            clear HS1
                            go_wp2_with fail
                            go_roundw
                            case rel => first | exact ⟨t + 1, H + 2591 + 305, M + P, ht1, by go_num, rfl, rfl, HHF, HMF, HBF⟩ | ((repeat apply Exists.intro); exact ⟨⟨t + 1, H + 2591 + 305, M + P, ht1, by go_num, rfl, rfl, HHF, HMF, HBF⟩, rfl⟩) | ((repeat apply Exists.intro); exact ⟨ht1, by go_num, rfl, rfl, HHF, HMF, HBF⟩)
                            case measure => simp [intOf]; omega
                        · have htb : ((t : Int) == 0) = false := by simpa using ht0
                          clear ht0
                          go_upto_region 19 with fail
                          clear x1 x2 x3
                          have y4 : Y2.cell? ⟨gz, 4, none⟩ = some (.int .i64 z4) := HKZ2.out.cell 4
                          have y3 : Y2.cell? ⟨gz, 3, none⟩ = some (.bool z3) := HKZ2.out.cell 3
                          cases z3 with
                          | false =>
                            have HHF : Hid (H + 2591 = hgtF bs st (k : Nat) hf ((t + 1 : Nat) : Int)) := Lib.hid (by rw [← HS1.out]; unfold tallB; simp only [Bool.false_eq_true, if_false])
                            clear HS1
                            go_wp2_with fail
                            go_roundw
                            case rel => first | exact ⟨t + 1, H + 2591, M + P, ht1, by go_num, rfl, rfl, HHF, HMF, HBF⟩ | ((repeat apply Exists.intro); exact ⟨⟨t + 1, H + 2591, M + P, ht1, by go_num, rfl, rfl, HHF, HMF, HBF⟩, rfl⟩) | ((repeat apply Exists.intro); exact ⟨ht1, by go_num, rfl, rfl, HHF, HMF, HBF⟩)
                            case measure => simp [intOf]; omega
                          | true =>
                            have HHF : Hid (H + 2591 + 305 = hgtF bs st (k : Nat) hf ((t + 1 : Nat) : Int)) := Lib.hid (by rw [← HS1.out]; unfold tallB; simp only [if_true]; omega)
                            clear HS1
                            go_wp2_with fail
                            go_roundw
                            case rel => first | exact ⟨t + 1, H + 2591 + 305, M + P, ht1, by go_num, rfl, rfl, HHF, HMF, HBF⟩ | ((repeat apply Exists.intro); exact ⟨⟨t + 1, H + 2591 + 305, M + P, ht1, by go_num, rfl, rfl, HHF, HMF, HBF⟩, rfl⟩) | ((repeat apply Exists.intro); exact ⟨ht1, by go_num, rfl, rfl, HHF, HMF, HBF⟩)
                            case measure => simp [intOf]; omega
                      | false =>
                        have h3' : ((xh : Int) == (hf : Int)) = false := by rw [int_beq]; exact h3
                        cases h4 : (xh == 0) with
                        | false =>
                          have h4' : ((xh : Int) == 0) = false := by rw [show (0 : Int) = ((0 : Nat) : Int) from rfl, int_beq]; exact h4
                          have HNOF := Lib.hid (HNO1.out (by unfold inT; simp only; rw [h1, h2, h3, h4]; rfl))
                          clear HNO1 HSTEP
                          go_wp2_with fail
                          go_roundw
                          case rel => first | exact ⟨n + 1, hn1, by go_num, rfl, rfl, HNOF, HBn1⟩ | (repeat apply Exists.intro; exact ⟨⟨n + 1, hn1, by go_num, rfl, rfl, HNOF, HBn1⟩, rfl⟩) | ((repeat apply Exists.intro); exact ⟨hn1, by go_num, rfl, rfl, HNOF, HBn1⟩)
                          case measure => simp [intOf]; omega
                        | true =>
                          have h4' : ((xh : Int) == 0) = true := by rw [show (0 : Int) = ((0 : Nat) : Int) from rfl, int_beq]; exact h4
                          go_upto_region 16 with fail
                          clear x1 x2 x3
                          obtain ⟨hs1, hs2, hs3⟩ := HSTEP.out (by unfold inT; simp only; rw [h1, h2, h3, h4]; rfl)
                          clear HSTEP HNO1
                          have HS1 := Lib.hid hs1
                          have KL2 := Lib.hid (fun (V' : World) (hV : Below Y.heap.size Y V') => KL.out V' hV)
                          rw [hs3] at KL2
                          clear KL hs1 hs3
                          have hT : IntKind.i64.wrap (z4 * H) = z4 * H := IntWalk.i64_in _ (by omega)
                          obtain ⟨P, hP⟩ : ∃ P, P = z4 * H := ⟨_, rfl⟩
                          rw [← hP] at hs2 hT
                          have hT1 : IntKind.i64.wrap (z4 * H) = P := by rw [hP]; exact IntWalk.i64_in _ (by omega)
                          have hT2 : wrap64 (z4 * H) = P := by rw [← hT1]; exact (IntWalk.i64_left _).symm
                          clear hT
                          have hmb := mom_bd HLD.out (k : Nat) hf ((t + 1 : Nat) : Int)
                          rw [← hs2] at hmb
                          obtain ⟨n0, n1⟩ := hmb
                          have HMF := Lib.hid hs2
                          clear hs2 hP
                          have x0 : Y.cell? ⟨gy, 0, none⟩ = some (.int .i64 xb) := HKX.out.cell 0
                          go_wp2_with fail
                          refine KF2.out.mono ?_
                          rintro e Y1 ⟨rfl, hb⟩
                          simp only
                          clear KF2 x0
                          have HKZ := Lib.hid (Bk.new Y1 43 #[.int .i64 z0, .string z1, .int .u8 (z2 : Nat), .bool z3, .int .i64 z4, .int .i64 z5, .int .i64 z6, .int .u8 (z7 : Nat), .bool z8])
                          have hY := hb.trans ((ba1 Y1 (.cells #[.int .i64 z0, .string z1, .int .u8 (z2 : Nat), .bool z3, .int .i64 z4, .int .i64 z5, .int .i64 z6, .int .u8 (z7 : Nat), .bool z8] 43)).mono hb.size)
                          have KL3 := Lib.hid (KL2.out _ hY)
                          have HKX1 := Lib.hid (HKX.out.below hY HKX.out.lt)
                          have HBn2 := Lib.hid (HBn1.out.trans (hY.mono HBn1.out.size))
                          clear hY hb HBn1 HKX KL2
                          go_upto_region 17 with fail
                          generalize Y1.heap.size = gz at *
                          generalize (Y1.alloc _) = Y1' at *
                          try clear Y1
                          try clear Y
                          have x1 : Y1'.cell? ⟨gy, 1, none⟩ = some (.int .i64 xc) := HKX1.out.cell 1
                          have x2 : Y1'.cell? ⟨gy, 2, none⟩ = some (.int .i64 xt) := HKX1.out.cell 2
                          have x3 : Y1'.cell? ⟨gy, 3, none⟩ = some (.int .u8 (xh : Nat)) := HKX1.out.cell 3
                          go_wp2_with fail
                          refine KL3.out.mono ?_
                          rintro e Y2 ⟨rfl, hb⟩
                          simp only
                          clear KL3
                          have HKZ2 := Lib.hid (HKZ.out.below hb HKZ.out.lt)
                          have HBn3 := Lib.hid (HBn2.out.trans (hb.mono HBn2.out.size))
                          have HBF := Lib.hid (HBt.out.trans (HBn3.out.mono HBt.out.size))
                          clear hb HBn2 HKZ HKX1
                          by_cases ht0 : t = 0
                          · have htb : ((t : Int) == 0) = true := by rw [ht0]; rfl
                            have hHb : (H == 0) = true := by rw [HH0.out ht0]; rfl
                            clear ht0
                            go_upto_region 19 with fail
                            clear x1 x2 x3
                            have y4 : Y2.cell? ⟨gz, 4, none⟩ = some (.int .i64 z4) := HKZ2.out.cell 4
                            have y3 : Y2.cell? ⟨gz, 3, none⟩ = some (.bool z3) := HKZ2.out.cell 3
                            cases z3 with
                            | false =>
                              have HHF : Hid (H + 2591 = hgtF bs st (k : Nat) hf ((t + 1 : Nat) : Int)) := Lib.hid (by rw [← HS1.out]; unfold tallB; simp only [Bool.false_eq_true, if_false])
                              clear HS1
                              go_wp2_with fail
                              go_roundw
                              case rel => first | exact ⟨t + 1, H + 2591, M + P, ht1, by go_num, rfl, rfl, HHF, HMF, HBF⟩ | ((repeat apply Exists.intro); exact ⟨⟨t + 1, H + 2591, M + P, ht1, by go_num, rfl, rfl, HHF, HMF, HBF⟩, rfl⟩) | ((repeat apply Exists.intro); exact ⟨ht1, by go_num, rfl, rfl, HHF, HMF, HBF⟩)
                              case measure => simp [intOf]; omega
                            | true =>
                              have HHF : Hid (H + 2591 + 305 = hgtF bs st (k : Nat) hf ((t + 1 : Nat) : Int)) := Lib.hid (by rw [← HS1.out]; unfold tallB; simp only [if_true]; omega)
                              clear HS1
                              go_wp2_with fail
                              go_roundw
                              case rel => first | exact ⟨t + 1, H + 2591 + 305, M + P, ht1, by go_num, rfl, rfl, HHF, HMF, HBF⟩ | ((repeat apply Exists.intro); exact ⟨⟨t + 1, H + 2591 + 305, M + P, ht1, by go_num, rfl, rfl, HHF, HMF, HBF⟩, rfl⟩) | ((repeat apply Exists.intro); exact ⟨ht1, by go_num, rfl, rfl, HHF, HMF, HBF⟩)
                              case measure => simp [intOf]; omega
                          · have htb : ((t : Int) == 0) = false := by simpa using ht0
                            clear ht0
                            go_upto_region 19 with fail
                            clear x1 x2 x3
                            have y4 : Y2.cell? ⟨gz, 4, none⟩ = some (.int .i64 z4) := HKZ2.out.cell 4
                            have y3 : Y2.cell? ⟨gz, 3, none⟩ = some (.bool z3) := HKZ2.out.cell 3
                            cases z3 with
                            | false =>
                              have HHF : Hid (H + 2591 = hgtF bs st (k : Nat) hf ((t + 1 : Nat) : Int)) := Lib.hid (by rw [← HS1.out]; unfold tallB; simp only [Bool.false_eq_true, if_false])
                              clear HS1
                              go_wp2_with fail
                              go_roundw
                              case rel => first | exact ⟨t + 1, H + 2591, M + P, ht1, by go_num, rfl, rfl, HHF, HMF, HBF⟩ | ((repeat apply Exists.intro); exact ⟨⟨t + 1, H + 2591, M + P, ht1, by go_num, rfl, rfl, HHF, HMF, HBF⟩, rfl⟩) | ((repeat apply Exists.intro); exact ⟨ht1, by go_num, rfl, rfl, HHF, HMF, HBF⟩)
                              case measure => simp [intOf]; omega
                            | true =>
                              have HHF : Hid (H + 2591 + 305 = hgtF bs st (k : Nat) hf ((t + 1 : Nat) : Int)) := Lib.hid (by rw [← HS1.out]; unfold tallB; simp only [if_true]; omega)
                              clear HS1
                              go_wp2_with fail
                              go_roundw
                              case rel => first | exact ⟨t + 1, H + 2591 + 305, M + P, ht1, by go_num, rfl, rfl, HHF, HMF, HBF⟩ | ((repeat apply Exists.intro); exact ⟨⟨t + 1, H + 2591 + 305, M + P, ht1, by go_num, rfl, rfl, HHF, HMF, HBF⟩, rfl⟩) | ((repeat apply Exists.intro); exact ⟨ht1, by go_num, rfl, rfl, HHF, HMF, HBF⟩)
                              case measure => simp [intOf]; omega
                · obtain rfl : n = st.length := by omega
                  have HHF : Hid (H = hgtF bs st (k : Nat) hf ((t + 1 : Nat) : Int)) := Lib.hid (by
                    rw [HH.out, show ((t + 1 : Nat) : Int) = (t : Int) + 1 by omega]
                    exact (step_no _ HNO.out).symm)
                  have HMF : Hid (M = momT bs st (k : Nat) hf ((t + 1 : Nat) : Int)) := Lib.hid (by
                    rw [HM.out, show ((t + 1 : Nat) : Int) = (t : Int) + 1 by omega]
                    exact (step_no _ HNO.out).symm)
                  have HBF := Lib.hid (HBt.out.trans (HBn.out.mono HBt.out.size))
                  clear HNO HBn HH HM
                  go_wp2_with fail
                  go_roundw
                  case rel => first | exact ⟨t + 1, H, M, ht1, by go_num, rfl, rfl, HHF, HMF, HBF⟩ | ((repeat apply Exists.intro); exact ⟨⟨t + 1, H, M, ht1, by go_num, rfl, rfl, HHF, HMF, HBF⟩, rfl⟩) | ((repeat apply Exists.intro); exact ⟨ht1, by go_num, rfl, rfl, HHF, HMF, HBF⟩)
                  case measure => simp [intOf]; omega
            · obtain rfl : T = (t : Int) := by omega
              have KM := Lib.hid (moment_any A1 q1 bs A3 q3 st (k : Nat) hf Z HKL.out (HW.out.on HBZ.out).bx HLD.out.bl (HW.out.on HBZ.out).sx (by omega))
              have KH := Lib.hid (fun (V' : World) (hV : Below Z.heap.size Z V') => height_any A1 q1 bs A3 q3 st (k : Nat) hf V' ((HW.out.on HBZ.out).on hV).bx HLD.out.bl ((HW.out.on HBZ.out).on hV).sx (by omega))
              rw [← HMAF.out, ← HM.out] at KM
              rw [← HHAF.out, ← HH.out] at KH
              go_upto_region 24 with fail
              clear e0 d3
              go_wp2_with fail
              refine KM.out.mono ?_
              rintro e Z1 ⟨rfl, hb⟩
              simp only
              clear KM
              have KH1 := Lib.hid (KH.out Z1 hb)
              have HBZ1 := Lib.hid (HBt.out.trans (hb.mono HBt.out.size))
              clear hb KH
              go_wp2_with fail
              refine KH1.out.mono ?_
              rintro e Z2 ⟨rfl, hb⟩
              simp only
              have HBZ2 := Lib.hid (HBi.out.trans ((HBZ1.out.trans (hb.mono HBZ1.out.size)).mono HBi.out.size))
              clear hb KH1 HBZ1
              go_wp2_with fail
              go_roundw
              case rel => first | exact ⟨j + 1, hj1, by go_num, HBZ2⟩ | ((repeat apply Exists.intro); exact ⟨⟨j + 1, hj1, by go_num, HBZ2⟩, rfl⟩) | ((repeat apply Exists.intro); exact ⟨hj1, by go_num, HBZ2⟩)
              case measure => simp [intOf]; omega
        · obtain rfl : j = 2 := by omega
          have HBX := Lib.hid (HB1.out.trans (HBi.out.mono HB1.out.size))
          clear HBi HB1
          go_wp2_with fail
          go_roundw
          case rel => first | exact ⟨k + 1, hk1, by go_num, HBX⟩ | ((repeat apply Exists.intro); exact ⟨⟨k + 1, hk1, by go_num, HBX⟩, rfl⟩) | ((repeat apply Exists.intro); exact ⟨hk1, by go_num, HBX⟩)
          case measure => simp [intOf]; omega
    · obtain rfl : k = s.cols.length := by omega
      have HW9 := Lib.hid (HW.out.on HB.out).be
      clear HB HW HIN HLH HKL HLM HLD HD3 HE0 HLOW
      go_wp2_with fail
      refine (awake11_true _).mono ?_
      rintro e W9 ⟨rfl, hb⟩
      simp only
      go_wp2_with fail
      go_ret
      exact ⟨rfl, HW9.out.trans (hb.mono HW9.out.size)⟩
end Go.Proofs.Ytncfakkajknhaaa
