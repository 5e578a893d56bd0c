/-
  The walk of the statement StackSums.
-/
import Derived.Test.YtncfakkajknhaaaStU
import Derived.Test.YtncfakkajknhaaaStV
import Derived.BigRegion
namespace Go.Proofs.Ytncfakkajknhaaa
open Go.RowKit

set_option maxRecDepth 100000 in
set_option maxHeartbeats 8000000 in
theorem stackSums_any (A : Option Addr) (c : Nat) (pl : List (Nat × Nat × Nat × Bool)) (covers : Nat) (ha hb ht : Nat) (hha : ha < 256) (hhb : hb < 256) (hht : ht < 256) (A2 : Option Addr) (c2 : Nat) (ds : List Drp) (w : World)
    (hs : SlT tPl w (Lt w.heap.size) A pl) (hl : ∀ p ∈ pl, p.1 < 256 ∧ p.2.1 < 256 ∧ p.2.2.1 < 256) (hc : pl.length ≤ c) (hcm : c ≤ maxLen)
    (hs2 : SlT tDrp w (Lt w.heap.size) A2 ds) (hd : ∀ d ∈ ds, d.col < 256 ∧ d.kilos < 256) (hc2 : ds.length ≤ c2) (hcm2 : c2 ≤ maxLen) :
    Calls Try.prog 4 #[.slice A pl.length c, .int .u32 covers, .agg #[.int .u8 (ha : Nat), .int .u8 (hb : Nat), .int .u8 (ht : Nat)], .slice A2 ds.length c2] w (TrueRet w) := by
  have bw := ba1 w (.cells #[.int .u8 (ha : Nat), .int .u8 (hb : Nat), .int .u8 (ht : Nat)] 25)
  have kw := Bk.new w 25 #[.int .u8 (ha : Nat), .int .u8 (hb : Nat), .int .u8 (ht : Nat)]
  have HC := Lib.hid (limited_any A c pl covers ha hb ht hha hhb hht A2 c2 ds (w.alloc (.cells #[.int .u8 (ha : Nat), .int .u8 (hb : Nat), .int .u8 (ht : Nat)] 25)) (hs.on bw) hl hc hcm (hs2.on bw) hd hc2 hcm2)
  have HBW := Lib.hid bw
  have k0 : (w.alloc (.cells #[.int .u8 (ha : Nat), .int .u8 (hb : Nat), .int .u8 (ht : Nat)] 25)).cell? ⟨w.heap.size, 0, none⟩ = some (.int .u8 (ha : Nat)) := kw.cell 0
  have k1 : (w.alloc (.cells #[.int .u8 (ha : Nat), .int .u8 (hb : Nat), .int .u8 (ht : Nat)] 25)).cell? ⟨w.heap.size, 1, none⟩ = some (.int .u8 (hb : Nat)) := kw.cell 1
  have k2 : (w.alloc (.cells #[.int .u8 (ha : Nat), .int .u8 (hb : Nat), .int .u8 (ht : Nat)] 25)).cell? ⟨w.heap.size, 2, none⟩ = some (.int .u8 (ht : Nat)) := kw.cell 2
  clear hs hl hc hcm hs2 hd hc2 hcm2 bw kw
  go_enter Try.func4, Try.ntmps4
  go_wp2_with fail
  refine HC.out.mono ?_
  rintro e w1 ⟨s, h, v1, v2, bs, st, rfl, hLm, hLd, hrd, ob, os, hb1⟩
  simp only
  clear HC k0 k1 k2
  obtain ⟨A1, q1, rfl, hq1, hqm1, hsb⟩ := OwnS.sl' ob
  obtain ⟨A3, q3, rfl, hq3, hqm3, hss⟩ := OwnS.sl' os
  have hW : WW w (w1.alloc (.cells (shpA s h) 37)) w1.heap.size s h A1 bs A3 st := by
    have hx := ba1 w1 (.cells (shpA s h) 37)
    have h0 := HBW.out.trans (hb1.mono HBW.out.size)
    exact ⟨Bk.new w1 _ _, (hrd.more fun x hx => hx.1).on hx, hsb.on hx, hss.on hx, h0.trans (hx.mono h0.size)⟩
  have HW := Lib.hid hW
  have HLM := Lib.hid hLm
  have HLD := Lib.hid hLd
  have hsl := hLd.stlen
  have hc1 := hLm.one
  have hc12 := hLm.twelve
  clear hW ob os hsb hss hrd hb1 HBW hLm hLd hqm1 hqm3 hq1 hq3
  have HIN : Hid (∀ x ∈ st, 0 ≤ x.slot.tier ∧ x.slot.tier < 5 ∧ 0 ≤ x.slot.col ∧ x.slot.col < s.cols.length ∧ x.slot.half < 3) := Lib.hid fun x hx => HLD.out.tier HLM.out hx
  unfold shpA at HW ⊢
  go_upto_region 2 with fail
  generalize w1.heap.size = g at *
  generalize (w1.alloc _) = V at *
  clear w1
  have e0 : V.cell? ⟨g, 0, none⟩ = some (.slice h.A1 s.cols.length h.c1) := HW.out.bk.cell 0
  go_wp2_with fail
  clear e0
  go_loopw [12, 13, 39] (fun tv uv i wr => ∃ (k : Nat) (T U : Int), k ≤ s.cols.length ∧ i = .int .i64 k ∧ tv = .int .i64 T ∧ uv = .int .i64 U ∧ Hid (T = totF bs st k) ∧ Hid (U = wantedAt bs st k) ∧ Hid (Below V.heap.size V wr)) (fun _ _ i _ => s.cols.length - (intOf i).toNat)
  case atStart => exact ⟨0, 0, 0, Nat.zero_le _, rfl, rfl, rfl, Lib.hid (totF_zero fun x hx => (HIN.out x hx).2.2.1).symm, Lib.hid rfl, Lib.hid (Below.refl _ _)⟩
  case round =>
    obtain ⟨k, T, U, hk, rfl, rfl, rfl, HT, HU, HB⟩ := hrel
    obtain ⟨W, rfl⟩ : ∃ V, V = wr := ⟨_, rfl⟩
    by_cases hlt : k < s.cols.length
    · have hk0 : (0 : Int) ≤ (k : Int) := by omega
      have hk1 : (k : Int) < (s.cols.length : Int) := by omega
      have KW := Lib.hid (weigh_any A1 q1 bs A3 q3 st (k : Int) W HLD.out.kg (HW.out.on HB.out).bx HLD.out.bl (HW.out.on HB.out).sx HLD.out.sl)
      have HP := Lib.hid (sumF_parts bs k st fun x hx => (HIN.out x hx).2.2.2.2)
      have HTS := Lib.hid (totF_succ bs k st)
      have HBI := Lib.hid (bits_all s bs st k)
      have b1 := sumF_bd HLD.out.kg st (halfB k 1)
      have b2 := sumF_bd HLD.out.kg st (halfB k 2)
      have b3 := sumF_bd HLD.out.kg st (colB k)
      have b4 : -(1000000000000 * (st.length : Int)) ≤ totF bs st k ∧ totF bs st k ≤ 1000000000000 * (st.length : Int) := sumF_bd HLD.out.kg st _
      rw [← HT.out] at b4
      have hF0 := HLM.out.at_ hlt
      unfold klL at KW
      generalize sumF bs st (halfB k 1) = kf at *
      generalize sumF bs st (halfB k 2) = ka at *
      generalize sumF bs st (colB k) = kl at *
      obtain ⟨⟨f0, f1⟩, ⟨a0, a1⟩, ⟨l0, l1⟩, ⟨t0, t1⟩⟩ : (-9000000000000 ≤ kf ∧ kf ≤ 9000000000000) ∧ (-9000000000000 ≤ ka ∧ ka ≤ 9000000000000) ∧ (-9000000000000 ≤ kl ∧ kl ≤ 9000000000000) ∧ (-9000000000000 ≤ T ∧ T ≤ 9000000000000) := by omega
      clear b1 b2 b3 b4
      go_upto_region 6 with fail
      go_wp2_with fail
      refine KW.out.mono ?_
      rintro e W1 ⟨rfl, hb⟩
      simp only
      clear KW
      have HKK := Lib.hid (Bk.new W1 58 #[.int .i64 kf, .int .i64 ka, .int .i64 kl])
      have HB1 : Hid (Below V.heap.size V (W1.alloc (.cells #[.int .i64 kf, .int .i64 ka, .int .i64 kl] 58))) := Lib.hid (by
        have h1 := HB.out.trans (hb.mono HB.out.size)
        exact h1.trans ((ba1 W1 _).mono h1.size))
      clear hb HB
      go_upto_region 7 with fail
      generalize W1.heap.size = gk at *
      generalize (W1.alloc _) = X at *
      try clear W1
      try clear W
      go_wp2_with fail
      go_loopw [13, 16, 48] (fun uv wv i wx => ∃ (j : Nat) (U M : Int), j ≤ st.length ∧ i = .int .i64 j ∧ uv = .int .i64 U ∧ wv = .int .i64 M ∧ Hid (U = wantedF bs st k j) ∧ Hid (M = sumF bs (st.take j) (wholeB k)) ∧ Hid (Below X.heap.size X wx)) (fun _ _ i _ => st.length - (intOf i).toNat)
      case atStart => exact ⟨0, U, 0, Nat.zero_le _, rfl, rfl, rfl, Lib.hid (by rw [HU.out, wantedF_zero]), Lib.hid rfl, Lib.hid (Below.refl _ _)⟩
      case round =>
        obtain ⟨j, U, M, hj, rfl, rfl, rfl, HU, HM, HBx⟩ := hrel
        obtain ⟨Y, rfl⟩ : ∃ V, V = wr := ⟨_, rfl⟩
        have HBY : Hid (Below V.heap.size V Y) := Lib.hid (HB1.out.trans (HBx.out.mono HB1.out.size))
        by_cases hjl : j < st.length
        · obtain ⟨b, off, hA3, hbB, c0, c1, c2', c3⟩ := (HW.out.on HBY.out).sx.stw hjl
          subst hA3
          have HX := Lib.hid (HLD.out.box_at (getD_memD hjl default))
          have hkg := find_kg HLD.out.kg (st.getD j default).box
          have HU2 := Lib.hid (wantedF_succ (bs := bs) (l := st) (k := k) hjl)
          have HM2 : Hid (sumF bs (st.take (j + 1)) (wholeB k) = sumF bs (st.take j) (wholeB k) + if ((st.getD j default).slot.col == (k : Int) && (st.getD j default).slot.half == 0) then (findBx bs (st.getD j default).box).1.kilos else 0) := Lib.hid (sumF_take bs st (wholeB k) hjl)
          have u1 := sumF_take_bd HLD.out.kg st (wholeB k) j
          rw [← HM.out] at u1
          have u2 : -(1000000000000 * (st.length : Int)) ≤ U ∧ U ≤ 1000000000000 * (st.length : Int) := by
            rw [HU.out]
            unfold wantedF
            split
            · exact sumF_take_bd HLD.out.kg st allB j
            · exact sumF_bd HLD.out.kg st allB
          rw [← HM.out] at HM2
          rw [← HU.out] at HU2
          have KF := Lib.hid (fun (V' : World) (hV : Below Y.heap.size Y V') => stowFind_any A1 q1 bs (st.getD j default).box V' ((HW.out.on HBY.out).on hV).bx HLD.out.bl)
          generalize st.getD j default = x at *
          obtain ⟨xb, xc, xt, xh⟩ := x
          simp only at c0 c1 c2' c3 hkg KF HX HM2 HU2
          generalize findBx bs xb = fb at *
          obtain ⟨⟨y0, y1, y2, y3, y4, y5, y6, y7, y8⟩, ok⟩ := fb
          obtain rfl : ok = true := HX.out.1
          simp only at hkg HM2 HU2 KF
          obtain ⟨g0, g1⟩ := hkg
          obtain ⟨⟨m0, m1⟩, ⟨n0, n1⟩⟩ : (-9000000000000 ≤ M ∧ M ≤ 9000000000000) ∧ (-9000000000000 ≤ U ∧ U ≤ 9000000000000) := by omega
          have i0 : (0 : Int) ≤ (j : Int) := by omega
          have i1 : (j : Int) < (st.length : Int) := by omega
          have hj1 : j + 1 ≤ st.length := hjl
          clear u1 u2 HX HU HM
          have HKX := Lib.hid (Bk.new Y 61 #[.int .i64 xb, .int .i64 xc, .int .i64 xt, .int .u8 (xh : Nat)])
          have hY2 := ba1 Y (.cells #[.int .i64 xb, .int .i64 xc, .int .i64 xt, .int .u8 (xh : Nat)] 61)
          have KF2 := Lib.hid (KF.out _ hY2)
          have HBX2 := Lib.hid (HBx.out.trans (hY2.mono HBx.out.size))
          clear KF hY2 HBx HBY
          unfold bxL at KF2
          simp only at KF2
          go_upto_region 10 with fail
          clear c0 c1 c2' c3
          generalize Y.heap.size = gy at *
          generalize (Y.alloc _) = Y2 at *
          try clear Y
          have x0 : Y2.cell? ⟨gy, 0, none⟩ = some (.int .i64 xb) := HKX.out.cell 0
          go_wp2_with fail
          refine KF2.out.mono ?_
          rintro e Y3 ⟨rfl, hb⟩
          simp only
          clear KF2 x0
          have hZ := ba1 Y3 (.cells #[.int .i64 y0, .string y1, .int .u8 (y2 : Nat), .bool y3, .int .i64 y4, .int .i64 y5, .int .i64 y6, .int .u8 (y7 : Nat), .bool y8] 43)
          have HKY := Lib.hid ((Bk.new Y3 43 #[.int .i64 y0, .string y1, .int .u8 (y2 : Nat), .bool y3, .int .i64 y4, .int .i64 y5, .int .i64 y6, .int .u8 (y7 : Nat), .bool y8]))
          have HKX3 := Lib.hid ((HKX.out.below hb HKX.out.lt).below hZ (HKX.out.below hb HKX.out.lt).lt)
          have HBX3 := Lib.hid ((HBX2.out.trans (hb.mono HBX2.out.size)).trans (hZ.mono (HBX2.out.trans (hb.mono HBX2.out.size)).size))
          clear hb hZ HKX HBX2
          go_upto_region 11 with fail
          generalize Y3.heap.size = gz at *
          generalize (Y3.alloc _) = Z at *
          try clear Y3
          try clear Y2
          have x1 : Z.cell? ⟨gy, 1, none⟩ = some (.int .i64 xc) := HKX3.out.cell 1
          have x3 : Z.cell? ⟨gy, 3, none⟩ = some (.int .u8 (xh : Nat)) := HKX3.out.cell 3
          have z4 : Z.cell? ⟨gz, 4, none⟩ = some (.int .i64 y4) := HKY.out.cell 4
          clear HKX3 HKY
          go_upto_region 13 with fail
          by_cases hxc : xc = (k : Int)
          · subst hxc
            by_cases hxh : xh = 0
            · subst hxh
              have HMF : Hid (M + y4 = sumF bs (st.take (j + 1)) (wholeB k)) := Lib.hid (by rw [HM2.out]; simp)
              by_cases hz : k = 0
              · have hz' : (k : Int) = 0 := by omega
                have HUF : Hid (U + y4 = wantedF bs st k (j + 1)) := Lib.hid (by rw [HU2.out, if_pos hz])
                clear HM2 HU2
                go_wp2_with fail
                go_roundw
                case rel => (repeat apply Exists.intro); (first | exact ⟨⟨j + 1, U + y4, M + y4, hj1, by go_num, rfl, rfl, HUF, HMF, HBX3⟩, rfl⟩ | exact ⟨hj1, by go_num, rfl, rfl, HUF, HMF, HBX3⟩ | (subst hz; exact ⟨⟨j + 1, U + y4, M + y4, hj1, by go_num, rfl, rfl, HUF, HMF, HBX3⟩, rfl⟩))
                case measure => simp [intOf]; omega
              · have hz' : (k : Int) ≠ 0 := by omega
                have HUF : Hid (U = wantedF bs st k (j + 1)) := Lib.hid (by rw [HU2.out, if_neg hz])
                clear HM2 HU2
                go_wp2_with fail
                go_roundw
                case rel => (repeat apply Exists.intro); (first | exact ⟨⟨j + 1, U, M + y4, hj1, by go_num, rfl, rfl, HUF, HMF, HBX3⟩, rfl⟩ | exact ⟨hj1, by go_num, rfl, rfl, HUF, HMF, HBX3⟩ | (subst hz; exact ⟨⟨j + 1, U, M + y4, hj1, by go_num, rfl, rfl, HUF, HMF, HBX3⟩, rfl⟩))
                case measure => simp [intOf]; omega
            · have HMF : Hid (M = sumF bs (st.take (j + 1)) (wholeB k)) := Lib.hid (by rw [HM2.out]; simp [hxh])
              have hne : ((xh : Nat) : Int) ≠ 0 := by omega
              by_cases hz : k = 0
              · have hz' : (k : Int) = 0 := by omega
                have HUF : Hid (U + y4 = wantedF bs st k (j + 1)) := Lib.hid (by rw [HU2.out, if_pos hz])
                clear HM2 HU2
                go_wp2_with fail
                go_roundw
                case rel => (repeat apply Exists.intro); (first | exact ⟨⟨j + 1, U + y4, M, hj1, by go_num, rfl, rfl, HUF, HMF, HBX3⟩, rfl⟩ | exact ⟨hj1, by go_num, rfl, rfl, HUF, HMF, HBX3⟩ | (subst hz; exact ⟨⟨j + 1, U + y4, M, hj1, by go_num, rfl, rfl, HUF, HMF, HBX3⟩, rfl⟩))
                case measure => simp [intOf]; omega
              · have hz' : (k : Int) ≠ 0 := by omega
                have HUF : Hid (U = wantedF bs st k (j + 1)) := Lib.hid (by rw [HU2.out, if_neg hz])
                clear HM2 HU2
                go_wp2_with fail
                go_roundw
                case rel => (repeat apply Exists.intro); (first | exact ⟨⟨j + 1, U, M, hj1, by go_num, rfl, rfl, HUF, HMF, HBX3⟩, rfl⟩ | exact ⟨hj1, by go_num, rfl, rfl, HUF, HMF, HBX3⟩ | (subst hz; exact ⟨⟨j + 1, U, M, hj1, by go_num, rfl, rfl, HUF, HMF, HBX3⟩, rfl⟩))
                case measure => simp [intOf]; omega
          · have HMF : Hid (M = sumF bs (st.take (j + 1)) (wholeB k)) := Lib.hid (by rw [HM2.out]; simp [hxc])
            have hxcb : (xc == (k : Int)) = false := by simpa using hxc
            clear hxc
            by_cases hz : k = 0
            · have hz' : ((k : Int) == 0) = true := by simp; omega
              have HUF : Hid (U + y4 = wantedF bs st k (j + 1)) := Lib.hid (by rw [HU2.out, if_pos hz])
              clear HM2 HU2
              go_wp2_with fail
              go_roundw
              case rel => (repeat apply Exists.intro); (first | exact ⟨⟨j + 1, U + y4, M, hj1, by go_num, rfl, rfl, HUF, HMF, HBX3⟩, rfl⟩ | exact ⟨hj1, by go_num, rfl, rfl, HUF, HMF, HBX3⟩ | (subst hz; exact ⟨⟨j + 1, U + y4, M, hj1, by go_num, rfl, rfl, HUF, HMF, HBX3⟩, rfl⟩))
              case measure => simp [intOf]; omega
            · have hz' : ((k : Int) == 0) = false := by simp; omega
              have HUF : Hid (U = wantedF bs st k (j + 1)) := Lib.hid (by rw [HU2.out, if_neg hz])
              clear HM2 HU2
              go_wp2_with fail
              go_roundw
              case rel => (repeat apply Exists.intro); (first | exact ⟨⟨j + 1, U, M, hj1, by go_num, rfl, rfl, HUF, HMF, HBX3⟩, rfl⟩ | exact ⟨hj1, by go_num, rfl, rfl, HUF, HMF, HBX3⟩ | (subst hz; exact ⟨⟨j + 1, U, M, hj1, by go_num, rfl, rfl, HUF, HMF, HBX3⟩, rfl⟩))
              case measure => simp [intOf]; omega
        · obtain rfl : j = st.length := by omega
          rw [List.take_length] at HM
          rw [wantedF_end] at HU
          have hsum : kl = kf + ka + M := by rw [HM.out]; exact HP.out
          have hmb := sumF_bd HLD.out.kg st (wholeB k)
          rw [← HM.out] at hmb
          obtain ⟨m0, m1⟩ : -9000000000000 ≤ M ∧ M ≤ 9000000000000 := by omega
          have HU9 : Hid (U = wantedAt bs st (k + 1)) := Lib.hid (by rw [HU.out]; rfl)
          have HT9 : Hid (T + (kf + ka + M) = totF bs st (k + 1)) := Lib.hid (by rw [← hsum, HTS.out, HT.out])
          have k2 : Y.cell? ⟨gk, 2, none⟩ = some (.int .i64 kl) := (HKK.out.below HBx.out HKK.out.lt).cell 2
          have k0 : Y.cell? ⟨gk, 0, none⟩ = some (.int .i64 kf) := (HKK.out.below HBx.out HKK.out.lt).cell 0
          have k1 : Y.cell? ⟨gk, 1, none⟩ = some (.int .i64 ka) := (HKK.out.below HBx.out HKK.out.lt).cell 1
          clear HU HM HTS HT hmb HP
          go_upto_region 22 with fail
          clear k0 k1 k2 hsum
          have KFL : Hid (Calls Try.prog 15 #[.agg (shpA s h), .slice A1 bs.length q1, .slice A3 st.length q3, .int .i64 (k : Nat)] Y (OwnFlt Y (faultsF s bs st k))) := Lib.hid (by
            have hw := HW.out.on HBY.out
            have k1 := stFaults_any s h A1 q1 bs A3 q3 st (k : Nat) Y HLD.out.kg HLM.out.tol2 hw.rd HLM.out.short hw.bx HLD.out.bl hw.sx HLD.out.sl (fun x hx => by have := HIN.out x hx; omega)
            rw [show thereB s (k : Nat) = true by unfold thereB; simp; omega] at k1
            exact k1)
          have HFM := Lib.hid (fun f (hf : f ∈ faultsF s bs st k) => faults_mem hf)
          have hFl := faultsF_len s bs st k
          generalize faultsF s bs st k = F at *
          have SC := (HW.out.on HBY.out).bk
          unfold shpA at KFL
          have e0 : Y.cell? ⟨g, 0, none⟩ = some (.slice h.A1 s.cols.length h.c1) := SC.cell 0
          have e1 : Y.cell? ⟨g, 1, none⟩ = some (.slice h.A2 s.covs.length h.c2) := SC.cell 1
          have e2 : Y.cell? ⟨g, 2, none⟩ = some (.int .i64 s.l0) := SC.cell 2
          have e3 : Y.cell? ⟨g, 3, none⟩ = some (.int .i64 s.l1) := SC.cell 3
          have e4 : Y.cell? ⟨g, 4, none⟩ = some (.int .i64 s.l2) := SC.cell 4
          have e5 : Y.cell? ⟨g, 5, none⟩ = some (.int .i64 s.l3) := SC.cell 5
          have e6 : Y.cell? ⟨g, 6, none⟩ = some (.slice h.A3 s.rows.length h.c3) := SC.cell 6
          have e7 : Y.cell? ⟨g, 7, none⟩ = some (.slice h.A4 s.frames.length h.c4) := SC.cell 7
          have e8 : Y.cell? ⟨g, 8, none⟩ = some (.slice h.A5 s.tanks.length h.c5) := SC.cell 8
          have e9 : Y.cell? ⟨g, 9, none⟩ = some (.int .i64 s.m0) := SC.cell 9
          have e10 : Y.cell? ⟨g, 10, none⟩ = some (.int .i64 s.m1) := SC.cell 10
          have e11 : Y.cell? ⟨g, 11, none⟩ = some (.int .i64 s.m2) := SC.cell 11
          have e12 : Y.cell? ⟨g, 12, none⟩ = some (.int .i64 s.m3) := SC.cell 12
          clear SC
          go_wp2_with fail
          refine KFL.out.mono ?_
          rintro e Y4 ⟨v, rfl, hov, hb⟩
          simp only
          clear KFL
          clear e0 e1 e2 e3 e4 e5 e6 e7 e8 e9 e10 e11 e12
          obtain ⟨A7, c7, rfl, _, _, hs7⟩ := hov.sl
          have HSF := Lib.hid hs7
          have HKK4 := Lib.hid ((HKK.out.below HBx.out HKK.out.lt).below hb (HKK.out.below HBx.out HKK.out.lt).lt)
          have HB4 := Lib.hid (HBY.out.trans (hb.mono HBY.out.size))
          clear hov hs7 hb HKK HBx HBY HB1
          go_wp2_with fail
          go_loopw [21, 103] (fun nv i wx => ∃ (i' : Nat) (N : Int), i' ≤ F.length ∧ i = .int .i64 i' ∧ nv = .int .i64 N ∧ Hid (N = bitsTo F i') ∧ Hid (Below Y4.heap.size Y4 wx)) (fun _ i _ => F.length - (intOf i).toNat)
          case atStart => exact ⟨0, 0, Nat.zero_le _, rfl, rfl, Lib.hid rfl, Lib.hid (Below.refl _ _)⟩
          case round =>
            obtain ⟨i', N, hi', rfl, rfl, HN, HBf⟩ := hrel
            obtain ⟨Z, rfl⟩ : ∃ V, V = wr := ⟨_, rfl⟩
            by_cases hif : i' < F.length
            · obtain ⟨b, off, hA7, hbB, c0, c1, c2'⟩ := (HSF.out.below HBf.out).flt hif
              subst hA7
              obtain ⟨hfc, hfk⟩ := HFM.out _ (getD_memD hif default)
              have HN2 := Lib.hid (bitsTo_succ hif)
              have hnb := bitsTo_bd F i'
              rw [← HN.out] at hnb HN2
              have HBG := Lib.hid (HBf.out.trans ((ba1 Z (.cells #[.int .i64 (F.getD i' default).col, .int .u8 ((F.getD i' default).kind : Nat), .int .i64 (F.getD i' default).box] 65)).mono HBf.out.size))
              have HKF := Lib.hid (Bk.new Z 65 #[.int .i64 (F.getD i' default).col, .int .u8 ((F.getD i' default).kind : Nat), .int .i64 (F.getD i' default).box])
              generalize F.getD i' default = f at *
              obtain ⟨fc, fk, fx⟩ := f
              simp only at c0 c1 c2' hfc hfk HBG HKF
              subst hfc
              obtain ⟨n0, n1⟩ : 0 ≤ N ∧ N ≤ 1000 := by omega
              have i0 : (0 : Int) ≤ (i' : Int) := by omega
              have i1 : (i' : Int) < (F.length : Int) := by omega
              have hi1 : i' + 1 ≤ F.length := hif
              clear hnb HN HBf
              have hk4 : fk < 256 := by omega
              go_upto_region 25 with fail
              clear c0 c1 c2'
              generalize Z.heap.size = gz at *
              generalize (Z.alloc _) = Z2 at *
              try clear Z
              have f0 : Z2.cell? ⟨gz, 0, none⟩ = some (.int .i64 (k : Nat)) := HKF.out.cell 0
              have f1 : Z2.cell? ⟨gz, 1, none⟩ = some (.int .u8 (fk : Nat)) := HKF.out.cell 1
              have f2 : Z2.cell? ⟨gz, 2, none⟩ = some (.int .i64 fx) := HKF.out.cell 2
              clear HKF
              rcases hfk with rfl | ⟨rfl | rfl | rfl, rfl⟩
              · have HNF : Hid (N = bitsTo F (i' + 1)) := Lib.hid (by rw [HN2.out]; simp [bitOf])
                clear HN2
                go_wp2_with fail
                go_roundw
                case rel => (repeat apply Exists.intro); (first | exact ⟨⟨i' + 1, N, hi1, by go_num, rfl, HNF, HBG⟩, rfl⟩ | exact ⟨hi1, by go_num, rfl, HNF, HBG⟩)
                case measure => simp [intOf]; omega
              · have HNF : Hid (N + 2 = bitsTo F (i' + 1)) := Lib.hid (by rw [HN2.out]; simp [bitOf])
                clear HN2
                go_wp2_with fail
                go_roundw
                case rel => (repeat apply Exists.intro); (first | exact ⟨⟨i' + 1, N + 2, hi1, by go_num, rfl, HNF, HBG⟩, rfl⟩ | exact ⟨hi1, by go_num, rfl, HNF, HBG⟩)
                case measure => simp [intOf]; omega
              · have HNF : Hid (N + 4 = bitsTo F (i' + 1)) := Lib.hid (by rw [HN2.out]; simp [bitOf])
                clear HN2
                go_wp2_with fail
                go_roundw
                case rel => (repeat apply Exists.intro); (first | exact ⟨⟨i' + 1, N + 4, hi1, by go_num, rfl, HNF, HBG⟩, rfl⟩ | exact ⟨hi1, by go_num, rfl, HNF, HBG⟩)
                case measure => simp [intOf]; omega
              · have HNF : Hid (N + 8 = bitsTo F (i' + 1)) := Lib.hid (by rw [HN2.out]; simp [bitOf])
                clear HN2
                go_wp2_with fail
                go_roundw
                case rel => (repeat apply Exists.intro); (first | exact ⟨⟨i' + 1, N + 8, hi1, by go_num, rfl, HNF, HBG⟩, rfl⟩ | exact ⟨hi1, by go_num, rfl, HNF, HBG⟩)
                case measure => simp [intOf]; omega
            · obtain rfl : i' = F.length := by omega
              rw [HBI.out] at HN
              have HKZ := Lib.hid (HKK4.out.below HBf.out HKK4.out.lt)
              have HBZ := Lib.hid (HB4.out.trans (HBf.out.mono HB4.out.size))
              clear HBf HSF HKK4 HB4 HFM HBI hFl
              go_upto_region 31 with fail
              have hz := HW.out.on HBZ.out
              obtain ⟨b, off, Ap, q, hA1, hbB, hpq, hpl, c0, c1, c2', c3, c4, c5, c6, c7', c8, c9, c10, c11⟩ := hz.rd.cols.col (i := k) hlt
              clear c0 c1 c2' c3 c4 c7' c8 c9 c10 c11 hpq hpl
              have e0 : Z.cell? ⟨g, 0, none⟩ = some (.slice h.A1 s.cols.length h.c1) := hz.bk.cell 0
              rw [hA1] at e0
              clear hz hA1
              have k0 : Z.cell? ⟨gk, 0, none⟩ = some (.int .i64 kf) := HKZ.out.cell 0
              have k1 : Z.cell? ⟨gk, 1, none⟩ = some (.int .i64 ka) := HKZ.out.cell 1
              have k2 : Z.cell? ⟨gk, 2, none⟩ = some (.int .i64 kl) := HKZ.out.cell 2
              generalize s.cols.getD k default = cl at *
              obtain ⟨z0, z1, z2, z3, z4, z5, z6, z7, z8, z9, z10, z11⟩ := cl
              simp only at c5 c6 HN hF0
              refine wp_region_og [.val 0 (.pointer (some ⟨gk, 0, none⟩)),
    .val 1 (.int .i64 kf),
    .val 2 (.pointer (some ⟨g, 0, none⟩)),
    .val 3 (.slice (some ⟨b, off, none⟩) s.cols.length h.c1),
    .val 4 (.int .i64 (k : Nat)),
    .val 5 (.pointer (some ⟨b, off + k * 12, none⟩)),
    .val 6 (.pointer (some ⟨b, off + k * 12 + 5, none⟩)),
    .val 7 (.int .i64 z5),
    .val 8 (.bool (decide (z5 < kf))),
    .val 9 (.pointer (some ⟨gk, 1, none⟩)),
    .val 10 (.int .i64 ka),
    .val 11 (.pointer (some ⟨g, 0, none⟩)),
    .val 12 (.slice (some ⟨b, off, none⟩) s.cols.length h.c1),
    .val 13 (.int .i64 (k : Nat)),
    .val 14 (.pointer (some ⟨b, off + k * 12, none⟩)),
    .val 15 (.pointer (some ⟨b, off + k * 12 + 5, none⟩)),
    .val 16 (.int .i64 z5),
    .val 17 (.bool (decide (z5 < ka))),
    .val 18 (.pointer (some ⟨gk, 2, none⟩)),
    .val 19 (.int .i64 kl),
    .val 20 (.pointer (some ⟨g, 0, none⟩)),
    .val 21 (.slice (some ⟨b, off, none⟩) s.cols.length h.c1),
    .val 22 (.int .i64 (k : Nat)),
    .val 23 (.pointer (some ⟨b, off + k * 12, none⟩)),
    .val 24 (.pointer (some ⟨b, off + k * 12 + 6, none⟩)),
    .val 25 (.int .i64 z6),
    .val 26 (.bool (decide (z6 < kl))),
    .sl 27 4 4 #[.bool false, .bool (decide (z5 < kf)), .bool (decide (z5 < ka)), .bool (decide (z6 < kl))] Z.heap.size,
    .val 28 (.int .i64 4),
    .val 29 (.int .i64 0)]
                [[], [0], [], [2], [], [3, 4], [5], [6], [1, 7], [], [9], [], [11], [], [12, 13], [14], [15], [10, 16], [], [18], [], [20], [], [21, 22], [23], [24], [19, 25], [8, 17, 26], [27], []] [27, 28, 29] (Cb Z) (by kernel_rfl) (by kernel_rfl) (Cb.drew Z) ⟨?_, ?_, ?_, ?_, ?_, ?_, ?_, ?_, ?_, ?_, ?_, ?_, ?_, ?_, ?_, ?_, ?_, ?_, ?_, ?_, ?_, ?_, ?_, ?_, ?_, ?_, ?_, ?_, ?_, ?_, trivial⟩ ?_
              case refine_1 =>
                refine StepL.up fun x V hV hu K Q hK => ?_
                clear hu
                rw [owp_eq]
                go_big_op
                exact hK _ _ (Below.refl _ _) rfl
              case refine_2 =>
                refine StepL.up fun x V hV hu K Q hK => ?_
                have u0 : x 0 = _ := hu 0 (by decide)
                have fk0 := hV.cell k0
                clear hu
                simp only [putL, List.set_cons_zero, List.set_cons_succ] at hK ⊢
                rw [owp_eq]
                go_big_op
                exact hK _ _ (Below.refl _ _) rfl
              case refine_3 =>
                refine StepL.up fun x V hV hu K Q hK => ?_
                clear hu
                simp only [putL, List.set_cons_zero, List.set_cons_succ] at hK ⊢
                rw [owp_eq]
                go_big_op
                exact hK _ _ (Below.refl _ _) rfl
              case refine_4 =>
                refine StepL.up fun x V hV hu K Q hK => ?_
                have u2 : x 2 = _ := hu 2 (by decide)
                have fe0 := hV.cell e0
                clear hu
                simp only [putL, List.set_cons_zero, List.set_cons_succ] at hK ⊢
                rw [owp_eq]
                go_big_op
                exact hK _ _ (Below.refl _ _) rfl
              case refine_5 =>
                refine StepL.up fun x V hV hu K Q hK => ?_
                clear hu
                simp only [putL, List.set_cons_zero, List.set_cons_succ] at hK ⊢
                rw [owp_eq]
                go_big_op
                exact hK _ _ (Below.refl _ _) rfl
              case refine_6 =>
                refine StepL.up fun x V hV hu K Q hK => ?_
                have u3 : x 3 = _ := hu 3 (by decide)
                have u4 : x 4 = _ := hu 4 (by decide)
                clear hu
                simp only [putL, List.set_cons_zero, List.set_cons_succ] at hK ⊢
                rw [owp_eq]
                go_big_op
                exact hK _ _ (Below.refl _ _) rfl
              case refine_7 =>
                refine StepL.up fun x V hV hu K Q hK => ?_
                have u5 : x 5 = _ := hu 5 (by decide)
                clear hu
                simp only [putL, List.set_cons_zero, List.set_cons_succ] at hK ⊢
                rw [owp_eq]
                go_big_op
                exact hK _ _ (Below.refl _ _) rfl
              case refine_8 =>
                refine StepL.up fun x V hV hu K Q hK => ?_
                have u6 : x 6 = _ := hu 6 (by decide)
                have fc5 := hV.cell c5
                clear hu
                simp only [putL, List.set_cons_zero, List.set_cons_succ] at hK ⊢
                rw [owp_eq]
                go_big_op
                exact hK _ _ (Below.refl _ _) rfl
              case refine_9 =>
                refine StepL.up fun x V hV hu K Q hK => ?_
                have u1 : x 1 = _ := hu 1 (by decide)
                have u7 : x 7 = _ := hu 7 (by decide)
                clear hu
                simp only [putL, List.set_cons_zero, List.set_cons_succ] at hK ⊢
                rw [owp_eq]
                go_big_op
                exact hK _ _ (Below.refl _ _) rfl
              case refine_10 =>
                refine StepL.up fun x V hV hu K Q hK => ?_
                clear hu
                simp only [putL, List.set_cons_zero, List.set_cons_succ] at hK ⊢
                rw [owp_eq]
                go_big_op
                exact hK _ _ (Below.refl _ _) rfl
              case refine_11 =>
                refine StepL.up fun x V hV hu K Q hK => ?_
                have u9 : x 9 = _ := hu 9 (by decide)
                have fk1 := hV.cell k1
                clear hu
                simp only [putL, List.set_cons_zero, List.set_cons_succ] at hK ⊢
                rw [owp_eq]
                go_big_op
                exact hK _ _ (Below.refl _ _) rfl
              case refine_12 =>
                refine StepL.up fun x V hV hu K Q hK => ?_
                clear hu
                simp only [putL, List.set_cons_zero, List.set_cons_succ] at hK ⊢
                rw [owp_eq]
                go_big_op
                exact hK _ _ (Below.refl _ _) rfl
              case refine_13 =>
                refine StepL.up fun x V hV hu K Q hK => ?_
                have u11 : x 11 = _ := hu 11 (by decide)
                have fe0 := hV.cell e0
                clear hu
                simp only [putL, List.set_cons_zero, List.set_cons_succ] at hK ⊢
                rw [owp_eq]
                go_big_op
                exact hK _ _ (Below.refl _ _) rfl
              case refine_14 =>
                refine StepL.up fun x V hV hu K Q hK => ?_
                clear hu
                simp only [putL, List.set_cons_zero, List.set_cons_succ] at hK ⊢
                rw [owp_eq]
                go_big_op
                exact hK _ _ (Below.refl _ _) rfl
              case refine_15 =>
                refine StepL.up fun x V hV hu K Q hK => ?_
                have u12 : x 12 = _ := hu 12 (by decide)
                have u13 : x 13 = _ := hu 13 (by decide)
                clear hu
                simp only [putL, List.set_cons_zero, List.set_cons_succ] at hK ⊢
                rw [owp_eq]
                go_big_op
                exact hK _ _ (Below.refl _ _) rfl
              case refine_16 =>
                refine StepL.up fun x V hV hu K Q hK => ?_
                have u14 : x 14 = _ := hu 14 (by decide)
                clear hu
                simp only [putL, List.set_cons_zero, List.set_cons_succ] at hK ⊢
                rw [owp_eq]
                go_big_op
                exact hK _ _ (Below.refl _ _) rfl
              case refine_17 =>
                refine StepL.up fun x V hV hu K Q hK => ?_
                have u15 : x 15 = _ := hu 15 (by decide)
                have fc5 := hV.cell c5
                clear hu
                simp only [putL, List.set_cons_zero, List.set_cons_succ] at hK ⊢
                rw [owp_eq]
                go_big_op
                exact hK _ _ (Below.refl _ _) rfl
              case refine_18 =>
                refine StepL.up fun x V hV hu K Q hK => ?_
                have u10 : x 10 = _ := hu 10 (by decide)
                have u16 : x 16 = _ := hu 16 (by decide)
                clear hu
                simp only [putL, List.set_cons_zero, List.set_cons_succ] at hK ⊢
                rw [owp_eq]
                go_big_op
                exact hK _ _ (Below.refl _ _) rfl
              case refine_19 =>
                refine StepL.up fun x V hV hu K Q hK => ?_
                clear hu
                simp only [putL, List.set_cons_zero, List.set_cons_succ] at hK ⊢
                rw [owp_eq]
                go_big_op
                exact hK _ _ (Below.refl _ _) rfl
              case refine_20 =>
                refine StepL.up fun x V hV hu K Q hK => ?_
                have u18 : x 18 = _ := hu 18 (by decide)
                have fk2 := hV.cell k2
                clear hu
                simp only [putL, List.set_cons_zero, List.set_cons_succ] at hK ⊢
                rw [owp_eq]
                go_big_op
                exact hK _ _ (Below.refl _ _) rfl
              case refine_21 =>
                refine StepL.up fun x V hV hu K Q hK => ?_
                clear hu
                simp only [putL, List.set_cons_zero, List.set_cons_succ] at hK ⊢
                rw [owp_eq]
                go_big_op
                exact hK _ _ (Below.refl _ _) rfl
              case refine_22 =>
                refine StepL.up fun x V hV hu K Q hK => ?_
                have u20 : x 20 = _ := hu 20 (by decide)
                have fe0 := hV.cell e0
                clear hu
                simp only [putL, List.set_cons_zero, List.set_cons_succ] at hK ⊢
                rw [owp_eq]
                go_big_op
                exact hK _ _ (Below.refl _ _) rfl
              case refine_23 =>
                refine StepL.up fun x V hV hu K Q hK => ?_
                clear hu
                simp only [putL, List.set_cons_zero, List.set_cons_succ] at hK ⊢
                rw [owp_eq]
                go_big_op
                exact hK _ _ (Below.refl _ _) rfl
              case refine_24 =>
                refine StepL.up fun x V hV hu K Q hK => ?_
                have u21 : x 21 = _ := hu 21 (by decide)
                have u22 : x 22 = _ := hu 22 (by decide)
                clear hu
                simp only [putL, List.set_cons_zero, List.set_cons_succ] at hK ⊢
                rw [owp_eq]
                go_big_op
                exact hK _ _ (Below.refl _ _) rfl
              case refine_25 =>
                refine StepL.up fun x V hV hu K Q hK => ?_
                have u23 : x 23 = _ := hu 23 (by decide)
                clear hu
                simp only [putL, List.set_cons_zero, List.set_cons_succ] at hK ⊢
                rw [owp_eq]
                go_big_op
                exact hK _ _ (Below.refl _ _) rfl
              case refine_26 =>
                refine StepL.up fun x V hV hu K Q hK => ?_
                have u24 : x 24 = _ := hu 24 (by decide)
                have fc6 := hV.cell c6
                clear hu
                simp only [putL, List.set_cons_zero, List.set_cons_succ] at hK ⊢
                rw [owp_eq]
                go_big_op
                exact hK _ _ (Below.refl _ _) rfl
              case refine_27 =>
                refine StepL.up fun x V hV hu K Q hK => ?_
                have u19 : x 19 = _ := hu 19 (by decide)
                have u25 : x 25 = _ := hu 25 (by decide)
                clear hu
                simp only [putL, List.set_cons_zero, List.set_cons_succ] at hK ⊢
                rw [owp_eq]
                go_big_op
                exact hK _ _ (Below.refl _ _) rfl
              case refine_28 =>
                refine StepL.up fun x V hV hu K Q hK => ?_
                have u8 : x 8 = _ := hu 8 (by decide)
                have u17 : x 17 = _ := hu 17 (by decide)
                have u26 : x 26 = _ := hu 26 (by decide)
                clear hu
                simp only [putL, List.set_cons_zero, List.set_cons_succ] at hK ⊢
                rw [owp_eq]
                go_big_op
                exact hK _ _ (ba1 V _) ⟨_, rfl, Below.size hV, Bk.new V _ _⟩
              case refine_29 =>
                refine StepL.up fun x V hV hu K Q hK => ?_
                obtain ⟨gu27, u27, hg27, hk27⟩ := hu 27 (by decide)
                clear hu
                simp only [putL, List.set_cons_zero, List.set_cons_succ] at hK ⊢
                rw [owp_eq]
                go_big_op
                exact hK _ _ (Below.refl _ _) rfl
              case refine_30 =>
                refine StepL.up fun x V hV hu K Q hK => ?_
                clear hu
                simp only [putL, List.set_cons_zero, List.set_cons_succ] at hK ⊢
                rw [owp_eq]
                go_big_op
                exact hK _ _ (Below.refl _ _) rfl
              case refine_31 =>
              intro x Y9 hV hA
              obtain ⟨gq, q27, hgq, hkq⟩ := hA 27 rfl (by decide)
              have q28 : x 28 = .int .i64 4 := hA 28 rfl (by decide)
              have q29 : x 29 = .int .i64 0 := hA 29 rfl (by decide)
              simp only [layL, putL, List.set_cons_zero, List.set_cons_succ]
              have HBY : Hid (Below V.heap.size V Y9) := Lib.hid (HBZ.out.trans (Below.mono hV HBZ.out.size))
              have HKQ := Lib.hid hkq
              rw [q27, q28, q29]
              clear hA hV hkq q27 q28 q29 e0 k0 k1 k2 c5 c6 HBZ HKZ hgq
              generalize decide (z5 < kf) = b1 at *
              generalize decide (z5 < ka) = b2 at *
              generalize decide (z6 < kl) = b3 at *
              go_wp2_with fail
              go_loopw [24, 159] (fun nv i wx => ∃ (j : Nat) (Mq : Int), j ≤ 4 ∧ i = .int .i64 j ∧ nv = .int .i64 Mq ∧ Hid (Mq = wantTo [false, b1, b2, b3] j) ∧ Hid (Below Y9.heap.size Y9 wx)) (fun _ i _ => 4 - (intOf i).toNat)
              case atStart => exact ⟨0, 0, Nat.zero_le _, rfl, rfl, Lib.hid rfl, Lib.hid (Below.refl _ _)⟩
              case round =>
                obtain ⟨j, Mq, hj, rfl, rfl, HMq, HBq⟩ := hrel
                obtain ⟨Q, rfl⟩ : ∃ V, V = wr := ⟨_, rfl⟩
                have HKQ2 := Lib.hid (HKQ.out.below HBq.out HKQ.out.lt)
                have hmb := wantTo_bd b1 b2 b3 hj
                rw [← HMq.out] at hmb
                obtain ⟨m0, m1⟩ := hmb
                by_cases hlt4 : j < 4
                · have HM2 := Lib.hid (wantTo_succ [false, b1, b2, b3] j)
                  rw [← HMq.out] at HM2
                  clear HMq
                  obtain rfl | rfl | rfl | rfl : j = 0 ∨ j = 1 ∨ j = 2 ∨ j = 3 := by omega
                  · have c0 : Q.cell? ⟨gq, 0, none⟩ = some (.bool false) := HKQ2.out.cell 0
                    have HMF : Hid (Mq = wantTo [false, b1, b2, b3] 1) := Lib.hid (by rw [HM2.out]; simp)
                    clear HM2 HKQ2
                    go_wp2_with fail
                    go_roundw
                    case rel => (repeat apply Exists.intro); (first | exact ⟨⟨1, Mq, by omega, by go_num, rfl, HMF, HBq⟩, rfl⟩ | exact ⟨by omega, by go_num, rfl, HMF, HBq⟩)
                    case measure => simp [intOf]
                  · have c1 : Q.cell? ⟨gq, 1, none⟩ = some (.bool b1) := HKQ2.out.cell 1
                    cases b1
                    · have HMF : Hid (Mq = wantTo _ 2) := Lib.hid (by rw [HM2.out]; simp)
                      clear HM2 HKQ2
                      go_wp2_with fail
                      go_roundw
                      case rel => (repeat apply Exists.intro); (first | exact ⟨⟨2, Mq, by omega, by go_num, rfl, HMF, HBq⟩, rfl⟩ | exact ⟨by omega, by go_num, rfl, HMF, HBq⟩)
                      case measure => simp [intOf]
                    · have HMF : Hid (Mq + 2 = wantTo _ 2) := Lib.hid (by rw [HM2.out]; simp)
                      clear HM2 HKQ2
                      go_wp2_with fail
                      go_roundw
                      case rel => (repeat apply Exists.intro); (first | exact ⟨⟨2, Mq + 2, by omega, by go_num, rfl, HMF, HBq⟩, rfl⟩ | exact ⟨by omega, by go_num, rfl, HMF, HBq⟩)
                      case measure => simp [intOf]
                  · have c2 : Q.cell? ⟨gq, 2, none⟩ = some (.bool b2) := HKQ2.out.cell 2
                    cases b2
                    · have HMF : Hid (Mq = wantTo _ 3) := Lib.hid (by rw [HM2.out]; simp)
                      clear HM2 HKQ2
                      go_wp2_with fail
                      go_roundw
                      case rel => (repeat apply Exists.intro); (first | exact ⟨⟨3, Mq, by omega, by go_num, rfl, HMF, HBq⟩, rfl⟩ | exact ⟨by omega, by go_num, rfl, HMF, HBq⟩)
                      case measure => simp [intOf]
                    · have HMF : Hid (Mq + 4 = wantTo _ 3) := Lib.hid (by rw [HM2.out]; simp)
                      clear HM2 HKQ2
                      go_wp2_with fail
                      go_roundw
                      case rel => (repeat apply Exists.intro); (first | exact ⟨⟨3, Mq + 4, by omega, by go_num, rfl, HMF, HBq⟩, rfl⟩ | exact ⟨by omega, by go_num, rfl, HMF, HBq⟩)
                      case measure => simp [intOf]
                  · have c3 : Q.cell? ⟨gq, 3, none⟩ = some (.bool b3) := HKQ2.out.cell 3
                    cases b3
                    · have HMF : Hid (Mq = wantTo _ 4) := Lib.hid (by rw [HM2.out]; simp)
                      clear HM2 HKQ2
                      go_wp2_with fail
                      go_roundw
                      case rel => (repeat apply Exists.intro); (first | exact ⟨⟨4, Mq, by omega, by go_num, rfl, HMF, HBq⟩, rfl⟩ | exact ⟨by omega, by go_num, rfl, HMF, HBq⟩)
                      case measure => simp [intOf]
                    · have HMF : Hid (Mq + 8 = wantTo _ 4) := Lib.hid (by rw [HM2.out]; simp)
                      clear HM2 HKQ2
                      go_wp2_with fail
                      go_roundw
                      case rel => (repeat apply Exists.intro); (first | exact ⟨⟨4, Mq + 8, by omega, by go_num, rfl, HMF, HBq⟩, rfl⟩ | exact ⟨by omega, by go_num, rfl, HMF, HBq⟩)
                      case measure => simp [intOf]
                · obtain rfl : j = 4 := by omega
                  obtain rfl : N = Mq := by rw [HN.out, HMq.out]
                  have HB9 := Lib.hid (HBY.out.trans (HBq.out.mono HBY.out.size))
                  clear HMq HN HKQ HKQ2 HBY HBq
                  have hk1' : k + 1 ≤ s.cols.length := hlt
                  go_wp2_with fail
                  go_roundw
                  case rel => (repeat apply Exists.intro); (first | exact ⟨⟨k + 1, T + (kf + ka + M), U, hk1', by go_num, rfl, rfl, HT9, HU9, HB9⟩, rfl⟩ | exact ⟨hk1', by go_num, rfl, rfl, HT9, HU9, HB9⟩)
                  case measure => simp [intOf]; omega
    · obtain rfl : k = s.cols.length := by omega
      rw [totF_all fun x hx => (HIN.out x hx).2.2.2.1] at HT
      have hwa : wantedAt bs st s.cols.length = sumF bs st allB := by unfold wantedAt; rw [if_neg (by omega)]
      rw [hwa] at HU
      obtain rfl : T = U := by rw [HT.out, HU.out]
      have HW9 := Lib.hid ((HW.out.on HB.out).be)
      clear HT HU HW HB hwa HIN HLM HLD
      go_wp2_with fail
      refine (awake10_true _).mono ?_
      rintro e W1 ⟨rfl, hb⟩
      simp only
      go_wp2_with fail
      go_ret
      exact ⟨rfl, HW9.out.trans (hb.mono HW9.out.size)⟩
end Go.Proofs.Ytncfakkajknhaaa
