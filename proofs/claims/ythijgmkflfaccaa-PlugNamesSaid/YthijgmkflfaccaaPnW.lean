/-
  The walk of the statement PlugNames.
-/
import Derived.Test.YthijgmkflfaccaaPlU
namespace Go.Proofs.Ythijgmkflfaccaa
open Go.RowKit

set_option maxRecDepth 100000 in
set_option maxHeartbeats 8000000 in
theorem plugNames_any (A : Option Addr) (c : Nat) (pl : List (Nat × Nat × Nat × Bool)) (covers : Nat) (plugs : Nat) (hpl : plugs < 18446744073709551616) (reefers : Nat) (hrf : reefers < 65536) (A2 : Option Addr) (c2 : Nat) (ds : List Drp) (w : World)
    (hs : SlT tPl w (Lt w.heap.size) A pl) (hl : ∀ p ∈ pl, p.1 < 256 ∧ p.2.1 < 256 ∧ p.2.2.1 < 256) (hc : pl.length ≤ c) (hcm : c ≤ maxLen)
    (hs2 : SlT tDrp w (Lt w.heap.size) A2 ds) (hd : ∀ d ∈ ds, d.col < 256 ∧ d.kilos < 256) (hc2 : ds.length ≤ c2) (hcm2 : c2 ≤ maxLen) :
    Calls Try.prog 3 #[.slice A pl.length c, .int .u32 covers, .int .u64 (plugs : Nat), .int .u16 (reefers : Nat), .slice A2 ds.length c2] w (TrueRet w) := by
  have HC := Lib.hid (plugged_any A c pl covers plugs reefers hpl hrf A2 c2 ds w hs hl hc hcm hs2 hd hc2 hcm2)
  clear hs hl hc hcm hs2 hd hc2 hcm2
  go_enter Try.func3, Try.ntmps3
  go_wp2_with fail
  refine HC.out.mono ?_
  rintro e w1 ⟨s, h, v1, v2, bs, st, rfl, hLm, hPg, hLd, hrd, ob, os, hb1⟩
  simp only
  clear HC
  obtain ⟨A1, q1, rfl, hq1, hqm1, hsb⟩ := OwnS.sl' ob
  obtain ⟨A3, q3, rfl, hq3, hqm3, hss⟩ := OwnS.sl' os
  have hW : W5 w (w1.alloc (.cells (shpA s h) 37)) w1.heap.size s h A1 bs A3 st := by
    have hx := ba1 w1 (.cells (shpA s h) 37)
    exact ⟨Bk.new w1 _ _, (hrd.more fun x hx => hx.1).on hx, hsb.on hx, hss.on hx, hb1.trans (hx.mono hb1.size)⟩
  have HW := Lib.hid hW
  have HLM := Lib.hid hLm
  have HPG := Lib.hid hPg
  have HLD := Lib.hid hLd
  have HQ3 := Lib.hid hq3
  have HIN : Hid (∀ x ∈ st, 0 ≤ x.slot.tier ∧ x.slot.tier < 5 ∧ 0 ≤ x.slot.col ∧ x.slot.col < s.cols.length ∧ x.slot.half < 3) := Lib.hid fun x hx => hLd.tier hLm hx
  have HI6 := Lib.hid (hLd.i64s hLm)
  have hbl := hLd.nine
  have hsl := hLd.stlen
  have hc1 := hLm.one
  have hc12 := hLm.twelve
  clear hW ob os hsb hss hrd hb1 hLm hLd hPg hq1 hq3
  unfold maxLen at hqm1 hqm3
  unfold shpA at HW ⊢
  go_upto_region 2 with fail
  generalize w1.heap.size = g at *
  generalize (w1.alloc _) = V at *
  clear w1
  have KCK : Hid (∀ V' : World, Below V.heap.size V V' → Calls Try.prog 9 #[.agg (shpA s h), .slice A1 bs.length q1, .slice A3 st.length q3] V' (fun e w' => Below V'.heap.size V' w' ∧ ∃ A c, e = .returned (.tuple #[.slice A (pfF s bs st).length c, .int .i64 0]) ∧ (pfF s bs st).length ≤ c ∧ SlT tInt w' (Lt w'.heap.size) A (pfF s bs st))) := Lib.hid fun V' hV => by
    have r := HW.out.on hV
    refine (pCheck_any s h A1 q1 bs A3 q3 st V' r.rd HLM.out.few HLM.out.ints HLM.out.short r.bx HLD.out.bl r.sx HLD.out.sl HQ3.out HI6.out).mono ?_
    rintro e w' ⟨hb, v, rfl, ho⟩
    rw [HLD.out.right] at ho ⊢
    simp only [if_true] at ho ⊢
    obtain ⟨A, c, rfl, hc, _, hs⟩ := ho.sl
    exact ⟨hb, A, c, rfl, hc, hs⟩
  have KFN : Hid (∀ (V' : World) (id : Int), Below V.heap.size V V' → Calls Try.prog 10 #[.slice A1 bs.length q1, .int .i64 id] V' (Ret V' (.tuple #[.agg (bxL (findBx bs id).1).toArray, .bool (findBx bs id).2]))) := Lib.hid fun V' id hV => stowFind_any A1 q1 bs id V' (HW.out.on hV).bx HLD.out.bl
  have KCO : Hid (∀ V' : World, Below V.heap.size V V' → Calls Try.prog 12 #[.slice A1 bs.length q1, .slice A3 st.length q3] V' (fun e w' => ∃ A c, e = .returned (.slice A (coldF bs st).length c) ∧ (coldF bs st).length ≤ c ∧ SlT tBx w' (Lt w'.heap.size) A (coldF bs st) ∧ Below V'.heap.size V' w')) := Lib.hid fun V' hV => by
    have r := HW.out.on hV
    refine (pCold_any A1 q1 bs A3 q3 st V' r.bx HLD.out.bl r.sx HLD.out.sl).mono ?_
    rintro e w' ⟨v, rfl, ho, hb⟩
    obtain ⟨A, c, rfl, hc, _, hs⟩ := ho.sl
    exact ⟨A, c, rfl, hc, hs, hb⟩
  have KAT : Hid (∀ (V' : World) (x : Slt), Below V.heap.size V V' → I64 x.col ∧ I64 x.tier → Calls Try.prog 11 #[.agg (shpA s h), .agg (sltL x).toArray] V' (Ret V' (.bool (atF s x)))) := Lib.hid fun V' x hV hx => pAt_any s h x V' (HW.out.on hV).rd HLM.out.few HLM.out.ints hx
  have HAT : Hid (∀ x ∈ st, atF s x.slot = pluggedB s x.slot.col x.slot.tier) := Lib.hid fun x hx => HLD.out.at12 hx
  have HPA : Hid (∀ (kc kt : Nat), kc < s.cols.length → (kt : Int) < (s.cols.getD kc default).tiers → pluggedB s kc kt = bitOf plugs ((5 * kc + kt) % 64)) := Lib.hid fun kc kt h1 h2 => HPG.out.at_ h1 h2
  have HTI : Hid (∀ x ∈ st, x.slot.tier < (s.cols.getD x.slot.col.toNat default).tiers) := Lib.hid fun x hx => (slot_in (HLD.out.slot hx)).2.2.2.1
  have HFN : Hid (∀ x ∈ st, (findBx bs x.box).2 = true) := Lib.hid fun x hx => (HLD.out.box_at hx).1
  have HPF : Hid (∀ k, k < st.length → cuB s bs (st.getD k default) = true → ((st.take k).filter (cuB s bs)).length < (pfF s bs st).length ∧ (pfF s bs st).getD ((st.take k).filter (cuB s bs)).length 0 = (st.getD k default).box) := Lib.hid fun k h1 h2 => pf_at h1 h2
  have HEN : Hid ((st.filter (cuB s bs)).length = (pfF s bs st).length ∧ (st.filter (coldB bs)).length = (coldF bs st).length) := Lib.hid ⟨by rw [pf_eq]; simp, by unfold coldF; simp⟩
  have hpl9 : (pfF s bs st).length ≤ 9 := by
    rw [pf_eq, List.length_map]
    exact Nat.le_trans (List.length_filter_le _ _) hsl
  have SC := HW.out.bk
  unfold shpA at KCK KAT
  have e0 : V.cell? ⟨g, 0, none⟩ = some (.slice h.A1 s.cols.length h.c1) := SC.cell 0
  have e1 : V.cell? ⟨g, 1, none⟩ = some (.slice h.A2 s.covs.length h.c2) := SC.cell 1
  have e2 : V.cell? ⟨g, 2, none⟩ = some (.int .i64 s.l0) := SC.cell 2
  have e3 : V.cell? ⟨g, 3, none⟩ = some (.int .i64 s.l1) := SC.cell 3
  have e4 : V.cell? ⟨g, 4, none⟩ = some (.int .i64 s.l2) := SC.cell 4
  have e5 : V.cell? ⟨g, 5, none⟩ = some (.int .i64 s.l3) := SC.cell 5
  have e6 : V.cell? ⟨g, 6, none⟩ = some (.slice h.A3 s.rows.length h.c3) := SC.cell 6
  have e7 : V.cell? ⟨g, 7, none⟩ = some (.slice h.A4 s.frames.length h.c4) := SC.cell 7
  have e8 : V.cell? ⟨g, 8, none⟩ = some (.slice h.A5 s.tanks.length h.c5) := SC.cell 8
  have e9 : V.cell? ⟨g, 9, none⟩ = some (.int .i64 s.m0) := SC.cell 9
  have e10 : V.cell? ⟨g, 10, none⟩ = some (.int .i64 s.m1) := SC.cell 10
  have e11 : V.cell? ⟨g, 11, none⟩ = some (.int .i64 s.m2) := SC.cell 11
  have e12 : V.cell? ⟨g, 12, none⟩ = some (.int .i64 s.m3) := SC.cell 12
  clear SC
  go_wp2_with fail
  refine (KCK.out V (Below.refl _ _)).mono ?_
  rintro e W ⟨hb, A4, c4, rfl, hc4, hs4⟩
  simp only
  clear KCK e0 e1 e2 e3 e4 e5 e6 e7 e8 e9 e10 e11 e12
  have HBE := Lib.hid hb
  have HS4 := Lib.hid hs4
  clear hb hs4
  generalize pfF s bs st = a at *
  go_wp2_with fail
  go_loopw [16, 17, 44] (fun n cl i wr => ∃ k : Nat, k ≤ st.length ∧ i = .int .i64 k ∧ n = .int .i64 ((st.take k).filter (cuB s bs)).length ∧ cl = .int .i64 ((st.take k).filter (coldB bs)).length ∧ Hid (Below W.heap.size W wr)) (fun _ _ i _ => st.length - (intOf i).toNat)
  case atStart => exact ⟨0, Nat.zero_le _, rfl, rfl, rfl, Lib.hid (Below.refl _ _)⟩
  case round =>
    obtain ⟨k, hk, rfl, rfl, rfl, HB⟩ := hrel
    obtain ⟨X, rfl⟩ : ∃ V, V = wr := ⟨_, rfl⟩
    have HVX := Lib.hid (HBE.out.trans (HB.out.mono HBE.out.size))
    by_cases hlt : k < st.length
    · obtain ⟨b3, off3, rfl, hbB, c0, c1, c2', c3⟩ := (HW.out.on HVX.out).sx.stw hlt
      have i0 : (0 : Int) ≤ (k : Int) := by omega
      have i1 : (k : Int) < (st.length : Int) := by omega
      have hmem := getD_memD hlt default
      have HAX := Lib.hid (HAT.out _ hmem)
      have HTX := Lib.hid (HTI.out _ hmem)
      have HFX := Lib.hid (HFN.out _ hmem)
      have hin := HIN.out _ hmem
      have H6X := Lib.hid (HI6.out _ hmem)
      have HPX := Lib.hid (HPF.out k hlt)
      have HL1 := Lib.hid (filter_len_succ (cuB s bs) st hlt default)
      have HL2 := Lib.hid (filter_len_succ (coldB bs) st hlt default)
      have hn9 : ((st.take k).filter (cuB s bs)).length ≤ 9 := Nat.le_trans (filter_take_len _ _ _) hsl
      have hcl9 : ((st.take k).filter (coldB bs)).length ≤ 9 := Nat.le_trans (filter_take_len _ _ _) hsl
      have HCU : Hid (∀ x : Stw, cuB s bs x = ((findBx bs x.box).1.reefer && !pluggedB s x.slot.col x.slot.tier)) := Lib.hid fun x => rfl
      have HCO : Hid (∀ x : Stw, coldB bs x = (findBx bs x.box).1.reefer) := Lib.hid fun x => rfl
      clear hmem
      generalize ((st.take k).filter (cuB s bs)).length = n at *
      generalize ((st.take k).filter (coldB bs)).length = cl at *
      generalize st.getD k default = x at *
      obtain ⟨xb, xc, xt, xh⟩ := x
      simp only at c0 c1 c2' c3 HAX HTX HFX hin H6X HPX
      obtain ⟨kt, rfl⟩ : ∃ kt : Nat, xt = (kt : Int) := ⟨xt.toNat, by omega⟩
      obtain ⟨kc, rfl⟩ : ∃ kc : Nat, xc = (kc : Int) := ⟨xc.toNat, by omega⟩
      have hkc : kc < s.cols.length := by omega
      have hkc12 : kc ≤ 12 := by omega
      have hkt5 : kt < 5 := by omega
      have HPQ : Hid (pluggedB s kc kt = (bits BinOp.and IntKind.u64 ((plugs : Int) / 2 ^ ((5 * kc + kt) % 64)) 1 == 1)) := Lib.hid (HPA.out kc kt hkc (by have := HTX.out; rw [Int.toNat_natCast] at this; exact this))
      have KA1 := Lib.hid (fun (V' : World) (hV : Below V.heap.size V V') => KAT.out V' ⟨kc, kt, xh⟩ hV H6X.out)
      rw [HAX.out] at KA1
      have HCUX := Lib.hid (HCU.out ⟨xb, kc, kt, xh⟩)
      have HCOX := Lib.hid (HCO.out ⟨xb, kc, kt, xh⟩)
      simp only at HCUX HCOX
      have KF1 := Lib.hid (fun (V' : World) (hV : Below V.heap.size V V') => KFN.out V' xb hV)
      generalize cuB s bs ⟨xb, kc, kt, xh⟩ = cu at *
      generalize coldB bs ⟨xb, kc, kt, xh⟩ = co at *
      generalize pluggedB s kc kt = pq at *
      generalize findBx bs xb = fb at *
      obtain ⟨⟨b0, b1, b2, b3', b4, b5, b6, b7, b8⟩, ok⟩ := fb
      obtain rfl : ok = true := HFX.out
      unfold bxL at KF1
      unfold sltL at KA1
      simp only at KF1 HCUX HCOX KA1
      have hcu := HCUX.out
      have hco := HCOX.out
      obtain rfl : co = b8 := hco
      have HX3 := Lib.hid (Bk.new X 49 #[.int .i64 xb, .int .i64 (kc : Nat), .int .i64 (kt : Nat), .int .u8 (xh : Nat)])
      have HVY := Lib.hid (HVX.out.trans ((ba1 X (.cells #[.int .i64 xb, .int .i64 (kc : Nat), .int .i64 (kt : Nat), .int .u8 (xh : Nat)] 49)).mono HVX.out.size))
      have HB1 := Lib.hid (HB.out.trans ((ba1 X (.cells #[.int .i64 xb, .int .i64 (kc : Nat), .int .i64 (kt : Nat), .int .u8 (xh : Nat)] 49)).mono HB.out.size))
      clear HAX HTX HFX hin H6X HCU HCO HB HVX HCUX HCOX
      go_upto_region 9 with fail
      clear c0 c1 c2' c3
      generalize X.heap.size = gx at *
      generalize (X.alloc _) = Y at *
      try clear X
      have x0 : Y.cell? ⟨gx, 0, none⟩ = some (.int .i64 xb) := HX3.out.cell 0
      have KF2 := Lib.hid (KF1.out Y HVY.out)
      go_wp2_with fail
      refine KF2.out.mono ?_
      rintro e Y1 ⟨rfl, hb⟩
      simp only
      have hy := hb.trans ((ba1 Y1 (.cells #[.int .i64 b0, .string b1, .int .u8 (b2 : Nat), .bool b3', .int .i64 b4, .int .i64 b5, .int .i64 b6, .int .u8 (b7 : Nat), .bool co] 51)).mono hb.size)
      have HX4 := Lib.hid (HX3.out.below hy HX3.out.lt)
      have HBB := Lib.hid (Bk.new Y1 51 #[.int .i64 b0, .string b1, .int .u8 (b2 : Nat), .bool b3', .int .i64 b4, .int .i64 b5, .int .i64 b6, .int .u8 (b7 : Nat), .bool co])
      have HVZ := Lib.hid (HVY.out.trans (hy.mono HVY.out.size))
      have HB2 := Lib.hid (HB1.out.trans (hy.mono HB1.out.size))
      clear KF1 KF2 x0 hy hb HVY HB1 HX3
      go_upto_region 10 with fail
      generalize Y1.heap.size = gb at *
      generalize (Y1.alloc _) = Z at *
      try clear Y1
      try clear Y
      have x1 : Z.cell? ⟨gx, 1, none⟩ = some (.int .i64 (kc : Nat)) := HX4.out.cell 1
      have x2 : Z.cell? ⟨gx, 2, none⟩ = some (.int .i64 (kt : Nat)) := HX4.out.cell 2
      have x3 : Z.cell? ⟨gx, 3, none⟩ = some (.int .u8 (xh : Nat)) := HX4.out.cell 3
      go_upto_region 11 with fail
      have hpq := HPQ.out
      rw [← hpq]
      have SC := (HW.out.on HVZ.out).bk
      have e0 : Z.cell? ⟨g, 0, none⟩ = some (.slice h.A1 s.cols.length h.c1) := SC.cell 0
      have e1 : Z.cell? ⟨g, 1, none⟩ = some (.slice h.A2 s.covs.length h.c2) := SC.cell 1
      have e2 : Z.cell? ⟨g, 2, none⟩ = some (.int .i64 s.l0) := SC.cell 2
      have e3 : Z.cell? ⟨g, 3, none⟩ = some (.int .i64 s.l1) := SC.cell 3
      have e4 : Z.cell? ⟨g, 4, none⟩ = some (.int .i64 s.l2) := SC.cell 4
      have e5 : Z.cell? ⟨g, 5, none⟩ = some (.int .i64 s.l3) := SC.cell 5
      have e6 : Z.cell? ⟨g, 6, none⟩ = some (.slice h.A3 s.rows.length h.c3) := SC.cell 6
      have e7 : Z.cell? ⟨g, 7, none⟩ = some (.slice h.A4 s.frames.length h.c4) := SC.cell 7
      have e8 : Z.cell? ⟨g, 8, none⟩ = some (.slice h.A5 s.tanks.length h.c5) := SC.cell 8
      have e9 : Z.cell? ⟨g, 9, none⟩ = some (.int .i64 s.m0) := SC.cell 9
      have e10 : Z.cell? ⟨g, 10, none⟩ = some (.int .i64 s.m1) := SC.cell 10
      have e11 : Z.cell? ⟨g, 11, none⟩ = some (.int .i64 s.m2) := SC.cell 11
      have e12 : Z.cell? ⟨g, 12, none⟩ = some (.int .i64 s.m3) := SC.cell 12
      clear SC hpq
      have KA2 := Lib.hid (KA1.out Z HVZ.out)
      have hpp : (pq != pq) = false := by simp
      go_wp2_with fail
      refine KA2.out.mono ?_
      rintro e Z1 ⟨rfl, hb⟩
      simp only
      have HX5 := Lib.hid (HX4.out.below hb HX4.out.lt)
      have HBB2 := Lib.hid (HBB.out.below hb HBB.out.lt)
      have HB3 := Lib.hid (HB2.out.trans (hb.mono HB2.out.size))
      clear KA1 KA2 e0 e1 e2 e3 e4 e5 e6 e7 e8 e9 e10 e11 e12 x1 x2 x3 hb HX4 HBB HVZ HB2 HPQ
      try clear Z
      have x0 : Z1.cell? ⟨gx, 0, none⟩ = some (.int .i64 xb) := HX5.out.cell 0
      have y8 : Z1.cell? ⟨gb, 8, none⟩ = some (.bool co) := HBB2.out.cell 8
      clear hpp
      cases co with
      | false =>
        have HN1 : Hid (((st.take (k + 1)).filter (cuB s bs)).length = n) := Lib.hid (by rw [HL1.out, hcu]; rfl)
        have HN2 : Hid (((st.take (k + 1)).filter (coldB bs)).length = cl) := Lib.hid (by rw [HL2.out]; rfl)
        clear HL1 HL2
        go_wp2_with fail
        go_roundw
        case rel => first | exact ⟨k + 1, by omega, by go_num, by rw [HN1.out], by rw [HN2.out], HB3⟩ | ((repeat apply Exists.intro); (first | exact ⟨⟨k + 1, by omega, by go_num, by rw [HN1.out], by rw [HN2.out], HB3⟩, rfl⟩ | exact ⟨by omega, by go_num, by rw [HN1.out], by rw [HN2.out], HB3⟩))
        case measure => simp [intOf]; omega
      | true =>
        have HN2 : Hid (((st.take (k + 1)).filter (coldB bs)).length = cl + 1) := Lib.hid (by rw [HL2.out]; rfl)
        cases pq with
        | true =>
          have HN1 : Hid (((st.take (k + 1)).filter (cuB s bs)).length = n) := Lib.hid (by rw [HL1.out, hcu]; rfl)
          clear HL1 HL2
          go_wp2_with fail
          go_roundw
          case rel => first | exact ⟨k + 1, by omega, by go_num, by rw [HN1.out], by rw [HN2.out]; go_num, HB3⟩ | ((repeat apply Exists.intro); (first | exact ⟨⟨k + 1, by omega, by go_num, by rw [HN1.out], by rw [HN2.out]; go_num, HB3⟩, rfl⟩ | exact ⟨by omega, by go_num, by rw [HN1.out], by rw [HN2.out]; go_num, HB3⟩))
          case measure => simp [intOf]; omega
        | false =>
          have HN1 : Hid (((st.take (k + 1)).filter (cuB s bs)).length = n + 1) := Lib.hid (by rw [HL1.out, hcu]; rfl)
          obtain ⟨hna, hnb⟩ := HPX.out (by rw [hcu]; rfl)
          clear HL1 HL2
          obtain ⟨b4', off4, rfl, hb4, d0⟩ := (HS4.out.on HB3.out).int hna
          rw [hnb] at d0
          have n0 : (0 : Int) ≤ (n : Int) := by omega
          have n1 : (n : Int) < (a.length : Int) := by omega
          have nd : decide ((a.length : Int) ≤ (n : Int)) = false := by simp; omega
          have hxx : (xb != xb) = false := by simp
          go_upto_region 16 with fail
          go_quiet (fail)
          have HB4 : Hid (Below W.heap.size W (Z1.drewN nq)) := Lib.hid (below_drewN HB3.out nq)
          clear d0 x0 y8 n0 n1 nd hxx
          go_wp2_with fail
          go_roundw
          case rel => first | exact ⟨k + 1, by omega, by go_num, by rw [HN1.out]; go_num, by rw [HN2.out]; go_num, HB4⟩ | ((repeat apply Exists.intro); (first | exact ⟨⟨k + 1, by omega, by go_num, by rw [HN1.out]; go_num, by rw [HN2.out]; go_num, HB4⟩, rfl⟩ | exact ⟨by omega, by go_num, by rw [HN1.out]; go_num, by rw [HN2.out]; go_num, HB4⟩))
          case measure => simp [intOf]; omega
    · obtain rfl : k = st.length := by omega
      have he := HEN.out
      rw [List.take_length]
      have t1 : (((st.filter (cuB s bs)).length : Int) == (a.length : Int)) = true := by rw [he.1]; simp
      have t2 : (((coldF bs st).length : Int) == ((st.filter (coldB bs)).length : Int)) = true := by rw [he.2]; simp
      have KC2 := Lib.hid (KCO.out X HVX.out)
      clear he
      generalize (st.filter (cuB s bs)).length = n at *
      generalize (st.filter (coldB bs)).length = cl at *
      generalize coldF bs st = cf at *
      go_wp2_with fail
      refine KC2.out.mono ?_
      rintro e X1 ⟨A5, c5, rfl, -, -, hb⟩
      simp only
      have HW9 := Lib.hid ((HW.out.on HVX.out).be.trans (hb.mono (HW.out.on HVX.out).be.size))
      clear KC2 hb
      go_wp2_with fail
      refine (awake12_true _).mono ?_
      rintro e W9 ⟨rfl, hb⟩
      simp only
      go_wp2_with fail
      go_ret
      exact ⟨rfl, HW9.out.trans (hb.mono HW9.out.size)⟩
end Go.Proofs.Ythijgmkflfaccaa
