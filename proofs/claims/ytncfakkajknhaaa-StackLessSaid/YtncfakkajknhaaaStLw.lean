/-
  The walk of the statement StackLess.
-/
import Derived.Test.YtncfakkajknhaaaStY
import Derived.Test.YtncfakkajknhaaaStZ
namespace Go.Proofs.Ytncfakkajknhaaa
open Go.RowKit

theorem run_field_kl (a b c : Int) (W : World) : (Instr.field 58 (.agg #[.int .i64 a, .int .i64 b, .int .i64 c]) 2).run Try.prog W = .ok (.int .i64 c) W := by kernel_rfl
set_option maxRecDepth 100000 in
set_option maxHeartbeats 8000000 in
theorem stackLess_any (A : Option Addr) (c : Nat) (pl : List (Nat × Nat × Nat × Bool)) (covers : Nat) (ha hb ht : Nat) (hha : ha < 256) (hhb : hb < 256) (hht : ht < 256) (A2 : Option Addr) (c2 : Nat) (ds : List Drp) (w : World)
    (hs : SlT tPl w (Lt w.heap.size) A pl) (hl : ∀ p ∈ pl, p.1 < 256 ∧ p.2.1 < 256 ∧ p.2.2.1 < 256) (hc : pl.length ≤ c) (hcm : c ≤ maxLen)
    (hs2 : SlT tDrp w (Lt w.heap.size) A2 ds) (hd : ∀ d ∈ ds, d.col < 256 ∧ d.kilos < 256) (hc2 : ds.length ≤ c2) (hcm2 : c2 ≤ maxLen) :
    Calls Try.prog 7 #[.slice A pl.length c, .int .u32 covers, .agg #[.int .u8 (ha : Nat), .int .u8 (hb : Nat), .int .u8 (ht : Nat)], .slice A2 ds.length c2] w (TrueRet w) := by
  have bw := ba1 w (.cells #[.int .u8 (ha : Nat), .int .u8 (hb : Nat), .int .u8 (ht : Nat)] 25)
  have kw := Bk.new w 25 #[.int .u8 (ha : Nat), .int .u8 (hb : Nat), .int .u8 (ht : Nat)]
  have HC := Lib.hid (limited_any A c pl covers ha hb ht hha hhb hht A2 c2 ds (w.alloc (.cells #[.int .u8 (ha : Nat), .int .u8 (hb : Nat), .int .u8 (ht : Nat)] 25)) (hs.on bw) hl hc hcm (hs2.on bw) hd hc2 hcm2)
  have HBW := Lib.hid bw
  have k0 : (w.alloc (.cells #[.int .u8 (ha : Nat), .int .u8 (hb : Nat), .int .u8 (ht : Nat)] 25)).cell? ⟨w.heap.size, 0, none⟩ = some (.int .u8 (ha : Nat)) := kw.cell 0
  have k1 : (w.alloc (.cells #[.int .u8 (ha : Nat), .int .u8 (hb : Nat), .int .u8 (ht : Nat)] 25)).cell? ⟨w.heap.size, 1, none⟩ = some (.int .u8 (hb : Nat)) := kw.cell 1
  have k2 : (w.alloc (.cells #[.int .u8 (ha : Nat), .int .u8 (hb : Nat), .int .u8 (ht : Nat)] 25)).cell? ⟨w.heap.size, 2, none⟩ = some (.int .u8 (ht : Nat)) := kw.cell 2
  clear hs hl hc hcm hs2 hd hc2 hcm2 bw kw
  go_enter Try.func7, Try.ntmps7
  go_wp2_with fail
  refine HC.out.mono ?_
  rintro e w1 ⟨s, h, v1, v2, bs, st, rfl, hLm, hLd, hrd, ob, os, hb1⟩
  simp only
  clear HC k0 k1 k2
  obtain ⟨A1, q1, rfl, hq1, hqm1, hsb⟩ := OwnS.sl' ob
  obtain ⟨A3, q3, rfl, hq3, hqm3, hss⟩ := OwnS.sl' os
  have hW : WW w (w1.alloc (.cells (shpA s h) 37)) w1.heap.size s h A1 bs A3 st := by
    have hx := ba1 w1 (.cells (shpA s h) 37)
    have h0 := HBW.out.trans (hb1.mono HBW.out.size)
    exact ⟨Bk.new w1 _ _, (hrd.more fun x hx => hx.1).on hx, hsb.on hx, hss.on hx, h0.trans (hx.mono h0.size)⟩
  have HW := Lib.hid hW
  have HLM := Lib.hid hLm
  have HLD := Lib.hid hLd
  have hsl := hLd.stlen
  have hc1 := hLm.one
  have hc12 := hLm.twelve
  have HQ3 := Lib.hid hq3
  unfold maxLen at hqm3
  clear hW ob os hsb hss hrd hb1 HBW hLm hLd hqm1 hq1
  have HIN : Hid (∀ x ∈ st, 0 ≤ x.slot.tier ∧ x.slot.tier < 5 ∧ 0 ≤ x.slot.col ∧ x.slot.col < s.cols.length ∧ x.slot.half < 3) := Lib.hid fun x hx => HLD.out.tier HLM.out hx
  unfold shpA at HW ⊢
  go_upto_region 2 with fail
  generalize w1.heap.size = g at *
  generalize (w1.alloc _) = V at *
  clear w1
  have HCK := Lib.hid (check_ok q1 q3 HW.out HLM.out HLD.out.kg HLD.out.bl HLD.out.sl HQ3.out (HLD.out.max HLM.out) HLD.out.right)
  have HHAS : Hid (∀ i, i < st.length → aboveL st (st.getD i default).slot = [] → ∀ f ∈ checkF s bs (lessL st i) s.cols.length, hasF (checkF s bs st s.cols.length) f = true) := Lib.hid fun i hi hno f hf => less_has HLD.out hi hno hf
  have hFl := check_few HLM.out bs hsl
  generalize checkF s bs st s.cols.length = F at *
  have SC := HW.out.bk
  unfold shpA at HCK
  have e0 : V.cell? ⟨g, 0, none⟩ = some (.slice h.A1 s.cols.length h.c1) := SC.cell 0
  have e1 : V.cell? ⟨g, 1, none⟩ = some (.slice h.A2 s.covs.length h.c2) := SC.cell 1
  have e2 : V.cell? ⟨g, 2, none⟩ = some (.int .i64 s.l0) := SC.cell 2
  have e3 : V.cell? ⟨g, 3, none⟩ = some (.int .i64 s.l1) := SC.cell 3
  have e4 : V.cell? ⟨g, 4, none⟩ = some (.int .i64 s.l2) := SC.cell 4
  have e5 : V.cell? ⟨g, 5, none⟩ = some (.int .i64 s.l3) := SC.cell 5
  have e6 : V.cell? ⟨g, 6, none⟩ = some (.slice h.A3 s.rows.length h.c3) := SC.cell 6
  have e7 : V.cell? ⟨g, 7, none⟩ = some (.slice h.A4 s.frames.length h.c4) := SC.cell 7
  have e8 : V.cell? ⟨g, 8, none⟩ = some (.slice h.A5 s.tanks.length h.c5) := SC.cell 8
  have e9 : V.cell? ⟨g, 9, none⟩ = some (.int .i64 s.m0) := SC.cell 9
  have e10 : V.cell? ⟨g, 10, none⟩ = some (.int .i64 s.m1) := SC.cell 10
  have e11 : V.cell? ⟨g, 11, none⟩ = some (.int .i64 s.m2) := SC.cell 11
  have e12 : V.cell? ⟨g, 12, none⟩ = some (.int .i64 s.m3) := SC.cell 12
  clear SC
  go_wp2_with fail
  refine HCK.out.mono ?_
  rintro e V1 ⟨A7, c7, rfl, hs7, hb⟩
  simp only
  clear HCK
  clear e0 e1 e2 e3 e4 e5 e6 e7 e8 e9 e10 e11 e12
  have HSF := Lib.hid hs7
  replace HW := Lib.hid (HW.out.on hb)
  clear hs7 hb
  try clear V
  go_wp2_with fail
  go_loopw [47] (fun i wr => ∃ k : Nat, k ≤ st.length ∧ i = .int .i64 k ∧ Hid (Below V1.heap.size V1 wr)) (fun i _ => st.length - (intOf i).toNat)
  case atStart => exact ⟨0, Nat.zero_le _, rfl, Lib.hid (Below.refl _ _)⟩
  case round =>
    obtain ⟨k, hk, rfl, HB⟩ := hrel
    obtain ⟨W, rfl⟩ : ∃ V, V = wr := ⟨_, rfl⟩
    by_cases hlt : k < st.length
    · have i0 : (0 : Int) ≤ (k : Int) := by omega
      have i1 : (k : Int) < (st.length : Int) := by omega
      have HWW := Lib.hid (HW.out.on HB.out)
      obtain ⟨b, off, rfl, hbB, c0, c1, c2', c3⟩ := HWW.out.sx.stw hlt
      have HBXA := Lib.hid (HLD.out.box_at (getD_memD hlt default))
      have HXM := Lib.hid (getD_memD hlt default)
      have hkg := find_kg HLD.out.kg (st.getD k default).box
      have HIDX := Lib.hid (fun a (h : idxF (idS (st.getD k default).box) st = ((a : Nat) : Int)) => HLD.out.idx hlt h)
      have HNEG := Lib.hid (HLD.out.noneg hlt)
      have HSUM := Lib.hid (fun p => sumF_less bs hlt p)
      have HLES := Lib.hid (fun h => less_ld HLM.out HLD.out hlt h)
      have HFIN := Lib.hid (HHAS.out k hlt)
      have hlen := lessL_len st hlt
      have HGX : Hid (∃ x, st.getD k default = x) := Lib.hid ⟨_, rfl⟩
      obtain ⟨x, hx⟩ := HGX.out
      rw [hx] at c0 c1 c2' c3 HBXA HXM hkg HIDX HNEG HSUM HLES HFIN
      have HGD := Lib.hid hx
      clear hx HGX
      obtain ⟨xb, xc, xt, xh⟩ := x
      obtain ⟨t0', t1', xc0, xc1, xh3⟩ := HIN.out _ HXM.out
      simp only at c0 c1 c2' c3 t0' t1' xc0 xc1 xh3 hkg HBXA HIDX HNEG HLES HFIN
      have hY := ba1 W (.cells #[.int .i64 xb, .int .i64 xc, .int .i64 xt, .int .u8 (xh : Nat)] 61)
      have HKX := Lib.hid (Bk.new W 61 #[.int .i64 xb, .int .i64 xc, .int .i64 xt, .int .u8 (xh : Nat)])
      have HB1 := Lib.hid (HB.out.trans (hY.mono HB.out.size))
      clear HB
      have HWY := Lib.hid (HWW.out.on hY)
      have KAB := Lib.hid (above_any (some ⟨b, off, none⟩) q3 st xb _ HWY.out.sx HLD.out.sl)
      clear hY HWW
      go_upto_region 8 with fail
      clear c0 c1 c2' c3
      generalize W.heap.size = gx at *
      generalize (W.alloc _) = Y at *
      try clear W
      have x0 : Y.cell? ⟨gx, 0, none⟩ = some (.int .i64 xb) := HKX.out.cell 0
      go_wp2_with fail
      refine KAB.out.mono ?_
      rintro e Y1 (⟨hq, _⟩ | ⟨a, v, hal, hq, rfl, hov, hb⟩)
      · exact absurd hq HNEG.out
      simp only
      obtain rfl : a = k := HIDX.out a hq
      rw [HGD.out] at hov
      simp only at hov
      clear KAB x0 hal hq HIDX HNEG
      obtain ⟨A8, c8, rfl, _, _, _⟩ := hov.sl
      have HKX1 := Lib.hid (HKX.out.below hb HKX.out.lt)
      have HB2 := Lib.hid (HB1.out.trans (hb.mono HB1.out.size))
      clear hov hb HKX HB1 HWY
      generalize hab : aboveL st ⟨xc, xt, xh⟩ = ab at *
      have HAB := Lib.hid hab
      clear hab
      cases ab with
      | cons a0 ar =>
        have hpos : (0 : Int) < (((a0 :: ar).length : Nat) : Int) := by rw [List.length_cons]; omega
        clear HSUM HLES HFIN
        generalize (a0 :: ar).length = na at *
        go_wp2_with fail
        go_roundw
        case rel => (repeat apply Exists.intro); (first | exact ⟨⟨a + 1, hlt, by go_num, HB2⟩, rfl⟩ | exact ⟨hlt, by go_num, HB2⟩)
        case measure => simp [intOf]; omega
      | nil =>
        have HLD2 := Lib.hid (HLES.out rfl)
        have HFN := Lib.hid (HFIN.out rfl)
        clear HLES HFIN
        have HWZ := Lib.hid (HW.out.on HB2.out)
        go_upto_region 12 with fail
        obtain ⟨AA, hAA⟩ : ∃ AA, (if q3 = a + 1 then (some ⟨b, off, none⟩ : Option Addr) else some ⟨b, off + (a + 1) * 4, none⟩) = AA := ⟨_, rfl⟩
        have HSA : Hid (∀ V : World, Cb Y1 V → Src tStw V (Lt Y1.heap.size) (some ⟨b, off, none⟩) a (st.take a)) := Lib.hid fun V hV => by
          exact ((HWZ.out.sx.below hV).take a).src (by simp; omega) (fun b hb => Nat.lt_of_lt_of_le hb (Below.size hV))
        have HSB : Hid (∀ V : World, Cb Y1 V → Src tStw V (Lt Y1.heap.size) AA (st.length - (a + 1)) (st.drop (a + 1))) := Lib.hid fun V hV => by
          have h1 := (HWZ.out.sx.below hV).cut (c := q3) (j := a + 1) hlt HQ3.out
          have e : (if q3 = a + 1 then (some ⟨b, off, none⟩ : Option Addr) else Option.map (fun x : Addr => x.add ((a + 1) * tStw.k)) (some ⟨b, off, none⟩)) = AA := by
            rw [← hAA]
            split
            · rfl
            · simp [add_mk, tStw]
          rw [e] at h1
          exact h1.src (by simp) (fun b hb => Nat.lt_of_lt_of_le hb (Below.size hV))
        have j0 : (0 : Int) ≤ (q3 : Int) := by omega
        have hqk : a + 1 ≤ q3 := Nat.le_trans hlt HQ3.out
        have hql := HQ3.out
        refine wp_region_og [.sl 0 0 61 #[] Y1.heap.size,
    .val 1 (.slice (some ⟨b, off, none⟩) st.length q3),
    .val 2 (.int .i64 (a : Nat)),
    .val 3 (.slice (some ⟨b, off, none⟩) a q3),
    .own tStw 61 Y1.heap.size (Lt Y1.heap.size) 4 (st.take a),
    .val 5 (.slice (some ⟨b, off, none⟩) st.length q3),
    .val 6 (.int .i64 (a : Nat)),
    .val 7 (.int .i64 ((a : Nat) + 1)),
    .val 8 (.slice AA (st.length - (a + 1)) (q3 - (a + 1))),
    .own tStw 61 Y1.heap.size (Lt Y1.heap.size) 9 (lessL st a),
    .own tStw 61 Y1.heap.size (Lt Y1.heap.size) 10 (lessL st a)]
          [[], [], [], [1, 2], [0, 3], [], [], [6], [5, 7], [4, 8], [9]] [10] (Cb Y1) (by kernel_rfl) (by kernel_rfl) (Cb.drew Y1) ⟨?_, ?_, ?_, ?_, ?_, ?_, ?_, ?_, ?_, ?_, ?_, trivial⟩ ?_
        case refine_1 =>
          refine StepL.up fun x V hV hu K Q hK => ?_
          clear hu
          rw [owp_eq]
          go_big_op
          exact hK _ _ (ba1 V _) ⟨_, rfl, Below.size hV, Bk.new V _ _⟩
        case refine_2 =>
          refine StepL.up fun x V hV hu K Q hK => ?_
          clear hu
          simp only [putL, List.set_cons_zero, List.set_cons_succ] at hK ⊢
          rw [owp_eq]
          go_big_op
          exact hK _ _ (Below.refl _ _) rfl
        case refine_3 =>
          refine StepL.up fun x V hV hu K Q hK => ?_
          clear hu
          simp only [putL, List.set_cons_zero, List.set_cons_succ] at hK ⊢
          rw [owp_eq]
          go_big_op
          exact hK _ _ (Below.refl _ _) rfl
        case refine_4 =>
          refine StepL.up fun x V hV hu K Q hK => ?_
          have u1 : x 1 = _ := hu 1 (by decide)
          have u2 : x 2 = _ := hu 2 (by decide)
          clear hu
          simp only [putL, List.set_cons_zero, List.set_cons_succ] at hK ⊢
          rw [owp_eq]
          go_big_op
          exact hK _ _ (Below.refl _ _) rfl
        case refine_5 =>
          refine StepL.wr [5, 6, 7, 8] (by kernel_rfl) fun x V hV hu K Q hK => ?_
          obtain ⟨gd, ud, hgd, hkd⟩ := hu 0 (by decide)
          have HO := own_of_empty (T := tStw) hkd hgd
          have uj : x 3 = _ := hu 3 (by decide)
          have HSRC := HSA.out V hV
          clear hu
          simp only [putL, List.set_cons_zero, List.set_cons_succ] at hK ⊢
          refine wp_append_og el_stw (.tmp 68) (.tmp 71) rfl Y1.heap.size (Lt Y1.heap.size) _ _ ud HO _ _ _ (st.take a) (by simp; omega) uj HSRC (by unfold maxLen; simp; omega) (by simp; omega) (Below.size hV) fun v' w' h1 h2 h3 => ?_
          refine hK v' _ (hV.app h3) h1 fun k hk' => ?_
          simp only [List.mem_cons, List.not_mem_nil, or_false] at hk'
          rcases hk' with rfl | rfl | rfl | rfl
          · exact fun h => h
          · exact fun h => h
          · exact fun h => h
          · exact fun h => h
        case refine_6 =>
          refine StepL.up fun x V hV hu K Q hK => ?_
          clear hu
          simp only [putL, List.set_cons_zero, List.set_cons_succ] at hK ⊢
          rw [owp_eq]
          go_big_op
          exact hK _ _ (Below.refl _ _) rfl
        case refine_7 =>
          refine StepL.up fun x V hV hu K Q hK => ?_
          clear hu
          simp only [putL, List.set_cons_zero, List.set_cons_succ] at hK ⊢
          rw [owp_eq]
          go_big_op
          exact hK _ _ (Below.refl _ _) rfl
        case refine_8 =>
          refine StepL.up fun x V hV hu K Q hK => ?_
          have u6 : x 6 = _ := hu 6 (by decide)
          clear hu
          simp only [putL, List.set_cons_zero, List.set_cons_succ] at hK ⊢
          rw [owp_eq]
          go_big_op
          exact hK _ _ (Below.refl _ _) rfl
        case refine_9 =>
          refine StepL.up fun x V hV hu K Q hK => ?_
          have u5 : x 5 = _ := hu 5 (by decide)
          have u7 : x 7 = _ := hu 7 (by decide)
          clear hu
          simp only [putL, List.set_cons_zero, List.set_cons_succ] at hK ⊢
          rw [owp_eq]
          go_big_op
          exact hK _ _ (Below.refl _ _) rfl
        case refine_10 =>
          refine StepL.wr [] (by kernel_rfl) fun x V hV hu K Q hK => ?_
          have HO : OwnS tStw 61 V Y1.heap.size (Lt Y1.heap.size) (x 4) _ := hu 4 (by decide)
          have uj : x 8 = _ := hu 8 (by decide)
          have HSRC := HSB.out V hV
          clear hu
          simp only [putL, List.set_cons_zero, List.set_cons_succ] at hK ⊢
          refine wp_append_og el_stw (.tmp 72) (.tmp 76) rfl Y1.heap.size (Lt Y1.heap.size) _ _ rfl HO _ _ _ (st.drop (a + 1)) (by simp) uj HSRC (by unfold maxLen; simp; omega) (by simp; omega) (Below.size hV) fun v' w' h1 h2 h3 => ?_
          refine hK v' _ (hV.app h3) h1 fun k hk' => ?_
          cases hk'
        case refine_11 =>
          refine StepL.up fun x V hV hu K Q hK => ?_
          have h9 : OwnS tStw 61 V Y1.heap.size (Lt Y1.heap.size) (x 9) _ := hu 9 (by decide)
          clear hu
          simp only [putL, List.set_cons_zero, List.set_cons_succ] at hK ⊢
          rw [owp_eq]
          go_big_op
          exact hK _ _ (Below.refl _ _) h9
        case refine_12 =>
        intro x Y2 hV hA
        have h10 : OwnS tStw 61 Y2 Y1.heap.size (Lt Y1.heap.size) (x 10) (lessL st a) := hA 10 rfl (by decide)
        simp only [layL, putL, List.set_cons_zero, List.set_cons_succ]
        obtain ⟨A9, c9, e9, hc9, hcm9, hs9⟩ := h10.sl'
        rw [e9]
        clear e9
        have HV1 := Lib.hid (show Below Y1.heap.size Y1 Y2 from hV)
        have HB3 := Lib.hid (HB2.out.trans (HV1.out.mono HB2.out.size))
        have HKX3 := Lib.hid (HKX1.out.below HV1.out HKX1.out.lt)
        have HWL : Hid (WW w Y2 g s h A1 bs A9 (lessL st a)) := Lib.hid (by
          have hr := HW.out.on HB3.out
          exact ⟨hr.bk, hr.rd, hr.bx, hs9, hr.be⟩)
        have HC9 := Lib.hid hc9
        clear hA h10 hV hs9 HSA HSB hAA HV1 HB2 HKX1 HWZ hc9 hcm9 j0 hqk hql
        have hll : (lessL st a).length ≤ 9 := by omega
        clear hlen
        have HCK := Lib.hid (check_ok q1 c9 HWL.out HLM.out HLD2.out.kg HLD2.out.bl HLD2.out.sl HC9.out (HLD2.out.max HLM.out) HLD2.out.right)
        have hFl2 := check_few HLM.out bs hll
        generalize checkF s bs (lessL st a) s.cols.length = F2 at *
        generalize lessL st a = le at *
        have SC := HWL.out.bk
        unfold shpA at HCK
        have e0 : Y2.cell? ⟨g, 0, none⟩ = some (.slice h.A1 s.cols.length h.c1) := SC.cell 0
        have e1 : Y2.cell? ⟨g, 1, none⟩ = some (.slice h.A2 s.covs.length h.c2) := SC.cell 1
        have e2 : Y2.cell? ⟨g, 2, none⟩ = some (.int .i64 s.l0) := SC.cell 2
        have e3 : Y2.cell? ⟨g, 3, none⟩ = some (.int .i64 s.l1) := SC.cell 3
        have e4 : Y2.cell? ⟨g, 4, none⟩ = some (.int .i64 s.l2) := SC.cell 4
        have e5 : Y2.cell? ⟨g, 5, none⟩ = some (.int .i64 s.l3) := SC.cell 5
        have e6 : Y2.cell? ⟨g, 6, none⟩ = some (.slice h.A3 s.rows.length h.c3) := SC.cell 6
        have e7 : Y2.cell? ⟨g, 7, none⟩ = some (.slice h.A4 s.frames.length h.c4) := SC.cell 7
        have e8 : Y2.cell? ⟨g, 8, none⟩ = some (.slice h.A5 s.tanks.length h.c5) := SC.cell 8
        have e9 : Y2.cell? ⟨g, 9, none⟩ = some (.int .i64 s.m0) := SC.cell 9
        have e10 : Y2.cell? ⟨g, 10, none⟩ = some (.int .i64 s.m1) := SC.cell 10
        have e11 : Y2.cell? ⟨g, 11, none⟩ = some (.int .i64 s.m2) := SC.cell 11
        have e12 : Y2.cell? ⟨g, 12, none⟩ = some (.int .i64 s.m3) := SC.cell 12
        clear SC
        go_wp2_with fail
        refine HCK.out.mono ?_
        rintro e Y3 ⟨A10, c10, rfl, hs10, hb⟩
        simp only
        clear HCK
        clear e0 e1 e2 e3 e4 e5 e6 e7 e8 e9 e10 e11 e12
        have HSF2 := Lib.hid hs10
        have HB4 := Lib.hid (HB3.out.trans (hb.mono HB3.out.size))
        have HKX4 := Lib.hid (HKX3.out.below hb HKX3.out.lt)
        have HWL4 := Lib.hid (HWL.out.on hb)
        clear hs10 hb HB3 HKX3 HWL
        try clear Y2
        try clear Y1
        go_wp2_with fail
        go_loopw [89] (fun i wx => ∃ j : Nat, j ≤ F2.length ∧ i = .int .i64 j ∧ Hid (Below Y3.heap.size Y3 wx)) (fun i _ => F2.length - (intOf i).toNat)
        case atStart => exact ⟨0, Nat.zero_le _, rfl, Lib.hid (Below.refl _ _)⟩
        case round =>
          obtain ⟨j, hj, rfl, HBf⟩ := hrel
          obtain ⟨Z, rfl⟩ : ∃ V, V = wr := ⟨_, rfl⟩
          by_cases hjl : j < F2.length
          · obtain ⟨b2, off2, hA7, hbB2, c0, c1, c2'⟩ := (HSF2.out.below HBf.out).flt hjl
            subst hA7
            have HFD := Lib.hid (HFN.out _ (getD_memD hjl default))
            have HBG := Lib.hid (HBf.out.trans ((ba1 Z (.cells #[.int .i64 (F2.getD j default).col, .int .u8 ((F2.getD j default).kind : Nat), .int .i64 (F2.getD j default).box] 65)).mono HBf.out.size))
            have HKF := Lib.hid (Bk.new Z 65 #[.int .i64 (F2.getD j default).col, .int .u8 ((F2.getD j default).kind : Nat), .int .i64 (F2.getD j default).box])
            generalize F2.getD j default = f at *
            obtain ⟨fc, fk, fx⟩ := f
            simp only at c0 c1 c2' HBG HKF
            have j0 : (0 : Int) ≤ (j : Int) := by omega
            have j1 : (j : Int) < (F2.length : Int) := by omega
            have hj1 : j + 1 ≤ F2.length := hjl
            clear HBf
            go_upto_region 19 with fail
            clear c0 c1 c2'
            generalize Z.heap.size = gz at *
            generalize (Z.alloc _) = Z2 at *
            try clear Z
            have KHS : Hid (Calls Try.prog 25 #[.slice A7 F.length c7, .agg #[.int .i64 fc, .int .u8 (fk : Nat), .int .i64 fx]] Z2 (Ret Z2 (.bool true))) := Lib.hid (by
              have hb := HB4.out.trans (HBG.out.mono HB4.out.size)
              have k1 := has_any A7 c7 F ⟨fc, fk, fx⟩ Z2 (HSF.out.on hb) hFl
              rw [HFD.out] at k1
              exact k1)
            have f0 : Z2.cell? ⟨gz, 0, none⟩ = some (.int .i64 fc) := HKF.out.cell 0
            have f1 : Z2.cell? ⟨gz, 1, none⟩ = some (.int .u8 (fk : Nat)) := HKF.out.cell 1
            have f2 : Z2.cell? ⟨gz, 2, none⟩ = some (.int .i64 fx) := HKF.out.cell 2
            clear HKF
            go_wp2_with fail
            refine KHS.out.mono ?_
            rintro e Z3 ⟨rfl, hb⟩
            simp only
            clear KHS f0 f1 f2
            replace HBG := Lib.hid (HBG.out.trans (hb.mono HBG.out.size))
            clear hb
            go_wp2_with fail
            go_roundw
            case rel => (repeat apply Exists.intro); (first | exact ⟨⟨j + 1, hj1, by go_num, HBG⟩, rfl⟩ | exact ⟨hj1, by go_num, HBG⟩)
            case measure => simp [intOf]; omega
          · obtain rfl : j = F2.length := by omega
            have HB5 := Lib.hid (HB4.out.trans (HBf.out.mono HB4.out.size))
            have HKX5 := Lib.hid (HKX4.out.below HBf.out HKX4.out.lt)
            have HWL5 := Lib.hid (HWL4.out.on HBf.out)
            have HW5 := Lib.hid (HW.out.on HB5.out)
            clear HBf HB4 HKX4 HWL4 HFN HSF2
            have KF := Lib.hid (stowFind_any A1 q1 bs xb Z HW5.out.bx HLD.out.bl)
            have HKGX : Hid (∀ p, kgOf bs p ⟨xb, xc, xt, xh⟩ = if p ⟨xc, xt, xh⟩ then (findBx bs xb).1.kilos else 0) := Lib.hid fun p => rfl
            generalize hfb : findBx bs xb = fb at *
            clear hfb
            obtain ⟨⟨z0, z1, z2, z3, z4, z5, z6, z7, z8⟩, ok⟩ := fb
            unfold bxL at KF
            simp only at hkg KF HKGX
            obtain ⟨kz0, kz1⟩ := hkg
            have x0 : Z.cell? ⟨gx, 0, none⟩ = some (.int .i64 xb) := HKX5.out.cell 0
            go_wp2_with fail
            refine KF.out.mono ?_
            rintro e Z1 ⟨rfl, hb⟩
            simp only
            clear KF x0
            have hZ := ba1 Z1 (.cells #[.int .i64 z0, .string z1, .int .u8 (z2 : Nat), .bool z3, .int .i64 z4, .int .i64 z5, .int .i64 z6, .int .u8 (z7 : Nat), .bool z8] 43)
            have HKB := Lib.hid ((Bk.new Z1 43 #[.int .i64 z0, .string z1, .int .u8 (z2 : Nat), .bool z3, .int .i64 z4, .int .i64 z5, .int .i64 z6, .int .u8 (z7 : Nat), .bool z8]))
            have hq := hb.trans (hZ.mono hb.size)
            have HB6 := Lib.hid (HB5.out.trans (hq.mono HB5.out.size))
            have HKX6 := Lib.hid (HKX5.out.below hq HKX5.out.lt)
            have HWL6 := Lib.hid (HWL5.out.on hq)
            have HW6 := Lib.hid (HW5.out.on hq)
            clear hb hZ hq HB5 HKX5 HWL5 HW5
            go_upto_region 23 with fail
            generalize Z1.heap.size = gb at *
            generalize (Z1.alloc _) = X at *
            try clear Z1
            try clear Z
            have e0 : X.cell? ⟨g, 0, none⟩ = some (.slice h.A1 s.cols.length h.c1) := HW6.out.bk.cell 0
            go_wp2_with fail
            clear e0
            obtain ⟨kc, rfl⟩ : ∃ kc : Nat, xc = (kc : Int) := ⟨xc.toNat, by omega⟩
            go_loopw [108] (fun i wx => ∃ m : Nat, m ≤ s.cols.length ∧ i = .int .i64 m ∧ Hid (Below X.heap.size X wx)) (fun i _ => s.cols.length - (intOf i).toNat)
            case atStart => exact ⟨0, Nat.zero_le _, rfl, Lib.hid (Below.refl _ _)⟩
            case round =>
              obtain ⟨m, hm, rfl, HBm⟩ := hrel
              obtain ⟨Q, rfl⟩ : ∃ V, V = wr := ⟨_, rfl⟩
              by_cases hml : m < s.cols.length
              · have m0 : (0 : Int) ≤ (m : Int) := by omega
                have m1 : (m : Int) < (s.cols.length : Int) := by omega
                have hm1 : m + 1 ≤ s.cols.length := hml
                have KW1 := Lib.hid (fun V' (hV : Below Q.heap.size Q V') => weigh_any A1 q1 bs (some ⟨b, off, none⟩) q3 st (m : Int) V' HLD.out.kg ((HW6.out.on HBm.out).on hV).bx HLD.out.bl ((HW6.out.on HBm.out).on hV).sx HLD.out.sl)
                have KW2 := Lib.hid (fun V' (hV : Below Q.heap.size Q V') => weigh_any A1 q1 bs A9 c9 le (m : Int) V' HLD2.out.kg ((HW6.out.on HBm.out).on hV).bx HLD2.out.bl ((HWL6.out.on HBm.out).on hV).sx HLD2.out.sl)
                have HS := Lib.hid (HSUM.out (colB m))
                have hsb := sumF_bd HLD2.out.kg le (colB m)
                rw [HKGX.out] at HS
                unfold klL at KW1 KW2
                generalize sumF bs st (halfB m 1) = s1 at *
                generalize sumF bs st (halfB m 2) = s2 at *
                generalize sumF bs st (colB m) = s3 at *
                generalize sumF bs le (halfB m 1) = r1 at *
                generalize sumF bs le (halfB m 2) = r2 at *
                generalize sumF bs le (colB m) = r3 at *
                obtain ⟨q0, q1'⟩ : -9000000000000 ≤ r3 ∧ r3 ≤ 9000000000000 := by omega
                clear hsb
                have t1 : Q.cell? ⟨gx, 1, none⟩ = some (.int .i64 (kc : Nat)) := (HKX6.out.below HBm.out HKX6.out.lt).cell 1
                have n4 : Q.cell? ⟨gb, 4, none⟩ = some (.int .i64 z4) := (HKB.out.below HBm.out HKB.out.lt).cell 4
                by_cases hmk : m = kc
                · subst hmk
                  obtain rfl : s3 = r3 + z4 := by rw [HS.out]; simp [colB]
                  have hsub : r3 + z4 - r3 = z4 := by omega
                  clear HS
                  have hfk := run_field_kl
                  go_upto_region 29 with fail
                  clear t1 n4
                  go_wp2_with fail
                  refine (KW1.out _ (Below.refl _ _)).mono ?_
                  rintro e Q1 ⟨rfl, hb⟩
                  simp only
                  clear KW1
                  go_wp2_with fail
                  refine (KW2.out _ hb).mono ?_
                  rintro e Q2 ⟨rfl, hb2⟩
                  simp only
                  clear KW2
                  have HBm2 := Lib.hid (HBm.out.trans ((hb.trans (hb2.mono hb.size)).mono HBm.out.size))
                  clear hb hb2 HBm
                  go_wp2_with fail
                  go_roundw
                  case rel => (repeat apply Exists.intro); (first | exact ⟨⟨m + 1, hm1, by go_num, HBm2⟩, rfl⟩ | exact ⟨hm1, by go_num, HBm2⟩)
                  case measure => simp [intOf]; omega
                · have hmb : ((m : Int) == (kc : Int)) = false := by simp; omega
                  have hkm : ((kc : Int) == (m : Int)) = false := by simp; omega
                  obtain rfl : s3 = r3 := by rw [HS.out]; unfold colB; rw [hkm]; simp
                  have hsub : s3 - s3 = 0 := by omega
                  clear HS hmk hkm
                  have hfk := run_field_kl
                  go_upto_region 29 with fail
                  clear t1 n4 hmb
                  go_wp2_with fail
                  refine (KW1.out _ (Below.refl _ _)).mono ?_
                  rintro e Q1 ⟨rfl, hb⟩
                  simp only
                  clear KW1
                  go_wp2_with fail
                  refine (KW2.out _ hb).mono ?_
                  rintro e Q2 ⟨rfl, hb2⟩
                  simp only
                  clear KW2
                  have HBm2 := Lib.hid (HBm.out.trans ((hb.trans (hb2.mono hb.size)).mono HBm.out.size))
                  clear hb hb2 HBm
                  go_wp2_with fail
                  go_roundw
                  case rel => (repeat apply Exists.intro); (first | exact ⟨⟨m + 1, hm1, by go_num, HBm2⟩, rfl⟩ | exact ⟨hm1, by go_num, HBm2⟩)
                  case measure => simp [intOf]; omega
              · obtain rfl : m = s.cols.length := by omega
                have HB7 := Lib.hid (HB6.out.trans (HBm.out.mono HB6.out.size))
                clear HBm HB6 HKX6 HWL6 HW6 HKB
                go_wp2_with fail
                go_roundw
                case rel => (repeat apply Exists.intro); (first | exact ⟨⟨a + 1, hlt, by go_num, HB7⟩, rfl⟩ | exact ⟨hlt, by go_num, HB7⟩)
                case measure => simp [intOf]; omega
    · obtain rfl : k = st.length := by omega
      have HW9 := Lib.hid ((HW.out.on HB.out).be)
      clear HW HB HIN HLM HLD HHAS HSF
      go_wp2_with fail
      refine (awake10_true _).mono ?_
      rintro e W1 ⟨rfl, hb⟩
      simp only
      go_wp2_with fail
      go_ret
      exact ⟨rfl, HW9.out.trans (hb.mono HW9.out.size)⟩
end Go.Proofs.Ytncfakkajknhaaa
