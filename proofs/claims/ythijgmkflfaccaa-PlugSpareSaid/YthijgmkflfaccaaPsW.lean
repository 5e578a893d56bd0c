/-
  The walk of the statement PlugSpare.
-/
import Derived.Test.YthijgmkflfaccaaPsP
namespace Go.Proofs.Ythijgmkflfaccaa
open Go.RowKit

set_option maxRecDepth 100000 in
set_option maxHeartbeats 8000000 in
theorem plugSpare_any (A : Option Addr) (c : Nat) (pl : List (Nat × Nat × Nat × Bool)) (covers : Nat) (plugs : Nat) (hpl : plugs < 18446744073709551616) (reefers : Nat) (hrf : reefers < 65536) (A2 : Option Addr) (c2 : Nat) (ds : List Drp) (small : Bool) (w : World)
    (hs : SlT tPl w (Lt w.heap.size) A pl) (hl : ∀ p ∈ pl, p.1 < 256 ∧ p.2.1 < 256 ∧ p.2.2.1 < 256) (hc : pl.length ≤ c) (hcm : c ≤ maxLen)
    (hs2 : SlT tDrp w (Lt w.heap.size) A2 ds) (hd : ∀ d ∈ ds, d.col < 256 ∧ d.kilos < 256) (hc2 : ds.length ≤ c2) (hcm2 : c2 ≤ maxLen) :
    Calls Try.prog 4 #[.slice A pl.length c, .int .u32 covers, .int .u64 (plugs : Nat), .int .u16 (reefers : Nat), .slice A2 ds.length c2, .bool small] w (TrueRet w) := by
  have HC := Lib.hid (plugged_any A c pl covers plugs reefers hpl hrf A2 c2 ds w hs hl hc hcm hs2 hd hc2 hcm2)
  clear hs hl hc hcm hs2 hd hc2 hcm2
  go_enter Try.func4, Try.ntmps4
  go_wp2_with fail
  refine HC.out.mono ?_
  rintro e w1 ⟨s, h, v1, v2, bs, st, rfl, hLm, hPg, hLd, hrd, ob, os, hb1⟩
  simp only
  clear HC
  obtain ⟨A1, q1, rfl, hq1, hqm1, hsb⟩ := OwnS.sl' ob
  obtain ⟨A3, q3, rfl, hq3, hqm3, hss⟩ := OwnS.sl' os
  have hW : W5 w (w1.alloc (.cells (shpA s h) 37)) w1.heap.size s h A1 bs A3 st := by
    have hx := ba1 w1 (.cells (shpA s h) 37)
    exact ⟨Bk.new w1 _ _, (hrd.more fun x hx => hx.1).on hx, hsb.on hx, hss.on hx, hb1.trans (hx.mono hb1.size)⟩
  have HW := Lib.hid hW
  have HLM := Lib.hid hLm
  have HPG := Lib.hid hPg
  have HLD := Lib.hid hLd
  have HQ3 := Lib.hid hq3
  have HIN : Hid (∀ x ∈ st, 0 ≤ x.slot.tier ∧ x.slot.tier < 5 ∧ 0 ≤ x.slot.col ∧ x.slot.col < s.cols.length ∧ x.slot.half < 3) := Lib.hid fun x hx => hLd.tier hLm hx
  have HI6 := Lib.hid (hLd.i64s hLm)
  have hbl := hLd.nine
  have hsl := hLd.stlen
  have hc1 := hLm.one
  have hc12 := hLm.twelve
  clear hW ob os hsb hss hrd hb1 hLm hLd hPg hq1 hq3
  unfold maxLen at hqm1 hqm3
  unfold shpA at HW ⊢
  go_upto_region 2 with fail
  generalize w1.heap.size = g at *
  generalize (w1.alloc _) = V at *
  clear w1
  have HWB : Hid (W5 w (V.alloc (.cells #[.int .i64 900, .string ⟨#[]⟩, .int .u8 40, .bool false, .int .i64 1, .int .i64 0, .int .i64 1, .int .u8 0, .bool true] 51)) g s h A1 bs A3 st ∧ Bk (V.alloc (.cells #[.int .i64 900, .string ⟨#[]⟩, .int .u8 40, .bool false, .int .i64 1, .int .i64 0, .int .i64 1, .int .u8 0, .bool true] 51)) V.heap.size 51 #[.int .i64 900, .string ⟨#[]⟩, .int .u8 ((40 : Nat) : Int), .bool false, .int .i64 1, .int .i64 0, .int .i64 1, .int .u8 0, .bool true]) := Lib.hid ⟨HW.out.on (ba1 V _), Bk.new V _ _⟩
  have HVG : Hid (V.heap.size ≠ g ∧ w.heap.size ≤ V.heap.size) := Lib.hid ⟨by have := HW.out.bk.lt; omega, HW.out.be.size⟩
  have HB0 : Hid (ShpR V (Lt V.heap.size) s h ∧ SlT tBx V (Lt V.heap.size) A1 bs ∧ SlT tStw V (Lt V.heap.size) A3 st) := Lib.hid ⟨HW.out.rd, HW.out.bx, HW.out.sx⟩
  clear HW
  go_upto_if 38 with fail
  generalize hgb : V.heap.size = gb at *
  have hwV : ∀ (k : Nat) (v : Value), (∀ b o, Lt gb b → ((V.alloc (.cells #[.int .i64 900, .string ⟨#[]⟩, .int .u8 40, .bool false, .int .i64 1, .int .i64 0, .int .i64 1, .int .u8 0, .bool true] 51)).setCell ⟨gb, k, none⟩ v).cell? ⟨b, o, none⟩ = V.cell? ⟨b, o, none⟩) := fun k v b o hb => by
    have hb' : b < gb := hb
    rw [cell_far (by show b ≠ gb; omega)]
    exact (ba1 V _).cell (p := ⟨b, o, none⟩) (by show b < V.heap.size; rw [hgb]; exact hb')
  have hzV : ∀ (k : Nat) (v : Value), gb ≤ ((V.alloc (.cells #[.int .i64 900, .string ⟨#[]⟩, .int .u8 40, .bool false, .int .i64 1, .int .i64 0, .int .i64 1, .int .u8 0, .bool true] 51)).setCell ⟨gb, k, none⟩ v).heap.size := fun k v => by rw [size_setP]; simp; omega
  have HWV := Lib.hid hwV
  have HZV := Lib.hid hzV
  clear hwV hzV hgb
  generalize (V.alloc _) = V1 at *
  go_cut [39] (fun _ wx => ∃ sz : Nat, (sz = 20 ∨ sz = 40) ∧ Hid (W5 w wx g s h A1 bs A3 st ∧ Bk wx gb 51 #[.int .i64 900, .string ⟨#[]⟩, .int .u8 (sz : Nat), .bool false, .int .i64 1, .int .i64 0, .int .i64 1, .int .u8 0, .bool true]))
  case first =>
    have kb := HWB.out.2
    have y2 : V1.cell? ⟨gb, 2, none⟩ = some (.int .u8 40) := kb.cell 2
    have f2 := kb.frozen 2
    clear kb
    cases small with
    | false =>
      go_wp2_with fail
      go_meet
      exact ⟨40, .inr rfl, HWB⟩
    | true =>
      go_wp2_with fail
      go_meet
      refine ⟨20, .inl rfl, Lib.hid ?_⟩
      have r := HWB.out.1
      have hg := HVG.out
      have hk := HWV.out 2 (.int .u8 20)
      have hz := HZV.out 2 (.int .u8 20)
      exact ⟨⟨r.bk.far (p := ⟨gb, 2, none⟩) (by show g ≠ gb; omega) _, (HB0.out.1.keep hk).more (lt_more hz), (HB0.out.2.1.keep hk).more (lt_more hz), (HB0.out.2.2.keep hk).more (lt_more hz), r.be.setCell (by show w.heap.size ≤ gb; omega) _⟩, HWB.out.2.set_ 2 _⟩
  case rest =>
    obtain ⟨sz, hsz, HWB2⟩ := hcut
    clear HWB HVG HB0 HWV HZV
    try clear V1
    try clear V
    obtain ⟨V, rfl⟩ : ∃ V, V = wc := ⟨_, rfl⟩
    have hsz6 : sz < 256 := by omega
    have HW : Hid (W5 w V g s h A1 bs A3 st) := Lib.hid HWB2.out.1
    have HKB : Hid (Bk V gb 51 #[.int .i64 900, .string ⟨#[]⟩, .int .u8 (sz : Nat), .bool false, .int .i64 1, .int .i64 0, .int .i64 1, .int .u8 0, .bool true]) := Lib.hid HWB2.out.2
    clear HWB2
    have KFA : Hid (∀ V' : World, Below V.heap.size V V' → Calls Try.prog 15 #[.agg (shpA s h), .slice A1 bs.length q1, .slice A3 st.length q3] V' (fun e w' => ∃ A c, e = .returned (.slice A (pfF s bs st).length c) ∧ (pfF s bs st).length ≤ c ∧ SlT tInt w' (Lt w'.heap.size) A (pfF s bs st) ∧ Below V'.heap.size V' w')) := Lib.hid fun V' hV => by
      have r := HW.out.on hV
      refine (pFaults_any s h A1 q1 bs A3 q3 st V' r.rd HLM.out.few HLM.out.ints r.bx HLD.out.bl r.sx HLD.out.sl HI6.out).mono ?_
      rintro e w' ⟨v, rfl, ho, hb⟩
      obtain ⟨A, c, rfl, hc, _, hs⟩ := ho.sl
      exact ⟨A, c, rfl, hc, hs, hb⟩
    have KAT : Hid (∀ (V' : World) (x : Slt), Below V.heap.size V V' → I64 x.col ∧ I64 x.tier → Calls Try.prog 11 #[.agg (shpA s h), .agg (sltL x).toArray] V' (Ret V' (.bool (atF s x)))) := Lib.hid fun V' x hV hx => pAt_any s h x V' (HW.out.on hV).rd HLM.out.few HLM.out.ints hx
    have KSP : Hid (∀ V' : World, Below V.heap.size V V' → Calls Try.prog 14 #[.agg (shpA s h), .slice A3 st.length q3, .int .u8 (sz : Nat)] V' (fun e w' => ∃ A c, e = .returned (.slice A (spareF s st sz).length c) ∧ (spareF s st sz).length ≤ c ∧ SlT tSlt w' (Lt w'.heap.size) A (spareF s st sz) ∧ Below V'.heap.size V' w')) := Lib.hid fun V' hV => by
      have r := HW.out.on hV
      refine (pSpare_any s h A3 q3 st sz V' r.rd HLM.out.few HLM.out.ints HLM.out.short (fun c => Nat.le_trans (HLM.out.tiersN c) (by decide)) (HLM.out.all sz) r.sx HLD.out.sl).mono ?_
      rintro e w' ⟨v, rfl, ho, hb⟩
      obtain ⟨A, c, rfl, hc, _, hs⟩ := ho.sl
      exact ⟨A, c, rfl, hc, hs, hb⟩
    have KAL : Hid (∀ V' : World, Below V.heap.size V V' → Calls Try.prog 16 #[.agg (shpA s h), .int .u8 (sz : Nat)] V' (fun e w' => ∃ A c, e = .returned (.slice A (allF s sz).length c) ∧ (allF s sz).length ≤ c ∧ SlT tSlt w' (Lt w'.heap.size) A (allF s sz) ∧ Below V'.heap.size V' w')) := Lib.hid fun V' hV => by
      have r := HW.out.on hV
      refine (all_any s h sz V' r.rd HLM.out.short (fun c => Nat.le_trans (HLM.out.tiersN c) (by decide)) (HLM.out.all sz)).mono ?_
      rintro e w' ⟨v, rfl, ho, hb⟩
      obtain ⟨A, c, rfl, hc, _, hs⟩ := ho.sl
      exact ⟨A, c, rfl, hc, hs, hb⟩
    have KFM : Hid (∀ (V' : World) (A5 A6 : Option Addr) (c5 c6 : Nat) (x : Slt), Below V.heap.size V V' → SlT tBx V' (Lt V'.heap.size) A5 (bs ++ [rb900 sz]) → SlT tStw V' (Lt V'.heap.size) A6 (st ++ [(⟨900, x⟩ : Stw)]) → x ∈ allF s sz → pluggedB s x.col x.tier = true → Calls Try.prog 15 #[.agg (shpA s h), .slice A5 (bs.length + 1) c5, .slice A6 (st.length + 1) c6] V' (fun e w' => ∃ A c, e = .returned (.slice A (pfF s bs st).length c) ∧ SlT tInt w' (Lt w'.heap.size) A (pfF s bs st) ∧ Below V'.heap.size V' w')) := Lib.hid fun V' A5 A6 c5 c6 x hV h5 h6 hx hp => by
      have r := HW.out.on hV
      have hin := all_in HLM.out hx
      have h12 := HLM.out.twelve
      have h := pFaults_any s h A5 c5 (bs ++ [rb900 sz]) A6 c6 (st ++ [(⟨900, x⟩ : Stw)]) V' r.rd HLM.out.few HLM.out.ints h5 (by simp; omega) h6 (by simp; omega) (fun y hy => by
        rcases List.mem_append.1 hy with hy | hy
        · exact HI6.out y hy
        · obtain rfl : y = ⟨900, x⟩ := by simpa using hy
          unfold I64
          simp only
          omega)
      rw [pf_more HLD.out hp] at h
      rw [List.length_append, List.length_append] at h
      refine h.mono ?_
      rintro e w' ⟨v, rfl, ho, hb⟩
      obtain ⟨A, c, rfl, _, _, hs⟩ := ho.sl
      exact ⟨A, c, rfl, hs, hb⟩
    have HAT : Hid (∀ x ∈ allF s sz, atF s x = pluggedB s x.col x.tier ∧ (I64 x.col ∧ I64 x.tier)) := Lib.hid fun x hx => ⟨at_all hsz hx, by
      have := all_in HLM.out hx
      have := HLM.out.twelve
      unfold I64
      omega⟩
    have HSPE : Hid (spareF s st sz = (allF s sz).filter (spareP s st)) := Lib.hid rfl
    have HSQ : Hid (∀ x, spareP s st x = (pluggedB s x.col x.tier && !(st.any fun y => meetB x y.slot))) := Lib.hid fun x => rfl
    have HFA := Lib.hid (fun k (hk : k < (allF s sz).length) (hc : spareP s st ((allF s sz).getD k default) = true) => filter_at (spareP s st) hk hc)
    have haL := HLM.out.all sz
    have hpl9 : (pfF s bs st).length ≤ 9 := by
      rw [pf_eq, List.length_map]
      exact Nat.le_trans (List.length_filter_le _ _) hsl
    have HSBV : Hid (∀ U : World, Cb V U → Src tBx U (Lt V.heap.size) A1 bs.length bs) := Lib.hid fun U hU => (HW.out.bx.below hU).src rfl (fun b hb => Nat.lt_of_lt_of_le hb (Below.size hU))
    have SC := HW.out.bk
    have kb := HKB.out
    unfold shpA at KFA KAT KSP KAL KFM
    have e0 : V.cell? ⟨g, 0, none⟩ = some (.slice h.A1 s.cols.length h.c1) := SC.cell 0
    have e1 : V.cell? ⟨g, 1, none⟩ = some (.slice h.A2 s.covs.length h.c2) := SC.cell 1
    have e2 : V.cell? ⟨g, 2, none⟩ = some (.int .i64 s.l0) := SC.cell 2
    have e3 : V.cell? ⟨g, 3, none⟩ = some (.int .i64 s.l1) := SC.cell 3
    have e4 : V.cell? ⟨g, 4, none⟩ = some (.int .i64 s.l2) := SC.cell 4
    have e5 : V.cell? ⟨g, 5, none⟩ = some (.int .i64 s.l3) := SC.cell 5
    have e6 : V.cell? ⟨g, 6, none⟩ = some (.slice h.A3 s.rows.length h.c3) := SC.cell 6
    have e7 : V.cell? ⟨g, 7, none⟩ = some (.slice h.A4 s.frames.length h.c4) := SC.cell 7
    have e8 : V.cell? ⟨g, 8, none⟩ = some (.slice h.A5 s.tanks.length h.c5) := SC.cell 8
    have e9 : V.cell? ⟨g, 9, none⟩ = some (.int .i64 s.m0) := SC.cell 9
    have e10 : V.cell? ⟨g, 10, none⟩ = some (.int .i64 s.m1) := SC.cell 10
    have e11 : V.cell? ⟨g, 11, none⟩ = some (.int .i64 s.m2) := SC.cell 11
    have e12 : V.cell? ⟨g, 12, none⟩ = some (.int .i64 s.m3) := SC.cell 12
    have y2 : V.cell? ⟨gb, 2, none⟩ = some (.int .u8 (sz : Nat)) := kb.cell 2
    clear SC kb
    go_wp2_with fail
    refine (KSP.out V (Below.refl _ _)).mono ?_
    rintro e W ⟨A5, c5, rfl, hc5, hs5, hb⟩
    simp only
    clear KSP e0 e1 e2 e3 e4 e5 e6 e7 e8 e9 e10 e11 e12 y2 HSBV
    rw [HSPE.out] at hc5 hs5 ⊢
    have HBE := Lib.hid hb
    have HS5 := Lib.hid hs5
    clear hb hs5
    go_upto_region 6 with fail
    obtain ⟨V0, hV0⟩ : ∃ U, U = V := ⟨_, rfl⟩
    rw [← hV0] at HW HKB KFA KAT KAL KFM HBE
    have HWW : Hid (W5 w W g s h A1 bs A3 st) := Lib.hid (HW.out.on HBE.out)
    have HKW : Hid (Bk W gb 51 #[.int .i64 900, .string ⟨#[]⟩, .int .u8 (sz : Nat), .bool false, .int .i64 1, .int .i64 0, .int .i64 1, .int .u8 0, .bool true]) := Lib.hid (HKB.out.below HBE.out HKB.out.lt)
    clear hV0
    try clear V
    obtain ⟨R6, rfl⟩ : ∃ U, U = W := ⟨_, rfl⟩
    have HSB : Hid (∀ U : World, Cb R6 U → Src tBx U (Lt R6.heap.size) A1 bs.length bs) := Lib.hid fun U hU => (HWW.out.bx.below hU).src rfl (fun b hb => Nat.lt_of_lt_of_le hb (Below.size hU))
    have y0 : R6.cell? ⟨gb, 0, none⟩ = some (.int .i64 900) := HKW.out.cell 0
    have y1 : R6.cell? ⟨gb, 1, none⟩ = some (.string ⟨#[]⟩) := HKW.out.cell 1
    have y2 : R6.cell? ⟨gb, 2, none⟩ = some (.int .u8 (sz : Nat)) := HKW.out.cell 2
    have y3 : R6.cell? ⟨gb, 3, none⟩ = some (.bool false) := HKW.out.cell 3
    have y4 : R6.cell? ⟨gb, 4, none⟩ = some (.int .i64 1) := HKW.out.cell 4
    have y5 : R6.cell? ⟨gb, 5, none⟩ = some (.int .i64 0) := HKW.out.cell 5
    have y6 : R6.cell? ⟨gb, 6, none⟩ = some (.int .i64 1) := HKW.out.cell 6
    have y7 : R6.cell? ⟨gb, 7, none⟩ = some (.int .u8 0) := HKW.out.cell 7
    have y8 : R6.cell? ⟨gb, 8, none⟩ = some (.bool true) := HKW.out.cell 8
    refine wp_region_og [.sl 0 0 51 #[] R6.heap.size,
    .val 1 (.slice A1 bs.length q1),
    .own tBx 51 R6.heap.size (Lt R6.heap.size) 2 bs,
    .val 3 (.agg #[.int .i64 900, .string ⟨#[]⟩, .int .u8 (sz : Nat), .bool false, .int .i64 1, .int .i64 0, .int .i64 1, .int .u8 0, .bool true]),
    .sl 4 1 51 #[.int .i64 900, .string ⟨#[]⟩, .int .u8 (sz : Nat), .bool false, .int .i64 1, .int .i64 0, .int .i64 1, .int .u8 0, .bool true] R6.heap.size,
    .own tBx 51 R6.heap.size (Lt R6.heap.size) 5 (bs ++ [(⟨900, ⟨#[]⟩, sz, false, 1, 0, 1, 0, true⟩ : Bx)]),
    .own tBx 51 R6.heap.size (Lt R6.heap.size) 6 (bs ++ [(⟨900, ⟨#[]⟩, sz, false, 1, 0, 1, 0, true⟩ : Bx)])]
      [[], [], [0, 1], [], [3], [2, 4], [5]] [6] (Cb R6) (by kernel_rfl) (by kernel_rfl) (Cb.drew R6) ⟨?_, ?_, ?_, ?_, ?_, ?_, ?_, trivial⟩ ?_
    case refine_1 =>
      refine StepL.up fun x V hV hu K Q hK => ?_
      clear hu
      rw [owp_eq]
      go_big_op
      exact hK _ _ (ba1 V _) ⟨_, rfl, Below.size hV, Bk.new V _ _⟩
    case refine_2 =>
      refine StepL.up fun x V hV hu K Q hK => ?_
      clear hu
      simp only [putL, List.set_cons_zero, List.set_cons_succ] at hK ⊢
      rw [owp_eq]
      go_big_op
      exact hK _ _ (Below.refl _ _) rfl
    case refine_3 =>
      refine StepL.wr [3, 4] (by kernel_rfl) fun x V hV hu K Q hK => ?_
      obtain ⟨gd, ud, hgd, hkd⟩ := hu 0 (by decide)
      have HO := own_of_empty (T := tBx) hkd hgd
      have uj : x 1 = _ := hu 1 (by decide)
      have HSRC := HSB.out V hV
      clear hu
      simp only [putL, List.set_cons_zero, List.set_cons_succ] at hK ⊢
      refine wp_append_og el_bx (.tmp 45) (.tmp 46) rfl R6.heap.size (Lt R6.heap.size) _ _ ud HO _ _ _ _ rfl uj HSRC (by unfold maxLen; simp; omega) (by simp; omega) (Below.size hV) fun v' w' h1 h2 h3 => ?_
      refine hK v' _ (hV.app h3) h1 fun k hk' => ?_
      simp only [List.mem_cons, List.not_mem_nil, or_false] at hk'
      rcases hk' with rfl | rfl
      · exact fun h => h
      · rintro ⟨g', e', l', k'⟩; exact ⟨g', e', l', k'.stay h2 (fun q => (Bk.size_ne hkd k' (by simp)) (Option.some.inj q))⟩
    case refine_4 =>
      refine StepL.up fun x V hV hu K Q hK => ?_
      have fy0 := hV.cell y0
      have fy1 := hV.cell y1
      have fy2 := hV.cell y2
      have fy3 := hV.cell y3
      have fy4 := hV.cell y4
      have fy5 := hV.cell y5
      have fy6 := hV.cell y6
      have fy7 := hV.cell y7
      have fy8 := hV.cell y8
      clear hu
      simp only [putL, List.set_cons_zero, List.set_cons_succ] at hK ⊢
      rw [owp_eq]
      go_big_op
      exact hK _ _ (Below.refl _ _) rfl
    case refine_5 =>
      refine StepL.up fun x V hV hu K Q hK => ?_
      have u3 : x 3 = _ := hu 3 (by decide)
      clear hu
      simp only [putL, List.set_cons_zero, List.set_cons_succ] at hK ⊢
      rw [owp_eq]
      go_big_op
      exact hK _ _ (ba1 V _) ⟨_, rfl, Below.size hV, Bk.new V _ _⟩
    case refine_6 =>
      refine StepL.wr [] (by kernel_rfl) fun x V hV hu K Q hK => ?_
      have HO : OwnS tBx 51 V R6.heap.size (Lt R6.heap.size) (x 2) _ := hu 2 (by decide)
      obtain ⟨gj, uj, hgj, hkj⟩ := hu 4 (by decide)
      have HSRC := Src.blk (T := tBx) (S := Lt R6.heap.size) (ms := [(⟨900, ⟨#[]⟩, sz, false, 1, 0, 1, 0, true⟩ : Bx)]) hkj (Flat.single rfl) rfl
      clear hu
      simp only [putL, List.set_cons_zero, List.set_cons_succ] at hK ⊢
      refine wp_append_og el_bx (.tmp 47) (.tmp 49) rfl R6.heap.size (Lt R6.heap.size) _ _ rfl HO _ _ _ [(⟨900, ⟨#[]⟩, sz, false, 1, 0, 1, 0, true⟩ : Bx)] rfl uj HSRC (by unfold maxLen; simp; omega) (by simp; omega) (Below.size hV) fun v' w' h1 h2 h3 => ?_
      refine hK v' _ (hV.app h3) h1 fun k hk' => ?_
      cases hk'
    case refine_7 =>
      refine StepL.up fun x V hV hu K Q hK => ?_
      have h9 : OwnS tBx 51 V R6.heap.size (Lt R6.heap.size) (x 5) _ := hu 5 (by decide)
      clear hu
      simp only [putL, List.set_cons_zero, List.set_cons_succ] at hK ⊢
      rw [owp_eq]
      go_big_op
      exact hK _ _ (Below.refl _ _) h9
    case refine_8 =>
    intro x X1 hV hA
    have h6 : OwnS tBx 51 X1 R6.heap.size (Lt R6.heap.size) (x 6) (bs ++ [(⟨900, ⟨#[]⟩, sz, false, 1, 0, 1, 0, true⟩ : Bx)]) := hA 6 rfl (by decide)
    simp only [layL, putL, List.set_cons_zero, List.set_cons_succ]
    obtain ⟨A6, c6, e6, _, _, hs6⟩ := h6.sl'
    rw [e6]
    have HS6 : Hid (SlT tBx X1 (Lt X1.heap.size) A6 (bs ++ [rb900 sz])) := Lib.hid hs6
    have hVX : Below R6.heap.size R6 X1 := hV
    replace HWW := Lib.hid (HWW.out.on hVX)
    replace HKW := Lib.hid (HKW.out.below hVX HKW.out.lt)
    replace HS5 := Lib.hid (HS5.out.on hVX)
    replace HBE := Lib.hid (HBE.out.trans (hVX.mono HBE.out.size))
    clear hA h6 e6 hs6 hV hVX HSB y0 y1 y2 y3 y4 y5 y6 y7 y8 HW HKB
    rw [show (bs ++ [(⟨900, ⟨#[]⟩, sz, false, 1, 0, 1, 0, true⟩ : Bx)]).length = bs.length + 1 by simp]
    try clear R6
    have SC := HWW.out.bk
    have e0 : X1.cell? ⟨g, 0, none⟩ = some (.slice h.A1 s.cols.length h.c1) := SC.cell 0
    have e1 : X1.cell? ⟨g, 1, none⟩ = some (.slice h.A2 s.covs.length h.c2) := SC.cell 1
    have e2 : X1.cell? ⟨g, 2, none⟩ = some (.int .i64 s.l0) := SC.cell 2
    have e3 : X1.cell? ⟨g, 3, none⟩ = some (.int .i64 s.l1) := SC.cell 3
    have e4 : X1.cell? ⟨g, 4, none⟩ = some (.int .i64 s.l2) := SC.cell 4
    have e5 : X1.cell? ⟨g, 5, none⟩ = some (.int .i64 s.l3) := SC.cell 5
    have e6 : X1.cell? ⟨g, 6, none⟩ = some (.slice h.A3 s.rows.length h.c3) := SC.cell 6
    have e7 : X1.cell? ⟨g, 7, none⟩ = some (.slice h.A4 s.frames.length h.c4) := SC.cell 7
    have e8 : X1.cell? ⟨g, 8, none⟩ = some (.slice h.A5 s.tanks.length h.c5) := SC.cell 8
    have e9 : X1.cell? ⟨g, 9, none⟩ = some (.int .i64 s.m0) := SC.cell 9
    have e10 : X1.cell? ⟨g, 10, none⟩ = some (.int .i64 s.m1) := SC.cell 10
    have e11 : X1.cell? ⟨g, 11, none⟩ = some (.int .i64 s.m2) := SC.cell 11
    have e12 : X1.cell? ⟨g, 12, none⟩ = some (.int .i64 s.m3) := SC.cell 12
    clear SC
    have KF1 := Lib.hid (KFA.out X1 HBE.out)
    go_wp2_with fail
    refine KF1.out.mono ?_
    rintro e X2 ⟨A7, c7, rfl, hc7, hs7, hb⟩
    simp only
    clear KF1 KFA e0 e1 e2 e3 e4 e5 e6 e7 e8 e9 e10 e11 e12
    replace HWW := Lib.hid (HWW.out.on hb)
    replace HKW := Lib.hid (HKW.out.below hb HKW.out.lt)
    replace HS5 := Lib.hid (HS5.out.on hb)
    replace HS6 := Lib.hid (HS6.out.on hb)
    replace HBE := Lib.hid (HBE.out.trans (hb.mono HBE.out.size))
    have HS7 := Lib.hid hs7
    clear hs7 hb
    try clear X1
    generalize pfF s bs st = a at *
    have SC := HWW.out.bk
    have e0 : X2.cell? ⟨g, 0, none⟩ = some (.slice h.A1 s.cols.length h.c1) := SC.cell 0
    have e1 : X2.cell? ⟨g, 1, none⟩ = some (.slice h.A2 s.covs.length h.c2) := SC.cell 1
    have e2 : X2.cell? ⟨g, 2, none⟩ = some (.int .i64 s.l0) := SC.cell 2
    have e3 : X2.cell? ⟨g, 3, none⟩ = some (.int .i64 s.l1) := SC.cell 3
    have e4 : X2.cell? ⟨g, 4, none⟩ = some (.int .i64 s.l2) := SC.cell 4
    have e5 : X2.cell? ⟨g, 5, none⟩ = some (.int .i64 s.l3) := SC.cell 5
    have e6 : X2.cell? ⟨g, 6, none⟩ = some (.slice h.A3 s.rows.length h.c3) := SC.cell 6
    have e7 : X2.cell? ⟨g, 7, none⟩ = some (.slice h.A4 s.frames.length h.c4) := SC.cell 7
    have e8 : X2.cell? ⟨g, 8, none⟩ = some (.slice h.A5 s.tanks.length h.c5) := SC.cell 8
    have e9 : X2.cell? ⟨g, 9, none⟩ = some (.int .i64 s.m0) := SC.cell 9
    have e10 : X2.cell? ⟨g, 10, none⟩ = some (.int .i64 s.m1) := SC.cell 10
    have e11 : X2.cell? ⟨g, 11, none⟩ = some (.int .i64 s.m2) := SC.cell 11
    have e12 : X2.cell? ⟨g, 12, none⟩ = some (.int .i64 s.m3) := SC.cell 12
    clear SC
    have y2 : X2.cell? ⟨gb, 2, none⟩ = some (.int .u8 (sz : Nat)) := HKW.out.cell 2
    have KA1 := Lib.hid (KAL.out X2 HBE.out)
    go_wp2_with fail
    refine KA1.out.mono ?_
    rintro e X3 ⟨A8, c8, rfl, hc8, hs8, hb⟩
    simp only
    clear KA1 KAL e0 e1 e2 e3 e4 e5 e6 e7 e8 e9 e10 e11 e12 y2
    replace HWW := Lib.hid (HWW.out.on hb)
    replace HKW := Lib.hid (HKW.out.below hb HKW.out.lt)
    replace HS5 := Lib.hid (HS5.out.on hb)
    replace HS6 := Lib.hid (HS6.out.on hb)
    replace HS7 := Lib.hid (HS7.out.on hb)
    replace HBE := Lib.hid (HBE.out.trans (hb.mono HBE.out.size))
    have HS8 := Lib.hid hs8
    clear hs8 hb
    try clear X2
    have HMA : Hid (∀ k, k < (allF s sz).length → (allF s sz).getD k default ∈ allF s sz) := Lib.hid fun k hk => getD_memD hk default
    generalize allF s sz = L at *
    have HFL := Lib.hid (fun k (h : k < L.length) => filter_len_succ (spareP s st) L h default)
    have HLE := Lib.hid (fun k => filter_take_len (spareP s st) L k)
    have HSL := Lib.hid (List.length_filter_le (spareP s st) L)
    generalize hsp : L.filter (spareP s st) = sp at *
    have HSPL := Lib.hid hsp
    clear hsp
    go_wp2_with fail
    go_loopw [20, 60] (fun n i wr => ∃ k : Nat, k ≤ L.length ∧ i = .int .i64 k ∧ n = .int .i64 ((L.take k).filter (spareP s st)).length ∧ Hid (Below X3.heap.size X3 wr)) (fun _ i _ => L.length - (intOf i).toNat)
    case atStart => exact ⟨0, Nat.zero_le _, rfl, rfl, Lib.hid (Below.refl _ _)⟩
    case round =>
      obtain ⟨k, hk, rfl, rfl, HB⟩ := hrel
      obtain ⟨Y, rfl⟩ : ∃ V, V = wr := ⟨_, rfl⟩
      by_cases hlt : k < L.length
      · obtain ⟨b3, off3, rfl, hbB, c0, c1, c2'⟩ := (HS8.out.on HB.out).slt hlt
        have i0 : (0 : Int) ≤ (k : Int) := by omega
        have i1 : (k : Int) < (L.length : Int) := by omega
        have HXM := Lib.hid (HMA.out k hlt)
        have HAX := Lib.hid (HAT.out _ HXM.out)
        have HFX := Lib.hid (HFA.out k hlt)
        have HLX := Lib.hid (HFL.out k hlt)
        have HQX := Lib.hid (HSQ.out (L.getD k default))
        have hn6 : ((L.take k).filter (spareP s st)).length ≤ L.length := HLE.out k
        generalize ((L.take k).filter (spareP s st)).length = n at *
        generalize L.getD k default = x at *
        generalize spareP s st x = px at *
        obtain ⟨x0, x1, x2⟩ := x
        simp only at c0 c1 c2' HAX HQX
        have HKX := Lib.hid (Bk.new Y 47 #[.int .i64 x0, .int .i64 x1, .int .u8 (x2 : Nat)])
        have hy := ba1 Y (.cells #[.int .i64 x0, .int .i64 x1, .int .u8 (x2 : Nat)] 47)
        have HB1 := Lib.hid (HB.out.trans (hy.mono HB.out.size))
        clear hy HB
        go_upto_region 12 with fail
        clear c0 c1 c2'
        generalize Y.heap.size = gx at *
        generalize (Y.alloc _) = Y1 at *
        try clear Y
        go_wp2_with fail
        go_loopw [23, 66] (fun fr j wr => ∃ i : Nat, i ≤ st.length ∧ j = .int .i64 i ∧ fr = .bool ((st.take i).all fun y => !meetB ⟨x0, x1, x2⟩ y.slot) ∧ Hid (Below Y1.heap.size Y1 wr)) (fun _ j _ => st.length - (intOf j).toNat)
        case atStart => exact ⟨0, Nat.zero_le _, rfl, rfl, Lib.hid (Below.refl _ _)⟩
        case round =>
          obtain ⟨i, hi, rfl, rfl, HBI⟩ := hrel
          obtain ⟨Z, rfl⟩ : ∃ V, V = wr := ⟨_, rfl⟩
          have HBZ := Lib.hid (HB1.out.trans (HBI.out.mono HB1.out.size))
          by_cases hil : i < st.length
          · obtain ⟨b4, off4, rfl, hb4, d0, d1, d2, d3⟩ := (HWW.out.on HBZ.out).sx.stw hil
            have j0 : (0 : Int) ≤ (i : Int) := by omega
            have j1 : (i : Int) < (st.length : Int) := by omega
            have HTA := Lib.hid (all_takeD (fun y : Stw => !meetB ⟨x0, x1, x2⟩ y.slot) hil default)
            have KME := Lib.hid (fun V' : World => meet_any ⟨x0, x1, x2⟩ (st.getD i default).slot V')
            generalize (st.take i).all (fun y => !meetB ⟨x0, x1, x2⟩ y.slot) = fr at *
            generalize st.getD i default = y at *
            obtain ⟨yb, yc, yt, yh⟩ := y
            simp only at d0 d1 d2 d3 KME HTA
            unfold sltL at KME
            simp only at KME
            generalize meetB ⟨x0, x1, x2⟩ ⟨yc, yt, yh⟩ = me at *
            have HKY := Lib.hid (Bk.new Z 49 #[.int .i64 yb, .int .i64 yc, .int .i64 yt, .int .u8 (yh : Nat)])
            have hz := ba1 Z (.cells #[.int .i64 yb, .int .i64 yc, .int .i64 yt, .int .u8 (yh : Nat)] 49)
            have HBJ := Lib.hid (HBI.out.trans (hz.mono HBI.out.size))
            have HKX1 := Lib.hid ((HKX.out.below HBI.out HKX.out.lt).below hz (HKX.out.below HBI.out HKX.out.lt).lt)
            clear hz HBI HBZ
            go_upto_region 16 with fail
            clear d0 d1 d2 d3
            generalize Z.heap.size = gy at *
            generalize (Z.alloc _) = Z1 at *
            try clear Z
            cases fr with
            | false =>
              have HN : Hid (((st.take (i + 1)).all fun y => !meetB ⟨x0, x1, x2⟩ y.slot) = false) := Lib.hid (by rw [HTA.out]; rfl)
              go_wp2_with fail
              go_roundw
              case rel => first | exact ⟨i + 1, by omega, by go_num, by rw [HN.out], HBJ⟩ | ((repeat apply Exists.intro); (first | exact ⟨⟨i + 1, by omega, by go_num, by rw [HN.out], HBJ⟩, rfl⟩ | exact ⟨by omega, by go_num, by rw [HN.out], HBJ⟩))
              case measure => simp [intOf]; omega
            | true =>
              have HN : Hid (((st.take (i + 1)).all fun y => !meetB ⟨x0, x1, x2⟩ y.slot) = !me) := Lib.hid (by rw [HTA.out]; rfl)
              have xx0 : Z1.cell? ⟨gx, 0, none⟩ = some (.int .i64 x0) := HKX1.out.cell 0
              have xx1 : Z1.cell? ⟨gx, 1, none⟩ = some (.int .i64 x1) := HKX1.out.cell 1
              have xx2 : Z1.cell? ⟨gx, 2, none⟩ = some (.int .u8 (x2 : Nat)) := HKX1.out.cell 2
              have yy1 : Z1.cell? ⟨gy, 1, none⟩ = some (.int .i64 yc) := HKY.out.cell 1
              have yy2 : Z1.cell? ⟨gy, 2, none⟩ = some (.int .i64 yt) := HKY.out.cell 2
              have yy3 : Z1.cell? ⟨gy, 3, none⟩ = some (.int .u8 (yh : Nat)) := HKY.out.cell 3
              go_wp2_with fail
              refine (KME.out Z1).mono ?_
              rintro e Z2 ⟨rfl, hb⟩
              simp only
              have HBK := Lib.hid (HBJ.out.trans (hb.mono HBJ.out.size))
              clear KME hb xx0 xx1 xx2 yy1 yy2 yy3 HBJ HKX1 HKY
              go_wp2_with fail
              go_roundw
              case rel => first | exact ⟨i + 1, by omega, by go_num, by rw [HN.out], HBK⟩ | ((repeat apply Exists.intro); (first | exact ⟨⟨i + 1, by omega, by go_num, by rw [HN.out], HBK⟩, rfl⟩ | exact ⟨by omega, by go_num, by rw [HN.out], HBK⟩))
              case measure => simp [intOf]; omega
          · obtain rfl : i = st.length := by omega
            have HQ2 := Lib.hid (any_all (fun y : Stw => meetB ⟨x0, x1, x2⟩ y.slot) st)
            rw [List.take_length]
            have hqx := HQX.out
            rw [HQ2.out] at hqx
            generalize (st.all fun y => !meetB ⟨x0, x1, x2⟩ y.slot) = fr at *
            have KA1 := Lib.hid (fun V' hV => KAT.out V' ⟨x0, x1, x2⟩ hV HAX.out.2)
            have hax := HAX.out.1
            rw [hax] at KA1
            have HPQ : Hid (∀ q, pluggedB s x0 x1 = q → q = pluggedB s x0 x1) := Lib.hid fun q h => h.symm
            generalize hpq : pluggedB s x0 x1 = pq at *
            have HPP := Lib.hid hpq
            clear hpq hax HPQ
            have HKX1 := Lib.hid (HKX.out.below HBI.out HKX.out.lt)
            have HWZ := Lib.hid (HWW.out.on HBZ.out)
            have HVZ := Lib.hid (HBE.out.trans (HBZ.out.mono HBE.out.size))
            clear HQ2 HKX HBI
            try clear Y1
            cases fr with
            | false =>
              have hpx : px = false := by rw [hqx]; simp
              clear hqx
              have HN : Hid (((L.take (k + 1)).filter (spareP s st)).length = n) := Lib.hid (by rw [HLX.out, hpx]; rfl)
              go_wp2_with fail
              go_roundw
              case rel => first | exact ⟨k + 1, by omega, by go_num, by rw [HN.out], HBZ⟩ | ((repeat apply Exists.intro); (first | exact ⟨⟨k + 1, by omega, by go_num, by rw [HN.out], HBZ⟩, rfl⟩ | exact ⟨by omega, by go_num, by rw [HN.out], HBZ⟩))
              case measure => simp [intOf]; omega
            | true =>
              obtain rfl : px = pq := by rw [hqx]; simp
              clear hqx
              go_upto_region 18 with fail
              have SC := HWZ.out.bk
              have e0 : Z.cell? ⟨g, 0, none⟩ = some (.slice h.A1 s.cols.length h.c1) := SC.cell 0
              have e1 : Z.cell? ⟨g, 1, none⟩ = some (.slice h.A2 s.covs.length h.c2) := SC.cell 1
              have e2 : Z.cell? ⟨g, 2, none⟩ = some (.int .i64 s.l0) := SC.cell 2
              have e3 : Z.cell? ⟨g, 3, none⟩ = some (.int .i64 s.l1) := SC.cell 3
              have e4 : Z.cell? ⟨g, 4, none⟩ = some (.int .i64 s.l2) := SC.cell 4
              have e5 : Z.cell? ⟨g, 5, none⟩ = some (.int .i64 s.l3) := SC.cell 5
              have e6 : Z.cell? ⟨g, 6, none⟩ = some (.slice h.A3 s.rows.length h.c3) := SC.cell 6
              have e7 : Z.cell? ⟨g, 7, none⟩ = some (.slice h.A4 s.frames.length h.c4) := SC.cell 7
              have e8 : Z.cell? ⟨g, 8, none⟩ = some (.slice h.A5 s.tanks.length h.c5) := SC.cell 8
              have e9 : Z.cell? ⟨g, 9, none⟩ = some (.int .i64 s.m0) := SC.cell 9
              have e10 : Z.cell? ⟨g, 10, none⟩ = some (.int .i64 s.m1) := SC.cell 10
              have e11 : Z.cell? ⟨g, 11, none⟩ = some (.int .i64 s.m2) := SC.cell 11
              have e12 : Z.cell? ⟨g, 12, none⟩ = some (.int .i64 s.m3) := SC.cell 12
              clear SC
              have xx0 : Z.cell? ⟨gx, 0, none⟩ = some (.int .i64 x0) := HKX1.out.cell 0
              have xx1 : Z.cell? ⟨gx, 1, none⟩ = some (.int .i64 x1) := HKX1.out.cell 1
              have xx2 : Z.cell? ⟨gx, 2, none⟩ = some (.int .u8 (x2 : Nat)) := HKX1.out.cell 2
              have KA2 := Lib.hid (KA1.out Z HVZ.out)
              unfold sltL at KA2
              simp only at KA2
              go_wp2_with fail
              refine KA2.out.mono ?_
              rintro e Z1 ⟨rfl, hb⟩
              simp only
              clear KA1 KA2 e0 e1 e2 e3 e4 e5 e6 e7 e8 e9 e10 e11 e12 xx0 xx1 xx2
              replace HBZ := Lib.hid (HBZ.out.trans (hb.mono HBZ.out.size))
              replace HVZ := Lib.hid (HVZ.out.trans (hb.mono HVZ.out.size))
              replace HWZ := Lib.hid (HWZ.out.on hb)
              replace HKX1 := Lib.hid (HKX1.out.below hb HKX1.out.lt)
              clear hb
              try clear Z
              cases px with
              | false =>
                have HN : Hid (((L.take (k + 1)).filter (spareP s st)).length = n) := Lib.hid (by rw [HLX.out]; rfl)
                go_wp2_with fail
                go_roundw
                case rel => first | exact ⟨k + 1, by omega, by go_num, by rw [HN.out], HBZ⟩ | ((repeat apply Exists.intro); (first | exact ⟨⟨k + 1, by omega, by go_num, by rw [HN.out], HBZ⟩, rfl⟩ | exact ⟨by omega, by go_num, by rw [HN.out], HBZ⟩))
                case measure => simp [intOf]; omega
              | true =>
                have HN : Hid (((L.take (k + 1)).filter (spareP s st)).length = n + 1) := Lib.hid (by rw [HLX.out]; rfl)
                obtain ⟨hna, hnb⟩ := HFX.out rfl
                try rw [HSPL.out] at hna hnb
                obtain ⟨b5, off5, rfl, hb5, d0, d1, d2⟩ := (HS5.out.on HBZ.out).slt hna
                rw [hnb] at d0 d1 d2
                simp only at d0 d1 d2
                have n0 : (0 : Int) ≤ (n : Int) := by omega
                have n1 : (n : Int) < (sp.length : Int) := by omega
                have nd : decide (sp.length ≤ n) = false := by simp; omega
                have HE := run_neq_slt ⟨x0, x1, x2⟩ ⟨x0, x1, x2⟩
                rw [show sltEq ⟨x0, x1, x2⟩ ⟨x0, x1, x2⟩ = true from (sltEq_iff _ _).2 rfl] at HE
                unfold sltL at HE
                simp only [Bool.not_true] at HE
                go_upto_region 19 with fail
                have d0 : ∀ p : Gr Z1, p.W.cell? ⟨b5, off5 + n * 3, none⟩ = some (.int .i64 x0) := Gr.cell d0
                have d1 : ∀ p : Gr Z1, p.W.cell? ⟨b5, off5 + n * 3 + 1, none⟩ = some (.int .i64 x1) := Gr.cell d1
                have d2 : ∀ p : Gr Z1, p.W.cell? ⟨b5, off5 + n * 3 + 2, none⟩ = some (.int .u8 (x2 : Nat)) := Gr.cell d2
                have xx0 : ∀ p : Gr Z1, p.W.cell? ⟨gx, 0, none⟩ = some (.int .i64 x0) := Gr.cell (HKX1.out.cell 0)
                have xx1 : ∀ p : Gr Z1, p.W.cell? ⟨gx, 1, none⟩ = some (.int .i64 x1) := Gr.cell (HKX1.out.cell 1)
                have xx2 : ∀ p : Gr Z1, p.W.cell? ⟨gx, 2, none⟩ = some (.int .u8 (x2 : Nat)) := Gr.cell (HKX1.out.cell 2)
                refine wp_region_gr (by kernel_rfl) (by kernel_rfl) ?_
                repeat (go_big_quiet_step (fail))
                refine wpQuiet_nil ?_
                rintro Z ⟨⟨_, hb⟩, rfl⟩
                clear d0 d1 d2 xx0 xx1 xx2 HE
                replace HBZ := Lib.hid (HBZ.out.trans (hb.mono HBZ.out.size))
                replace HVZ := Lib.hid (HVZ.out.trans (hb.mono HVZ.out.size))
                replace HWZ := Lib.hid (HWZ.out.on hb)
                replace HKX1 := Lib.hid (HKX1.out.below hb HKX1.out.lt)
                clear hb
                try clear Z1
                go_upto_region 22 with fail
                have HKZ := Lib.hid (HKW.out.below HBZ.out HKW.out.lt)
                have y0 : Z.cell? ⟨gb, 0, none⟩ = some (.int .i64 900) := HKZ.out.cell 0
                have x0c : Z.cell? ⟨gx, 0, none⟩ = some (.int .i64 x0) := HKX1.out.cell 0
                have x1c : Z.cell? ⟨gx, 1, none⟩ = some (.int .i64 x1) := HKX1.out.cell 1
                have x2c : Z.cell? ⟨gx, 2, none⟩ = some (.int .u8 (x2 : Nat)) := HKX1.out.cell 2
                have HSS : Hid (∀ U : World, Cb Z U → Src tStw U (Lt Z.heap.size) A3 st.length st) := Lib.hid fun U hU => (HWZ.out.sx.below hU).src rfl (fun b hb => Nat.lt_of_lt_of_le hb (Below.size hU))
                refine wp_region_og [.sl 0 0 49 #[] Z.heap.size,
    .val 1 (.slice A3 st.length q3),
    .own tStw 49 Z.heap.size (Lt Z.heap.size) 2 st,
    .val 3 (.pointer (some ⟨gb, 0, none⟩)),
    .val 4 (.int .i64 900),
    .val 5 (.agg #[.int .i64 x0, .int .i64 x1, .int .u8 (x2 : Nat)]),
    .val 6 (.agg #[.int .i64 900, .int .i64 x0, .int .i64 x1, .int .u8 (x2 : Nat)]),
    .sl 7 1 49 #[.int .i64 900, .int .i64 x0, .int .i64 x1, .int .u8 (x2 : Nat)] Z.heap.size,
    .own tStw 49 Z.heap.size (Lt Z.heap.size) 8 (st ++ [(⟨900, ⟨x0, x1, x2⟩⟩ : Stw)]),
    .own tStw 49 Z.heap.size (Lt Z.heap.size) 9 (st ++ [(⟨900, ⟨x0, x1, x2⟩⟩ : Stw)])]
                  [[], [], [0, 1], [], [3], [], [4, 5], [6], [2, 7], [8]] [9] (Cb Z) (by kernel_rfl) (by kernel_rfl) (Cb.drew Z) ⟨?_, ?_, ?_, ?_, ?_, ?_, ?_, ?_, ?_, ?_, trivial⟩ ?_
                case refine_1 =>
                  refine StepL.up fun x V hV hu K Q hK => ?_
                  clear hu
                  rw [owp_eq]
                  go_big_op
                  exact hK _ _ (ba1 V _) ⟨_, rfl, Below.size hV, Bk.new V _ _⟩
                case refine_2 =>
                  refine StepL.up fun x V hV hu K Q hK => ?_
                  clear hu
                  simp only [putL, List.set_cons_zero, List.set_cons_succ] at hK ⊢
                  rw [owp_eq]
                  go_big_op
                  exact hK _ _ (Below.refl _ _) rfl
                case refine_3 =>
                  refine StepL.wr [3, 4, 5, 6, 7] (by kernel_rfl) fun x V hV hu K Q hK => ?_
                  obtain ⟨gd, ud, hgd, hkd⟩ := hu 0 (by decide)
                  have HO := own_of_empty (T := tStw) hkd hgd
                  have uj : x 1 = _ := hu 1 (by decide)
                  have HSRC := HSS.out V hV
                  clear hu
                  simp only [putL, List.set_cons_zero, List.set_cons_succ] at hK ⊢
                  refine wp_append_og el_stw (.tmp 101) (.tmp 102) rfl Z.heap.size (Lt Z.heap.size) _ _ ud HO _ _ _ _ rfl uj HSRC (by unfold maxLen; simp; omega) (by simp; omega) (Below.size hV) fun v' w' h1 h2 h3 => ?_
                  refine hK v' _ (hV.app h3) h1 fun k hk' => ?_
                  simp only [List.mem_cons, List.not_mem_nil, or_false] at hk'
                  rcases hk' with rfl | rfl | rfl | rfl | rfl
                  · exact fun h => h
                  · exact fun h => h
                  · exact fun h => h
                  · exact fun h => h
                  · rintro ⟨g', e', l', k'⟩; exact ⟨g', e', l', k'.stay h2 (fun q => (Bk.size_ne hkd k' (by simp)) (Option.some.inj q))⟩
                case refine_4 =>
                  refine StepL.up fun x V hV hu K Q hK => ?_
                  clear hu
                  simp only [putL, List.set_cons_zero, List.set_cons_succ] at hK ⊢
                  rw [owp_eq]
                  go_big_op
                  exact hK _ _ (Below.refl _ _) rfl
                case refine_5 =>
                  refine StepL.up fun x V hV hu K Q hK => ?_
                  have u3 : x 3 = _ := hu 3 (by decide)
                  have fy0 := hV.cell y0
                  clear hu
                  simp only [putL, List.set_cons_zero, List.set_cons_succ] at hK ⊢
                  rw [owp_eq]
                  go_big_op
                  exact hK _ _ (Below.refl _ _) rfl
                case refine_6 =>
                  refine StepL.up fun x V hV hu K Q hK => ?_
                  have fx0c := hV.cell x0c
                  have fx1c := hV.cell x1c
                  have fx2c := hV.cell x2c
                  clear hu
                  simp only [putL, List.set_cons_zero, List.set_cons_succ] at hK ⊢
                  rw [owp_eq]
                  go_big_op
                  exact hK _ _ (Below.refl _ _) rfl
                case refine_7 =>
                  refine StepL.up fun x V hV hu K Q hK => ?_
                  have u4 : x 4 = _ := hu 4 (by decide)
                  have u5 : x 5 = _ := hu 5 (by decide)
                  clear hu
                  simp only [putL, List.set_cons_zero, List.set_cons_succ] at hK ⊢
                  rw [owp_eq]
                  go_big_op
                  exact hK _ _ (Below.refl _ _) rfl
                case refine_8 =>
                  refine StepL.up fun x V hV hu K Q hK => ?_
                  have u6 : x 6 = _ := hu 6 (by decide)
                  clear hu
                  simp only [putL, List.set_cons_zero, List.set_cons_succ] at hK ⊢
                  rw [owp_eq]
                  go_big_op
                  exact hK _ _ (ba1 V _) ⟨_, rfl, Below.size hV, Bk.new V _ _⟩
                case refine_9 =>
                  refine StepL.wr [] (by kernel_rfl) fun x V hV hu K Q hK => ?_
                  have HO : OwnS tStw 49 V Z.heap.size (Lt Z.heap.size) (x 2) _ := hu 2 (by decide)
                  obtain ⟨gj, uj, hgj, hkj⟩ := hu 7 (by decide)
                  have HSRC := Src.blk (T := tStw) (S := Lt Z.heap.size) (ms := [(⟨900, ⟨x0, x1, x2⟩⟩ : Stw)]) hkj (Flat.single rfl) rfl
                  clear hu
                  simp only [putL, List.set_cons_zero, List.set_cons_succ] at hK ⊢
                  refine wp_append_og el_stw (.tmp 103) (.tmp 108) rfl Z.heap.size (Lt Z.heap.size) _ _ rfl HO _ _ _ [(⟨900, ⟨x0, x1, x2⟩⟩ : Stw)] rfl uj HSRC (by unfold maxLen; simp; omega) (by simp; omega) (Below.size hV) fun v' w' h1 h2 h3 => ?_
                  refine hK v' _ (hV.app h3) h1 fun k hk' => ?_
                  cases hk'
                case refine_10 =>
                  refine StepL.up fun x V hV hu K Q hK => ?_
                  have h9 : OwnS tStw 49 V Z.heap.size (Lt Z.heap.size) (x 8) _ := hu 8 (by decide)
                  clear hu
                  simp only [putL, List.set_cons_zero, List.set_cons_succ] at hK ⊢
                  rw [owp_eq]
                  go_big_op
                  exact hK _ _ (Below.refl _ _) h9
                case refine_11 =>
                  intro x Z1 hV hA
                  have h9 : OwnS tStw 49 Z1 Z.heap.size (Lt Z.heap.size) (x 9) (st ++ [(⟨900, ⟨x0, x1, x2⟩⟩ : Stw)]) := hA 9 rfl (by decide)
                  simp only [layL, putL, List.set_cons_zero, List.set_cons_succ]
                  obtain ⟨A9, c9, e9, _, _, hs9⟩ := h9.sl'
                  rw [e9]
                  have hVZ : Below Z.heap.size Z Z1 := hV
                  have HS9 : Hid (SlT tStw Z1 (Lt Z1.heap.size) A9 (st ++ [(⟨900, ⟨x0, x1, x2⟩⟩ : Stw)])) := Lib.hid hs9
                  replace HBZ := Lib.hid (HBZ.out.trans (hVZ.mono HBZ.out.size))
                  replace HVZ := Lib.hid (HVZ.out.trans (hVZ.mono HVZ.out.size))
                  replace HWZ := Lib.hid (HWZ.out.on hVZ)
                  clear hA h9 e9 hs9 hV hVZ HSS y0 x0c x1c x2c HKZ HKX1
                  rw [show (st ++ [(⟨900, ⟨x0, x1, x2⟩⟩ : Stw)]).length = st.length + 1 by simp]
                  try clear Z
                  have HS6Z := Lib.hid (HS6.out.on HBZ.out)
                  have KM := Lib.hid (KFM.out Z1 A6 A9 c6 c9 ⟨x0, x1, x2⟩ HVZ.out HS6Z.out HS9.out HXM.out HPP.out)
                  have SC := HWZ.out.bk
                  have e0 : Z1.cell? ⟨g, 0, none⟩ = some (.slice h.A1 s.cols.length h.c1) := SC.cell 0
                  have e1 : Z1.cell? ⟨g, 1, none⟩ = some (.slice h.A2 s.covs.length h.c2) := SC.cell 1
                  have e2 : Z1.cell? ⟨g, 2, none⟩ = some (.int .i64 s.l0) := SC.cell 2
                  have e3 : Z1.cell? ⟨g, 3, none⟩ = some (.int .i64 s.l1) := SC.cell 3
                  have e4 : Z1.cell? ⟨g, 4, none⟩ = some (.int .i64 s.l2) := SC.cell 4
                  have e5 : Z1.cell? ⟨g, 5, none⟩ = some (.int .i64 s.l3) := SC.cell 5
                  have e6 : Z1.cell? ⟨g, 6, none⟩ = some (.slice h.A3 s.rows.length h.c3) := SC.cell 6
                  have e7 : Z1.cell? ⟨g, 7, none⟩ = some (.slice h.A4 s.frames.length h.c4) := SC.cell 7
                  have e8 : Z1.cell? ⟨g, 8, none⟩ = some (.slice h.A5 s.tanks.length h.c5) := SC.cell 8
                  have e9 : Z1.cell? ⟨g, 9, none⟩ = some (.int .i64 s.m0) := SC.cell 9
                  have e10 : Z1.cell? ⟨g, 10, none⟩ = some (.int .i64 s.m1) := SC.cell 10
                  have e11 : Z1.cell? ⟨g, 11, none⟩ = some (.int .i64 s.m2) := SC.cell 11
                  have e12 : Z1.cell? ⟨g, 12, none⟩ = some (.int .i64 s.m3) := SC.cell 12
                  clear SC
                  go_wp2_with fail
                  refine KM.out.mono ?_
                  rintro e Z2 ⟨A10, c10, rfl, hs10, hb⟩
                  simp only
                  have HB2 := Lib.hid (HBZ.out.trans (hb.mono HBZ.out.size))
                  have HS10 := Lib.hid hs10
                  clear KM hs10 hb e0 e1 e2 e3 e4 e5 e6 e7 e8 e9 e10 e11 e12 HS6Z HS9
                  have hab : a.length ≤ maxLen := by unfold maxLen; omega
                  go_wp2_with fail
                  refine (sameInts_any A10 A7 c10 c7 a a _ _ Z2 HS10.out (HS7.out.on HB2.out) hab).mono ?_
                  rintro e Z3 ⟨rfl, m, hZ3⟩
                  simp only [decide_true]
                  have HB3 : Hid (Below X3.heap.size X3 Z3) := Lib.hid (by rw [hZ3]; exact below_drewN HB2.out m)
                  clear hZ3 HBZ HB2
                  go_wp2_with fail
                  go_roundw
                  case rel => first | exact ⟨k + 1, by omega, by go_num, by rw [HN.out]; go_num, HB3⟩ | ((repeat apply Exists.intro); (first | exact ⟨⟨k + 1, by omega, by go_num, by rw [HN.out]; go_num, HB3⟩, rfl⟩ | exact ⟨by omega, by go_num, by rw [HN.out]; go_num, HB3⟩))
                  case measure => simp [intOf]; omega
      · obtain rfl : k = L.length := by omega
        rw [List.take_length, HSPL.out]
        have t1 : ((sp.length : Int) == (sp.length : Int)) = true := by simp
        have HW9 := Lib.hid (HWW.out.on HB.out).be
        go_wp2_with fail
        refine (awake12_true _).mono ?_
        rintro e W9 ⟨rfl, hb⟩
        simp only
        go_wp2_with fail
        go_ret
        exact ⟨rfl, HW9.out.trans (hb.mono HW9.out.size)⟩
end Go.Proofs.Ythijgmkflfaccaa
