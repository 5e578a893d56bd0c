/-
  The walk of the statement PlugWrong.
-/
import Derived.Test.YthijgmkflfaccaaPwQ
namespace Go.Proofs.Ythijgmkflfaccaa
open Go.RowKit

set_option maxRecDepth 100000 in
set_option maxHeartbeats 8000000 in
theorem plugWrong_any (A : Option Addr) (c : Nat) (pl : List (Nat × Nat × Nat × Bool)) (covers : Nat) (plugs : Nat) (hpl : plugs < 18446744073709551616) (A2 : Option Addr) (c2 : Nat) (ds : List Drp) (n : Int) (hn : I64 n) (w : World)
    (hs : SlT tPl w (Lt w.heap.size) A pl) (hl : ∀ p ∈ pl, p.1 < 256 ∧ p.2.1 < 256 ∧ p.2.2.1 < 256) (hc : pl.length ≤ c) (hcm : c ≤ maxLen)
    (hs2 : SlT tDrp w (Lt w.heap.size) A2 ds) (hd : ∀ d ∈ ds, d.col < 256 ∧ d.kilos < 256) (hc2 : ds.length ≤ c2) (hcm2 : c2 ≤ maxLen) :
    Calls Try.prog 6 #[.slice A pl.length c, .int .u32 covers, .int .u64 (plugs : Nat), .slice A2 ds.length c2, .int .i64 n] w (TrueRet w) := by
  have HC := Lib.hid (plugged_own A c pl covers plugs 65535 hpl (by decide) A2 c2 ds w hs hl hc hcm hs2 hd hc2 hcm2)
  clear hs hl hc hcm hs2 hd hc2 hcm2
  go_enter Try.func6, Try.ntmps6
  go_wp2_with fail
  refine HC.out.mono ?_
  rintro e w1 ⟨s, h, v1, v2, bs, st, rfl, hLm, hPg, hLd, hrd, ob, os, hb1, B, bc, hpo, hv1, hv2⟩
  simp only
  clear HC
  obtain ⟨A1, q1, rfl, hq1, hqm1, hsb⟩ := OwnS.sl' ob
  obtain ⟨A3, q3, rfl, hq3, hqm3, hss⟩ := OwnS.sl' os
  have hW : W5 w (w1.alloc (.cells (shpA s h) 37)) w1.heap.size s h A1 bs A3 st := by
    have hx := ba1 w1 (.cells (shpA s h) 37)
    exact ⟨Bk.new w1 _ _, (hrd.more fun x hx => hx.1).on hx, hsb.on hx, hss.on hx, hb1.trans (hx.mono hb1.size)⟩
  have HW := Lib.hid hW
  have HPO := Lib.hid (hpo.below (ba1 w1 (.cells (shpA s h) 37)))
  have HGB : Hid (B ≤ w1.heap.size) := Lib.hid hpo.sz
  have HV1 := Lib.hid hv1
  have HV2 := Lib.hid hv2
  have HLM := Lib.hid hLm
  have HPG := Lib.hid hPg
  have HLD := Lib.hid hLd
  have HQ3 := Lib.hid hq3
  have HIN : Hid (∀ x ∈ st, 0 ≤ x.slot.tier ∧ x.slot.tier < 5 ∧ 0 ≤ x.slot.col ∧ x.slot.col < s.cols.length ∧ x.slot.half < 3) := Lib.hid fun x hx => hLd.tier hLm hx
  have HI6 := Lib.hid (hLd.i64s hLm)
  have hbl := hLd.nine
  have hsl := hLd.stlen
  have hc1 := hLm.one
  have hc12 := hLm.twelve
  clear hW ob os hpo hv1 hv2 hsb hss hrd hb1 hLm hLd hPg hq1 hq3
  unfold maxLen at hqm1 hqm3
  have HS1 : Hid (∀ V : World, Below (w1.alloc (.cells (shpA s h) 37)).heap.size (w1.alloc (.cells (shpA s h) 37)) V → True) := Lib.hid fun _ _ => trivial
  clear HS1
  unfold shpA at HW HPO ⊢
  go_upto_region 2 with fail
  generalize w1.heap.size = g at *
  generalize (w1.alloc _) = V at *
  clear w1
  have e0 : V.cell? ⟨g, 0, none⟩ = some (.slice h.A1 s.cols.length h.c1) := HW.out.bk.cell 0
  go_upto_region 3 with fail
  clear e0
  unfold I64 at hn
  obtain ⟨hn0, hn1⟩ := hn
  obtain ⟨far, hfar⟩ : ∃ far : Int, (if n < (s.cols.length : Int) then (s.cols.length : Int) else n) = far := ⟨_, rfl⟩
  obtain ⟨nn, hmin⟩ : ∃ nn : Int, (if (-1 : Int) < n then (-1 : Int) else n) = nn := ⟨_, rfl⟩
  obtain ⟨hf0, hf1⟩ : (s.cols.length : Int) ≤ far ∧ far ≤ 9223372036854775807 := by rw [← hfar]; split <;> omega
  obtain ⟨hm0, hm1⟩ : nn ≤ -1 ∧ -9223372036854775808 ≤ nn := by rw [← hmin]; split <;> omega
  simp only [hfar, hmin]
  clear hfar hmin
  have HO := Lib.hid (OwnS.empty tBx 51 V V.heap.size (Lt V.heap.size) (Nat.le_refl _) (fun b hb => hb))
  have HS := Lib.hid ((HW.out.bx).below (ba1 V (.cells #[] 51)))
  go_wp2_with (at_builtin; (refine wpList_append_S el_bx rfl (.tmp 39) (.tmp 40) rfl V.heap.size (Lt V.heap.size) _ [] rfl HO.out A1 bs.length q1 bs rfl rfl HS.out ?c1 ?c2 ?c3 ?_))
  case c1 => unfold maxLen; simp; omega
  case c2 => simp; omega
  case c3 => simp
  intro v3 w3 ho3 hg3 hb3
  have HV3 := Lib.hid ((ba1 V (.cells #[] 51)).trans hb3)
  have HO3 := Lib.hid (ho3.below (ba1 w3 (.cells #[.int .i64 900, .string ⟨#[]⟩, .int .u8 40, .bool false, .int .i64 1, .int .i64 0, .int .i64 1, .int .u8 0, .bool false] 51)))
  have HZ3 := Lib.hid HV3.out.size
  clear HO HS ho3 hg3 hb3
  go_upto_region 4 with (at_builtin; (refine wpList_append_R el_bx rfl (.tmp 41) (.tmp 43) rfl V.heap.size (Lt V.heap.size) _ bs rfl HO3.out _ 1 1 [b900w] rfl rfl (Src.new (Flat.single rfl) rfl) ?d1 ?d2 ?d3 ?_))
  case d1 => unfold maxLen; omega
  case d2 => omega
  case d3 => exact Nat.le_trans HZ3.out (by simp)
  intro v4 w4 ho4 hg4 hb4
  have HV4 : Hid (Below V.heap.size V w4) := Lib.hid ((HV3.out.trans ((ba1 w3 _).mono HZ3.out)).trans hb4)
  obtain ⟨A4, q4, rfl, hq4, hqm4, hsm⟩ := OwnS.sl' ho4
  have HM := Lib.hid hsm
  clear HO3 HZ3 HV3 hg4 hb4 ho4 hsm
  have hn4' : (bs ++ [b900w]).length ≤ 1000000 := by simp; omega
  generalize hn4 : (bs ++ [b900w]).length = n4 at *
  go_wp2_with fail
  refine (at12 _ _ _ _ _).mono ?_
  rintro e U1 ⟨rfl, hb⟩
  simp only
  replace HV4 := Lib.hid (HV4.out.trans (hb.mono HV4.out.size))
  replace HM := Lib.hid (HM.out.on hb)
  clear hb
  go_wp2_with fail
  refine (at12 _ _ _ _ _).mono ?_
  rintro e U2 ⟨rfl, hb⟩
  simp only
  replace HV4 := Lib.hid (HV4.out.trans (hb.mono HV4.out.size))
  replace HM := Lib.hid (HM.out.on hb)
  clear hb
  go_wp2_with fail
  refine (at12 _ _ _ _ _).mono ?_
  rintro e U3 ⟨rfl, hb⟩
  simp only
  replace HV4 := Lib.hid (HV4.out.trans (hb.mono HV4.out.size))
  replace HM := Lib.hid (HM.out.on hb)
  clear hb
  go_wp2_with fail
  refine (at12 _ _ _ _ _).mono ?_
  rintro e U4 ⟨rfl, hb⟩
  simp only
  replace HV4 := Lib.hid (HV4.out.trans (hb.mono HV4.out.size))
  replace HM := Lib.hid (HM.out.on hb)
  clear hb
  go_wp2_with fail
  refine (at12 _ _ _ _ _).mono ?_
  rintro e U5 ⟨rfl, hb⟩
  simp only
  replace HV4 := Lib.hid (HV4.out.trans (hb.mono HV4.out.size))
  replace HM := Lib.hid (HM.out.on hb)
  clear hb
  have HL : Hid (SlT tStw (U5.alloc (.cells #[.int .i64 900, .int .i64 far, .int .i64 0, .int .u8 0, .int .i64 900, .int .i64 0, .int .i64 10, .int .u8 0, .int .i64 900, .int .i64 0, .int .i64 0, .int .u8 1, .int .i64 901, .int .i64 0, .int .i64 0, .int .u8 0, .int .i64 900, .int .i64 nn, .int .i64 0, .int .u8 0] 49)) (Lt (U5.alloc (.cells #[.int .i64 900, .int .i64 far, .int .i64 0, .int .u8 0, .int .i64 900, .int .i64 0, .int .i64 10, .int .u8 0, .int .i64 900, .int .i64 0, .int .i64 0, .int .u8 1, .int .i64 901, .int .i64 0, .int .i64 0, .int .u8 0, .int .i64 900, .int .i64 nn, .int .i64 0, .int .u8 0] 49)).heap.size) (some ⟨U5.heap.size, 0, none⟩) (bad12 far nn)) := Lib.hid (sl_flat (Bk.new U5 49 #[.int .i64 900, .int .i64 far, .int .i64 0, .int .u8 0, .int .i64 900, .int .i64 0, .int .i64 10, .int .u8 0, .int .i64 900, .int .i64 0, .int .i64 0, .int .u8 1, .int .i64 901, .int .i64 0, .int .i64 0, .int .u8 0, .int .i64 900, .int .i64 nn, .int .i64 0, .int .u8 0]) (flat_stws (bad12 far nn)) (Bk.new U5 49 #[.int .i64 900, .int .i64 far, .int .i64 0, .int .u8 0, .int .i64 900, .int .i64 0, .int .i64 10, .int .u8 0, .int .i64 900, .int .i64 0, .int .i64 0, .int .u8 1, .int .i64 901, .int .i64 0, .int .i64 0, .int .u8 0, .int .i64 900, .int .i64 nn, .int .i64 0, .int .u8 0]).lt)
  have hU6 := ba1 U5 (.cells #[.int .i64 900, .int .i64 far, .int .i64 0, .int .u8 0, .int .i64 900, .int .i64 0, .int .i64 10, .int .u8 0, .int .i64 900, .int .i64 0, .int .i64 0, .int .u8 1, .int .i64 901, .int .i64 0, .int .i64 0, .int .u8 0, .int .i64 900, .int .i64 nn, .int .i64 0, .int .u8 0] 49)
  replace HV4 := Lib.hid (HV4.out.trans (hU6.mono HV4.out.size))
  replace HM := Lib.hid (HM.out.on hU6)
  clear hU6
  go_upto_block 0 with fail
  generalize U5.heap.size = gx at *
  generalize (U5.alloc _) = W0 at *
  try clear U5 U4 U3 U2 U1 w4 w3
  have HWR := Lib.hid (wrong12 HLM.out HLD.out hf0 (show nn < 0 by omega))
  have HM5 := Lib.hid (fun (x : Stw) (hx : x ∈ bad12 far nn) => more12 HLM.out HLD.out (show I64 far by unfold I64; omega) (show I64 nn by unfold I64; omega) hx)
  go_wp2_with fail
  go_loopw [54] (fun i wr => ∃ k : Nat, k ≤ 5 ∧ i = .int .i64 k ∧ Hid (Below W0.heap.size W0 wr)) (fun i _ => 5 - (intOf i).toNat)
  case atStart => exact ⟨0, Nat.zero_le _, rfl, Lib.hid (Below.refl _ _)⟩
  case round =>
    obtain ⟨k, hk, rfl, HB⟩ := hrel
    obtain ⟨V1, rfl⟩ : ∃ V, V = wr := ⟨_, rfl⟩
    by_cases hlt : k < 5
    · have hk5 : k < (bad12 far nn).length := hlt
      obtain ⟨b, off, hA, hB, c0, c1, c2', c3⟩ := (HL.out.below HB.out).stw hk5
      injection hA with hA
      injection hA with hA1 hA2 _
      subst hA1 hA2
      have HX := Lib.hid (getD_memD hk5 default)
      generalize (bad12 far nn).getD k default = x at *
      obtain ⟨xb, xc, xt, xh⟩ := x
      simp only [Nat.zero_add] at c0 c1 c2' c3
      have i0 : (0 : Int) ≤ (k : Int) := by omega
      have i1 : (k : Int) < 5 := by omega
      have hq5 := ba1 V1 (.cells #[.int .i64 xb, .int .i64 xc, .int .i64 xt, .int .u8 (xh : Nat)] 49)
      have HB6 := Lib.hid (HB.out.trans (hq5.mono HB.out.size))
      have KX6 := Lib.hid (Bk.new V1 49 #[.int .i64 xb, .int .i64 xc, .int .i64 xt, .int .u8 (xh : Nat)])
      clear HB hq5
      go_upto_region 7 with fail
      clear c0 c1 c2' c3
      generalize V1.heap.size = gy at *
      generalize (V1.alloc _) = W at *
      try clear V1
      have HVW := Lib.hid (HV4.out.trans (HB6.out.mono HV4.out.size))
      have x0 : W.cell? ⟨gy, 0, none⟩ = some (.int .i64 xb) := KX6.out.cell 0
      have x1 : W.cell? ⟨gy, 1, none⟩ = some (.int .i64 xc) := KX6.out.cell 1
      have x2 : W.cell? ⟨gy, 2, none⟩ = some (.int .i64 xt) := KX6.out.cell 2
      have x3 : W.cell? ⟨gy, 3, none⟩ = some (.int .u8 (xh : Nat)) := KX6.out.cell 3
      have HSRC : Hid (∀ V : World, Cb W V → Src tStw V (Lt W.heap.size) A3 st.length st) := Lib.hid fun V hV => by
        have h1 := (HW.out.on HVW.out).sx
        exact (h1.below hV).src rfl (fun b hb => Nat.lt_of_lt_of_le hb (Below.size hV))
      refine wp_region_og [.sl 0 0 49 #[] W.heap.size,
    .val 1 (.slice A3 st.length q3),
    .own tStw 49 W.heap.size (Lt W.heap.size) 2 st,
    .val 3 (.agg #[.int .i64 xb, .int .i64 xc, .int .i64 xt, .int .u8 (xh : Nat)]),
    .sl 4 1 49 #[.int .i64 xb, .int .i64 xc, .int .i64 xt, .int .u8 (xh : Nat)] W.heap.size,
    .own tStw 49 W.heap.size (Lt W.heap.size) 5 (st ++ [(⟨xb, xc, xt, xh⟩ : Stw)]),
    .own tStw 49 W.heap.size (Lt W.heap.size) 6 (st ++ [(⟨xb, xc, xt, xh⟩ : Stw)])]
        [[], [], [0, 1], [], [3], [2, 4], [5]] [6] (Cb W) (by kernel_rfl) (by kernel_rfl) (Cb.drew W) ⟨?_, ?_, ?_, ?_, ?_, ?_, ?_, trivial⟩ ?_
      case refine_1 =>
        refine StepL.up fun x V hV hu K Q hK => ?_
        clear hu
        rw [owp_eq]
        go_big_op
        exact hK _ _ (ba1 V _) ⟨_, rfl, Below.size hV, Bk.new V _ _⟩
      case refine_2 =>
        refine StepL.up fun x V hV hu K Q hK => ?_
        clear hu
        simp only [putL, List.set_cons_zero, List.set_cons_succ] at hK ⊢
        rw [owp_eq]
        go_big_op
        exact hK _ _ (Below.refl _ _) rfl
      case refine_3 =>
        refine StepL.wr [3, 4] (by kernel_rfl) fun x V hV hu K Q hK => ?_
        obtain ⟨gd, ud, hgd, hkd⟩ := hu 0 (by decide)
        have HO := own_of_empty (T := tStw) hkd hgd
        have uj : x 1 = _ := hu 1 (by decide)
        have HSRC := HSRC.out V hV
        clear hu
        simp only [putL, List.set_cons_zero, List.set_cons_succ] at hK ⊢
        refine wp_append_og el_stw (.tmp 58) (.tmp 59) rfl W.heap.size (Lt W.heap.size) _ _ ud HO _ _ _ _ rfl uj HSRC (by unfold maxLen; simp; omega) (by simp; omega) (Below.size hV) fun v' w' h1 h2 h3 => ?_
        refine hK v' _ (hV.app h3) h1 fun k hk' => ?_
        simp only [List.mem_cons, List.not_mem_nil, or_false] at hk'
        rcases hk' with rfl | rfl
        · exact fun h => h
        · rintro ⟨g', e', l', k'⟩; exact ⟨g', e', l', k'.stay h2 (fun q => (Bk.size_ne hkd k' (by simp)) (Option.some.inj q))⟩
      case refine_4 =>
        refine StepL.up fun x V hV hu K Q hK => ?_
        have fx0 := hV.cell x0
        have fx1 := hV.cell x1
        have fx2 := hV.cell x2
        have fx3 := hV.cell x3
        clear hu
        simp only [putL, List.set_cons_zero, List.set_cons_succ] at hK ⊢
        rw [owp_eq]
        go_big_op
        exact hK _ _ (Below.refl _ _) rfl
      case refine_5 =>
        refine StepL.up fun x V hV hu K Q hK => ?_
        have u3 : x 3 = _ := hu 3 (by decide)
        clear hu
        simp only [putL, List.set_cons_zero, List.set_cons_succ] at hK ⊢
        rw [owp_eq]
        go_big_op
        exact hK _ _ (ba1 V _) ⟨_, rfl, Below.size hV, Bk.new V _ _⟩
      case refine_6 =>
        refine StepL.wr [] (by kernel_rfl) fun x V hV hu K Q hK => ?_
        have HO : OwnS tStw 49 V W.heap.size (Lt W.heap.size) (x 2) _ := hu 2 (by decide)
        obtain ⟨gj, uj, hgj, hkj⟩ := hu 4 (by decide)
        have HSRC := Src.blk (T := tStw) (S := Lt W.heap.size) (ms := [(⟨xb, xc, xt, xh⟩ : Stw)]) hkj (Flat.single rfl) rfl
        clear hu
        simp only [putL, List.set_cons_zero, List.set_cons_succ] at hK ⊢
        refine wp_append_og el_stw (.tmp 60) (.tmp 62) rfl W.heap.size (Lt W.heap.size) _ _ rfl HO _ _ _ [(⟨xb, xc, xt, xh⟩ : Stw)] rfl uj HSRC (by unfold maxLen; simp; omega) (by simp; omega) (Below.size hV) fun v' w' h1 h2 h3 => ?_
        refine hK v' _ (hV.app h3) h1 fun k hk' => ?_
        cases hk'
      case refine_7 =>
        refine StepL.up fun x V hV hu K Q hK => ?_
        have h9 : OwnS tStw 49 V W.heap.size (Lt W.heap.size) (x 5) _ := hu 5 (by decide)
        clear hu
        simp only [putL, List.set_cons_zero, List.set_cons_succ] at hK ⊢
        rw [owp_eq]
        go_big_op
        exact hK _ _ (Below.refl _ _) h9
      case refine_8 =>
        intro x Z hV hA
        have h9 : OwnS tStw 49 Z W.heap.size (Lt W.heap.size) (x 6) (st ++ [(⟨xb, xc, xt, xh⟩ : Stw)]) := hA 6 rfl (by decide)
        simp only [layL, putL, List.set_cons_zero, List.set_cons_succ]
        have HV7 := Lib.hid (show Below W.heap.size W Z from hV)
        obtain ⟨A5, c5, e9, hc5, hcm5, hs5⟩ := h9.sl'
        rw [e9]
        clear e9
        have hn5' : (st ++ [(⟨xb, xc, xt, xh⟩ : Stw)]).length ≤ 1000000 := by simp; omega
        have HIX := Lib.hid (HM5.out _ HX.out)
        have HRX := Lib.hid (HWR.out _ HX.out)
        generalize hl5 : st ++ [(⟨xb, xc, xt, xh⟩ : Stw)] = l5 at *
        have HB7 := Lib.hid (HB6.out.trans (HV7.out.mono HB6.out.size))
        have HVZ := Lib.hid (HVW.out.trans (HV7.out.mono HVW.out.size))
        have HW7 := Lib.hid (HW.out.on HVZ.out)
        have HCK : Hid (Calls Try.prog 9 #[.agg (shpA s h), .slice A4 n4 q4, .slice A5 l5.length c5] Z (fun e w' => ∃ A c, e = .returned (.tuple #[.slice A 0 c, .int .i64 2]) ∧ Below Z.heap.size Z w')) := Lib.hid (by
          have k1 := pCheck_any s h A4 q4 (bs ++ [b900w]) A5 c5 l5 Z HW7.out.rd HLM.out.few HLM.out.ints HLM.out.short (HM.out.on HB7.out) (by rw [hn4]; exact hn4') hs5 hn5' hc5 HIX.out
          rw [hn4] at k1
          refine k1.mono ?_
          rintro e w' ⟨hb, v, rfl, ho⟩
          have hf := HRX.out
          rw [hf] at ho ⊢
          simp only [Bool.false_eq_true, if_false] at ho ⊢
          obtain ⟨A', c', rfl, _, _, _⟩ := ho.sl
          exact ⟨A', c', rfl, hb⟩)
        have SC := HW7.out.bk
        unfold shpA at HCK
        clear hA h9 hV hs5 HSRC HB6 KX6 HV7 HVW HIX HRX hl5 x0 x1 x2 x3
        try clear W
        have e0 : Z.cell? ⟨g, 0, none⟩ = some (.slice h.A1 s.cols.length h.c1) := SC.cell 0
        have e1 : Z.cell? ⟨g, 1, none⟩ = some (.slice h.A2 s.covs.length h.c2) := SC.cell 1
        have e2 : Z.cell? ⟨g, 2, none⟩ = some (.int .i64 s.l0) := SC.cell 2
        have e3 : Z.cell? ⟨g, 3, none⟩ = some (.int .i64 s.l1) := SC.cell 3
        have e4 : Z.cell? ⟨g, 4, none⟩ = some (.int .i64 s.l2) := SC.cell 4
        have e5 : Z.cell? ⟨g, 5, none⟩ = some (.int .i64 s.l3) := SC.cell 5
        have e6 : Z.cell? ⟨g, 6, none⟩ = some (.slice h.A3 s.rows.length h.c3) := SC.cell 6
        have e7 : Z.cell? ⟨g, 7, none⟩ = some (.slice h.A4 s.frames.length h.c4) := SC.cell 7
        have e8 : Z.cell? ⟨g, 8, none⟩ = some (.slice h.A5 s.tanks.length h.c5) := SC.cell 8
        have e9 : Z.cell? ⟨g, 9, none⟩ = some (.int .i64 s.m0) := SC.cell 9
        have e10 : Z.cell? ⟨g, 10, none⟩ = some (.int .i64 s.m1) := SC.cell 10
        have e11 : Z.cell? ⟨g, 11, none⟩ = some (.int .i64 s.m2) := SC.cell 11
        have e12 : Z.cell? ⟨g, 12, none⟩ = some (.int .i64 s.m3) := SC.cell 12
        clear SC
        go_wp2_with fail
        refine HCK.out.mono ?_
        rintro e Z2 ⟨A6, c6, rfl, hb⟩
        simp only
        clear e0 e1 e2 e3 e4 e5 e6 e7 e8 e9 e10 e11 e12
        have HB8 := Lib.hid (HB7.out.trans (hb.mono HB7.out.size))
        clear hb HCK HW7 HVZ HB7
        try clear Z
        go_wp2_with fail
        go_roundw
        case rel => (repeat apply Exists.intro); (first | exact ⟨⟨k + 1, hlt, by go_num, HB8⟩, rfl⟩ | exact ⟨hlt, by go_num, HB8⟩)
        case measure => simp [intOf]; omega
    · obtain rfl : k = 5 := by omega
      have HVX := Lib.hid (HV4.out.trans (HB.out.mono HV4.out.size))
      clear HWR HM5 HM HL HB HV4 hk hn4 hn4'
      try clear W0
      have HPX := Lib.hid (HPO.out.below HVX.out)
      have HWX := Lib.hid (HW.out.on HVX.out)
      obtain ⟨X, rfl⟩ : ∃ U, U = V1 := ⟨_, rfl⟩
      have hA1 := HPO.out.a1
      have HT0 := Lib.hid (HLM.out.at_ (k := 0) (by omega))
      go_upto_region 12 with fail
      have KAT : Hid (∀ (x : Slt), I64 x.col → I64 x.tier → atF s x = false → Hid (∀ V' : World, Below X.heap.size X V' → Calls Try.prog 11 #[.agg (shpA s h), .agg (sltL x).toArray] V' (Ret V' (.bool false)))) := Lib.hid fun x h1 h2 h3 => Lib.hid fun V' hV => by
        have k := pAt_any s h x V' (HWX.out.on hV).rd HLM.out.few HLM.out.ints ⟨h1, h2⟩
        rw [h3] at k
        exact k
      have KSP : Hid (∀ V' : World, Below X.heap.size X V' → Calls Try.prog 14 #[.agg (shpA s h), .slice A3 st.length q3, .int .u8 30] V' (fun e w' => ∃ A c, e = .returned (.slice A ([] : List Slt).length c) ∧ ([] : List Slt).length ≤ c ∧ SlT tSlt w' (Lt w'.heap.size) A ([] : List Slt) ∧ Below V'.heap.size V' w')) := Lib.hid fun V' hV => by
        have r := HWX.out.on hV
        refine (pSpare_any s h A3 q3 st 30 V' r.rd HLM.out.few HLM.out.ints HLM.out.short (fun c => Nat.le_trans (HLM.out.tiersN c) (by decide)) (HLM.out.all 30) r.sx HLD.out.sl).mono ?_
        rintro e w' ⟨v, rfl, ho, hb⟩
        rw [spare_none] at ho
        obtain ⟨A, c, rfl, hc, _, hs⟩ := ho.sl
        exact ⟨A, c, rfl, hc, hs, hb⟩
      have KSU : Hid (∀ V' : World, Below X.heap.size X V' → Calls Try.prog 20 #[.agg (shpA s h)] V' (Ret V' (.int .i64 (supF s : Nat)))) := Lib.hid fun V' hV => pSupply_any s h V' (HWX.out.on hV).rd HLM.out.few HLM.out.ints
      obtain ⟨Ap, qp, d3, d8, f8, _, csb, kb⟩ := HPX.out.cells (by omega)
      have SC := HWX.out.bk
      unfold shpA at KAT KSP KSU SC
      rw [hA1] at KAT KSP KSU SC ⊢
      have ht0 := HT0.out
      generalize hT0 : (s.cols.getD 0 default).tiers = T0 at *
      have hmx : T0 ≤ (if n < T0 then T0 else n) ∧ (if n < T0 then T0 else n) ≤ 9223372036854775807 := by split <;> omega
      have KA1 : Hid (∀ V' : World, Below X.heap.size X V' → Calls Try.prog 11 #[.agg #[.slice (some ⟨bc, 0, none⟩) s.cols.length h.c1, .slice h.A2 s.covs.length h.c2, .int .i64 s.l0, .int .i64 s.l1, .int .i64 s.l2, .int .i64 s.l3, .slice h.A3 s.rows.length h.c3, .slice h.A4 s.frames.length h.c4, .slice h.A5 s.tanks.length h.c5, .int .i64 s.m0, .int .i64 s.m1, .int .i64 s.m2, .int .i64 s.m3], .agg #[.int .i64 far, .int .i64 0, .int .u8 0]] V' (Ret V' (.bool false))) := KAT.out ⟨far, 0, 0⟩ (by unfold I64; simp only; omega) (by unfold I64; simp only; omega) (at_not (.inr (.inl hf0)))
      have KA2 : Hid (∀ V' : World, Below X.heap.size X V' → Calls Try.prog 11 #[.agg #[.slice (some ⟨bc, 0, none⟩) s.cols.length h.c1, .slice h.A2 s.covs.length h.c2, .int .i64 s.l0, .int .i64 s.l1, .int .i64 s.l2, .int .i64 s.l3, .slice h.A3 s.rows.length h.c3, .slice h.A4 s.frames.length h.c4, .slice h.A5 s.tanks.length h.c5, .int .i64 s.m0, .int .i64 s.m1, .int .i64 s.m2, .int .i64 s.m3], .agg #[.int .i64 nn, .int .i64 0, .int .u8 0]] V' (Ret V' (.bool false))) := KAT.out ⟨nn, 0, 0⟩ (by unfold I64; simp only; omega) (by unfold I64; simp only; omega) (at_not (.inl (by simp only; omega)))
      have KA3 : Hid (∀ V' : World, Below X.heap.size X V' → Calls Try.prog 11 #[.agg #[.slice (some ⟨bc, 0, none⟩) s.cols.length h.c1, .slice h.A2 s.covs.length h.c2, .int .i64 s.l0, .int .i64 s.l1, .int .i64 s.l2, .int .i64 s.l3, .slice h.A3 s.rows.length h.c3, .slice h.A4 s.frames.length h.c4, .slice h.A5 s.tanks.length h.c5, .int .i64 s.m0, .int .i64 s.m1, .int .i64 s.m2, .int .i64 s.m3], .agg #[.int .i64 0, .int .i64 (if n < T0 then T0 else n), .int .u8 0]] V' (Ret V' (.bool false))) := KAT.out ⟨0, (if n < T0 then T0 else n), 0⟩ (by unfold I64; simp only; omega) (by unfold I64; simp only; omega) (at_not (.inr (.inr (.inr (.inl (by simp only [Int.toNat_zero]; rw [hT0]; exact hmx.1))))))
      have KA4 : Hid (∀ V' : World, Below X.heap.size X V' → Calls Try.prog 11 #[.agg #[.slice (some ⟨bc, 0, none⟩) s.cols.length h.c1, .slice h.A2 s.covs.length h.c2, .int .i64 s.l0, .int .i64 s.l1, .int .i64 s.l2, .int .i64 s.l3, .slice h.A3 s.rows.length h.c3, .slice h.A4 s.frames.length h.c4, .slice h.A5 s.tanks.length h.c5, .int .i64 s.m0, .int .i64 s.m1, .int .i64 s.m2, .int .i64 s.m3], .agg #[.int .i64 0, .int .i64 nn, .int .u8 0]] V' (Ret V' (.bool false))) := KAT.out ⟨0, nn, 0⟩ (by unfold I64; simp only; omega) (by unfold I64; simp only; omega) (at_not (.inr (.inr (.inl (by simp only; omega)))))
      have KA5 : Hid (∀ V' : World, Below X.heap.size X V' → Calls Try.prog 11 #[.agg #[.slice (some ⟨bc, 0, none⟩) s.cols.length h.c1, .slice h.A2 s.covs.length h.c2, .int .i64 s.l0, .int .i64 s.l1, .int .i64 s.l2, .int .i64 s.l3, .slice h.A3 s.rows.length h.c3, .slice h.A4 s.frames.length h.c4, .slice h.A5 s.tanks.length h.c5, .int .i64 s.m0, .int .i64 s.m1, .int .i64 s.m2, .int .i64 s.m3], .agg #[.int .i64 0, .int .i64 0, .int .u8 3]] V' (Ret V' (.bool false))) := KAT.out ⟨0, 0, 3⟩ (by unfold I64; simp only; omega) (by unfold I64; simp only; omega) (at_not (.inr (.inr (.inr (.inr (by decide))))))
      clear KAT
      have e0 : X.cell? ⟨g, 0, none⟩ = some (Value.slice (some ⟨bc, 0, none⟩) s.cols.length h.c1) := SC.cell 0
      have e1 : X.cell? ⟨g, 1, none⟩ = some (Value.slice h.A2 s.covs.length h.c2) := SC.cell 1
      have e2 : X.cell? ⟨g, 2, none⟩ = some (.int .i64 s.l0) := SC.cell 2
      have e3 : X.cell? ⟨g, 3, none⟩ = some (.int .i64 s.l1) := SC.cell 3
      have e4 : X.cell? ⟨g, 4, none⟩ = some (.int .i64 s.l2) := SC.cell 4
      have e5 : X.cell? ⟨g, 5, none⟩ = some (.int .i64 s.l3) := SC.cell 5
      have e6 : X.cell? ⟨g, 6, none⟩ = some (.slice h.A3 s.rows.length h.c3) := SC.cell 6
      have e7 : X.cell? ⟨g, 7, none⟩ = some (.slice h.A4 s.frames.length h.c4) := SC.cell 7
      have e8 : X.cell? ⟨g, 8, none⟩ = some (.slice h.A5 s.tanks.length h.c5) := SC.cell 8
      have e9 : X.cell? ⟨g, 9, none⟩ = some (.int .i64 s.m0) := SC.cell 9
      have e10 : X.cell? ⟨g, 10, none⟩ = some (.int .i64 s.m1) := SC.cell 10
      have e11 : X.cell? ⟨g, 11, none⟩ = some (.int .i64 s.m2) := SC.cell 11
      have e12 : X.cell? ⟨g, 12, none⟩ = some (.int .i64 s.m3) := SC.cell 12
      clear SC
      refine wp_region_ogG [.val 0 (.agg #[.slice (some ⟨bc, 0, none⟩) s.cols.length h.c1, .slice h.A2 s.covs.length h.c2, .int .i64 s.l0, .int .i64 s.l1, .int .i64 s.l2, .int .i64 s.l3, .slice h.A3 s.rows.length h.c3, .slice h.A4 s.frames.length h.c4, .slice h.A5 s.tanks.length h.c5, .int .i64 s.m0, .int .i64 s.m1, .int .i64 s.m2, .int .i64 s.m3]),
        .val 1 (.int .i64 far),
        .val 2 (.agg #[.int .i64 far, .int .i64 0, .int .u8 0]),
        .val 3 (.bool false),
        .val 4 (.bool false),
        .val 5 (.agg #[.slice (some ⟨bc, 0, none⟩) s.cols.length h.c1, .slice h.A2 s.covs.length h.c2, .int .i64 s.l0, .int .i64 s.l1, .int .i64 s.l2, .int .i64 s.l3, .slice h.A3 s.rows.length h.c3, .slice h.A4 s.frames.length h.c4, .slice h.A5 s.tanks.length h.c5, .int .i64 s.m0, .int .i64 s.m1, .int .i64 s.m2, .int .i64 s.m3]),
        .val 6 (.int .i64 nn),
        .val 7 (.agg #[.int .i64 nn, .int .i64 0, .int .u8 0]),
        .val 8 (.bool false),
        .val 9 (.bool false),
        .val 10 (.bool false),
        .val 11 (.agg #[.slice (some ⟨bc, 0, none⟩) s.cols.length h.c1, .slice h.A2 s.covs.length h.c2, .int .i64 s.l0, .int .i64 s.l1, .int .i64 s.l2, .int .i64 s.l3, .slice h.A3 s.rows.length h.c3, .slice h.A4 s.frames.length h.c4, .slice h.A5 s.tanks.length h.c5, .int .i64 s.m0, .int .i64 s.m1, .int .i64 s.m2, .int .i64 s.m3]),
        .val 12 (.int .i64 n),
        .val 13 (.pointer (some ⟨g, 0, none⟩)),
        .val 14 (.slice (some ⟨bc, 0, none⟩) s.cols.length h.c1),
        .val 15 (.pointer (some ⟨bc, 0, none⟩)),
        .val 16 (.pointer (some ⟨bc, 3, none⟩)),
        .val 17 (.int .i64 T0),
        .val 18 (.int .i64 (if n < T0 then T0 else n)),
        .val 19 (.agg #[.int .i64 0, .int .i64 (if n < T0 then T0 else n), .int .u8 0]),
        .val 20 (.bool false),
        .val 21 (.bool false),
        .val 22 (.bool false),
        .val 23 (.agg #[.slice (some ⟨bc, 0, none⟩) s.cols.length h.c1, .slice h.A2 s.covs.length h.c2, .int .i64 s.l0, .int .i64 s.l1, .int .i64 s.l2, .int .i64 s.l3, .slice h.A3 s.rows.length h.c3, .slice h.A4 s.frames.length h.c4, .slice h.A5 s.tanks.length h.c5, .int .i64 s.m0, .int .i64 s.m1, .int .i64 s.m2, .int .i64 s.m3]),
        .val 24 (.int .i64 nn),
        .val 25 (.agg #[.int .i64 0, .int .i64 nn, .int .u8 0]),
        .val 26 (.bool false),
        .val 27 (.bool false),
        .val 28 (.bool false),
        .val 29 (.agg #[.slice (some ⟨bc, 0, none⟩) s.cols.length h.c1, .slice h.A2 s.covs.length h.c2, .int .i64 s.l0, .int .i64 s.l1, .int .i64 s.l2, .int .i64 s.l3, .slice h.A3 s.rows.length h.c3, .slice h.A4 s.frames.length h.c4, .slice h.A5 s.tanks.length h.c5, .int .i64 s.m0, .int .i64 s.m1, .int .i64 s.m2, .int .i64 s.m3]),
        .val 30 (.agg #[.int .i64 0, .int .i64 0, .int .u8 3]),
        .val 31 (.bool false),
        .val 32 (.bool false),
        .val 33 (.bool false),
        .val 34 (.agg #[.slice (some ⟨bc, 0, none⟩) s.cols.length h.c1, .slice h.A2 s.covs.length h.c2, .int .i64 s.l0, .int .i64 s.l1, .int .i64 s.l2, .int .i64 s.l3, .slice h.A3 s.rows.length h.c3, .slice h.A4 s.frames.length h.c4, .slice h.A5 s.tanks.length h.c5, .int .i64 s.m0, .int .i64 s.m1, .int .i64 s.m2, .int .i64 s.m3]),
        .val 35 (.slice A3 st.length q3),
        .slT tSlt 36 ([] : List Slt),
        .val 37 (.int .i64 0),
        .val 38 (.bool false),
        .val 39 (.bool false)]
        [[], [], [1], [0, 2], [3], [4], [4], [4, 6], [4, 5, 7], [4, 8], [9], [10], [10], [10], [10, 13], [10, 14], [10, 15], [10, 16], [10, 12, 17], [10, 18], [10, 11, 19], [10, 20], [21], [22], [22], [22, 24], [22, 23, 25], [22, 26], [27], [28], [28], [28, 29, 30], [28, 31], [32], [33], [33], [33, 34, 35], [33, 36], [33, 37], [33, 38]] [39] (Cb X) (by kernel_rfl) (by kernel_rfl) (Cb.drew X) ⟨?_, ?_, ?_, ?_, ?_, ?_, ?_, ?_, ?_, ?_, ?_, ?_, ?_, ?_, ?_, ?_, ?_, ?_, ?_, ?_, ?_, ?_, ?_, ?_, ?_, ?_, ?_, ?_, ?_, ?_, ?_, ?_, ?_, ?_, ?_, ?_, ?_, ?_, ?_, ?_, trivial⟩ ?_
      case refine_1 =>
        refine StepG.of rfl ?_
        refine StepL.up fun x V hV hu K Q hK => ?_
        have fe0 := hV.cell e0
        have fe1 := hV.cell e1
        have fe2 := hV.cell e2
        have fe3 := hV.cell e3
        have fe4 := hV.cell e4
        have fe5 := hV.cell e5
        have fe6 := hV.cell e6
        have fe7 := hV.cell e7
        have fe8 := hV.cell e8
        have fe9 := hV.cell e9
        have fe10 := hV.cell e10
        have fe11 := hV.cell e11
        have fe12 := hV.cell e12
        clear hu
        rw [owp_eq]
        go_big_op
        exact hK _ _ (Below.refl _ _) rfl
      case refine_2 =>
        refine StepG.of rfl ?_
        refine StepL.up fun x V hV hu K Q hK => ?_
        clear hu
        simp only [putL, List.set_cons_zero, List.set_cons_succ] at hK ⊢
        rw [owp_eq]
        go_big_op
        exact hK _ _ (Below.refl _ _) rfl
      case refine_3 =>
        refine StepG.of rfl ?_
        refine StepL.up fun x V hV hu K Q hK => ?_
        have u1 : x 1 = _ := hu 1 (by decide)
        clear hu
        simp only [putL, List.set_cons_zero, List.set_cons_succ] at hK ⊢
        rw [owp_eq]
        go_big_op
        exact hK _ _ (Below.refl _ _) rfl
      case refine_4 =>
        refine StepG.of rfl ?_
        refine StepL.up fun x V hV hu K Q hK => ?_
        have u0 : x 0 = _ := hu 0 (by decide)
        have u2 : x 2 = _ := hu 2 (by decide)
        clear hu
        simp only [putL, List.set_cons_zero, List.set_cons_succ] at hK ⊢
        rw [owp_eq]
        go_big_op
        refine (KA1.out V hV).mono ?_
        rintro e V' ⟨rfl, hb⟩
        exact hK _ _ hb rfl
      case refine_5 =>
        refine StepG.of rfl ?_
        refine StepL.up fun x V hV hu K Q hK => ?_
        have u3 : x 3 = _ := hu 3 (by decide)
        clear hu
        simp only [putL, List.set_cons_zero, List.set_cons_succ] at hK ⊢
        rw [owp_eq]
        go_big_op
        exact hK _ _ (Below.refl _ _) rfl
      case refine_6 =>
        refine StepG.yes 4 false 83 rfl rfl (fun x => by simp only [putL, List.set_cons_zero, List.set_cons_succ]; rfl) rfl (fun x w h => h) ?_
        refine StepL.up fun x V hV hu K Q hK => ?_
        have u4 : x 4 = _ := hu 4 (by decide)
        have fe0 := hV.cell e0
        have fe1 := hV.cell e1
        have fe2 := hV.cell e2
        have fe3 := hV.cell e3
        have fe4 := hV.cell e4
        have fe5 := hV.cell e5
        have fe6 := hV.cell e6
        have fe7 := hV.cell e7
        have fe8 := hV.cell e8
        have fe9 := hV.cell e9
        have fe10 := hV.cell e10
        have fe11 := hV.cell e11
        have fe12 := hV.cell e12
        clear hu
        simp only [putL, List.set_cons_zero, List.set_cons_succ] at hK ⊢
        rw [owp_eq]
        go_big_op
        exact hK _ _ (Below.refl _ _) rfl
      case refine_7 =>
        refine StepG.yes 4 false 83 rfl rfl (fun x => by simp only [putL, List.set_cons_zero, List.set_cons_succ]; rfl) rfl (fun x w h => h) ?_
        refine StepL.up fun x V hV hu K Q hK => ?_
        have u4 : x 4 = _ := hu 4 (by decide)
        clear hu
        simp only [putL, List.set_cons_zero, List.set_cons_succ] at hK ⊢
        rw [owp_eq]
        go_big_op
        exact hK _ _ (Below.refl _ _) rfl
      case refine_8 =>
        refine StepG.yes 4 false 83 rfl rfl (fun x => by simp only [putL, List.set_cons_zero, List.set_cons_succ]; rfl) rfl (fun x w h => h) ?_
        refine StepL.up fun x V hV hu K Q hK => ?_
        have u4 : x 4 = _ := hu 4 (by decide)
        have u6 : x 6 = _ := hu 6 (by decide)
        clear hu
        simp only [putL, List.set_cons_zero, List.set_cons_succ] at hK ⊢
        rw [owp_eq]
        go_big_op
        exact hK _ _ (Below.refl _ _) rfl
      case refine_9 =>
        refine StepG.yes 4 false 83 rfl rfl (fun x => by simp only [putL, List.set_cons_zero, List.set_cons_succ]; rfl) rfl (fun x w h => h) ?_
        refine StepL.up fun x V hV hu K Q hK => ?_
        have u4 : x 4 = _ := hu 4 (by decide)
        have u5 : x 5 = _ := hu 5 (by decide)
        have u7 : x 7 = _ := hu 7 (by decide)
        clear hu
        simp only [putL, List.set_cons_zero, List.set_cons_succ] at hK ⊢
        rw [owp_eq]
        go_big_op
        refine (KA2.out V hV).mono ?_
        rintro e V' ⟨rfl, hb⟩
        exact hK _ _ hb rfl
      case refine_10 =>
        refine StepG.of rfl ?_
        refine StepL.up fun x V hV hu K Q hK => ?_
        have u4 : x 4 = _ := hu 4 (by decide)
        have u8 : x 8 = _ := hu 8 (by decide)
        clear hu
        simp only [putL, List.set_cons_zero, List.set_cons_succ] at hK ⊢
        rw [owp_eq]
        go_big_op
        exact hK _ _ (Below.refl _ _) rfl
      case refine_11 =>
        refine StepG.of rfl ?_
        refine StepL.up fun x V hV hu K Q hK => ?_
        have u9 : x 9 = _ := hu 9 (by decide)
        clear hu
        simp only [putL, List.set_cons_zero, List.set_cons_succ] at hK ⊢
        rw [owp_eq]
        go_big_op
        exact hK _ _ (Below.refl _ _) rfl
      case refine_12 =>
        refine StepG.yes 10 false 89 rfl rfl (fun x => by simp only [putL, List.set_cons_zero, List.set_cons_succ]; rfl) rfl (fun x w h => h) ?_
        refine StepL.up fun x V hV hu K Q hK => ?_
        have u10 : x 10 = _ := hu 10 (by decide)
        have fe0 := hV.cell e0
        have fe1 := hV.cell e1
        have fe2 := hV.cell e2
        have fe3 := hV.cell e3
        have fe4 := hV.cell e4
        have fe5 := hV.cell e5
        have fe6 := hV.cell e6
        have fe7 := hV.cell e7
        have fe8 := hV.cell e8
        have fe9 := hV.cell e9
        have fe10 := hV.cell e10
        have fe11 := hV.cell e11
        have fe12 := hV.cell e12
        clear hu
        simp only [putL, List.set_cons_zero, List.set_cons_succ] at hK ⊢
        rw [owp_eq]
        go_big_op
        exact hK _ _ (Below.refl _ _) rfl
      case refine_13 =>
        refine StepG.yes 10 false 89 rfl rfl (fun x => by simp only [putL, List.set_cons_zero, List.set_cons_succ]; rfl) rfl (fun x w h => h) ?_
        refine StepL.up fun x V hV hu K Q hK => ?_
        have u10 : x 10 = _ := hu 10 (by decide)
        clear hu
        simp only [putL, List.set_cons_zero, List.set_cons_succ] at hK ⊢
        rw [owp_eq]
        go_big_op
        exact hK _ _ (Below.refl _ _) rfl
      case refine_14 =>
        refine StepG.yes 10 false 89 rfl rfl (fun x => by simp only [putL, List.set_cons_zero, List.set_cons_succ]; rfl) rfl (fun x w h => h) ?_
        refine StepL.up fun x V hV hu K Q hK => ?_
        have u10 : x 10 = _ := hu 10 (by decide)
        clear hu
        simp only [putL, List.set_cons_zero, List.set_cons_succ] at hK ⊢
        rw [owp_eq]
        go_big_op
        exact hK _ _ (Below.refl _ _) rfl
      case refine_15 =>
        refine StepG.yes 10 false 89 rfl rfl (fun x => by simp only [putL, List.set_cons_zero, List.set_cons_succ]; rfl) rfl (fun x w h => h) ?_
        refine StepL.up fun x V hV hu K Q hK => ?_
        have u10 : x 10 = _ := hu 10 (by decide)
        have u13 : x 13 = _ := hu 13 (by decide)
        have fe0 := hV.cell e0
        clear hu
        simp only [putL, List.set_cons_zero, List.set_cons_succ] at hK ⊢
        rw [owp_eq]
        go_big_op
        exact hK _ _ (Below.refl _ _) rfl
      case refine_16 =>
        refine StepG.yes 10 false 89 rfl rfl (fun x => by simp only [putL, List.set_cons_zero, List.set_cons_succ]; rfl) rfl (fun x w h => h) ?_
        refine StepL.up fun x V hV hu K Q hK => ?_
        have u10 : x 10 = _ := hu 10 (by decide)
        have u14 : x 14 = _ := hu 14 (by decide)
        clear hu
        simp only [putL, List.set_cons_zero, List.set_cons_succ] at hK ⊢
        rw [owp_eq]
        go_big_op
        exact hK _ _ (Below.refl _ _) rfl
      case refine_17 =>
        refine StepG.yes 10 false 89 rfl rfl (fun x => by simp only [putL, List.set_cons_zero, List.set_cons_succ]; rfl) rfl (fun x w h => h) ?_
        refine StepL.up fun x V hV hu K Q hK => ?_
        have u10 : x 10 = _ := hu 10 (by decide)
        have u15 : x 15 = _ := hu 15 (by decide)
        clear hu
        simp only [putL, List.set_cons_zero, List.set_cons_succ] at hK ⊢
        rw [owp_eq]
        go_big_op
        exact hK _ _ (Below.refl _ _) rfl
      case refine_18 =>
        refine StepG.yes 10 false 89 rfl rfl (fun x => by simp only [putL, List.set_cons_zero, List.set_cons_succ]; rfl) rfl (fun x w h => h) ?_
        refine StepL.up fun x V hV hu K Q hK => ?_
        have u10 : x 10 = _ := hu 10 (by decide)
        have u16 : x 16 = _ := hu 16 (by decide)
        have fd3 := hV.cell d3
        clear hu
        simp only [putL, List.set_cons_zero, List.set_cons_succ] at hK ⊢
        rw [owp_eq]
        go_big_op
        exact hK _ _ (Below.refl _ _) rfl
      case refine_19 =>
        refine StepG.yes 10 false 89 rfl rfl (fun x => by simp only [putL, List.set_cons_zero, List.set_cons_succ]; rfl) rfl (fun x w h => h) ?_
        refine StepL.up fun x V hV hu K Q hK => ?_
        have u10 : x 10 = _ := hu 10 (by decide)
        have u12 : x 12 = _ := hu 12 (by decide)
        have u17 : x 17 = _ := hu 17 (by decide)
        clear hu
        simp only [putL, List.set_cons_zero, List.set_cons_succ] at hK ⊢
        rw [owp_eq]
        go_big_op
        exact hK _ _ (Below.refl _ _) rfl
      case refine_20 =>
        refine StepG.yes 10 false 89 rfl rfl (fun x => by simp only [putL, List.set_cons_zero, List.set_cons_succ]; rfl) rfl (fun x w h => h) ?_
        refine StepL.up fun x V hV hu K Q hK => ?_
        have u10 : x 10 = _ := hu 10 (by decide)
        have u18 : x 18 = _ := hu 18 (by decide)
        clear hu
        simp only [putL, List.set_cons_zero, List.set_cons_succ] at hK ⊢
        rw [owp_eq]
        go_big_op
        exact hK _ _ (Below.refl _ _) rfl
      case refine_21 =>
        refine StepG.yes 10 false 89 rfl rfl (fun x => by simp only [putL, List.set_cons_zero, List.set_cons_succ]; rfl) rfl (fun x w h => h) ?_
        refine StepL.up fun x V hV hu K Q hK => ?_
        have u10 : x 10 = _ := hu 10 (by decide)
        have u11 : x 11 = _ := hu 11 (by decide)
        have u19 : x 19 = _ := hu 19 (by decide)
        clear hu
        simp only [putL, List.set_cons_zero, List.set_cons_succ] at hK ⊢
        rw [owp_eq]
        go_big_op
        refine (KA3.out V hV).mono ?_
        rintro e V' ⟨rfl, hb⟩
        exact hK _ _ hb rfl
      case refine_22 =>
        refine StepG.of rfl ?_
        refine StepL.up fun x V hV hu K Q hK => ?_
        have u10 : x 10 = _ := hu 10 (by decide)
        have u20 : x 20 = _ := hu 20 (by decide)
        clear hu
        simp only [putL, List.set_cons_zero, List.set_cons_succ] at hK ⊢
        rw [owp_eq]
        go_big_op
        exact hK _ _ (Below.refl _ _) rfl
      case refine_23 =>
        refine StepG.of rfl ?_
        refine StepL.up fun x V hV hu K Q hK => ?_
        have u21 : x 21 = _ := hu 21 (by decide)
        clear hu
        simp only [putL, List.set_cons_zero, List.set_cons_succ] at hK ⊢
        rw [owp_eq]
        go_big_op
        exact hK _ _ (Below.refl _ _) rfl
      case refine_24 =>
        refine StepG.yes 22 false 101 rfl rfl (fun x => by simp only [putL, List.set_cons_zero, List.set_cons_succ]; rfl) rfl (fun x w h => h) ?_
        refine StepL.up fun x V hV hu K Q hK => ?_
        have u22 : x 22 = _ := hu 22 (by decide)
        have fe0 := hV.cell e0
        have fe1 := hV.cell e1
        have fe2 := hV.cell e2
        have fe3 := hV.cell e3
        have fe4 := hV.cell e4
        have fe5 := hV.cell e5
        have fe6 := hV.cell e6
        have fe7 := hV.cell e7
        have fe8 := hV.cell e8
        have fe9 := hV.cell e9
        have fe10 := hV.cell e10
        have fe11 := hV.cell e11
        have fe12 := hV.cell e12
        clear hu
        simp only [putL, List.set_cons_zero, List.set_cons_succ] at hK ⊢
        rw [owp_eq]
        go_big_op
        exact hK _ _ (Below.refl _ _) rfl
      case refine_25 =>
        refine StepG.yes 22 false 101 rfl rfl (fun x => by simp only [putL, List.set_cons_zero, List.set_cons_succ]; rfl) rfl (fun x w h => h) ?_
        refine StepL.up fun x V hV hu K Q hK => ?_
        have u22 : x 22 = _ := hu 22 (by decide)
        clear hu
        simp only [putL, List.set_cons_zero, List.set_cons_succ] at hK ⊢
        rw [owp_eq]
        go_big_op
        exact hK _ _ (Below.refl _ _) rfl
      case refine_26 =>
        refine StepG.yes 22 false 101 rfl rfl (fun x => by simp only [putL, List.set_cons_zero, List.set_cons_succ]; rfl) rfl (fun x w h => h) ?_
        refine StepL.up fun x V hV hu K Q hK => ?_
        have u22 : x 22 = _ := hu 22 (by decide)
        have u24 : x 24 = _ := hu 24 (by decide)
        clear hu
        simp only [putL, List.set_cons_zero, List.set_cons_succ] at hK ⊢
        rw [owp_eq]
        go_big_op
        exact hK _ _ (Below.refl _ _) rfl
      case refine_27 =>
        refine StepG.yes 22 false 101 rfl rfl (fun x => by simp only [putL, List.set_cons_zero, List.set_cons_succ]; rfl) rfl (fun x w h => h) ?_
        refine StepL.up fun x V hV hu K Q hK => ?_
        have u22 : x 22 = _ := hu 22 (by decide)
        have u23 : x 23 = _ := hu 23 (by decide)
        have u25 : x 25 = _ := hu 25 (by decide)
        clear hu
        simp only [putL, List.set_cons_zero, List.set_cons_succ] at hK ⊢
        rw [owp_eq]
        go_big_op
        refine (KA4.out V hV).mono ?_
        rintro e V' ⟨rfl, hb⟩
        exact hK _ _ hb rfl
      case refine_28 =>
        refine StepG.of rfl ?_
        refine StepL.up fun x V hV hu K Q hK => ?_
        have u22 : x 22 = _ := hu 22 (by decide)
        have u26 : x 26 = _ := hu 26 (by decide)
        clear hu
        simp only [putL, List.set_cons_zero, List.set_cons_succ] at hK ⊢
        rw [owp_eq]
        go_big_op
        exact hK _ _ (Below.refl _ _) rfl
      case refine_29 =>
        refine StepG.of rfl ?_
        refine StepL.up fun x V hV hu K Q hK => ?_
        have u27 : x 27 = _ := hu 27 (by decide)
        clear hu
        simp only [putL, List.set_cons_zero, List.set_cons_succ] at hK ⊢
        rw [owp_eq]
        go_big_op
        exact hK _ _ (Below.refl _ _) rfl
      case refine_30 =>
        refine StepG.yes 28 false 107 rfl rfl (fun x => by simp only [putL, List.set_cons_zero, List.set_cons_succ]; rfl) rfl (fun x w h => h) ?_
        refine StepL.up fun x V hV hu K Q hK => ?_
        have u28 : x 28 = _ := hu 28 (by decide)
        have fe0 := hV.cell e0
        have fe1 := hV.cell e1
        have fe2 := hV.cell e2
        have fe3 := hV.cell e3
        have fe4 := hV.cell e4
        have fe5 := hV.cell e5
        have fe6 := hV.cell e6
        have fe7 := hV.cell e7
        have fe8 := hV.cell e8
        have fe9 := hV.cell e9
        have fe10 := hV.cell e10
        have fe11 := hV.cell e11
        have fe12 := hV.cell e12
        clear hu
        simp only [putL, List.set_cons_zero, List.set_cons_succ] at hK ⊢
        rw [owp_eq]
        go_big_op
        exact hK _ _ (Below.refl _ _) rfl
      case refine_31 =>
        refine StepG.yes 28 false 107 rfl rfl (fun x => by simp only [putL, List.set_cons_zero, List.set_cons_succ]; rfl) rfl (fun x w h => h) ?_
        refine StepL.up fun x V hV hu K Q hK => ?_
        have u28 : x 28 = _ := hu 28 (by decide)
        clear hu
        simp only [putL, List.set_cons_zero, List.set_cons_succ] at hK ⊢
        rw [owp_eq]
        go_big_op
        exact hK _ _ (Below.refl _ _) rfl
      case refine_32 =>
        refine StepG.yes 28 false 107 rfl rfl (fun x => by simp only [putL, List.set_cons_zero, List.set_cons_succ]; rfl) rfl (fun x w h => h) ?_
        refine StepL.up fun x V hV hu K Q hK => ?_
        have u28 : x 28 = _ := hu 28 (by decide)
        have u29 : x 29 = _ := hu 29 (by decide)
        have u30 : x 30 = _ := hu 30 (by decide)
        clear hu
        simp only [putL, List.set_cons_zero, List.set_cons_succ] at hK ⊢
        rw [owp_eq]
        go_big_op
        refine (KA5.out V hV).mono ?_
        rintro e V' ⟨rfl, hb⟩
        exact hK _ _ hb rfl
      case refine_33 =>
        refine StepG.of rfl ?_
        refine StepL.up fun x V hV hu K Q hK => ?_
        have u28 : x 28 = _ := hu 28 (by decide)
        have u31 : x 31 = _ := hu 31 (by decide)
        clear hu
        simp only [putL, List.set_cons_zero, List.set_cons_succ] at hK ⊢
        rw [owp_eq]
        go_big_op
        exact hK _ _ (Below.refl _ _) rfl
      case refine_34 =>
        refine StepG.of rfl ?_
        refine StepL.up fun x V hV hu K Q hK => ?_
        have u32 : x 32 = _ := hu 32 (by decide)
        clear hu
        simp only [putL, List.set_cons_zero, List.set_cons_succ] at hK ⊢
        rw [owp_eq]
        go_big_op
        exact hK _ _ (Below.refl _ _) rfl
      case refine_35 =>
        refine StepG.yes 33 false 112 rfl rfl (fun x => by simp only [putL, List.set_cons_zero, List.set_cons_succ]; rfl) rfl (fun x w h => h) ?_
        refine StepL.up fun x V hV hu K Q hK => ?_
        have u33 : x 33 = _ := hu 33 (by decide)
        have fe0 := hV.cell e0
        have fe1 := hV.cell e1
        have fe2 := hV.cell e2
        have fe3 := hV.cell e3
        have fe4 := hV.cell e4
        have fe5 := hV.cell e5
        have fe6 := hV.cell e6
        have fe7 := hV.cell e7
        have fe8 := hV.cell e8
        have fe9 := hV.cell e9
        have fe10 := hV.cell e10
        have fe11 := hV.cell e11
        have fe12 := hV.cell e12
        clear hu
        simp only [putL, List.set_cons_zero, List.set_cons_succ] at hK ⊢
        rw [owp_eq]
        go_big_op
        exact hK _ _ (Below.refl _ _) rfl
      case refine_36 =>
        refine StepG.yes 33 false 112 rfl rfl (fun x => by simp only [putL, List.set_cons_zero, List.set_cons_succ]; rfl) rfl (fun x w h => h) ?_
        refine StepL.up fun x V hV hu K Q hK => ?_
        have u33 : x 33 = _ := hu 33 (by decide)
        clear hu
        simp only [putL, List.set_cons_zero, List.set_cons_succ] at hK ⊢
        rw [owp_eq]
        go_big_op
        exact hK _ _ (Below.refl _ _) rfl
      case refine_37 =>
        refine StepG.yes 33 false 112 rfl rfl (fun x => by simp only [putL, List.set_cons_zero, List.set_cons_succ]; rfl) rfl (fun x w h => h) ?_
        refine StepL.up fun x V hV hu K Q hK => ?_
        have u33 : x 33 = _ := hu 33 (by decide)
        have u34 : x 34 = _ := hu 34 (by decide)
        have u35 : x 35 = _ := hu 35 (by decide)
        clear hu
        simp only [putL, List.set_cons_zero, List.set_cons_succ] at hK ⊢
        rw [owp_eq]
        go_big_op
        refine (KSP.out V hV).mono ?_
        rintro e V' ⟨A, c, rfl, hc, hs, hb⟩
        exact hK _ _ hb ⟨A, c, rfl, hc, hs⟩
      case refine_38 =>
        refine StepG.yes 33 false 112 rfl rfl (fun x => by simp only [putL, List.set_cons_zero, List.set_cons_succ]; rfl) rfl (fun x w h => h) ?_
        refine StepL.up fun x V hV hu K Q hK => ?_
        have u33 : x 33 = _ := hu 33 (by decide)
        obtain ⟨A36, c36, u36, hc36, hs36⟩ := hu 36 (by decide)
        clear hu
        simp only [putL, List.set_cons_zero, List.set_cons_succ] at hK ⊢
        rw [owp_eq]
        go_big_op
        exact hK _ _ (Below.refl _ _) rfl
      case refine_39 =>
        refine StepG.yes 33 false 112 rfl rfl (fun x => by simp only [putL, List.set_cons_zero, List.set_cons_succ]; rfl) rfl (fun x w h => h) ?_
        refine StepL.up fun x V hV hu K Q hK => ?_
        have u33 : x 33 = _ := hu 33 (by decide)
        have u37 : x 37 = _ := hu 37 (by decide)
        clear hu
        simp only [putL, List.set_cons_zero, List.set_cons_succ] at hK ⊢
        rw [owp_eq]
        go_big_op
        exact hK _ _ (Below.refl _ _) rfl
      case refine_40 =>
        refine StepG.of rfl ?_
        refine StepL.up fun x V hV hu K Q hK => ?_
        have u33 : x 33 = _ := hu 33 (by decide)
        have u38 : x 38 = _ := hu 38 (by decide)
        clear hu
        simp only [putL, List.set_cons_zero, List.set_cons_succ] at hK ⊢
        rw [owp_eq]
        go_big_op
        exact hK _ _ (Below.refl _ _) rfl
      case refine_41 =>
        intro x Y hV hA
        have h39 : x 39 = _ := hA 39 rfl (by decide)
        have hVY : Below X.heap.size X Y := hV
        clear hA hV KA1 KA2 KA3 KA4 KA5 KSP
        simp only [layL, putL, List.set_cons_zero, List.set_cons_succ]
        rw [h39]
        clear h39 d3 d8 f8 kb e0 e1 e2 e3 e4 e5 e6 e7 e8 e9 e10 e11 e12
        try clear csb
        have HXY := Lib.hid hVY
        clear hVY
        have KS1 := Lib.hid (KSU.out Y HXY.out)
        have SC := (HWX.out.on HXY.out).bk
        unfold shpA at SC
        rw [hA1] at SC
        have e0 : Y.cell? ⟨g, 0, none⟩ = some (Value.slice (some ⟨bc, 0, none⟩) s.cols.length h.c1) := SC.cell 0
        have e1 : Y.cell? ⟨g, 1, none⟩ = some (Value.slice h.A2 s.covs.length h.c2) := SC.cell 1
        have e2 : Y.cell? ⟨g, 2, none⟩ = some (.int .i64 s.l0) := SC.cell 2
        have e3 : Y.cell? ⟨g, 3, none⟩ = some (.int .i64 s.l1) := SC.cell 3
        have e4 : Y.cell? ⟨g, 4, none⟩ = some (.int .i64 s.l2) := SC.cell 4
        have e5 : Y.cell? ⟨g, 5, none⟩ = some (.int .i64 s.l3) := SC.cell 5
        have e6 : Y.cell? ⟨g, 6, none⟩ = some (.slice h.A3 s.rows.length h.c3) := SC.cell 6
        have e7 : Y.cell? ⟨g, 7, none⟩ = some (.slice h.A4 s.frames.length h.c4) := SC.cell 7
        have e8 : Y.cell? ⟨g, 8, none⟩ = some (.slice h.A5 s.tanks.length h.c5) := SC.cell 8
        have e9 : Y.cell? ⟨g, 9, none⟩ = some (.int .i64 s.m0) := SC.cell 9
        have e10 : Y.cell? ⟨g, 10, none⟩ = some (.int .i64 s.m1) := SC.cell 10
        have e11 : Y.cell? ⟨g, 11, none⟩ = some (.int .i64 s.m2) := SC.cell 11
        have e12 : Y.cell? ⟨g, 12, none⟩ = some (.int .i64 s.m3) := SC.cell 12
        clear SC
        go_wp2_with fail
        refine KS1.out.mono ?_
        rintro e Z ⟨rfl, hb⟩
        simp only
        clear e0 e1 e2 e3 e4 e5 e6 e7 e8 e9 e10 e11 e12 KS1
        have HXZ := Lib.hid (HXY.out.trans (hb.mono HXY.out.size))
        clear hb HXY
        try clear Y
        have HWZ := Lib.hid (HWX.out.on HXZ.out)
        have HPZ := Lib.hid (HPX.out.below HXZ.out)
        clear HPX HWX HXZ KSU
        try clear Ap qp
        obtain ⟨Ap, qp, d3, d8, f8, hsa, csb, kb⟩ := HPZ.out.cells (by omega)
        rw [hT0] at d3
        have hpl2 : (s.cols.getD 0 default).plugs.length ≤ 100 := by
          have h1 := HLM.out.at_ (k := 0) (by omega)
          have h2 := HLM.out.right
          unfold rightF at h2
          simp only [Bool.and_eq_true] at h2
          exact plugs_few (List.all_eq_true.1 h2.2.1 _ (getD_memD (show 0 < s.cols.length by omega) default)) (by omega)
        have hRB : B ≤ Z.heap.size := HPZ.out.sz
        have HST : Hid (∀ (U : World) (A' : Option Addr) (c' : Nat), Below Z.heap.size Z U → OwnS tInt 3 U Z.heap.size (Lt Z.heap.size) (.slice A' ((s.cols.getD 0 default).plugs.length + 2) c') ((s.cols.getD 0 default).plugs ++ [(if n < T0 then T0 else n), nn]) → PX w g (morS s (if n < T0 then T0 else n) nn) h (U.setCell ⟨bc, 8, none⟩ (.slice A' ((s.cols.getD 0 default).plugs.length + 2) c'))) := Lib.hid fun U A' c' hU ho => by
          have r := HWZ.out.on hU
          exact PX.make (HPZ.out.below hU) r.bk r.rd r.be hRB (by omega) ho
        have KS2 : Hid (∀ U : World, PX w g (morS s (if n < T0 then T0 else n) nn) h U → Bk U g 37 (shpA s h) ∧ Below w.heap.size w U ∧ Calls Try.prog 20 #[.agg (shpA s h)] U (Ret U (.int .i64 (supF s : Nat)))) := Lib.hid fun U hU => by
          have hlen : (morS s (if n < T0 then T0 else n) nn).cols.length = s.cols.length := List.length_set
          have eA : shpA (morS s (if n < T0 then T0 else n) nn) h = shpA s h := by unfold shpA; rw [hlen]; rfl
          have k := pSupply_any (morS s (if n < T0 then T0 else n) nn) h U hU.rd (mor_few HLM.out) (mor_ints HLM.out)
          rw [mor_sup (by omega) (by rw [hT0]; exact hmx.1) (by omega), eA] at k
          have hbk := hU.bk
          rw [eA] at hbk
          exact ⟨hbk, hU.be, k⟩
        have HKB := Lib.hid kb
        have HSA := Lib.hid hsa
        clear hsa kb
        generalize (s.cols.getD 0 default).plugs = ps at *
        have HSRC : Hid (∀ U : World, Cb Z U → Src tInt U (Lt Z.heap.size) Ap ps.length ps) := Lib.hid fun U hU => (HSA.out.below hU).src rfl (fun b hb => Nat.lt_of_lt_of_le hb (Below.size hU))
        have SC := HWZ.out.bk
        unfold shpA at SC KS2
        rw [hA1] at SC KS2
        have e0 : Z.cell? ⟨g, 0, none⟩ = some (Value.slice (some ⟨bc, 0, none⟩) s.cols.length h.c1) := SC.cell 0
        have e1 : Z.cell? ⟨g, 1, none⟩ = some (Value.slice h.A2 s.covs.length h.c2) := SC.cell 1
        have e2 : Z.cell? ⟨g, 2, none⟩ = some (.int .i64 s.l0) := SC.cell 2
        have e3 : Z.cell? ⟨g, 3, none⟩ = some (.int .i64 s.l1) := SC.cell 3
        have e4 : Z.cell? ⟨g, 4, none⟩ = some (.int .i64 s.l2) := SC.cell 4
        have e5 : Z.cell? ⟨g, 5, none⟩ = some (.int .i64 s.l3) := SC.cell 5
        have e6 : Z.cell? ⟨g, 6, none⟩ = some (.slice h.A3 s.rows.length h.c3) := SC.cell 6
        have e7 : Z.cell? ⟨g, 7, none⟩ = some (.slice h.A4 s.frames.length h.c4) := SC.cell 7
        have e8 : Z.cell? ⟨g, 8, none⟩ = some (.slice h.A5 s.tanks.length h.c5) := SC.cell 8
        have e9 : Z.cell? ⟨g, 9, none⟩ = some (.int .i64 s.m0) := SC.cell 9
        have e10 : Z.cell? ⟨g, 10, none⟩ = some (.int .i64 s.m1) := SC.cell 10
        have e11 : Z.cell? ⟨g, 11, none⟩ = some (.int .i64 s.m2) := SC.cell 11
        have e12 : Z.cell? ⟨g, 12, none⟩ = some (.int .i64 s.m3) := SC.cell 12
        clear SC
        go_upto_region 15 with fail
        refine wp_region_ogZ [.val 0 (.pointer (some ⟨g, 0, none⟩)),
    .val 1 (.slice (some ⟨bc, 0, none⟩) s.cols.length h.c1),
    .sl 2 0 3 #[] Z.heap.size,
    .val 3 (.pointer (some ⟨g, 0, none⟩)),
    .val 4 (.slice (some ⟨bc, 0, none⟩) s.cols.length h.c1),
    .val 5 (.pointer (some ⟨bc, 0, none⟩)),
    .val 6 (.pointer (some ⟨bc, 8, none⟩)),
    .val 7 (.slice Ap ps.length qp),
    .own tInt 3 Z.heap.size (Lt Z.heap.size) 8 ps,
    .val 9 (.int .i64 n),
    .val 10 (.pointer (some ⟨g, 0, none⟩)),
    .val 11 (.slice (some ⟨bc, 0, none⟩) s.cols.length h.c1),
    .val 12 (.pointer (some ⟨bc, 0, none⟩)),
    .val 13 (.pointer (some ⟨bc, 3, none⟩)),
    .val 14 (.int .i64 T0),
    .val 15 (.int .i64 (if n < T0 then T0 else n)),
    .val 16 (.int .i64 nn),
    .sl 17 2 3 #[.int .i64 (if n < T0 then T0 else n), .int .i64 nn] Z.heap.size,
    .own tInt 3 Z.heap.size (Lt Z.heap.size) 18 (ps ++ [(if n < T0 then T0 else n), nn]),
    .val 19 (.pointer (some ⟨bc, 0, none⟩)),
    .val 20 (.pointer (some ⟨bc, 8, none⟩)),
    .val 21 undef]
          [[], [0], [], [], [3], [4], [5], [6], [2, 7], [], [], [10], [11], [12], [13], [9, 14], [], [15, 16], [8, 17], [1], [19], [18, 20]] [] 21 _ (Cb Z) (fun U => PX w g (morS s (if n < T0 then T0 else n) nn) h U) (by kernel_rfl) (by kernel_rfl) rfl rfl (Cb.drew Z) ⟨?_, ?_, ?_, ?_, ?_, ?_, ?_, ?_, ?_, ?_, ?_, ?_, ?_, ?_, ?_, ?_, ?_, ?_, ?_, ?_, ?_, trivial⟩ ?_ ?_
        case refine_1 =>
          refine StepG.of rfl ?_
          refine StepL.up fun x V hV hu K Q hK => ?_
          clear hu
          rw [owp_eq]
          go_big_op
          exact hK _ _ (Below.refl _ _) rfl
        case refine_2 =>
          refine StepG.of rfl ?_
          refine StepL.up fun x V hV hu K Q hK => ?_
          have u0 : x 0 = _ := hu 0 (by decide)
          have fe0 := hV.cell e0
          clear hu
          simp only [putL, List.set_cons_zero, List.set_cons_succ] at hK ⊢
          rw [owp_eq]
          go_big_op
          exact hK _ _ (Below.refl _ _) rfl
        case refine_3 =>
          refine StepG.of rfl ?_
          refine StepL.up fun x V hV hu K Q hK => ?_
          clear hu
          simp only [putL, List.set_cons_zero, List.set_cons_succ] at hK ⊢
          rw [owp_eq]
          go_big_op
          exact hK _ _ (ba1 V _) ⟨_, rfl, Below.size hV, Bk.new V _ _⟩
        case refine_4 =>
          refine StepG.of rfl ?_
          refine StepL.up fun x V hV hu K Q hK => ?_
          clear hu
          simp only [putL, List.set_cons_zero, List.set_cons_succ] at hK ⊢
          rw [owp_eq]
          go_big_op
          exact hK _ _ (Below.refl _ _) rfl
        case refine_5 =>
          refine StepG.of rfl ?_
          refine StepL.up fun x V hV hu K Q hK => ?_
          have u3 : x 3 = _ := hu 3 (by decide)
          have fe0 := hV.cell e0
          clear hu
          simp only [putL, List.set_cons_zero, List.set_cons_succ] at hK ⊢
          rw [owp_eq]
          go_big_op
          exact hK _ _ (Below.refl _ _) rfl
        case refine_6 =>
          refine StepG.of rfl ?_
          refine StepL.up fun x V hV hu K Q hK => ?_
          have u4 : x 4 = _ := hu 4 (by decide)
          clear hu
          simp only [putL, List.set_cons_zero, List.set_cons_succ] at hK ⊢
          rw [owp_eq]
          go_big_op
          exact hK _ _ (Below.refl _ _) rfl
        case refine_7 =>
          refine StepG.of rfl ?_
          refine StepL.up fun x V hV hu K Q hK => ?_
          have u5 : x 5 = _ := hu 5 (by decide)
          clear hu
          simp only [putL, List.set_cons_zero, List.set_cons_succ] at hK ⊢
          rw [owp_eq]
          go_big_op
          exact hK _ _ (Below.refl _ _) rfl
        case refine_8 =>
          refine StepG.of rfl ?_
          refine StepL.up fun x V hV hu K Q hK => ?_
          have u6 : x 6 = _ := hu 6 (by decide)
          have fd8 := hV.cell d8
          clear hu
          simp only [putL, List.set_cons_zero, List.set_cons_succ] at hK ⊢
          rw [owp_eq]
          go_big_op
          exact hK _ _ (Below.refl _ _) rfl
        case refine_9 =>
          refine StepG.of rfl ?_
          refine StepL.wr [0, 1, 9, 10, 11, 12, 13, 14, 15, 16, 17] (by kernel_rfl) fun x V hV hu K Q hK => ?_
          obtain ⟨gd, ud, hgd, hkd⟩ := hu 2 (by decide)
          have HO := own_of_empty (T := tInt) hkd hgd
          have uj : x 7 = _ := hu 7 (by decide)
          have HSRC := HSRC.out V hV
          clear hu
          simp only [putL, List.set_cons_zero, List.set_cons_succ] at hK ⊢
          refine wp_append_og el_int (.tmp 123) (.tmp 128) rfl Z.heap.size (Lt Z.heap.size) _ _ ud HO _ _ _ _ rfl uj HSRC (by unfold maxLen; simp; omega) (by simp; omega) (Below.size hV) fun v' w' h1 h2 h3 => ?_
          refine hK v' _ (hV.app h3) h1 fun k hk' => ?_
          simp only [List.mem_cons, List.not_mem_nil, or_false] at hk'
          rcases hk' with rfl | rfl | rfl | rfl | rfl | rfl | rfl | rfl | rfl | rfl | rfl
          · exact fun h => h
          · exact fun h => h
          · exact fun h => h
          · exact fun h => h
          · exact fun h => h
          · exact fun h => h
          · exact fun h => h
          · exact fun h => h
          · exact fun h => h
          · exact fun h => h
          · rintro ⟨g', e', l', k'⟩; exact ⟨g', e', l', k'.stay h2 (fun q => (Bk.size_ne hkd k' (by simp)) (Option.some.inj q))⟩
        case refine_10 =>
          refine StepG.of rfl ?_
          refine StepL.up fun x V hV hu K Q hK => ?_
          clear hu
          simp only [putL, List.set_cons_zero, List.set_cons_succ] at hK ⊢
          rw [owp_eq]
          go_big_op
          exact hK _ _ (Below.refl _ _) rfl
        case refine_11 =>
          refine StepG.of rfl ?_
          refine StepL.up fun x V hV hu K Q hK => ?_
          clear hu
          simp only [putL, List.set_cons_zero, List.set_cons_succ] at hK ⊢
          rw [owp_eq]
          go_big_op
          exact hK _ _ (Below.refl _ _) rfl
        case refine_12 =>
          refine StepG.of rfl ?_
          refine StepL.up fun x V hV hu K Q hK => ?_
          have u10 : x 10 = _ := hu 10 (by decide)
          have fe0 := hV.cell e0
          clear hu
          simp only [putL, List.set_cons_zero, List.set_cons_succ] at hK ⊢
          rw [owp_eq]
          go_big_op
          exact hK _ _ (Below.refl _ _) rfl
        case refine_13 =>
          refine StepG.of rfl ?_
          refine StepL.up fun x V hV hu K Q hK => ?_
          have u11 : x 11 = _ := hu 11 (by decide)
          clear hu
          simp only [putL, List.set_cons_zero, List.set_cons_succ] at hK ⊢
          rw [owp_eq]
          go_big_op
          exact hK _ _ (Below.refl _ _) rfl
        case refine_14 =>
          refine StepG.of rfl ?_
          refine StepL.up fun x V hV hu K Q hK => ?_
          have u12 : x 12 = _ := hu 12 (by decide)
          clear hu
          simp only [putL, List.set_cons_zero, List.set_cons_succ] at hK ⊢
          rw [owp_eq]
          go_big_op
          exact hK _ _ (Below.refl _ _) rfl
        case refine_15 =>
          refine StepG.of rfl ?_
          refine StepL.up fun x V hV hu K Q hK => ?_
          have u13 : x 13 = _ := hu 13 (by decide)
          have fd3 := hV.cell d3
          clear hu
          simp only [putL, List.set_cons_zero, List.set_cons_succ] at hK ⊢
          rw [owp_eq]
          go_big_op
          exact hK _ _ (Below.refl _ _) rfl
        case refine_16 =>
          refine StepG.of rfl ?_
          refine StepL.up fun x V hV hu K Q hK => ?_
          have u9 : x 9 = _ := hu 9 (by decide)
          have u14 : x 14 = _ := hu 14 (by decide)
          clear hu
          simp only [putL, List.set_cons_zero, List.set_cons_succ] at hK ⊢
          rw [owp_eq]
          go_big_op
          exact hK _ _ (Below.refl _ _) rfl
        case refine_17 =>
          refine StepG.of rfl ?_
          refine StepL.up fun x V hV hu K Q hK => ?_
          clear hu
          simp only [putL, List.set_cons_zero, List.set_cons_succ] at hK ⊢
          rw [owp_eq]
          go_big_op
          exact hK _ _ (Below.refl _ _) rfl
        case refine_18 =>
          refine StepG.of rfl ?_
          refine StepL.up fun x V hV hu K Q hK => ?_
          have u15 : x 15 = _ := hu 15 (by decide)
          have u16 : x 16 = _ := hu 16 (by decide)
          clear hu
          simp only [putL, List.set_cons_zero, List.set_cons_succ] at hK ⊢
          rw [owp_eq]
          go_big_op
          exact hK _ _ (ba1 V _) ⟨_, rfl, Below.size hV, Bk.new V _ _⟩
        case refine_19 =>
          refine StepG.of rfl ?_
          refine StepL.wr [0, 1, 3, 10, 11] (by kernel_rfl) fun x V hV hu K Q hK => ?_
          have HO : OwnS tInt 3 V Z.heap.size (Lt Z.heap.size) (x 8) _ := hu 8 (by decide)
          obtain ⟨gj, uj, hgj, hkj⟩ := hu 17 (by decide)
          have HSRC := Src.blk (T := tInt) (S := Lt Z.heap.size) (ms := [(if n < T0 then T0 else n), nn]) hkj (flat_two _ _) rfl
          clear hu
          simp only [putL, List.set_cons_zero, List.set_cons_succ] at hK ⊢
          refine wp_append_og el_int (.tmp 129) (.tmp 138) rfl Z.heap.size (Lt Z.heap.size) _ _ rfl HO _ _ _ [(if n < T0 then T0 else n), nn] rfl uj HSRC (by unfold maxLen; simp; omega) (by simp; omega) (Below.size hV) fun v' w' h1 h2 h3 => ?_
          refine hK v' _ (hV.app h3) h1 fun k hk' => ?_
          simp only [List.mem_cons, List.not_mem_nil, or_false] at hk'
          rcases hk' with rfl | rfl | rfl | rfl | rfl
          · exact fun h => h
          · exact fun h => h
          · exact fun h => h
          · exact fun h => h
          · exact fun h => h
        case refine_20 =>
          refine StepG.of rfl ?_
          refine StepL.up fun x V hV hu K Q hK => ?_
          have u1 : x 1 = _ := hu 1 (by decide)
          clear hu
          simp only [putL, List.set_cons_zero, List.set_cons_succ] at hK ⊢
          rw [owp_eq]
          go_big_op
          exact hK _ _ (Below.refl _ _) rfl
        case refine_21 =>
          refine StepG.of rfl ?_
          refine StepL.up fun x V hV hu K Q hK => ?_
          have u19 : x 19 = _ := hu 19 (by decide)
          clear hu
          simp only [putL, List.set_cons_zero, List.set_cons_succ] at hK ⊢
          rw [owp_eq]
          go_big_op
          exact hK _ _ (Below.refl _ _) rfl
        case refine_22 =>
          refine StepG2.last (by kernel_rfl) fun x U hV hu K Q hK => ?_
          have u20 : x 20 = _ := hu 20 (by decide)
          have u18 : OwnS tInt 3 U Z.heap.size (Lt Z.heap.size) (x 18) _ := hu 18 (by decide)
          clear hu
          obtain ⟨A', c', e18, _, _, _⟩ := u18.sl'
          rw [e18] at u18
          rw [show (ps ++ [(if n < T0 then T0 else n), nn]).length = ps.length + 2 by simp] at e18 u18
          have HPN := Lib.hid (HST.out U A' c' hV u18)
          have d8U : U.cell? ⟨bc, 8, none⟩ = some (.slice Ap ps.length qp) := hV.cell d8
          have f8U : U.frozen? ⟨bc, 8, none⟩ = false := (HKB.out.below hV HKB.out.lt).frozen 8
          clear u18 HST HKB d8 f8
          simp only [List.take_succ_cons, List.take_zero, layL, putL, List.set_cons_zero, List.set_cons_succ] at hK ⊢
          rw [owp_eq]
          simp only [e18, u20] at hK ⊢
          go_big_op
          exact hK undef _ HPN.out rfl
        case refine_23 =>
          intro x U hPX hA
          clear hA
          have HU := Lib.hid (KS2.out U hPX)
          simp only [layL, putL, List.set_cons_zero, List.set_cons_succ]
          clear hPX KS2 HST HSRC HSA HKB d3 d8 f8 e0 e1 e2 e3 e4 e5 e6 e7 e8 e9 e10 e11 e12
          have SC := HU.out.1
          have e0 : U.cell? ⟨g, 0, none⟩ = some (Value.slice (some ⟨bc, 0, none⟩) s.cols.length h.c1) := SC.cell 0
          have e1 : U.cell? ⟨g, 1, none⟩ = some (Value.slice h.A2 s.covs.length h.c2) := SC.cell 1
          have e2 : U.cell? ⟨g, 2, none⟩ = some (.int .i64 s.l0) := SC.cell 2
          have e3 : U.cell? ⟨g, 3, none⟩ = some (.int .i64 s.l1) := SC.cell 3
          have e4 : U.cell? ⟨g, 4, none⟩ = some (.int .i64 s.l2) := SC.cell 4
          have e5 : U.cell? ⟨g, 5, none⟩ = some (.int .i64 s.l3) := SC.cell 5
          have e6 : U.cell? ⟨g, 6, none⟩ = some (.slice h.A3 s.rows.length h.c3) := SC.cell 6
          have e7 : U.cell? ⟨g, 7, none⟩ = some (.slice h.A4 s.frames.length h.c4) := SC.cell 7
          have e8 : U.cell? ⟨g, 8, none⟩ = some (.slice h.A5 s.tanks.length h.c5) := SC.cell 8
          have e9 : U.cell? ⟨g, 9, none⟩ = some (.int .i64 s.m0) := SC.cell 9
          have e10 : U.cell? ⟨g, 10, none⟩ = some (.int .i64 s.m1) := SC.cell 10
          have e11 : U.cell? ⟨g, 11, none⟩ = some (.int .i64 s.m2) := SC.cell 11
          have e12 : U.cell? ⟨g, 12, none⟩ = some (.int .i64 s.m3) := SC.cell 12
          clear SC
          have KS3 := Lib.hid HU.out.2.2
          have HUB := Lib.hid HU.out.2.1
          clear HU
          generalize supF s = su at *
          have t1 : ((su : Int) == (su : Int)) = true := by simp
          go_wp2_with fail
          refine KS3.out.mono ?_
          rintro e U2 ⟨rfl, hb⟩
          simp only
          have HW9 := Lib.hid (HUB.out.trans (hb.mono HUB.out.size))
          clear hb KS3 HUB e0 e1 e2 e3 e4 e5 e6 e7 e8 e9 e10 e11 e12
          go_wp2_with fail
          refine (awake12_true _).mono ?_
          rintro e W9 ⟨rfl, hb⟩
          simp only
          go_wp2_with fail
          go_ret
          exact ⟨rfl, HW9.out.trans (hb.mono HW9.out.size)⟩
end Go.Proofs.Ythijgmkflfaccaa
