/-
  The walk of the statement SegregateLess.
-/
import Derived.Test.YtnbpecnddjpfbaaDoorSgW
import Derived.Test.YtnbpecnddjpfbaaDoorSgV
namespace Go.Proofs.YtnbpecnddjpfbaaDoor
open Go.RowKit

set_option maxRecDepth 100000 in
set_option maxHeartbeats 8000000 in
theorem segregateLess_any (A : Option Addr) (c : Nat) (pl : List (Nat × Nat × Nat × Bool)) (covers : Nat) (A2 : Option Addr) (c2 : Nat) (ds : List Drp) (A9 : Option Addr) (c9 : Nat) (cs : List Nat) (w : World)
    (hs : SlT tPl w (Lt w.heap.size) A pl) (hl : ∀ p ∈ pl, p.1 < 256 ∧ p.2.1 < 256 ∧ p.2.2.1 < 256) (hc : pl.length ≤ c) (hcm : c ≤ maxLen)
    (hs2 : SlT tDrp w (Lt w.heap.size) A2 ds) (hd : ∀ d ∈ ds, d.col < 256 ∧ d.kilos < 256) (hc2 : ds.length ≤ c2) (hcm2 : c2 ≤ maxLen)
    (hs3 : SlT tU8 w (Lt w.heap.size) A9 cs) (hlc : ∀ x ∈ cs, x < 256) (hc3 : cs.length ≤ c9) (hcm3 : c9 ≤ maxLen) (ht : TabOK w) (hn : NamesOK w) :
    Calls Tryd.prog 7 #[.slice A pl.length c, .int .u32 covers, .slice A2 ds.length c2, .slice A9 cs.length c9] w (TrueRet w) := by
  have HH := Lib.hid (And.intro hs (And.intro hs2 hs3))
  have HTN := Lib.hid (And.intro ht hn)
  clear hs hs2 hs3
  go_enter Tryd.func7, Tryd.ntmps7
  go_wp2_with fail
  refine (awake14_true w ht hn).mono ?_
  rintro e w1 ⟨rfl, hb1⟩
  simp only
  have HB1 := Lib.hid hb1
  have KST := Lib.hid (stowage_any A c pl covers A2 c2 ds A9 c9 cs w1 (HH.out.1.on hb1) hl hc hcm (HH.out.2.1.on hb1) hd hc2 hcm2 (HH.out.2.2.on hb1) hlc hc3 hcm3)
  clear hb1 HH hl hc hcm hd hc2 hcm2 hlc hc3 hcm3 ht hn
  go_wp2_with fail
  refine KST.out.mono ?_
  rintro e w2 ⟨s, h, A1, q1, bs, A3, q3, st, rfl, hBu, hSd, hrd, hbx, hsx, hq3, hqm3, hb2⟩
  simp only
  clear KST
  have hW : SX w (w2.alloc (.cells (shpA s h) 32)) w2.heap.size s h A1 bs A3 st := by
    have hx := ba1 w2 (.cells (shpA s h) 32)
    have hbw := HB1.out.trans ((hb2.trans (hx.mono hb2.size)).mono HB1.out.size)
    exact ⟨Bk.new w2 _ _, hrd.on hx, hbx.on hx, hsx.on hx, HTN.out.1.below hbw HTN.out.1.lt, HTN.out.2.below hbw HTN.out.2.lt, hbw⟩
  have HW := Lib.hid hW
  have HBU := Lib.hid hBu
  have HSD := Lib.hid hSd
  have HQ3 := Lib.hid hq3
  have hb12 := hSd.blen
  have hs12 := hSd.slen
  clear hW hBu hSd hrd hbx hsx hq3 hqm3 hb2 HB1 HTN
  unfold shpA at HW ⊢
  go_upto_region 4 with fail
  generalize w2.heap.size = g at *
  generalize (w2.alloc _) = V at *
  try clear w2
  try clear w1
  have KCL := Lib.hid (HW.out.clashes HBU.out HSD.out HQ3.out q1)
  have HCN := clash_len s (bs := bs) hs12
  unfold shpA at KCL
  have SC := HW.out.bk
  have e0 : V.cell? ⟨g, 0, none⟩ = some (Value.slice h.A1 s.cols.length h.c1) := SC.cell 0
  have e1 : V.cell? ⟨g, 1, none⟩ = some (Value.slice h.A2 s.covs.length h.c2) := SC.cell 1
  have e2 : V.cell? ⟨g, 2, none⟩ = some (.int .i64 s.l0) := SC.cell 2
  have e3 : V.cell? ⟨g, 3, none⟩ = some (.int .i64 s.l1) := SC.cell 3
  have e4 : V.cell? ⟨g, 4, none⟩ = some (.int .i64 s.l2) := SC.cell 4
  have e5 : V.cell? ⟨g, 5, none⟩ = some (.int .i64 s.l3) := SC.cell 5
  have e6 : V.cell? ⟨g, 6, none⟩ = some (Value.slice h.A3 s.rows.length h.c3) := SC.cell 6
  have e7 : V.cell? ⟨g, 7, none⟩ = some (Value.slice h.A4 s.frames.length h.c4) := SC.cell 7
  have e8 : V.cell? ⟨g, 8, none⟩ = some (Value.slice h.A5 s.tanks.length h.c5) := SC.cell 8
  have e9 : V.cell? ⟨g, 9, none⟩ = some (.int .i64 s.m0) := SC.cell 9
  have e10 : V.cell? ⟨g, 10, none⟩ = some (.int .i64 s.m1) := SC.cell 10
  have e11 : V.cell? ⟨g, 11, none⟩ = some (.int .i64 s.m2) := SC.cell 11
  have e12 : V.cell? ⟨g, 12, none⟩ = some (.int .i64 s.m3) := SC.cell 12
  clear SC
  go_wp2_with fail
  refine KCL.out.mono ?_
  rintro e W ⟨hb, AC, cC, rfl, hcC, hsC⟩
  simp only
  have HVW := Lib.hid hb
  have HSC := Lib.hid hsC
  clear hb hsC KCL e0 e1 e2 e3 e4 e5 e6 e7 e8 e9 e10 e11 e12
  have HFC := Lib.hid (clash_fact HBU.out HSD.out)
  have HLS := Lib.hid (fun (i : Nat) (hi : i < st.length) => HSD.out.less HBU.out hi)
  have HLE := Lib.hid (fun (i : Nat) (hi : i < st.length) => HSD.out.less_err hi)
  have KCS := Lib.hid (fun (V' : World) (hV : Below V.heap.size V V') (id : Int) => class_any A1 q1 bs id V' (HW.out.on hV).bx (by omega))
  have KC2 : Hid (∀ (V' : World) (A4 : Option Addr) (c4 : Nat) (l : List Stw), Below V.heap.size V V' → SlT tStw V' (Lt V'.heap.size) A4 l → l.length ≤ 12 → l.length ≤ c4 → (∀ x ∈ l, x ∈ st) → Calls Tryd.prog 26 #[.agg (shpA s h), .slice A1 bs.length q1, .slice A4 l.length c4] V' (ClRet V' s bs l)) := Lib.hid fun V' A4 c4 l hV hsl hl hlc hmem => by
    have r := HW.out.on hV
    exact clashes_any s h A1 q1 bs A4 c4 l V' r.rd HBU.out.Few HBU.out.ints HBU.out.short r.bx (by omega) hsl (by omega) hlc (fun x hx => SX.tiers HBU.out HSD.out x (hmem x hx)) r.nm HBU.out.rows r.tb
  unfold shpA at KC2
  have hst12 := hs12
  generalize clashF s bs st = all at *
  go_wp2_with fail
  go_loopw [48] (fun i wr => ∃ k : Nat, k ≤ all.length ∧ i = .int .i64 k ∧ Hid (Below W.heap.size W wr)) (fun i _ => all.length - (intOf i).toNat)
  case atStart => exact ⟨0, Nat.zero_le _, rfl, Lib.hid (Below.refl _ _)⟩
  case round =>
    obtain ⟨k, hk, rfl, HB⟩ := hrel
    obtain ⟨X, rfl⟩ : ∃ V, V = wr := ⟨_, rfl⟩
    by_cases hlt : k < all.length
    · obtain ⟨b4', off4, rfl, _, d0, d1, d2⟩ := (HSC.out.on HB.out).cl hlt
      have HF := Lib.hid (HFC.out _ (getD_memD hlt default))
      have j0 : (0 : Int) ≤ (k : Int) := by omega
      have j1 : (k : Int) < (all.length : Int) := by omega
      have hk1 : k + 1 ≤ all.length := hlt
      generalize all.getD k default = c0 at *
      obtain ⟨ca, cb, cc⟩ := c0
      simp only at d0 d1 d2 HF
      have hbX := ba1 X (.cells #[.int .i64 ca, .int .i64 cb, .int .u8 (cc : Nat)] 73)
      have HX := Lib.hid (Bk.new X 73 #[.int .i64 ca, .int .i64 cb, .int .u8 (cc : Nat)])
      have HBU1 := Lib.hid (HB.out.trans (hbX.mono HB.out.size))
      clear hbX HB
      go_upto_region 10 with fail
      clear d0 d1 d2
      generalize X.heap.size = gx at *
      generalize (X.alloc _) = U at *
      try clear X
      have HVU := Lib.hid (HVW.out.trans (HBU1.out.mono HVW.out.size))
      have K1 := Lib.hid (fun (Z : World) (hZ : Below U.heap.size U Z) => KCS.out Z (HVU.out.trans (hZ.mono HVU.out.size)) ca)
      have K2 := Lib.hid (fun (Z : World) (hZ : Below U.heap.size U Z) => KCS.out Z (HVU.out.trans (hZ.mono HVU.out.size)) cb)
      obtain ⟨⟨f1, f2⟩, ⟨f3, f4⟩, f5, f6, f7⟩ := HF.out
      generalize clsF bs ca = za at *
      generalize clsF bs cb = zb at *
      have p0 : ∀ gp : Gr U, gp.W.cell? ⟨gx, 0, none⟩ = some (.int .i64 ca) := Gr.cell (HX.out.cell 0)
      have p1 : ∀ gp : Gr U, gp.W.cell? ⟨gx, 1, none⟩ = some (.int .i64 cb) := Gr.cell (HX.out.cell 1)
      refine wp_region_gr (by kernel_rfl) (by kernel_rfl) ?_
      repeat (go_big_quiet_step ((first | (with_reducible exact Gr.call _ (fun V hV => K1.out V hV)) | (with_reducible exact Gr.call _ (fun V hV => K2.out V hV)))))
      refine wpQuiet_nil ?_
      rintro Y ⟨⟨_, hbY⟩, rfl⟩
      have HBY := Lib.hid (HBU1.out.trans (hbY.mono HBU1.out.size))
      have HXY := Lib.hid (HX.out.below hbY HX.out.lt)
      clear p0 p1 hbY K1 K2 HX HBU1 HVU HF
      have y0 : Y.cell? ⟨gx, 0, none⟩ = some (.int .i64 ca) := HXY.out.cell 0
      have y1 : Y.cell? ⟨gx, 1, none⟩ = some (.int .i64 cb) := HXY.out.cell 1
      have y2 : Y.cell? ⟨gx, 2, none⟩ = some (.int .u8 (cc : Nat)) := HXY.out.cell 2
      have e1 : ((za : Int) == 0) = false := by simp; omega
      have e2 : ((za : Int) == 9) = false := by simp; omega
      have e3 : ((zb : Int) == 0) = false := by simp; omega
      have e4 : ((zb : Int) == 9) = false := by simp; omega
      have e5 : decide (cb ≤ ca) = false := decide_eq_false (by omega)
      have e6 : ((cc : Int) == 0) = false := by simp; omega
      clear f1 f2 f3 f4 f5 f6 f7
      go_wp2_with fail
      go_roundw
      case rel => (first | exact ⟨k + 1, hk1, by go_num, HBY⟩ | ((repeat apply Exists.intro); (first | exact ⟨⟨k + 1, hk1, by go_num, HBY⟩, rfl⟩ | exact ⟨hk1, by go_num, HBY⟩)))
      case measure => simp [intOf]; omega
    · obtain rfl : k = all.length := by omega
      have HSX := Lib.hid (HSC.out.on HB.out)
      have HVX := Lib.hid (HVW.out.trans (HB.out.mono HVW.out.size))
      clear HSC HVW HB KCS HFC hlt hk
      try clear W
      go_wp2_with fail
      go_loopw [89] (fun i wr => ∃ k : Nat, k ≤ st.length ∧ i = .int .i64 k ∧ Hid (Below X.heap.size X wr)) (fun i _ => st.length - (intOf i).toNat)
      case atStart => exact ⟨0, Nat.zero_le _, rfl, Lib.hid (Below.refl _ _)⟩
      case round =>
        obtain ⟨a, ha, rfl, HB⟩ := hrel
        obtain ⟨U0, rfl⟩ : ∃ V, V = wr := ⟨_, rfl⟩
        have HVU0 := Lib.hid (HVX.out.trans (HB.out.mono HVX.out.size))
        by_cases hlt : a < st.length
        · obtain ⟨b, off, hAe, _, d0, d1, d2, d3⟩ := (HW.out.on HVU0.out).sx.stw hlt
          subst hAe
          have HLA := Lib.hid (HLS.out a hlt)
          have HEA := Lib.hid (HLE.out a hlt)
          have hll := less14_len hlt
          have hlm := Lib.hid (fun x hx => less14_mem (st := st) (i := a) (x := x) hx)
          have j0 : (0 : Int) ≤ (a : Int) := by omega
          have j1 : (a : Int) < (st.length : Int) := by omega
          have ha1 : a + 1 ≤ st.length := hlt
          generalize st.getD a default = x at *
          obtain ⟨xb, xc, xt, xh⟩ := x
          simp only at d0 d1 d2 d3 HLA
          have hbX := ba1 U0 (.cells #[.int .i64 xb, .int .i64 xc, .int .i64 xt, .int .u8 (xh : Nat)] 44)
          have HX := Lib.hid (Bk.new U0 44 #[.int .i64 xb, .int .i64 xc, .int .i64 xt, .int .u8 (xh : Nat)])
          have HBY := Lib.hid (HB.out.trans (hbX.mono HB.out.size))
          have HVY := Lib.hid (HVU0.out.trans (hbX.mono HVU0.out.size))
          clear hbX HB HVU0
          go_upto_region 17 with fail
          clear d0 d1 d2 d3
          generalize U0.heap.size = gx at *
          generalize (U0.alloc _) = Y1 at *
          try clear U0
          have HWZ := Lib.hid (HW.out.on HVY.out)
          obtain ⟨AA, hAA⟩ : ∃ AA, (if q3 = a + 1 then (some ⟨b, off, none⟩ : Option Addr) else some ⟨b, off + (a + 1) * 4, none⟩) = AA := ⟨_, rfl⟩
          have HSA : Hid (∀ V : World, Cb Y1 V → Src tStw V (Lt Y1.heap.size) (some ⟨b, off, none⟩) a (st.take a)) := Lib.hid fun V hV => by
            exact ((HWZ.out.sx.below hV).take a).src (by simp; omega) (fun b hb => Nat.lt_of_lt_of_le hb (Below.size hV))
          have HSB : Hid (∀ V : World, Cb Y1 V → Src tStw V (Lt Y1.heap.size) AA (st.length - (a + 1)) (st.drop (a + 1))) := Lib.hid fun V hV => by
            have h1 := (HWZ.out.sx.below hV).cut (c := q3) (j := a + 1) hlt HQ3.out
            have e : (if q3 = a + 1 then (some ⟨b, off, none⟩ : Option Addr) else Option.map (fun x : Addr => x.add ((a + 1) * tStw.k)) (some ⟨b, off, none⟩)) = AA := by
              rw [← hAA]
              split
              · rfl
              · simp [add_mk, tStw]
            rw [e] at h1
            exact h1.src (by simp) (fun b hb => Nat.lt_of_lt_of_le hb (Below.size hV))
          have i0 : (0 : Int) ≤ (q3 : Int) := by omega
          have hqk : a + 1 ≤ q3 := Nat.le_trans hlt HQ3.out
          have hql := HQ3.out
          refine wp_region_og [.sl 0 0 44 #[] Y1.heap.size,
            .val 1 (.slice (some ⟨b, off, none⟩) st.length q3),
            .val 2 (.int .i64 (a : Nat)),
            .val 3 (.slice (some ⟨b, off, none⟩) a q3),
            .own tStw 44 Y1.heap.size (Lt Y1.heap.size) 4 (st.take a),
            .val 5 (.slice (some ⟨b, off, none⟩) st.length q3),
            .val 6 (.int .i64 (a : Nat)),
            .val 7 (.int .i64 ((a : Nat) + 1)),
            .val 8 (.slice AA (st.length - (a + 1)) (q3 - (a + 1))),
            .own tStw 44 Y1.heap.size (Lt Y1.heap.size) 9 (less14 st a),
            .own tStw 44 Y1.heap.size (Lt Y1.heap.size) 10 (less14 st a)]
            [[], [], [], [1, 2], [0, 3], [], [], [6], [5, 7], [4, 8], [9]] [10] (Cb Y1) (by kernel_rfl) (by kernel_rfl) (Cb.drew Y1) ⟨?_, ?_, ?_, ?_, ?_, ?_, ?_, ?_, ?_, ?_, ?_, trivial⟩ ?_
          case refine_1 =>
            refine StepL.up fun x V hV hu K Q hK => ?_
            clear hu
            rw [owp_eq]
            go_big_op
            exact hK _ _ (ba1 V _) ⟨_, rfl, Below.size hV, Bk.new V _ _⟩
          case refine_2 =>
            refine StepL.up fun x V hV hu K Q hK => ?_
            clear hu
            simp only [putL, List.set_cons_zero, List.set_cons_succ] at hK ⊢
            rw [owp_eq]
            go_big_op
            exact hK _ _ (Below.refl _ _) rfl
          case refine_3 =>
            refine StepL.up fun x V hV hu K Q hK => ?_
            clear hu
            simp only [putL, List.set_cons_zero, List.set_cons_succ] at hK ⊢
            rw [owp_eq]
            go_big_op
            exact hK _ _ (Below.refl _ _) rfl
          case refine_4 =>
            refine StepL.up fun x V hV hu K Q hK => ?_
            have u1 : x 1 = _ := hu 1 (by decide)
            have u2 : x 2 = _ := hu 2 (by decide)
            clear hu
            simp only [putL, List.set_cons_zero, List.set_cons_succ] at hK ⊢
            rw [owp_eq]
            go_big_op
            exact hK _ _ (Below.refl _ _) rfl
          case refine_5 =>
            refine StepL.wr [5, 6, 7, 8] (by kernel_rfl) fun x V hV hu K Q hK => ?_
            obtain ⟨gd, ud, hgd, hkd⟩ := hu 0 (by decide)
            have HO := own_of_empty (T := tStw) hkd hgd
            have uj : x 3 = _ := hu 3 (by decide)
            have HSRC := HSA.out V hV
            clear hu
            simp only [putL, List.set_cons_zero, List.set_cons_succ] at hK ⊢
            refine wp_append_og el_stw (.tmp 94) (.tmp 97) rfl Y1.heap.size (Lt Y1.heap.size) _ _ ud HO _ _ _ (st.take a) (by simp; omega) uj HSRC (by unfold maxLen; simp; omega) (by simp; omega) (Below.size hV) fun v' w' h1 h2 h3 => ?_
            refine hK v' _ (hV.app h3) h1 fun k hk' => ?_
            simp only [List.mem_cons, List.not_mem_nil, or_false] at hk'
            rcases hk' with rfl | rfl | rfl | rfl
            · exact fun h => h
            · exact fun h => h
            · exact fun h => h
            · exact fun h => h
          case refine_6 =>
            refine StepL.up fun x V hV hu K Q hK => ?_
            clear hu
            simp only [putL, List.set_cons_zero, List.set_cons_succ] at hK ⊢
            rw [owp_eq]
            go_big_op
            exact hK _ _ (Below.refl _ _) rfl
          case refine_7 =>
            refine StepL.up fun x V hV hu K Q hK => ?_
            clear hu
            simp only [putL, List.set_cons_zero, List.set_cons_succ] at hK ⊢
            rw [owp_eq]
            go_big_op
            exact hK _ _ (Below.refl _ _) rfl
          case refine_8 =>
            refine StepL.up fun x V hV hu K Q hK => ?_
            have u6 : x 6 = _ := hu 6 (by decide)
            clear hu
            simp only [putL, List.set_cons_zero, List.set_cons_succ] at hK ⊢
            rw [owp_eq]
            go_big_op
            exact hK _ _ (Below.refl _ _) rfl
          case refine_9 =>
            refine StepL.up fun x V hV hu K Q hK => ?_
            have u5 : x 5 = _ := hu 5 (by decide)
            have u7 : x 7 = _ := hu 7 (by decide)
            clear hu
            simp only [putL, List.set_cons_zero, List.set_cons_succ] at hK ⊢
            rw [owp_eq]
            go_big_op
            exact hK _ _ (Below.refl _ _) rfl
          case refine_10 =>
            refine StepL.wr [] (by kernel_rfl) fun x V hV hu K Q hK => ?_
            have HO : OwnS tStw 44 V Y1.heap.size (Lt Y1.heap.size) (x 4) _ := hu 4 (by decide)
            have uj : x 8 = _ := hu 8 (by decide)
            have HSRC := HSB.out V hV
            clear hu
            simp only [putL, List.set_cons_zero, List.set_cons_succ] at hK ⊢
            refine wp_append_og el_stw (.tmp 98) (.tmp 102) rfl Y1.heap.size (Lt Y1.heap.size) _ _ rfl HO _ _ _ (st.drop (a + 1)) (by simp) uj HSRC (by unfold maxLen; simp; omega) (by simp; omega) (Below.size hV) fun v' w' h1 h2 h3 => ?_
            refine hK v' _ (hV.app h3) h1 fun k hk' => ?_
            cases hk'
          case refine_11 =>
            refine StepL.up fun x V hV hu K Q hK => ?_
            have h9 : OwnS tStw 44 V Y1.heap.size (Lt Y1.heap.size) (x 9) _ := hu 9 (by decide)
            clear hu
            simp only [putL, List.set_cons_zero, List.set_cons_succ] at hK ⊢
            rw [owp_eq]
            go_big_op
            exact hK _ _ (Below.refl _ _) h9
          case refine_12 =>
            intro xs Y2 hV hA
            have h10 : OwnS tStw 44 Y2 Y1.heap.size (Lt Y1.heap.size) (xs 10) (less14 st a) := hA 10 rfl (by decide)
            simp only [layL, putL, List.set_cons_zero, List.set_cons_succ]
            obtain ⟨A8, c8, eSl, hc9, hcm9, hs9⟩ := h10.sl'
            rw [eSl]
            have HVZ := Lib.hid (HVY.out.trans ((show Below Y1.heap.size Y1 Y2 from hV).mono HVY.out.size))
            have HBZ := Lib.hid (HBY.out.trans ((show Below Y1.heap.size Y1 Y2 from hV).mono HBY.out.size))
            have HXZ := Lib.hid (HX.out.below (show Below Y1.heap.size Y1 Y2 from hV) HX.out.lt)
            have KCA := Lib.hid (KC2.out Y2 A8 c8 (less14 st a) HVZ.out hs9 (by omega) hc9 (fun x hx => hlm.out x hx))
            have SC := (HW.out.on HVZ.out).bk
            have e0 : Y2.cell? ⟨g, 0, none⟩ = some (Value.slice h.A1 s.cols.length h.c1) := SC.cell 0
            have e1 : Y2.cell? ⟨g, 1, none⟩ = some (Value.slice h.A2 s.covs.length h.c2) := SC.cell 1
            have e2 : Y2.cell? ⟨g, 2, none⟩ = some (.int .i64 s.l0) := SC.cell 2
            have e3 : Y2.cell? ⟨g, 3, none⟩ = some (.int .i64 s.l1) := SC.cell 3
            have e4 : Y2.cell? ⟨g, 4, none⟩ = some (.int .i64 s.l2) := SC.cell 4
            have e5 : Y2.cell? ⟨g, 5, none⟩ = some (.int .i64 s.l3) := SC.cell 5
            have e6 : Y2.cell? ⟨g, 6, none⟩ = some (Value.slice h.A3 s.rows.length h.c3) := SC.cell 6
            have e7 : Y2.cell? ⟨g, 7, none⟩ = some (Value.slice h.A4 s.frames.length h.c4) := SC.cell 7
            have e8 : Y2.cell? ⟨g, 8, none⟩ = some (Value.slice h.A5 s.tanks.length h.c5) := SC.cell 8
            have e9 : Y2.cell? ⟨g, 9, none⟩ = some (.int .i64 s.m0) := SC.cell 9
            have e10 : Y2.cell? ⟨g, 10, none⟩ = some (.int .i64 s.m1) := SC.cell 10
            have e11 : Y2.cell? ⟨g, 11, none⟩ = some (.int .i64 s.m2) := SC.cell 11
            have e12 : Y2.cell? ⟨g, 12, none⟩ = some (.int .i64 s.m3) := SC.cell 12
            clear SC HSA HSB hAA h10 eSl hs9 hV hA HX HBY HVY HWZ hlm hc9 hcm9 i0 hqk hql
            try clear Y1
            unfold ClRet at KCA
            have HLA2 := HLA
            generalize clashF s bs (less14 st a) = LL at *
            generalize dErr s bs (less14 st a) = de at *
            generalize (less14 st a).length = nl at *
            go_wp2_with fail
            refine KCA.out.mono ?_
            rintro e Z ⟨hb, v, rfl, ho⟩
            simp only
            have HBN := Lib.hid (HBZ.out.trans (hb.mono HBZ.out.size))
            have HXN := Lib.hid (HXZ.out.below hb HXZ.out.lt)
            have HO := Lib.hid ho
            clear hb ho KCA e0 e1 e2 e3 e4 e5 e6 e7 e8 e9 e10 e11 e12 HXZ HBZ HVZ HLA
            try clear Y2
            rcases HEA.out with hde | hde
            · subst hde
              go_wp2_with fail
              go_roundw
              case rel => (first | exact ⟨a + 1, ha1, by go_num, HBN⟩ | ((repeat apply Exists.intro); (first | exact ⟨⟨a + 1, ha1, by go_num, HBN⟩, rfl⟩ | exact ⟨ha1, by go_num, HBN⟩)))
              case measure => simp [intOf]; omega
            · subst hde
              simp only [if_true] at HO
              obtain ⟨A7, c7, rfl, _, _, hsL⟩ := HO.out.sl
              have HSL := Lib.hid hsL
              have HSZ := Lib.hid (HSX.out.on HBN.out)
              have HLD : Hid (LL = all.filter fun c => c.a != xb && c.b != xb) := HLA2
              clear HO hsL HEA HLA2
              obtain ⟨pf, hpf⟩ : ∃ pf : Cl → Bool, pf = fun c => c.a != xb && c.b != xb := ⟨_, rfl⟩
              have HPF : Hid (∀ c, pf c = (c.a != xb && c.b != xb)) := Lib.hid fun c => by rw [hpf]
              rw [← hpf] at HLD
              clear hpf
              have x0 : Z.cell? ⟨gx, 0, none⟩ = some (.int .i64 xb) := HXN.out.cell 0
              go_wp2_with fail
              go_loopw [23, 115] (fun v i wr => ∃ (k : Nat) (m : List Cl), k ≤ all.length ∧ i = .int .i64 k ∧ m.length ≤ k ∧ Hid (m = (all.take k).filter pf) ∧ Hid (OwnT tCl 73 wr Z.heap.size v m) ∧ Hid (Below Z.heap.size Z wr)) (fun _ i _ => all.length - (intOf i).toNat)
              case atStart => exact ⟨0, [], Nat.zero_le _, rfl, by simp, Lib.hid rfl, Lib.hid OwnT.nil, Lib.hid (Below.refl _ _)⟩
              case round =>
                clear x0
                obtain ⟨k, m, hk, rfl, hm, HM, HO, HBK⟩ := hrel
                obtain ⟨Q, rfl⟩ : ∃ V, V = wr := ⟨_, rfl⟩
                by_cases hlt2 : k < all.length
                · obtain ⟨b5, off5, rfl, _, d0, d1, d2⟩ := (HSZ.out.on HBK.out).cl hlt2
                  have HFT := Lib.hid (filter_takeG pf all hlt2 default)
                  have k0 : (0 : Int) ≤ (k : Int) := by omega
                  have k1 : (k : Int) < (all.length : Int) := by omega
                  have hk1 : k + 1 ≤ all.length := hlt2
                  generalize all.getD k default = c0 at *
                  obtain ⟨ca, cb, cc⟩ := c0
                  simp only at d0 d1 d2
                  have HP := Lib.hid (HPF.out ⟨ca, cb, cc⟩)
                  simp only at HP
                  have hbQ := ba1 Q (.cells #[.int .i64 ca, .int .i64 cb, .int .u8 (cc : Nat)] 73)
                  have HC := Lib.hid (Bk.new Q 73 #[.int .i64 ca, .int .i64 cb, .int .u8 (cc : Nat)])
                  have HB1 := Lib.hid (HBK.out.trans (hbQ.mono HBK.out.size))
                  have HO1 := Lib.hid (HO.out.below hbQ)
                  clear hbQ HBK HO
                  go_upto_region 24 with fail
                  clear d0 d1 d2
                  generalize Q.heap.size = gc at *
                  generalize (Q.alloc _) = U at *
                  try clear Q
                  have y0 : U.cell? ⟨gc, 0, none⟩ = some (.int .i64 ca) := HC.out.cell 0
                  have y1 : U.cell? ⟨gc, 1, none⟩ = some (.int .i64 cb) := HC.out.cell 1
                  have y2 : U.cell? ⟨gc, 2, none⟩ = some (.int .u8 (cc : Nat)) := HC.out.cell 2
                  have x0 : U.cell? ⟨gx, 0, none⟩ = some (.int .i64 xb) := (HXN.out.below HB1.out HXN.out.lt).cell 0
                  cases hca : (ca != xb) with
                  | false =>
                    have HM2 : Hid (m = (all.take (k + 1)).filter pf) := Lib.hid (by rw [HFT.out, HP.out, hca, HM.out]; simp)
                    clear HP HFT HM HC
                    go_wp2_with fail
                    go_roundw
                    case rel => (first | exact ⟨k + 1, m, hk1, by go_num, by first | (simp; omega) | omega, HM2, HO1, HB1⟩ | ((repeat apply Exists.intro); (first | exact ⟨⟨k + 1, m, hk1, by go_num, by first | (simp; omega) | omega, HM2, HO1, HB1⟩, rfl⟩ | exact ⟨hk1, by go_num, by first | (simp; omega) | omega, HM2, HO1, HB1⟩)))
                    case measure => simp [intOf]; omega
                  | true =>
                    cases hcb : (cb != xb) with
                    | false =>
                      have HM2 : Hid (m = (all.take (k + 1)).filter pf) := Lib.hid (by rw [HFT.out, HP.out, hca, hcb, HM.out]; simp)
                      clear HP HFT HM HC
                      go_wp2_with fail
                      go_roundw
                      case rel => (first | exact ⟨k + 1, m, hk1, by go_num, by first | (simp; omega) | omega, HM2, HO1, HB1⟩ | ((repeat apply Exists.intro); (first | exact ⟨⟨k + 1, m, hk1, by go_num, by first | (simp; omega) | omega, HM2, HO1, HB1⟩, rfl⟩ | exact ⟨hk1, by go_num, by first | (simp; omega) | omega, HM2, HO1, HB1⟩)))
                      case measure => simp [intOf]; omega
                    | true =>
                      have HM2 : Hid (m ++ [⟨ca, cb, cc⟩] = (all.take (k + 1)).filter pf) := Lib.hid (by rw [HFT.out, HP.out, hca, hcb, HM.out]; rfl)
                      obtain ⟨ys, ho, hfl⟩ := HO1.out
                      have hb5s := HB1.out.size
                      clear HP HFT HM HC
                      go_wp2_with (at_builtin; (refine wpList_append1 el_cl rfl (.tmp 131) (.tmp 133) rfl Z.heap.size _ m.length ys rfl ho #[.int .i64 ca, .int .i64 cb, .int .u8 (cc : Nat)] _ rfl rfl rfl ?c1 ?c2 ?c3 ?_))
                      case c1 => unfold maxLen; omega
                      case c2 => omega
                      case c3 => omega
                      intro v' w3 hown' hgr hd3 hbel
                      have HBF := Lib.hid (HB1.out.trans hbel)
                      have HOF := Lib.hid (OwnT.append1 (T := tCl) (x := ⟨ca, cb, cc⟩) hfl (cs := clL ⟨ca, cb, cc⟩) rfl hown' hgr hd3)
                      clear hown' hgr hd3 hbel hfl ho
                      go_wp2
                      go_roundw
                      case rel => (first | exact ⟨k + 1, m ++ [⟨ca, cb, cc⟩], hk1, by go_num, by first | (simp; omega) | omega, HM2, HOF, HBF⟩ | ((repeat apply Exists.intro); (first | exact ⟨⟨k + 1, m ++ [⟨ca, cb, cc⟩], hk1, by go_num, by first | (simp; omega) | omega, HM2, HOF, HBF⟩, rfl⟩ | exact ⟨hk1, by go_num, by first | (simp; omega) | omega, HM2, HOF, HBF⟩)))
                      case measure => simp [intOf]; omega
                · obtain rfl : k = all.length := by omega
                  have hmL : m = LL := by rw [HM.out, HLD.out, List.take_length]
                  subst hmL
                  obtain ⟨A6, c6, rfl, _, _, hs6⟩ := HO.out.sl
                  have HBE := Lib.hid (HBN.out.trans (HBK.out.mono HBN.out.size))
                  have KSM := Lib.hid (sameCl_any A7 A6 c7 c6 m Q (HSL.out.on HBK.out) hs6 (by omega))
                  clear HM hs6 HO HLD HSL HSZ hlt2 hk
                  go_wp2_with fail
                  refine KSM.out.mono ?_
                  rintro e Q2 ⟨rfl, hb⟩
                  simp only
                  have HBN := Lib.hid (HBE.out.trans (hb.mono HBE.out.size))
                  clear hb KSM HBE
                  go_wp2_with fail
                  go_roundw
                  case rel => (first | exact ⟨a + 1, ha1, by go_num, HBN⟩ | ((repeat apply Exists.intro); (first | exact ⟨⟨a + 1, ha1, by go_num, HBN⟩, rfl⟩ | exact ⟨ha1, by go_num, HBN⟩)))
                  case measure => simp [intOf]; omega
        · obtain rfl : a = st.length := by omega
          have HE := Lib.hid ((HW.out.on HVU0.out).be)
          go_wp2_with fail
          go_ret
          exact ⟨rfl, HE.out⟩
end Go.Proofs.YtnbpecnddjpfbaaDoor
