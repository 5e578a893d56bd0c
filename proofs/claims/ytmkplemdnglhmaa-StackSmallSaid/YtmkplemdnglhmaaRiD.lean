/-
  Walks of the reference of chapter 10: Room.
-/
import Derived.Test.YtmkplemdnglhmaaRiC
import Derived.Test.YtmkplemdnglhmaaStN
namespace Go.Proofs.Ytmkplemdnglhmaa
open Go.RowKit

set_option maxRecDepth 100000 in
set_option maxHeartbeats 16000000 in
theorem refRoom10_any (s : Shp) (h : Hd) (A : Option Addr) (c : Nat) (boxes : List Bx) (A2 : Option Addr) (c2 : Nat) (l : List Stw) (x : Slt) (w : World) (hkg : KgOK boxes) (htol : -1000000000000 ≤ s.m0 ∧ s.m0 ≤ 1000000000000)
    (hkc : ∀ c ∈ s.cols, (-1000000000000 ≤ c.k20 ∧ c.k20 ≤ 1000000000000) ∧ (-1000000000000 ≤ c.k40 ∧ c.k40 ≤ 1000000000000)) (hsh : ShpR w (Lt w.heap.size) s h) (hcl : s.cols.length ≤ 1000000) (hb : SlT tBx w (Lt w.heap.size) A boxes) (hbl : boxes.length ≤ 1000000) (hs : SlT tStw w (Lt w.heap.size) A2 l) (hl : l.length ≤ 1000)
    (ht : x.tier ≤ 9223372036854775807) (hti : ∀ y ∈ l, -9223372036854775808 ≤ y.slot.tier) :
    Calls Try.prog 24 #[.agg (shpA s h), .slice A boxes.length c, .slice A2 l.length c2, .agg (sltL x).toArray] w (Ret w (.int .i64 (roomF s boxes l x))) := by
  obtain ⟨R, hR⟩ : ∃ R, roomF s boxes l x = R := ⟨_, rfl⟩
  rw [hR]
  have HR := Lib.hid hR
  clear hR
  obtain ⟨xc, xt, xh⟩ := x
  have hb0 := ba2 w (.cells (shpA s h) 32) (.cells #[.int .i64 xc, .int .i64 xt, .int .u8 (xh : Nat)] 40)
  have KE := Lib.hid ((Bk.new w 32 (shpA s h)).alloc (.cells #[.int .i64 xc, .int .i64 xt, .int .u8 (xh : Nat)] 40))
  have KX := Lib.hid (Bk.nxt8 (w := w) (.cells (shpA s h) 32) 40 #[.int .i64 xc, .int .i64 xt, .int .u8 (xh : Nat)])
  have HB0 := Lib.hid hb0
  have HSH := Lib.hid (hsh.on hb0)
  have HBX := Lib.hid (hb.on hb0)
  have HST := Lib.hid (hs.on hb0)
  have HTI := Lib.hid hti
  have HKG := Lib.hid hkg
  have HKC0 := Lib.hid hkc
  clear hsh hb hs hti hkg hkc hb0
  simp only at ht
  unfold shpA at KE KX HB0 HSH HBX HST
  unfold shpA sltL
  simp only
  go_enter Try.func24, Try.ntmps24
  go_upto_region 1 with fail
  generalize ((w.alloc _).alloc _) = W at *
  have e0 : W.cell? ⟨w.heap.size, 0, none⟩ = some (.slice h.A1 s.cols.length h.c1) := KE.out.cell 0
  have x0 : W.cell? ⟨w.heap.size + 1, 0, none⟩ = some (.int .i64 xc) := KX.out.cell 0
  cases p1 : decide (xc < 0) with
  | true =>
    have HN : Hid (R = 0) := Lib.hid (by rw [← HR.out]; unfold roomF thereB; rw [decide_eq_false (by have := of_decide_eq_true p1; simp only; omega)]; rfl)
    clear HR
    go_wp2_with fail
    go_ret
    exact ⟨by rw [HN.out]; rfl, HB0.out⟩
  | false =>
    cases p2 : decide ((s.cols.length : Int) ≤ xc) with
    | true =>
      have HN : Hid (R = 0) := Lib.hid (by rw [← HR.out]; unfold roomF thereB; rw [decide_eq_false (by have := of_decide_eq_true p2; simp only; omega : ¬ (⟨xc, xt, xh⟩ : Slt).col < (s.cols.length : Int)), Bool.and_false]; rfl)
      clear HR
      go_wp2_with fail
      go_ret
      exact ⟨by rw [HN.out]; rfl, HB0.out⟩
    | false =>
      obtain ⟨k, rfl⟩ : ∃ k : Nat, xc = (k : Int) := ⟨xc.toNat, by have := of_decide_eq_false p1; omega⟩
      have hk : k < s.cols.length := by have := of_decide_eq_false p2; omega
      have HRF : Hid (R = maxI (room2 (s.cols.getD k default) (sumF boxes l (halfB k 1)) (sumF boxes l (halfB k 2)) (sumF boxes l (colB k)) (sumF boxes l (belowB ⟨(k : Int), xt, xh⟩)) s.m0 ⟨(k : Int), xt, xh⟩) 0) := Lib.hid (by
        rw [← HR.out]
        unfold roomF
        rw [if_pos (by unfold thereB; simp; omega)]
        rfl)
      clear HR
      have i0 : (0 : Int) ≤ (k : Int) := by omega
      have i1 : (k : Int) < (s.cols.length : Int) := by omega
      obtain ⟨b1, o1, cA, cq, hA, _, hcq, hcp, d0, d1, d2, d3, d4, d5, d6, d7, d8, d9, d10, d11⟩ := HSH.out.cols.col hk
      obtain ⟨⟨q1, q2⟩, q3, q4⟩ := HKC0.out _ (getD_memD hk default)
      have HA := Lib.hid hA
      rw [hA] at e0
      clear hA hcq hcp p2
      generalize s.cols.getD k default = cc at *
      obtain ⟨cb, cr, cd, ct, ch, c20, c40, cl, cp, cx, cy, cz⟩ := cc
      simp only at d0 d1 d2 d3 d4 d5 d6 d7 d8 d9 d10 d11 q1 q2 q3 q4
      have hbc := ba1 W (.cells #[.int .i64 cb, .int .i64 cr, .bool cd, .int .i64 ct, .int .i64 ch, .int .i64 c20, .int .i64 c40, .int .i64 cl, .slice cA cp.length cq, .int .i64 cx, .int .i64 cy, .int .i64 cz] 46)
      have KC := Lib.hid (Bk.new W 46 #[.int .i64 cb, .int .i64 cr, .bool cd, .int .i64 ct, .int .i64 ch, .int .i64 c20, .int .i64 c40, .int .i64 cl, .slice cA cp.length cq, .int .i64 cx, .int .i64 cy, .int .i64 cz])
      have KW := Lib.hid (refWeigh_any A c boxes A2 c2 l k (W.alloc (.cells #[.int .i64 cb, .int .i64 cr, .bool cd, .int .i64 ct, .int .i64 ch, .int .i64 c20, .int .i64 c40, .int .i64 cl, .slice cA cp.length cq, .int .i64 cx, .int .i64 cy, .int .i64 cz] 46)) HKG.out (HBX.out.on hbc) hbl (HST.out.on hbc) (by omega))
      have bd : ∀ p, -1000000000000000 ≤ sumF boxes l p ∧ sumF boxes l p ≤ 1000000000000000 := fun p => by
        have hbd := sum_bd2 (kgOf boxes p) 1000000000000 l (fun x _ => kg_bd HKG.out _ x)
        have hbe : sumF boxes l p = (l.map (kgOf boxes p)).sum := rfl
        rw [← hbe] at hbd
        omega
      obtain ⟨w1, w2⟩ := bd (halfB k 1)
      obtain ⟨w3, w4⟩ := bd (halfB k 2)
      obtain ⟨w5, w6⟩ := bd (colB k)
      obtain ⟨w7, w8⟩ := bd (belowB ⟨(k : Int), xt, xh⟩)
      clear bd
      go_upto_region 4 with fail
      obtain ⟨gc, hgc⟩ : ∃ gc, gc = W.heap.size := ⟨_, rfl⟩
      rw [← hgc] at KC ⊢
      have HBC := Lib.hid hbc
      have x0c : (W.alloc (.cells #[.int .i64 cb, .int .i64 cr, .bool cd, .int .i64 ct, .int .i64 ch, .int .i64 c20, .int .i64 c40, .int .i64 cl, .slice cA cp.length cq, .int .i64 cx, .int .i64 cy, .int .i64 cz] 46)).cell? ⟨w.heap.size + 1, 0, none⟩ = some (.int .i64 (k : Nat)) := (KX.out.below hbc KX.out.lt).cell 0
      clear hgc hbc e0 x0 d0 d1 d2 d3 d4 d5 d6 d7 d8 d9 d10 d11
      generalize (W.alloc _) = W1 at *
      have KB0 : Hid (∀ U : World, Below W.heap.size W U → Calls Try.prog 22 #[.slice A boxes.length c, .slice A2 l.length c2, .agg #[.int .i64 (k : Nat), .int .i64 xt, .int .u8 (xh : Nat)]] U (Ret U (.int .i64 (sumF boxes l (belowB ⟨(k : Int), xt, xh⟩))))) := Lib.hid fun U hU => refBelow_any A c boxes A2 c2 l ⟨(k : Int), xt, xh⟩ U HKG.out (HBX.out.on hU) hbl (HST.out.on hU) (by omega) ht HTI.out
      generalize hn1 : sumF boxes l (halfB k 1) = n1 at *
      generalize hn2 : sumF boxes l (halfB k 2) = n2 at *
      generalize hn3 : sumF boxes l (colB k) = n3 at *
      generalize hn4 : sumF boxes l (belowB ⟨(k : Int), xt, xh⟩) = bl at *
      clear hn1 hn2 hn3 hn4
      obtain ⟨tol, htl⟩ : ∃ tol, s.m0 = tol := ⟨_, rfl⟩
      rw [htl] at htol KE HRF
      clear htl
      obtain ⟨t3, t4⟩ := htol
      go_wp2_with fail
      refine KW.out.mono ?_
      rintro e W2 ⟨rfl, hb2⟩
      simp only
      clear x0c
      have HBW := Lib.hid (HBC.out.trans (hb2.mono HBC.out.size))
      have HKC := Lib.hid (KC.out.below hb2 KC.out.lt)
      have KB : Hid (∀ U : World, Below W2.heap.size W2 U → Calls Try.prog 22 #[.slice A boxes.length c, .slice A2 l.length c2, .agg #[.int .i64 (k : Nat), .int .i64 xt, .int .u8 (xh : Nat)]] U (Ret U (.int .i64 bl))) := Lib.hid fun U hU => KB0.out U (HBW.out.trans (hU.mono HBW.out.size))
      clear KW KC hb2 HBC KB0
      have s0 : IntKind.i64.wrap (c40 - n3) = c40 - n3 := IntWalk.i64_in _ (by omega)
      have cc5 : W2.cell? ⟨gc, 5, none⟩ = some (.int .i64 c20) := HKC.out.cell 5
      have cc6 : W2.cell? ⟨gc, 6, none⟩ = some (.int .i64 c40) := HKC.out.cell 6
      have x2w : W2.cell? ⟨w.heap.size + 1, 2, none⟩ = some (.int .u8 (xh : Nat)) := (KX.out.below HBW.out KX.out.lt).cell 2
      go_upto_region 6 with fail
      clear cc6
      cases q1 : ((xh : Int) == 1) with
      | true =>
        have q2 : ((xh : Int) == 2) = false := by simp at q1 ⊢; omega
        have s1 : IntKind.i64.wrap (c20 - n1) = c20 - n1 := IntWalk.i64_in _ (by omega)
        go_upto_if 55 with fail
        go_cut [13] (fun v wx => Hid (v = .int .i64 (minI (c40 - n3) (c20 - n1))) ∧ W2 = wx)
        case first =>
          cases r1 : decide (c20 - n1 < c40 - n3) with
          | true =>
            have HV : Hid (minI (c40 - n3) (c20 - n1) = c20 - n1) := Lib.hid (by unfold minI; rw [if_pos (of_decide_eq_true r1)])
            go_wp2_with fail
            go_meet
            exact ⟨Lib.hid (by rw [HV.out]), rfl⟩
          | false =>
            have HV : Hid (minI (c40 - n3) (c20 - n1) = c40 - n3) := Lib.hid (by unfold minI; rw [if_neg (of_decide_eq_false r1)])
            go_wp2_with fail
            go_meet
            exact ⟨Lib.hid (by rw [HV.out]), rfl⟩
        case rest =>
          obtain ⟨HV, rfl⟩ := hcut
          have HN : Hid (room1 ⟨cb, cr, cd, ct, ch, c20, c40, cl, cp, cx, cy, cz⟩ n1 n2 n3 xh = minI (c40 - n3) (c20 - n1)) := Lib.hid (by
            unfold room1
            rw [if_pos (by have := q1; simp at this; omega)])
          have hv := HV.out
          have hnb : -3000000000000000 ≤ minI (c40 - n3) (c20 - n1) ∧ minI (c40 - n3) (c20 - n1) ≤ 3000000000000000 := by unfold minI; split <;> omega
          subst hv
          clear HV
          generalize minI (c40 - n3) (c20 - n1) = n at *
          obtain ⟨m1, m2⟩ := hnb
          go_upto_region 10 with fail
          have s2 : IntKind.i64.wrap (bl + tol) = bl + tol := IntWalk.i64_in _ (by omega)
          have HEc := Lib.hid (KE.out.below HBW.out KE.out.lt)
          have HXc := Lib.hid (KX.out.below HBW.out KX.out.lt)
          have e9 : ∀ p : Gr W2, p.W.cell? ⟨w.heap.size, 9, none⟩ = some (.int .i64 tol) := Gr.cell (HEc.out.cell 9)
          have x0 : ∀ p : Gr W2, p.W.cell? ⟨w.heap.size + 1, 0, none⟩ = some (.int .i64 (k : Nat)) := Gr.cell (HXc.out.cell 0)
          have x1 : ∀ p : Gr W2, p.W.cell? ⟨w.heap.size + 1, 1, none⟩ = some (.int .i64 xt) := Gr.cell (HXc.out.cell 1)
          have x2 : ∀ p : Gr W2, p.W.cell? ⟨w.heap.size + 1, 2, none⟩ = some (.int .u8 (xh : Nat)) := Gr.cell (HXc.out.cell 2)
          refine wp_region_gr (by kernel_rfl) (by kernel_rfl) ?_
          repeat (go_big_quiet_step ((with_reducible exact Gr.call _ (fun V hV => KB.out V hV))))
          refine wpQuiet_nil ?_
          rintro Y ⟨⟨_, hbY⟩, rfl⟩
          have HBY := Lib.hid (HBW.out.trans (hbY.mono HBW.out.size))
          have HKY := Lib.hid (HKC.out.below hbY HKC.out.lt)
          have HE := Lib.hid (HB0.out.trans (HBY.out.mono HB0.out.size))
          have c2 : Y.cell? ⟨gc, 2, none⟩ = some (.bool cd) := HKY.out.cell 2
          have x1y : Y.cell? ⟨w.heap.size + 1, 1, none⟩ = some (.int .i64 xt) := x1 ⟨Y, hbY⟩
          clear hbY e9 x0 x1 x2 HEc HXc KB s2
          cases cd with
          | false =>
            have HM2 : Hid (room2 ⟨cb, cr, false, ct, ch, c20, c40, cl, cp, cx, cy, cz⟩ n1 n2 n3 bl tol ⟨(k : Int), xt, xh⟩ = n) := Lib.hid (by unfold room2; rw [HN.out]; simp)
            cases p9 : decide (n < 0) with
            | true =>
              have HZ : Hid (R = 0) := Lib.hid (by rw [HRF.out, HM2.out]; unfold maxI; rw [if_pos (of_decide_eq_true p9)])
              go_wp2_with fail
              go_ret
              exact ⟨by rw [HZ.out]; rfl, HE.out⟩
            | false =>
              have HZ : Hid (R = n) := Lib.hid (by rw [HRF.out, HM2.out]; unfold maxI; rw [if_neg (of_decide_eq_false p9)])
              go_wp2_with fail
              go_ret
              exact ⟨by rw [HZ.out]; rfl, HE.out⟩
          | true =>
            cases p1 : decide (0 < xt) with
            | false =>
              have HM2 : Hid (room2 ⟨cb, cr, true, ct, ch, c20, c40, cl, cp, cx, cy, cz⟩ n1 n2 n3 bl tol ⟨(k : Int), xt, xh⟩ = n) := Lib.hid (by unfold room2; rw [HN.out]; simp only [p1, Bool.and_false]; simp)
              cases p9 : decide (n < 0) with
              | true =>
                have HZ : Hid (R = 0) := Lib.hid (by rw [HRF.out, HM2.out]; unfold maxI; rw [if_pos (of_decide_eq_true p9)])
                go_wp2_with fail
                go_ret
                exact ⟨by rw [HZ.out]; rfl, HE.out⟩
              | false =>
                have HZ : Hid (R = n) := Lib.hid (by rw [HRF.out, HM2.out]; unfold maxI; rw [if_neg (of_decide_eq_false p9)])
                go_wp2_with fail
                go_ret
                exact ⟨by rw [HZ.out]; rfl, HE.out⟩
            | true =>
              cases p2 : decide (bl + tol < n) with
              | false =>
                have HM2 : Hid (room2 ⟨cb, cr, true, ct, ch, c20, c40, cl, cp, cx, cy, cz⟩ n1 n2 n3 bl tol ⟨(k : Int), xt, xh⟩ = n) := Lib.hid (by unfold room2; rw [HN.out]; simp only [p1, Bool.and_true, if_true]; unfold minI; rw [if_neg (of_decide_eq_false p2)])
                cases p9 : decide (n < 0) with
                | true =>
                  have HZ : Hid (R = 0) := Lib.hid (by rw [HRF.out, HM2.out]; unfold maxI; rw [if_pos (of_decide_eq_true p9)])
                  go_wp2_with fail
                  go_ret
                  exact ⟨by rw [HZ.out]; rfl, HE.out⟩
                | false =>
                  have HZ : Hid (R = n) := Lib.hid (by rw [HRF.out, HM2.out]; unfold maxI; rw [if_neg (of_decide_eq_false p9)])
                  go_wp2_with fail
                  go_ret
                  exact ⟨by rw [HZ.out]; rfl, HE.out⟩
              | true =>
                have HM2 : Hid (room2 ⟨cb, cr, true, ct, ch, c20, c40, cl, cp, cx, cy, cz⟩ n1 n2 n3 bl tol ⟨(k : Int), xt, xh⟩ = bl + tol) := Lib.hid (by unfold room2; rw [HN.out]; simp only [p1, Bool.and_true, if_true]; unfold minI; rw [if_pos (of_decide_eq_true p2)])
                cases p9 : decide ((bl + tol) < 0) with
                | true =>
                  have HZ : Hid (R = 0) := Lib.hid (by rw [HRF.out, HM2.out]; unfold maxI; rw [if_pos (of_decide_eq_true p9)])
                  go_wp2_with fail
                  go_ret
                  exact ⟨by rw [HZ.out]; rfl, HE.out⟩
                | false =>
                  have HZ : Hid (R = (bl + tol)) := Lib.hid (by rw [HRF.out, HM2.out]; unfold maxI; rw [if_neg (of_decide_eq_false p9)])
                  go_wp2_with fail
                  go_ret
                  exact ⟨by rw [HZ.out]; rfl, HE.out⟩
      | false =>
        cases q2 : ((xh : Int) == 2) with
        | true =>
          have s1 : IntKind.i64.wrap (c20 - n2) = c20 - n2 := IntWalk.i64_in _ (by omega)
          go_upto_if 70 with fail
          go_cut [13] (fun v wx => Hid (v = .int .i64 (minI (c40 - n3) (c20 - n2))) ∧ W2 = wx)
          case first =>
            cases r1 : decide (c20 - n2 < c40 - n3) with
            | true =>
              have HV : Hid (minI (c40 - n3) (c20 - n2) = c20 - n2) := Lib.hid (by unfold minI; rw [if_pos (of_decide_eq_true r1)])
              go_wp2_with fail
              go_meet
              exact ⟨Lib.hid (by rw [HV.out]), rfl⟩
            | false =>
              have HV : Hid (minI (c40 - n3) (c20 - n2) = c40 - n3) := Lib.hid (by unfold minI; rw [if_neg (of_decide_eq_false r1)])
              go_wp2_with fail
              go_meet
              exact ⟨Lib.hid (by rw [HV.out]), rfl⟩
          case rest =>
            obtain ⟨HV, rfl⟩ := hcut
            have HN : Hid (room1 ⟨cb, cr, cd, ct, ch, c20, c40, cl, cp, cx, cy, cz⟩ n1 n2 n3 xh = minI (c40 - n3) (c20 - n2)) := Lib.hid (by
              unfold room1
              rw [if_neg (by have := q1; simp at this; omega), if_pos (by have := q2; simp at this; omega)])
            have hv := HV.out
            have hnb : -3000000000000000 ≤ minI (c40 - n3) (c20 - n2) ∧ minI (c40 - n3) (c20 - n2) ≤ 3000000000000000 := by unfold minI; split <;> omega
            subst hv
            clear HV
            generalize minI (c40 - n3) (c20 - n2) = n at *
            obtain ⟨m1, m2⟩ := hnb
            go_upto_region 10 with fail
            have s2 : IntKind.i64.wrap (bl + tol) = bl + tol := IntWalk.i64_in _ (by omega)
            have HEc := Lib.hid (KE.out.below HBW.out KE.out.lt)
            have HXc := Lib.hid (KX.out.below HBW.out KX.out.lt)
            have e9 : ∀ p : Gr W2, p.W.cell? ⟨w.heap.size, 9, none⟩ = some (.int .i64 tol) := Gr.cell (HEc.out.cell 9)
            have x0 : ∀ p : Gr W2, p.W.cell? ⟨w.heap.size + 1, 0, none⟩ = some (.int .i64 (k : Nat)) := Gr.cell (HXc.out.cell 0)
            have x1 : ∀ p : Gr W2, p.W.cell? ⟨w.heap.size + 1, 1, none⟩ = some (.int .i64 xt) := Gr.cell (HXc.out.cell 1)
            have x2 : ∀ p : Gr W2, p.W.cell? ⟨w.heap.size + 1, 2, none⟩ = some (.int .u8 (xh : Nat)) := Gr.cell (HXc.out.cell 2)
            refine wp_region_gr (by kernel_rfl) (by kernel_rfl) ?_
            repeat (go_big_quiet_step ((with_reducible exact Gr.call _ (fun V hV => KB.out V hV))))
            refine wpQuiet_nil ?_
            rintro Y ⟨⟨_, hbY⟩, rfl⟩
            have HBY := Lib.hid (HBW.out.trans (hbY.mono HBW.out.size))
            have HKY := Lib.hid (HKC.out.below hbY HKC.out.lt)
            have HE := Lib.hid (HB0.out.trans (HBY.out.mono HB0.out.size))
            have c2 : Y.cell? ⟨gc, 2, none⟩ = some (.bool cd) := HKY.out.cell 2
            have x1y : Y.cell? ⟨w.heap.size + 1, 1, none⟩ = some (.int .i64 xt) := x1 ⟨Y, hbY⟩
            clear hbY e9 x0 x1 x2 HEc HXc KB s2
            cases cd with
            | false =>
              have HM2 : Hid (room2 ⟨cb, cr, false, ct, ch, c20, c40, cl, cp, cx, cy, cz⟩ n1 n2 n3 bl tol ⟨(k : Int), xt, xh⟩ = n) := Lib.hid (by unfold room2; rw [HN.out]; simp)
              cases p9 : decide (n < 0) with
              | true =>
                have HZ : Hid (R = 0) := Lib.hid (by rw [HRF.out, HM2.out]; unfold maxI; rw [if_pos (of_decide_eq_true p9)])
                go_wp2_with fail
                go_ret
                exact ⟨by rw [HZ.out]; rfl, HE.out⟩
              | false =>
                have HZ : Hid (R = n) := Lib.hid (by rw [HRF.out, HM2.out]; unfold maxI; rw [if_neg (of_decide_eq_false p9)])
                go_wp2_with fail
                go_ret
                exact ⟨by rw [HZ.out]; rfl, HE.out⟩
            | true =>
              cases p1 : decide (0 < xt) with
              | false =>
                have HM2 : Hid (room2 ⟨cb, cr, true, ct, ch, c20, c40, cl, cp, cx, cy, cz⟩ n1 n2 n3 bl tol ⟨(k : Int), xt, xh⟩ = n) := Lib.hid (by unfold room2; rw [HN.out]; simp only [p1, Bool.and_false]; simp)
                cases p9 : decide (n < 0) with
                | true =>
                  have HZ : Hid (R = 0) := Lib.hid (by rw [HRF.out, HM2.out]; unfold maxI; rw [if_pos (of_decide_eq_true p9)])
                  go_wp2_with fail
                  go_ret
                  exact ⟨by rw [HZ.out]; rfl, HE.out⟩
                | false =>
                  have HZ : Hid (R = n) := Lib.hid (by rw [HRF.out, HM2.out]; unfold maxI; rw [if_neg (of_decide_eq_false p9)])
                  go_wp2_with fail
                  go_ret
                  exact ⟨by rw [HZ.out]; rfl, HE.out⟩
              | true =>
                cases p2 : decide (bl + tol < n) with
                | false =>
                  have HM2 : Hid (room2 ⟨cb, cr, true, ct, ch, c20, c40, cl, cp, cx, cy, cz⟩ n1 n2 n3 bl tol ⟨(k : Int), xt, xh⟩ = n) := Lib.hid (by unfold room2; rw [HN.out]; simp only [p1, Bool.and_true, if_true]; unfold minI; rw [if_neg (of_decide_eq_false p2)])
                  cases p9 : decide (n < 0) with
                  | true =>
                    have HZ : Hid (R = 0) := Lib.hid (by rw [HRF.out, HM2.out]; unfold maxI; rw [if_pos (of_decide_eq_true p9)])
                    go_wp2_with fail
                    go_ret
                    exact ⟨by rw [HZ.out]; rfl, HE.out⟩
                  | false =>
                    have HZ : Hid (R = n) := Lib.hid (by rw [HRF.out, HM2.out]; unfold maxI; rw [if_neg (of_decide_eq_false p9)])
                    go_wp2_with fail
                    go_ret
                    exact ⟨by rw [HZ.out]; rfl, HE.out⟩
                | true =>
                  have HM2 : Hid (room2 ⟨cb, cr, true, ct, ch, c20, c40, cl, cp, cx, cy, cz⟩ n1 n2 n3 bl tol ⟨(k : Int), xt, xh⟩ = bl + tol) := Lib.hid (by unfold room2; rw [HN.out]; simp only [p1, Bool.and_true, if_true]; unfold minI; rw [if_pos (of_decide_eq_true p2)])
                  cases p9 : decide ((bl + tol) < 0) with
                  | true =>
                    have HZ : Hid (R = 0) := Lib.hid (by rw [HRF.out, HM2.out]; unfold maxI; rw [if_pos (of_decide_eq_true p9)])
                    go_wp2_with fail
                    go_ret
                    exact ⟨by rw [HZ.out]; rfl, HE.out⟩
                  | false =>
                    have HZ : Hid (R = (bl + tol)) := Lib.hid (by rw [HRF.out, HM2.out]; unfold maxI; rw [if_neg (of_decide_eq_false p9)])
                    go_wp2_with fail
                    go_ret
                    exact ⟨by rw [HZ.out]; rfl, HE.out⟩
        | false =>
          have HN : Hid (room1 ⟨cb, cr, cd, ct, ch, c20, c40, cl, cp, cx, cy, cz⟩ n1 n2 n3 xh = c40 - n3) := Lib.hid (by
            unfold room1
            rw [if_neg (by have := q1; simp at this; omega), if_neg (by have := q2; simp at this; omega)])
          obtain ⟨n, hn⟩ : ∃ n, n = c40 - n3 := ⟨_, rfl⟩
          have m1 : -3000000000000000 ≤ n := by omega
          have m2 : n ≤ 3000000000000000 := by omega
          rw [← hn] at HN ⊢
          clear hn
          go_upto_region 10 with fail
          have s2 : IntKind.i64.wrap (bl + tol) = bl + tol := IntWalk.i64_in _ (by omega)
          have HEc := Lib.hid (KE.out.below HBW.out KE.out.lt)
          have HXc := Lib.hid (KX.out.below HBW.out KX.out.lt)
          have e9 : ∀ p : Gr W2, p.W.cell? ⟨w.heap.size, 9, none⟩ = some (.int .i64 tol) := Gr.cell (HEc.out.cell 9)
          have x0 : ∀ p : Gr W2, p.W.cell? ⟨w.heap.size + 1, 0, none⟩ = some (.int .i64 (k : Nat)) := Gr.cell (HXc.out.cell 0)
          have x1 : ∀ p : Gr W2, p.W.cell? ⟨w.heap.size + 1, 1, none⟩ = some (.int .i64 xt) := Gr.cell (HXc.out.cell 1)
          have x2 : ∀ p : Gr W2, p.W.cell? ⟨w.heap.size + 1, 2, none⟩ = some (.int .u8 (xh : Nat)) := Gr.cell (HXc.out.cell 2)
          refine wp_region_gr (by kernel_rfl) (by kernel_rfl) ?_
          repeat (go_big_quiet_step ((with_reducible exact Gr.call _ (fun V hV => KB.out V hV))))
          refine wpQuiet_nil ?_
          rintro Y ⟨⟨_, hbY⟩, rfl⟩
          have HBY := Lib.hid (HBW.out.trans (hbY.mono HBW.out.size))
          have HKY := Lib.hid (HKC.out.below hbY HKC.out.lt)
          have HE := Lib.hid (HB0.out.trans (HBY.out.mono HB0.out.size))
          have c2 : Y.cell? ⟨gc, 2, none⟩ = some (.bool cd) := HKY.out.cell 2
          have x1y : Y.cell? ⟨w.heap.size + 1, 1, none⟩ = some (.int .i64 xt) := x1 ⟨Y, hbY⟩
          clear hbY e9 x0 x1 x2 HEc HXc KB s2
          cases cd with
          | false =>
            have HM2 : Hid (room2 ⟨cb, cr, false, ct, ch, c20, c40, cl, cp, cx, cy, cz⟩ n1 n2 n3 bl tol ⟨(k : Int), xt, xh⟩ = n) := Lib.hid (by unfold room2; rw [HN.out]; simp)
            cases p9 : decide (n < 0) with
            | true =>
              have HZ : Hid (R = 0) := Lib.hid (by rw [HRF.out, HM2.out]; unfold maxI; rw [if_pos (of_decide_eq_true p9)])
              go_wp2_with fail
              go_ret
              exact ⟨by rw [HZ.out]; rfl, HE.out⟩
            | false =>
              have HZ : Hid (R = n) := Lib.hid (by rw [HRF.out, HM2.out]; unfold maxI; rw [if_neg (of_decide_eq_false p9)])
              go_wp2_with fail
              go_ret
              exact ⟨by rw [HZ.out]; rfl, HE.out⟩
          | true =>
            cases p1 : decide (0 < xt) with
            | false =>
              have HM2 : Hid (room2 ⟨cb, cr, true, ct, ch, c20, c40, cl, cp, cx, cy, cz⟩ n1 n2 n3 bl tol ⟨(k : Int), xt, xh⟩ = n) := Lib.hid (by unfold room2; rw [HN.out]; simp only [p1, Bool.and_false]; simp)
              cases p9 : decide (n < 0) with
              | true =>
                have HZ : Hid (R = 0) := Lib.hid (by rw [HRF.out, HM2.out]; unfold maxI; rw [if_pos (of_decide_eq_true p9)])
                go_wp2_with fail
                go_ret
                exact ⟨by rw [HZ.out]; rfl, HE.out⟩
              | false =>
                have HZ : Hid (R = n) := Lib.hid (by rw [HRF.out, HM2.out]; unfold maxI; rw [if_neg (of_decide_eq_false p9)])
                go_wp2_with fail
                go_ret
                exact ⟨by rw [HZ.out]; rfl, HE.out⟩
            | true =>
              cases p2 : decide (bl + tol < n) with
              | false =>
                have HM2 : Hid (room2 ⟨cb, cr, true, ct, ch, c20, c40, cl, cp, cx, cy, cz⟩ n1 n2 n3 bl tol ⟨(k : Int), xt, xh⟩ = n) := Lib.hid (by unfold room2; rw [HN.out]; simp only [p1, Bool.and_true, if_true]; unfold minI; rw [if_neg (of_decide_eq_false p2)])
                cases p9 : decide (n < 0) with
                | true =>
                  have HZ : Hid (R = 0) := Lib.hid (by rw [HRF.out, HM2.out]; unfold maxI; rw [if_pos (of_decide_eq_true p9)])
                  go_wp2_with fail
                  go_ret
                  exact ⟨by rw [HZ.out]; rfl, HE.out⟩
                | false =>
                  have HZ : Hid (R = n) := Lib.hid (by rw [HRF.out, HM2.out]; unfold maxI; rw [if_neg (of_decide_eq_false p9)])
                  go_wp2_with fail
                  go_ret
                  exact ⟨by rw [HZ.out]; rfl, HE.out⟩
              | true =>
                have HM2 : Hid (room2 ⟨cb, cr, true, ct, ch, c20, c40, cl, cp, cx, cy, cz⟩ n1 n2 n3 bl tol ⟨(k : Int), xt, xh⟩ = bl + tol) := Lib.hid (by unfold room2; rw [HN.out]; simp only [p1, Bool.and_true, if_true]; unfold minI; rw [if_pos (of_decide_eq_true p2)])
                cases p9 : decide ((bl + tol) < 0) with
                | true =>
                  have HZ : Hid (R = 0) := Lib.hid (by rw [HRF.out, HM2.out]; unfold maxI; rw [if_pos (of_decide_eq_true p9)])
                  go_wp2_with fail
                  go_ret
                  exact ⟨by rw [HZ.out]; rfl, HE.out⟩
                | false =>
                  have HZ : Hid (R = (bl + tol)) := Lib.hid (by rw [HRF.out, HM2.out]; unfold maxI; rw [if_neg (of_decide_eq_false p9)])
                  go_wp2_with fail
                  go_ret
                  exact ⟨by rw [HZ.out]; rfl, HE.out⟩
end Go.Proofs.Ytmkplemdnglhmaa
