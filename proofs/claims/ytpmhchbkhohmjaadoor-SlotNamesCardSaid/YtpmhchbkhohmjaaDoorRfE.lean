/-
  Walk of the reference of chapter 07: column.
-/
import Derived.Test.YtpmhchbkhohmjaaDoorRfP
namespace Go.Proofs.YtpmhchbkhohmjaaDoor
open Go.RowKit

set_option maxRecDepth 100000 in
set_option maxHeartbeats 4000000 in
theorem refColumn_any (c : Col) (A : Option Addr) (q : Nat) (w : World) (hp : SlT tInt w (Lt w.heap.size) A c.plugs) (hl : c.plugs.length ≤ 17592186043904) :
    Calls Tryd.prog 69 #[.agg (colL c A q).toArray] w (Ret w (.bool (colR c))) := by
  have hb0 := ba1 w (.cells (colL c A q).toArray 62)
  have KE := Lib.hid (Bk.new w 62 (colL c A q).toArray)
  have HS := Lib.hid (hp.on hb0)
  have HB0 := Lib.hid hb0
  clear hp hb0
  have HV : Hid (colR c = ((List.range c.plugs.length).all (plugR c) && limR c)) := Lib.hid rfl
  have HPR : Hid (∀ i, plugR c i = (!(decide (c.plugs.getD i 0 < 0) || decide (c.tiers ≤ c.plugs.getD i 0)) && !(decide (0 < i) && decide (c.plugs.getD i 0 ≤ c.plugs.getD (i - 1) 0)))) := Lib.hid fun _ => rfl
  have HLM : Hid (limR c = (withinB c.bay 0 39 && (withinB c.row 0 30 && (withinB c.tiers 1 10 && (withinB c.height 0 40000 && ((withinB c.k20 0 500000000 && (withinB c.k40 0 500000000 && withinB c.lash 0 1000000000000)) && (withinB c.x (-500000) 500000 && (withinB c.y (-500000) 500000 && withinB c.z (-500000) 500000)))))))) := Lib.hid rfl
  have HRS : Hid (∀ i, (List.range (i + 1)).all (plugR c) = ((List.range i).all (plugR c) && plugR c i)) := Lib.hid fun i => range_all_succ
  have HRF : Hid (∀ i, i < c.plugs.length → plugR c i = false → (List.range c.plugs.length).all (plugR c) = false) := Lib.hid fun i h1 h2 => range_all_false h1 h2
  generalize colR c = R at *
  generalize plugR c = pr at *
  generalize limR c = lim at *
  obtain ⟨xb, xr, xd, xt, xh, x2, x4, xl, xp, xx, xy, xz⟩ := c
  unfold colL at *
  simp only at *
  go_enter Tryd.func69, Tryd.ntmps69
  go_upto_region 1 with fail
  generalize hW : (w.alloc _) = W at *
  clear hW
  go_wp2_with fail
  go_loopw [3] (fun i wr => ∃ k : Nat, k ≤ xp.length ∧ i = .int .i64 k ∧ Hid ((List.range k).all pr = true ∧ Below W.heap.size W wr)) (fun i _ => xp.length - (intOf i).toNat)
  case atStart => exact ⟨0, Nat.zero_le _, rfl, Lib.hid (And.intro rfl (Below.refl _ _))⟩
  case round =>
    obtain ⟨k, hk, rfl, HB⟩ := hrel
    obtain ⟨V, rfl⟩ : ∃ V, V = wr := ⟨_, rfl⟩
    have e8 : V.cell? ⟨w.heap.size, 8, none⟩ = some (.slice A xp.length q) := (KE.out.below HB.out.2 KE.out.lt).cell 8
    by_cases hlt : k < xp.length
    · obtain ⟨b1, o1, rfl, _, a0⟩ := (HS.out.on HB.out.2).int hlt
      have e3 : V.cell? ⟨w.heap.size, 3, none⟩ = some (.int .i64 xt) := (KE.out.below HB.out.2 KE.out.lt).cell 3
      have i0 : (0 : Int) ≤ (k : Int) := by omega
      have i1 : (k : Int) < (xp.length : Int) := by omega
      have HPK := Lib.hid (HPR.out k)
      have HRSK := Lib.hid (HRS.out k)
      have HRFK := Lib.hid (HRF.out k hlt)
      have HA := Lib.hid HB.out.1
      have HBV := Lib.hid HB.out.2
      clear HB HRS HRF HPR
      by_cases hbad : xp.getD k 0 < 0 ∨ xt ≤ xp.getD k 0
      · have HY : Hid (R = false) := Lib.hid (by
          rw [HV.out, HRFK.out (by
            rw [HPK.out]
            rcases hbad with h | h
            · rw [decide_eq_true h]; simp
            · rw [decide_eq_true h]; simp)]; simp)
        have hc : xp.getD k 0 < 0 ∨ (¬ xp.getD k 0 < 0 ∧ xt ≤ xp.getD k 0) := by omega
        clear hbad HPK HRSK HRFK HA
        generalize xp.getD k 0 = x at *
        rcases hc with g | ⟨g, g2⟩
        · have d1 : decide (x < 0) = true := decide_eq_true g
          clear g
          go_upto_region 4 with fail
          have e8 : ∀ p : Gr V, p.W.cell? ⟨w.heap.size, 8, none⟩ = some (.slice (some ⟨b1, o1, none⟩) xp.length q) := Gr.cell e8
          have e3 : ∀ p : Gr V, p.W.cell? ⟨w.heap.size, 3, none⟩ = some (.int .i64 xt) := Gr.cell e3
          have a0 : ∀ p : Gr V, p.W.cell? ⟨b1, o1 + k, none⟩ = some (.int .i64 x) := Gr.cell a0
          refine wp_region_gr (by kernel_rfl) (by kernel_rfl) ?_
          repeat (go_big_quiet_step (fail))
          refine wpQuiet_nil ?_
          rintro Y ⟨⟨_, hbY⟩, rfl⟩
          have HE := Lib.hid (HB0.out.trans ((HBV.out.trans (hbY.mono HBV.out.size)).mono HB0.out.size))
          clear hbY
          go_wp2_with fail
          go_ret
          exact ⟨by rw [HY.out]; rfl, HE.out⟩
        · have d1 : decide (x < 0) = false := decide_eq_false g
          have d2 : decide (xt ≤ x) = true := decide_eq_true g2
          clear g g2
          go_upto_region 4 with fail
          have e8 : ∀ p : Gr V, p.W.cell? ⟨w.heap.size, 8, none⟩ = some (.slice (some ⟨b1, o1, none⟩) xp.length q) := Gr.cell e8
          have e3 : ∀ p : Gr V, p.W.cell? ⟨w.heap.size, 3, none⟩ = some (.int .i64 xt) := Gr.cell e3
          have a0 : ∀ p : Gr V, p.W.cell? ⟨b1, o1 + k, none⟩ = some (.int .i64 x) := Gr.cell a0
          refine wp_region_gr (by kernel_rfl) (by kernel_rfl) ?_
          repeat (go_big_quiet_step (fail))
          refine wpQuiet_nil ?_
          rintro Y ⟨⟨_, hbY⟩, rfl⟩
          have HE := Lib.hid (HB0.out.trans ((HBV.out.trans (hbY.mono HBV.out.size)).mono HB0.out.size))
          clear hbY
          go_wp2_with fail
          go_ret
          exact ⟨by rw [HY.out]; rfl, HE.out⟩
      · have g1 : ¬ xp.getD k 0 < 0 := fun h => hbad (.inl h)
        have g2 : ¬ xt ≤ xp.getD k 0 := fun h => hbad (.inr h)
        have d1 : decide (xp.getD k 0 < 0) = false := decide_eq_false g1
        have d2 : decide (xt ≤ xp.getD k 0) = false := decide_eq_false g2
        have HP2 : Hid (pr k = !(decide (0 < k) && decide (xp.getD k 0 ≤ xp.getD (k - 1) 0))) := Lib.hid (by rw [HPK.out, d1, d2]; rfl)
        clear hbad g1 g2 HPK
        cases k with
        | zero =>
          have HN : Hid ((List.range (0 + 1)).all pr = true ∧ Below W.heap.size W V) := Lib.hid ⟨by rw [HRSK.out, HA.out, HP2.out]; rfl, HBV.out⟩
          clear HRSK HRFK HA HP2
          simp only [Nat.add_zero] at a0
          generalize xp.getD 0 0 = x at *
          go_upto_region 4 with fail
          have e8 : ∀ p : Gr V, p.W.cell? ⟨w.heap.size, 8, none⟩ = some (.slice (some ⟨b1, o1, none⟩) xp.length q) := Gr.cell e8
          have e3 : ∀ p : Gr V, p.W.cell? ⟨w.heap.size, 3, none⟩ = some (.int .i64 xt) := Gr.cell e3
          have a0 : ∀ p : Gr V, p.W.cell? ⟨b1, o1, none⟩ = some (.int .i64 x) := Gr.cell a0
          refine wp_region_gr (by kernel_rfl) (by kernel_rfl) ?_
          repeat (go_big_quiet_step (fail))
          refine wpQuiet_nil ?_
          rintro Y ⟨⟨_, hbY⟩, rfl⟩
          have e8 : ∀ p : Gr Y, p.W.cell? ⟨w.heap.size, 8, none⟩ = some (.slice (some ⟨b1, o1, none⟩) xp.length q) := Gr.cell (e8 ⟨Y, hbY⟩)
          have e3 : ∀ p : Gr Y, p.W.cell? ⟨w.heap.size, 3, none⟩ = some (.int .i64 xt) := Gr.cell (e3 ⟨Y, hbY⟩)
          have a0 : ∀ p : Gr Y, p.W.cell? ⟨b1, o1, none⟩ = some (.int .i64 x) := Gr.cell (a0 ⟨Y, hbY⟩)
          have HN2 : Hid ((List.range (0 + 1)).all pr = true ∧ Below W.heap.size W Y) := Lib.hid ⟨HN.out.1, HN.out.2.trans (hbY.mono HN.out.2.size)⟩
          clear HN
          go_upto_region 6 with fail
          refine wp_region_gr (by kernel_rfl) (by kernel_rfl) ?_
          repeat (go_big_quiet_step (fail))
          refine wpQuiet_nil ?_
          rintro Z ⟨⟨_, hbZ⟩, rfl⟩
          have HN := Lib.hid (And.intro HN2.out.1 (HN2.out.2.trans (hbZ.mono HN2.out.2.size)))
          clear HN2 hbZ hbY
          go_wp2_with fail
          go_roundw
          case rel => first | exact ⟨0 + 1, by omega, by go_num, HN⟩ | ((repeat apply Exists.intro); (first | exact ⟨⟨0 + 1, by omega, by go_num, HN⟩, rfl⟩ | exact ⟨by omega, by go_num, HN⟩))
          case measure => simp [intOf]; omega
        | succ m =>
          have hm : m < xp.length := by omega
          obtain ⟨b2, o2, hA2, _, a9⟩ := (HS.out.on HBV.out).int hm
          injection hA2 with hA2
          injection hA2 with z1 z2
          subst z1 z2
          rw [Nat.add_sub_cancel] at HP2
          have s1 : IntKind.i64.wrap (((m + 1 : Nat) : Int) - 1) = (m : Int) := by rw [IntWalk.i64_in _ (by omega)]; omega
          have s2 : ((m : Int) + 1 - 1) = (m : Int) := by omega
          have i2 : (0 : Int) ≤ (m : Int) := by omega
          have i3 : (m : Int) < (xp.length : Int) := by omega
          have d0 : decide (0 < m + 1) = true := decide_eq_true (by omega)
          have d0' : decide ((0 : Int) < (m : Int) + 1) = true := decide_eq_true (by omega)
          have hpx : xp.getD (m + 1) 0 ≤ xp.getD m 0 ∨ ¬ xp.getD (m + 1) 0 ≤ xp.getD m 0 := Classical.em _
          generalize xp.getD (m + 1) 0 = x at *
          generalize xp.getD m 0 = y at *
          go_upto_region 4 with fail
          have e8 : ∀ p : Gr V, p.W.cell? ⟨w.heap.size, 8, none⟩ = some (.slice (some ⟨b1, o1, none⟩) xp.length q) := Gr.cell e8
          have e3 : ∀ p : Gr V, p.W.cell? ⟨w.heap.size, 3, none⟩ = some (.int .i64 xt) := Gr.cell e3
          have a0 : ∀ p : Gr V, p.W.cell? ⟨b1, o1 + (m + 1), none⟩ = some (.int .i64 x) := Gr.cell a0
          have a9 : ∀ p : Gr V, p.W.cell? ⟨b1, o1 + m, none⟩ = some (.int .i64 y) := Gr.cell a9
          refine wp_region_gr (by kernel_rfl) (by kernel_rfl) ?_
          repeat (go_big_quiet_step (fail))
          refine wpQuiet_nil ?_
          rintro Y ⟨⟨_, hbY⟩, rfl⟩
          have e8 : ∀ p : Gr Y, p.W.cell? ⟨w.heap.size, 8, none⟩ = some (.slice (some ⟨b1, o1, none⟩) xp.length q) := Gr.cell (e8 ⟨Y, hbY⟩)
          have e3 : ∀ p : Gr Y, p.W.cell? ⟨w.heap.size, 3, none⟩ = some (.int .i64 xt) := Gr.cell (e3 ⟨Y, hbY⟩)
          have a0 : ∀ p : Gr Y, p.W.cell? ⟨b1, o1 + (m + 1), none⟩ = some (.int .i64 x) := Gr.cell (a0 ⟨Y, hbY⟩)
          have a9 : ∀ p : Gr Y, p.W.cell? ⟨b1, o1 + m, none⟩ = some (.int .i64 y) := Gr.cell (a9 ⟨Y, hbY⟩)
          replace HBV := Lib.hid (HBV.out.trans (hbY.mono HBV.out.size))
          clear hbY
          rcases hpx with g | g
          · have d3 : decide (x ≤ y) = true := decide_eq_true g
            have HY : Hid (R = false) := Lib.hid (by rw [HV.out, HRFK.out (by rw [HP2.out, d0, d3]; rfl)]; rfl)
            clear g HP2 HRFK HRSK HA
            go_upto_region 6 with fail
            refine wp_region_gr (by kernel_rfl) (by kernel_rfl) ?_
            repeat (go_big_quiet_step (fail))
            refine wpQuiet_nil ?_
            rintro Z ⟨⟨_, hbZ⟩, rfl⟩
            have HE := Lib.hid (HB0.out.trans ((HBV.out.trans (hbZ.mono HBV.out.size)).mono HB0.out.size))
            clear hbZ
            go_wp2_with fail
            go_ret
            exact ⟨by rw [HY.out]; rfl, HE.out⟩
          · have d3 : decide (x ≤ y) = false := decide_eq_false g
            have HN1 : Hid ((List.range (m + 1 + 1)).all pr = true) := Lib.hid (by rw [HRSK.out, HA.out, HP2.out, d0, d3]; rfl)
            clear g HP2 HRFK HRSK HA
            go_upto_region 6 with fail
            refine wp_region_gr (by kernel_rfl) (by kernel_rfl) ?_
            repeat (go_big_quiet_step (fail))
            refine wpQuiet_nil ?_
            rintro Z ⟨⟨_, hbZ⟩, rfl⟩
            have HN := Lib.hid (And.intro HN1.out (HBV.out.trans (hbZ.mono HBV.out.size)))
            clear hbZ HN1
            go_wp2_with fail
            go_roundw
            case rel => first | exact ⟨m + 1 + 1, by omega, by go_num, HN⟩ | ((repeat apply Exists.intro); (first | exact ⟨⟨m + 1 + 1, by omega, by go_num, HN⟩, rfl⟩ | exact ⟨by omega, by go_num, HN⟩))
            case measure => simp [intOf]; omega
    · obtain rfl : k = xp.length := by omega
      have HRL : Hid (R = lim) := Lib.hid (by rw [HV.out, HB.out.1]; rfl)
      have HBV := Lib.hid HB.out.2
      have HE := Lib.hid (HB0.out.trans (HB.out.2.mono HB0.out.size))
      clear HB HV HPR HRS HRF
      have KV := KE.out.below HBV.out KE.out.lt
      have c0 : V.cell? ⟨w.heap.size, 0, none⟩ = some (.int .i64 xb) := KV.cell 0
      have c1 : V.cell? ⟨w.heap.size, 1, none⟩ = some (.int .i64 xr) := KV.cell 1
      have c2 : V.cell? ⟨w.heap.size, 2, none⟩ = some (.bool xd) := KV.cell 2
      have c3 : V.cell? ⟨w.heap.size, 3, none⟩ = some (.int .i64 xt) := KV.cell 3
      have c4 : V.cell? ⟨w.heap.size, 4, none⟩ = some (.int .i64 xh) := KV.cell 4
      have c5 : V.cell? ⟨w.heap.size, 5, none⟩ = some (.int .i64 x2) := KV.cell 5
      have c6 : V.cell? ⟨w.heap.size, 6, none⟩ = some (.int .i64 x4) := KV.cell 6
      have c7 : V.cell? ⟨w.heap.size, 7, none⟩ = some (.int .i64 xl) := KV.cell 7
      have c9 : V.cell? ⟨w.heap.size, 9, none⟩ = some (.int .i64 xx) := KV.cell 9
      have c10 : V.cell? ⟨w.heap.size, 10, none⟩ = some (.int .i64 xy) := KV.cell 10
      have c11 : V.cell? ⟨w.heap.size, 11, none⟩ = some (.int .i64 xz) := KV.cell 11
      clear KV KE HBV HS
      rw [HLM.out] at HRL
      clear HLM
      generalize hw1 : withinB xb 0 39 = w1 at *
      generalize hw2 : withinB xr 0 30 = w2 at *
      generalize hw3 : withinB xt 1 10 = w3 at *
      generalize hw4 : withinB xh 0 40000 = w4 at *
      generalize hw5 : withinB x2 0 500000000 = w5 at *
      generalize hw6 : withinB x4 0 500000000 = w6 at *
      generalize hw7 : withinB xl 0 1000000000000 = w7 at *
      generalize hw8 : withinB xx (-500000) 500000 = w8 at *
      generalize hw9 : withinB xy (-500000) 500000 = w9 at *
      generalize hw10 : withinB xz (-500000) 500000 = w10 at *
      go_upto_region 8 with fail
      go_cut [4] (fun v wx => v = .bool (w8 && (w9 && w10)) ∧ wx = V)
      case first =>
        clear hw1 hw2 hw3 hw4 hw5 hw6 hw7
        cases w8 with
        | false =>
          go_wp2_with (go_at_call 68; refine (within_any _ _ _ _).mono ?_; rintro e w' ⟨rfl, rfl⟩; simp only [hw8])
          go_meet
          exact ⟨by simp, rfl⟩
        | true =>
          cases w9 with
          | false =>
            go_wp2_with (go_at_call 68; refine (within_any _ _ _ _).mono ?_; rintro e w' ⟨rfl, rfl⟩; simp only [hw8, hw9])
            go_meet
            exact ⟨by simp, rfl⟩
          | true =>
            cases w10 with
            | false =>
              go_wp2_with (go_at_call 68; refine (within_any _ _ _ _).mono ?_; rintro e w' ⟨rfl, rfl⟩; simp only [hw8, hw9, hw10])
              go_meet
              exact ⟨by simp, rfl⟩
            | true =>
              go_wp2_with (go_at_call 68; refine (within_any _ _ _ _).mono ?_; rintro e w' ⟨rfl, rfl⟩; simp only [hw8, hw9, hw10])
              go_meet
              exact ⟨by simp, rfl⟩
      case rest =>
      obtain ⟨rfl, hwx⟩ := hcut
      have hwx' := hwx.symm
      clear hwx
      subst hwx'
      clear hw8 hw9 hw10
      generalize hp1 : (w8 && (w9 && w10)) = place at *
      clear hp1
      go_upto_region 9 with fail
      go_cut [5] (fun v wx => v = .bool (w5 && (w6 && w7)) ∧ wx = V)
      case first =>
        clear hw1 hw2 hw3 hw4
        cases w5 with
        | false =>
          go_wp2_with (go_at_call 68; refine (within_any _ _ _ _).mono ?_; rintro e w' ⟨rfl, rfl⟩; simp only [hw5])
          go_meet
          exact ⟨by simp, rfl⟩
        | true =>
          cases w6 with
          | false =>
            go_wp2_with (go_at_call 68; refine (within_any _ _ _ _).mono ?_; rintro e w' ⟨rfl, rfl⟩; simp only [hw5, hw6])
            go_meet
            exact ⟨by simp, rfl⟩
          | true =>
            cases w7 with
            | false =>
              go_wp2_with (go_at_call 68; refine (within_any _ _ _ _).mono ?_; rintro e w' ⟨rfl, rfl⟩; simp only [hw5, hw6, hw7])
              go_meet
              exact ⟨by simp, rfl⟩
            | true =>
              go_wp2_with (go_at_call 68; refine (within_any _ _ _ _).mono ?_; rintro e w' ⟨rfl, rfl⟩; simp only [hw5, hw6, hw7])
              go_meet
              exact ⟨by simp, rfl⟩
      case rest =>
      obtain ⟨rfl, hwx⟩ := hcut
      have hwx' := hwx.symm
      clear hwx
      subst hwx'
      clear hw5 hw6 hw7
      generalize hp2 : (w5 && (w6 && w7)) = load at *
      clear hp2
      cases w1 with
      | false =>
        have HQ : Hid (R = false) := Lib.hid (by rw [HRL.out]; simp)
        clear HRL
        go_wp2_with (go_at_call 68; refine (within_any _ _ _ _).mono ?_; rintro e w' ⟨rfl, rfl⟩; simp only [hw1])
        go_ret
        exact ⟨by rw [HQ.out]; first | rfl | simp, HE.out⟩
      | true =>
        cases w2 with
        | false =>
          have HQ : Hid (R = false) := Lib.hid (by rw [HRL.out]; simp)
          clear HRL
          go_wp2_with (go_at_call 68; refine (within_any _ _ _ _).mono ?_; rintro e w' ⟨rfl, rfl⟩; simp only [hw1, hw2])
          go_ret
          exact ⟨by rw [HQ.out]; first | rfl | simp, HE.out⟩
        | true =>
          cases w3 with
          | false =>
            have HQ : Hid (R = false) := Lib.hid (by rw [HRL.out]; simp)
            clear HRL
            go_wp2_with (go_at_call 68; refine (within_any _ _ _ _).mono ?_; rintro e w' ⟨rfl, rfl⟩; simp only [hw1, hw2, hw3])
            go_ret
            exact ⟨by rw [HQ.out]; first | rfl | simp, HE.out⟩
          | true =>
            cases w4 with
            | false =>
              have HQ : Hid (R = false) := Lib.hid (by rw [HRL.out]; simp)
              clear HRL
              go_wp2_with (go_at_call 68; refine (within_any _ _ _ _).mono ?_; rintro e w' ⟨rfl, rfl⟩; simp only [hw1, hw2, hw3, hw4])
              go_ret
              exact ⟨by rw [HQ.out]; first | rfl | simp, HE.out⟩
            | true =>
              cases load with
              | false =>
                have HQ : Hid (R = false) := Lib.hid (by rw [HRL.out]; simp)
                clear HRL
                go_wp2_with (go_at_call 68; refine (within_any _ _ _ _).mono ?_; rintro e w' ⟨rfl, rfl⟩; simp only [hw1, hw2, hw3, hw4])
                go_ret
                exact ⟨by rw [HQ.out]; first | rfl | simp, HE.out⟩
              | true =>
                have HQ : Hid (R = place) := Lib.hid (by rw [HRL.out]; simp)
                clear HRL
                go_wp2_with (go_at_call 68; refine (within_any _ _ _ _).mono ?_; rintro e w' ⟨rfl, rfl⟩; simp only [hw1, hw2, hw3, hw4])
                go_ret
                exact ⟨by rw [HQ.out]; first | rfl | simp, HE.out⟩
end Go.Proofs.YtpmhchbkhohmjaaDoor
