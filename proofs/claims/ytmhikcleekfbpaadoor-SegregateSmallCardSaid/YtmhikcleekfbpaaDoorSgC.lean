/-
  The walk of the third rule of package segregate.
-/
import Derived.Test.YtmhikcleekfbpaaDoorSgK
namespace Go.Proofs.YtmhikcleekfbpaaDoor
open Go.RowKit

set_option maxRecDepth 100000 in
set_option maxHeartbeats 8000000 in
theorem rules3_any (s : Shp) (h : Hd) (i j : Nat) (at_ bt : Int) (ah bh : Nat) (g : Nat) (w : World) (hk : Bk w g 32 (shpA s h)) (hs : ShpR w (Lt w.heap.size) s h) (hl : s.cols.length ≤ 1000000) (hr : ∀ c ∈ s.cols, I64 c.row) (hi : i < s.cols.length) (hj : j < s.cols.length) :
    Calls Tryd.prog 37 #[.agg #[.int .i64 (i : Nat), .int .i64 at_, .int .u8 (ah : Nat)], .agg #[.int .i64 (j : Nat), .int .i64 bt, .int .u8 (bh : Nat)], .pointer (some ⟨g, 0, none⟩)] w (Ret w (.bool (rule3 s i j))) := by
  have HV : Hid (rule3 s i j = (((i : Int) == (j : Int)) || ((besideF s i).any (fun y => (j : Int) == y) || ((s.cols.getD i default).bay == (s.cols.getD j default).bay && (s.cols.getD i default).row == (s.cols.getD j default).row)))) := Lib.hid rfl
  generalize rule3 s i j = R at *
  have hb0 := ba2 w (.cells #[.int .i64 (i : Nat), .int .i64 at_, .int .u8 (ah : Nat)] 37) (.cells #[.int .i64 (j : Nat), .int .i64 bt, .int .u8 (bh : Nat)] 37)
  have KX := Lib.hid ((Bk.new w 37 #[.int .i64 (i : Nat), .int .i64 at_, .int .u8 (ah : Nat)]).alloc (.cells #[.int .i64 (j : Nat), .int .i64 bt, .int .u8 (bh : Nat)] 37))
  have KY := Lib.hid (Bk.nxt14 (w := w) (.cells #[.int .i64 (i : Nat), .int .i64 at_, .int .u8 (ah : Nat)] 37) 37 #[.int .i64 (j : Nat), .int .i64 bt, .int .u8 (bh : Nat)])
  have KG := Lib.hid (hk.below hb0 hk.lt)
  have HS := Lib.hid (hs.on hb0)
  have HB0 := Lib.hid hb0
  clear hb0 hk hs
  unfold shpA at KG
  go_enter Tryd.func37, Tryd.ntmps37
  go_upto_region 1 with fail
  generalize (w.alloc _).alloc _ = W at *
  obtain ⟨b1, o1, Ap, p, hA, hb1, hp, hps, i0, i1, i2, i3, i4, i5, i6, i7, i8, i9, i10, i11⟩ := HS.out.cols.col hi
  obtain ⟨b2, o2, Aq, q, hA2, hb2, hq, hqs, j0, j1, j2, j3, j4, j5, j6, j7, j8, j9, j10, j11⟩ := HS.out.cols.col hj
  have hlb : b1 < W.heap.size := hb1
  have e0 : W.cell? ⟨g, 0, none⟩ = some (.slice (some ⟨b1, o1, none⟩) s.cols.length h.c1) := by
    have := KG.out.cell 0
    rw [this, ← hA]
    rfl
  have he : b2 = b1 ∧ o2 = o1 := by
    rw [hA] at hA2
    injection hA2 with hA2
    injection hA2 with h1 h2
    exact ⟨h1.symm, h2.symm⟩
  obtain ⟨rfl, rfl⟩ := he
  clear hA hA2 hps hqs hp hq hb1 hb2
  have x0 : W.cell? ⟨w.heap.size, 0, none⟩ = some (.int .i64 (i : Nat)) := KX.out.cell 0
  have y0 : W.cell? ⟨w.heap.size + 1, 0, none⟩ = some (.int .i64 (j : Nat)) := KY.out.cell 0
  have hlx : w.heap.size < W.heap.size := KX.out.lt
  have hly : w.heap.size + 1 < W.heap.size := KY.out.lt
  have hlg : g < W.heap.size := KG.out.lt
  have q0 : (0 : Int) ≤ (i : Int) := by omega
  have q1 : (i : Int) < (s.cols.length : Int) := by omega
  have q2 : (0 : Int) ≤ (j : Int) := by omega
  have q3 : (j : Int) < (s.cols.length : Int) := by omega
  have HX := Lib.hid (show ∃ x, s.cols.getD i default = x from ⟨_, rfl⟩)
  have HY := Lib.hid (show ∃ x, s.cols.getD j default = x from ⟨_, rfl⟩)
  have HBE := Lib.hid (fun (U : World) (hU : Below W.heap.size W U) => beside_any s h (i : Nat) U (HS.out.on hU) hl hr)
  have HBL : Hid ((besideF s (i : Nat)).length ≤ 1000000) := Lib.hid (by
    unfold besideF
    split
    · simp
    · exact Nat.le_trans (pick_len _ _) hl)
  generalize besideF s (i : Nat) = BL at *
  generalize s.cols.getD i default = cx at *
  generalize s.cols.getD j default = cy at *
  clear HX HY HS
  go_cut [6, 7, 8, 9, 10, 11, 12, 13, 14, 15, 16, 17, 18, 19] (fun v6 v7 _ _ _ _ _ _ _ _ _ _ _ _ wz => ∃ gx gy : Nat, v6 = .pointer (some ⟨gx, 0, none⟩) ∧ v7 = .pointer (some ⟨gy, 0, none⟩) ∧ Hid (Bk wz gx 35 #[(.int .i64 cx.bay), .int .i64 cx.row, .bool cx.deck, .int .i64 cx.tiers, .int .i64 cx.height, .int .i64 cx.k20, .int .i64 cx.k40, .int .i64 cx.lash, .slice Ap cx.plugs.length p, .int .i64 cx.x, .int .i64 cx.y, .int .i64 cx.z]) ∧ Hid (Bk wz gy 35 #[(.int .i64 cy.bay), .int .i64 cy.row, .bool cy.deck, .int .i64 cy.tiers, .int .i64 cy.height, .int .i64 cy.k20, .int .i64 cy.k40, .int .i64 cy.lash, .slice Aq cy.plugs.length q, .int .i64 cy.x, .int .i64 cy.y, .int .i64 cy.z]) ∧ Hid (Below W.heap.size W wz))
  case first =>
    go_region
    all_goals (go_wp2_with fail; go_meet; refine ⟨_, _, rfl, rfl, Lib.hid ?_, Lib.hid ?_, Lib.hid ?_⟩)
    all_goals (first | exact bk14a | exact bk14b | exact (Bk.new W _ _).alloc _ | exact Bk.at_ _ _ (by simp) | exact below_drewN (ba2 W _ _) 1 | exact ba2 W _ _)
  case rest =>
    obtain ⟨gx, gy, rfl, rfl, HKX, HKY, HBZ⟩ := hcut
    obtain ⟨Z, rfl⟩ : ∃ V, V = wc := ⟨_, rfl⟩
    clear i0 i1 i2 i3 i4 i5 i6 i7 i8 i9 i10 i11 j0 j1 j2 j3 j4 j5 j6 j7 j8 j9 j10 j11 x0 y0 e0 q0 q1 q2 q3
    have HBW := Lib.hid (HB0.out.trans (HBZ.out.mono HB0.out.size))
    have KGZ := Lib.hid (KG.out.below HBZ.out KG.out.lt)
    have KXZ := Lib.hid (KX.out.below HBZ.out KX.out.lt)
    have KYZ := Lib.hid (KY.out.below HBZ.out KY.out.lt)
    have KBE : Hid (∀ U : World, Below Z.heap.size Z U → Calls Tryd.prog 39 #[(.agg #[Value.slice h.A1 s.cols.length h.c1, Value.slice h.A2 s.covs.length h.c2, .int .i64 s.l0, .int .i64 s.l1, .int .i64 s.l2, .int .i64 s.l3, Value.slice h.A3 s.rows.length h.c3, Value.slice h.A4 s.frames.length h.c4, Value.slice h.A5 s.tanks.length h.c5, .int .i64 s.m0, .int .i64 s.m1, .int .i64 s.m2, .int .i64 s.m3]), .int .i64 (i : Nat)] U (fun e w' => ∃ A c, e = .returned (.slice A BL.length c) ∧ BL.length ≤ c ∧ SlT tInt w' (Lt w'.heap.size) A BL ∧ Below U.heap.size U w')) := Lib.hid fun U hU => by
      refine (HBE.out U (HBZ.out.trans (hU.mono HBZ.out.size))).mono ?_
      rintro e w' ⟨v, rfl, ho, hb⟩
      obtain ⟨A, c, rfl, hc, _, hs⟩ := ho.sl
      exact ⟨A, c, rfl, hc, hs, hb⟩
    have KCN : Hid (∀ (U : World) (A : Option Addr) (c : Nat), SlT tInt U (Lt U.heap.size) A BL → Calls Tryd.prog 38 #[.slice A BL.length c, .int .i64 (j : Nat)] U (Ret U (.bool (BL.any fun y => (j : Int) == y)))) := Lib.hid fun U A c hs =>
      (containsInt_any A c BL (j : Int) _ U hs HBL.out).mono fun e w' ⟨h1, h2⟩ => ⟨h1, by rw [← h2]; exact Below.refl _ _⟩
    clear HBE HBL HBZ KG KX KY
    have x0 : Z.cell? ⟨w.heap.size, 0, none⟩ = some (.int .i64 (i : Nat)) := KXZ.out.cell 0
    have y0 : Z.cell? ⟨w.heap.size + 1, 0, none⟩ = some (.int .i64 (j : Nat)) := KYZ.out.cell 0
    have cx0 : Z.cell? ⟨gx, 0, none⟩ = some (.int .i64 cx.bay) := HKX.out.cell 0
    have cx1 : Z.cell? ⟨gx, 1, none⟩ = some (.int .i64 cx.row) := HKX.out.cell 1
    have cy0 : Z.cell? ⟨gy, 0, none⟩ = some (.int .i64 cy.bay) := HKY.out.cell 0
    have cy1 : Z.cell? ⟨gy, 1, none⟩ = some (.int .i64 cy.row) := HKY.out.cell 1
    have e0 : Z.cell? ⟨g, 0, none⟩ = some (Value.slice h.A1 s.cols.length h.c1) := KGZ.out.cell 0
    have e1 : Z.cell? ⟨g, 1, none⟩ = some (Value.slice h.A2 s.covs.length h.c2) := KGZ.out.cell 1
    have e2 : Z.cell? ⟨g, 2, none⟩ = some (.int .i64 s.l0) := KGZ.out.cell 2
    have e3 : Z.cell? ⟨g, 3, none⟩ = some (.int .i64 s.l1) := KGZ.out.cell 3
    have e4 : Z.cell? ⟨g, 4, none⟩ = some (.int .i64 s.l2) := KGZ.out.cell 4
    have e5 : Z.cell? ⟨g, 5, none⟩ = some (.int .i64 s.l3) := KGZ.out.cell 5
    have e6 : Z.cell? ⟨g, 6, none⟩ = some (Value.slice h.A3 s.rows.length h.c3) := KGZ.out.cell 6
    have e7 : Z.cell? ⟨g, 7, none⟩ = some (Value.slice h.A4 s.frames.length h.c4) := KGZ.out.cell 7
    have e8 : Z.cell? ⟨g, 8, none⟩ = some (Value.slice h.A5 s.tanks.length h.c5) := KGZ.out.cell 8
    have e9 : Z.cell? ⟨g, 9, none⟩ = some (.int .i64 s.m0) := KGZ.out.cell 9
    have e10 : Z.cell? ⟨g, 10, none⟩ = some (.int .i64 s.m1) := KGZ.out.cell 10
    have e11 : Z.cell? ⟨g, 11, none⟩ = some (.int .i64 s.m2) := KGZ.out.cell 11
    have e12 : Z.cell? ⟨g, 12, none⟩ = some (.int .i64 s.m3) := KGZ.out.cell 12
    go_upto_region 2 with fail
    generalize hCN : (BL.any fun y => (j : Int) == y) = CN at *
    clear hCN
    cases hEQ : ((i : Int) == (j : Int)) with
    | true =>
      have HVV := Lib.hid (show R = true by rw [HV.out, hEQ]; rfl)
      replace HV := HVV
      clear HVV
      refine wp_region_ogG [.val 0 (.pointer (some ⟨w.heap.size, 0, none⟩)),
        .val 1 (.int .i64 (i : Nat)),
        .val 2 (.pointer (some ⟨w.heap.size + 1, 0, none⟩)),
        .val 3 (.int .i64 (j : Nat)),
        .val 4 (.bool true),
        .val 5 (.bool true),
        .val 6 undef,
        .val 7 undef,
        .val 8 undef,
        .val 9 undef,
        .val 10 undef,
        .val 11 undef,
        .val 12 undef,
        .val 13 (.bool true),
        .val 14 (.bool true),
        .val 15 undef,
        .val 16 undef,
        .val 17 undef,
        .val 18 undef,
        .val 19 undef,
        .val 20 undef,
        .val 21 undef,
        .val 22 undef,
        .val 23 undef,
        .val 24 undef,
        .val 25 undef,
        .val 26 undef,
        .val 27 (.bool true),
        .val 28 (.bool true)]
        [[], [0], [], [2], [1, 3], [4], [5], [5], [5], [5], [5], [5], [5], [5], [13], [14], [14], [14], [14], [14], [14], [20], [20], [20], [20], [20], [14], [14], [27]] [28] (Cb Z) (by kernel_rfl) (by kernel_rfl) (Cb.drew Z) ⟨?_, ?_, ?_, ?_, ?_, ?_, ?_, ?_, ?_, ?_, ?_, ?_, ?_, ?_, ?_, ?_, ?_, ?_, ?_, ?_, ?_, ?_, ?_, ?_, ?_, ?_, ?_, ?_, ?_, trivial⟩ ?_
      case refine_1 =>
        refine StepG.of rfl ?_
        refine StepL.up fun x V hV hu K Q hK => ?_
        clear hu
        rw [owp_eq]
        go_big_op
        exact hK _ _ (Below.refl _ _) rfl
      case refine_2 =>
        refine StepG.of rfl ?_
        refine StepL.up fun x V hV hu K Q hK => ?_
        have u0 : x 0 = _ := hu 0 (by decide)
        have fx0 := hV.cell x0
        clear hu
        simp only [putL, List.set_cons_zero, List.set_cons_succ] at hK ⊢
        rw [owp_eq]
        go_big_op
        exact hK _ _ (Below.refl _ _) rfl
      case refine_3 =>
        refine StepG.of rfl ?_
        refine StepL.up fun x V hV hu K Q hK => ?_
        clear hu
        simp only [putL, List.set_cons_zero, List.set_cons_succ] at hK ⊢
        rw [owp_eq]
        go_big_op
        exact hK _ _ (Below.refl _ _) rfl
      case refine_4 =>
        refine StepG.of rfl ?_
        refine StepL.up fun x V hV hu K Q hK => ?_
        have u2 : x 2 = _ := hu 2 (by decide)
        have fy0 := hV.cell y0
        clear hu
        simp only [putL, List.set_cons_zero, List.set_cons_succ] at hK ⊢
        rw [owp_eq]
        go_big_op
        exact hK _ _ (Below.refl _ _) rfl
      case refine_5 =>
        refine StepG.of rfl ?_
        refine StepL.up fun x V hV hu K Q hK => ?_
        have u1 : x 1 = _ := hu 1 (by decide)
        have u3 : x 3 = _ := hu 3 (by decide)
        clear hu
        simp only [putL, List.set_cons_zero, List.set_cons_succ] at hK ⊢
        rw [owp_eq]
        go_big_op
        exact hK _ _ (Below.refl _ _) rfl
      case refine_6 =>
        refine StepG.of rfl ?_
        refine StepL.up fun x V hV hu K Q hK => ?_
        have u4 : x 4 = _ := hu 4 (by decide)
        clear hu
        simp only [putL, List.set_cons_zero, List.set_cons_succ] at hK ⊢
        rw [owp_eq]
        go_big_op
        exact hK _ _ (Below.refl _ _) rfl
      case refine_7 =>
        exact StepG.no 5 false 25 (.bool true) rfl rfl (fun x => by simp only [putL, List.set_cons_zero, List.set_cons_succ]; rfl) rfl (fun x w h => h) (by simp) (fun x w => upd_same ..)
      case refine_8 =>
        exact StepG.no 5 false 25 (.bool true) rfl rfl (fun x => by simp only [putL, List.set_cons_zero, List.set_cons_succ]; rfl) rfl (fun x w h => h) (by simp) (fun x w => upd_same ..)
      case refine_9 =>
        exact StepG.no 5 false 25 (.bool true) rfl rfl (fun x => by simp only [putL, List.set_cons_zero, List.set_cons_succ]; rfl) rfl (fun x w h => h) (by simp) (fun x w => upd_same ..)
      case refine_10 =>
        exact StepG.no 5 false 25 (.bool true) rfl rfl (fun x => by simp only [putL, List.set_cons_zero, List.set_cons_succ]; rfl) rfl (fun x w h => h) (by simp) (fun x w => upd_same ..)
      case refine_11 =>
        exact StepG.no 5 false 25 (.bool true) rfl rfl (fun x => by simp only [putL, List.set_cons_zero, List.set_cons_succ]; rfl) rfl (fun x w h => h) (by simp) (fun x w => upd_same ..)
      case refine_12 =>
        exact StepG.no 5 false 25 (.bool true) rfl rfl (fun x => by simp only [putL, List.set_cons_zero, List.set_cons_succ]; rfl) rfl (fun x w h => h) (by simp) (fun x w => upd_same ..)
      case refine_13 =>
        exact StepG.no 5 false 25 (.bool true) rfl rfl (fun x => by simp only [putL, List.set_cons_zero, List.set_cons_succ]; rfl) rfl (fun x w h => h) (by simp) (fun x w => upd_same ..)
      case refine_14 =>
        refine StepG.of rfl ?_
        refine StepL.up fun x V hV hu K Q hK => ?_
        have u5 : x 5 = _ := hu 5 (by decide)
        clear hu
        simp only [putL, List.set_cons_zero, List.set_cons_succ] at hK ⊢
        rw [owp_eq]
        go_big_op
        exact hK _ _ (Below.refl _ _) rfl
      case refine_15 =>
        refine StepG.of rfl ?_
        refine StepL.up fun x V hV hu K Q hK => ?_
        have u13 : x 13 = _ := hu 13 (by decide)
        clear hu
        simp only [putL, List.set_cons_zero, List.set_cons_succ] at hK ⊢
        rw [owp_eq]
        go_big_op
        exact hK _ _ (Below.refl _ _) rfl
      case refine_16 =>
        exact StepG.no 14 false 34 (.bool true) rfl rfl (fun x => by simp only [putL, List.set_cons_zero, List.set_cons_succ]; rfl) rfl (fun x w h => h) (by simp) (fun x w => upd_same ..)
      case refine_17 =>
        exact StepG.no 14 false 34 (.bool true) rfl rfl (fun x => by simp only [putL, List.set_cons_zero, List.set_cons_succ]; rfl) rfl (fun x w h => h) (by simp) (fun x w => upd_same ..)
      case refine_18 =>
        exact StepG.no 14 false 34 (.bool true) rfl rfl (fun x => by simp only [putL, List.set_cons_zero, List.set_cons_succ]; rfl) rfl (fun x w h => h) (by simp) (fun x w => upd_same ..)
      case refine_19 =>
        exact StepG.no 14 false 34 (.bool true) rfl rfl (fun x => by simp only [putL, List.set_cons_zero, List.set_cons_succ]; rfl) rfl (fun x w h => h) (by simp) (fun x w => upd_same ..)
      case refine_20 =>
        exact StepG.no 14 false 34 (.bool true) rfl rfl (fun x => by simp only [putL, List.set_cons_zero, List.set_cons_succ]; rfl) rfl (fun x w h => h) (by simp) (fun x w => upd_same ..)
      case refine_21 =>
        exact StepG.no 14 false 34 (.bool true) rfl rfl (fun x => by simp only [putL, List.set_cons_zero, List.set_cons_succ]; rfl) rfl (fun x w h => h) (by simp) (fun x w => upd_same ..)
      case refine_22 =>
        exact StepG.no 20 true 40 (undef) rfl rfl (fun x => by simp only [putL, List.set_cons_zero, List.set_cons_succ]; rfl) rfl (fun x w h => h) (by simp [undef]) (fun x w => upd_same ..)
      case refine_23 =>
        exact StepG.no 20 true 40 (undef) rfl rfl (fun x => by simp only [putL, List.set_cons_zero, List.set_cons_succ]; rfl) rfl (fun x w h => h) (by simp [undef]) (fun x w => upd_same ..)
      case refine_24 =>
        exact StepG.no 20 true 40 (undef) rfl rfl (fun x => by simp only [putL, List.set_cons_zero, List.set_cons_succ]; rfl) rfl (fun x w h => h) (by simp [undef]) (fun x w => upd_same ..)
      case refine_25 =>
        exact StepG.no 20 true 40 (undef) rfl rfl (fun x => by simp only [putL, List.set_cons_zero, List.set_cons_succ]; rfl) rfl (fun x w h => h) (by simp [undef]) (fun x w => upd_same ..)
      case refine_26 =>
        exact StepG.no 20 true 40 (undef) rfl rfl (fun x => by simp only [putL, List.set_cons_zero, List.set_cons_succ]; rfl) rfl (fun x w h => h) (by simp [undef]) (fun x w => upd_same ..)
      case refine_27 =>
        exact StepG.no 14 false 34 (.bool true) rfl rfl (fun x => by simp only [putL, List.set_cons_zero, List.set_cons_succ]; rfl) rfl (fun x w h => h) (by simp) (fun x w => upd_same ..)
      case refine_28 =>
        refine StepG.of rfl ?_
        refine StepL.up fun x V hV hu K Q hK => ?_
        have u14 : x 14 = _ := hu 14 (by decide)
        clear hu
        simp only [putL, List.set_cons_zero, List.set_cons_succ] at hK ⊢
        rw [owp_eq]
        go_big_op
        exact hK _ _ (Below.refl _ _) rfl
      case refine_29 =>
        refine StepG.of rfl ?_
        refine StepL.up fun x V hV hu K Q hK => ?_
        have u27 : x 27 = _ := hu 27 (by decide)
        clear hu
        simp only [putL, List.set_cons_zero, List.set_cons_succ] at hK ⊢
        rw [owp_eq]
        go_big_op
        exact hK _ _ (Below.refl _ _) rfl
      case refine_30 =>
      refine fun x w' hC hx => ?_
      have hx28 : x 28 = _ := hx 28 (by decide) (by decide)
      clear hx
      simp only [layL, putL, List.set_cons_zero, List.set_cons_succ, hx28]
      have HE := Lib.hid (HBW.out.trans (hC.mono HBW.out.size))
      clear hC hx28 e0 e1 e2 e3 e4 e5 e6 e7 e8 e9 e10 e11 e12 x0 y0 cx0 cx1 cy0 cy1
      go_wp2_with fail
      go_ret
      exact ⟨by rw [HV.out]; rfl, HE.out⟩
    | false =>
      have HVV := Lib.hid (show R = (CN || (cx.bay == cy.bay && cx.row == cy.row)) by rw [HV.out, hEQ]; rfl)
      replace HV := HVV
      clear HVV
      cases CN with
      | true =>
        have HVV := Lib.hid (show R = true by rw [HV.out]; rfl)
        replace HV := HVV
        clear HVV
        refine wp_region_ogG [.val 0 (.pointer (some ⟨w.heap.size, 0, none⟩)),
          .val 1 (.int .i64 (i : Nat)),
          .val 2 (.pointer (some ⟨w.heap.size + 1, 0, none⟩)),
          .val 3 (.int .i64 (j : Nat)),
          .val 4 (.bool false),
          .val 5 (.bool false),
          .val 6 (.agg #[Value.slice h.A1 s.cols.length h.c1, Value.slice h.A2 s.covs.length h.c2, .int .i64 s.l0, .int .i64 s.l1, .int .i64 s.l2, .int .i64 s.l3, Value.slice h.A3 s.rows.length h.c3, Value.slice h.A4 s.frames.length h.c4, Value.slice h.A5 s.tanks.length h.c5, .int .i64 s.m0, .int .i64 s.m1, .int .i64 s.m2, .int .i64 s.m3]),
          .val 7 (.pointer (some ⟨w.heap.size, 0, none⟩)),
          .val 8 (.int .i64 (i : Nat)),
          .slT tInt 9 BL,
          .val 10 (.pointer (some ⟨w.heap.size + 1, 0, none⟩)),
          .val 11 (.int .i64 (j : Nat)),
          .val 12 (.bool true),
          .val 13 (.bool true),
          .val 14 (.bool true),
          .val 15 undef,
          .val 16 undef,
          .val 17 undef,
          .val 18 undef,
          .val 19 undef,
          .val 20 undef,
          .val 21 undef,
          .val 22 undef,
          .val 23 undef,
          .val 24 undef,
          .val 25 undef,
          .val 26 undef,
          .val 27 (.bool true),
          .val 28 (.bool true)]
          [[], [0], [], [2], [1, 3], [4], [5], [5], [5, 7], [5, 6, 8], [5], [5, 10], [5, 9, 11], [5, 12], [13], [14], [14], [14], [14], [14], [14], [20], [20], [20], [20], [20], [14], [14], [27]] [28] (Cb Z) (by kernel_rfl) (by kernel_rfl) (Cb.drew Z) ⟨?_, ?_, ?_, ?_, ?_, ?_, ?_, ?_, ?_, ?_, ?_, ?_, ?_, ?_, ?_, ?_, ?_, ?_, ?_, ?_, ?_, ?_, ?_, ?_, ?_, ?_, ?_, ?_, ?_, trivial⟩ ?_
        case refine_1 =>
          refine StepG.of rfl ?_
          refine StepL.up fun x V hV hu K Q hK => ?_
          clear hu
          rw [owp_eq]
          go_big_op
          exact hK _ _ (Below.refl _ _) rfl
        case refine_2 =>
          refine StepG.of rfl ?_
          refine StepL.up fun x V hV hu K Q hK => ?_
          have u0 : x 0 = _ := hu 0 (by decide)
          have fx0 := hV.cell x0
          clear hu
          simp only [putL, List.set_cons_zero, List.set_cons_succ] at hK ⊢
          rw [owp_eq]
          go_big_op
          exact hK _ _ (Below.refl _ _) rfl
        case refine_3 =>
          refine StepG.of rfl ?_
          refine StepL.up fun x V hV hu K Q hK => ?_
          clear hu
          simp only [putL, List.set_cons_zero, List.set_cons_succ] at hK ⊢
          rw [owp_eq]
          go_big_op
          exact hK _ _ (Below.refl _ _) rfl
        case refine_4 =>
          refine StepG.of rfl ?_
          refine StepL.up fun x V hV hu K Q hK => ?_
          have u2 : x 2 = _ := hu 2 (by decide)
          have fy0 := hV.cell y0
          clear hu
          simp only [putL, List.set_cons_zero, List.set_cons_succ] at hK ⊢
          rw [owp_eq]
          go_big_op
          exact hK _ _ (Below.refl _ _) rfl
        case refine_5 =>
          refine StepG.of rfl ?_
          refine StepL.up fun x V hV hu K Q hK => ?_
          have u1 : x 1 = _ := hu 1 (by decide)
          have u3 : x 3 = _ := hu 3 (by decide)
          clear hu
          simp only [putL, List.set_cons_zero, List.set_cons_succ] at hK ⊢
          rw [owp_eq]
          go_big_op
          exact hK _ _ (Below.refl _ _) rfl
        case refine_6 =>
          refine StepG.of rfl ?_
          refine StepL.up fun x V hV hu K Q hK => ?_
          have u4 : x 4 = _ := hu 4 (by decide)
          clear hu
          simp only [putL, List.set_cons_zero, List.set_cons_succ] at hK ⊢
          rw [owp_eq]
          go_big_op
          exact hK _ _ (Below.refl _ _) rfl
        case refine_7 =>
          refine StepG.yes 5 false 25 rfl rfl (fun x => by simp only [putL, List.set_cons_zero, List.set_cons_succ]; rfl) rfl (fun x w h => h) ?_
          refine StepL.up fun x V hV hu K Q hK => ?_
          have u5 : x 5 = _ := hu 5 (by decide)
          have fe0 := hV.cell e0
          have fe1 := hV.cell e1
          have fe2 := hV.cell e2
          have fe3 := hV.cell e3
          have fe4 := hV.cell e4
          have fe5 := hV.cell e5
          have fe6 := hV.cell e6
          have fe7 := hV.cell e7
          have fe8 := hV.cell e8
          have fe9 := hV.cell e9
          have fe10 := hV.cell e10
          have fe11 := hV.cell e11
          have fe12 := hV.cell e12
          clear hu
          simp only [putL, List.set_cons_zero, List.set_cons_succ] at hK ⊢
          rw [owp_eq]
          go_big_op
          exact hK _ _ (Below.refl _ _) rfl
        case refine_8 =>
          refine StepG.yes 5 false 25 rfl rfl (fun x => by simp only [putL, List.set_cons_zero, List.set_cons_succ]; rfl) rfl (fun x w h => h) ?_
          refine StepL.up fun x V hV hu K Q hK => ?_
          have u5 : x 5 = _ := hu 5 (by decide)
          clear hu
          simp only [putL, List.set_cons_zero, List.set_cons_succ] at hK ⊢
          rw [owp_eq]
          go_big_op
          exact hK _ _ (Below.refl _ _) rfl
        case refine_9 =>
          refine StepG.yes 5 false 25 rfl rfl (fun x => by simp only [putL, List.set_cons_zero, List.set_cons_succ]; rfl) rfl (fun x w h => h) ?_
          refine StepL.up fun x V hV hu K Q hK => ?_
          have u5 : x 5 = _ := hu 5 (by decide)
          have u7 : x 7 = _ := hu 7 (by decide)
          have fx0 := hV.cell x0
          clear hu
          simp only [putL, List.set_cons_zero, List.set_cons_succ] at hK ⊢
          rw [owp_eq]
          go_big_op
          exact hK _ _ (Below.refl _ _) rfl
        case refine_10 =>
          refine StepG.yes 5 false 25 rfl rfl (fun x => by simp only [putL, List.set_cons_zero, List.set_cons_succ]; rfl) rfl (fun x w h => h) ?_
          refine StepL.up fun x V hV hu K Q hK => ?_
          have u5 : x 5 = _ := hu 5 (by decide)
          have u6 : x 6 = _ := hu 6 (by decide)
          have u8 : x 8 = _ := hu 8 (by decide)
          clear hu
          simp only [putL, List.set_cons_zero, List.set_cons_succ] at hK ⊢
          rw [owp_eq]
          go_big_op
          refine (KBE.out V hV).mono ?_
          rintro e V' ⟨A9, c9, rfl, hc9, hs9, hb⟩
          exact hK _ _ hb ⟨A9, c9, rfl, hc9, hs9⟩
        case refine_11 =>
          refine StepG.yes 5 false 25 rfl rfl (fun x => by simp only [putL, List.set_cons_zero, List.set_cons_succ]; rfl) rfl (fun x w h => h) ?_
          refine StepL.up fun x V hV hu K Q hK => ?_
          have u5 : x 5 = _ := hu 5 (by decide)
          clear hu
          simp only [putL, List.set_cons_zero, List.set_cons_succ] at hK ⊢
          rw [owp_eq]
          go_big_op
          exact hK _ _ (Below.refl _ _) rfl
        case refine_12 =>
          refine StepG.yes 5 false 25 rfl rfl (fun x => by simp only [putL, List.set_cons_zero, List.set_cons_succ]; rfl) rfl (fun x w h => h) ?_
          refine StepL.up fun x V hV hu K Q hK => ?_
          have u5 : x 5 = _ := hu 5 (by decide)
          have u10 : x 10 = _ := hu 10 (by decide)
          have fy0 := hV.cell y0
          clear hu
          simp only [putL, List.set_cons_zero, List.set_cons_succ] at hK ⊢
          rw [owp_eq]
          go_big_op
          exact hK _ _ (Below.refl _ _) rfl
        case refine_13 =>
          refine StepG.yes 5 false 25 rfl rfl (fun x => by simp only [putL, List.set_cons_zero, List.set_cons_succ]; rfl) rfl (fun x w h => h) ?_
          refine StepL.up fun x V hV hu K Q hK => ?_
          have u5 : x 5 = _ := hu 5 (by decide)
          obtain ⟨A9, c9, u9, hc9, hs9⟩ := hu 9 (by decide)
          have u11 : x 11 = _ := hu 11 (by decide)
          clear hu
          simp only [putL, List.set_cons_zero, List.set_cons_succ] at hK ⊢
          rw [owp_eq]
          go_big_op
          refine (KCN.out V A9 c9 hs9).mono ?_
          rintro e V' ⟨rfl, hb⟩
          exact hK _ _ hb rfl
        case refine_14 =>
          refine StepG.of rfl ?_
          refine StepL.up fun x V hV hu K Q hK => ?_
          have u5 : x 5 = _ := hu 5 (by decide)
          have u12 : x 12 = _ := hu 12 (by decide)
          clear hu
          simp only [putL, List.set_cons_zero, List.set_cons_succ] at hK ⊢
          rw [owp_eq]
          go_big_op
          exact hK _ _ (Below.refl _ _) rfl
        case refine_15 =>
          refine StepG.of rfl ?_
          refine StepL.up fun x V hV hu K Q hK => ?_
          have u13 : x 13 = _ := hu 13 (by decide)
          clear hu
          simp only [putL, List.set_cons_zero, List.set_cons_succ] at hK ⊢
          rw [owp_eq]
          go_big_op
          exact hK _ _ (Below.refl _ _) rfl
        case refine_16 =>
          exact StepG.no 14 false 34 (.bool true) rfl rfl (fun x => by simp only [putL, List.set_cons_zero, List.set_cons_succ]; rfl) rfl (fun x w h => h) (by simp) (fun x w => upd_same ..)
        case refine_17 =>
          exact StepG.no 14 false 34 (.bool true) rfl rfl (fun x => by simp only [putL, List.set_cons_zero, List.set_cons_succ]; rfl) rfl (fun x w h => h) (by simp) (fun x w => upd_same ..)
        case refine_18 =>
          exact StepG.no 14 false 34 (.bool true) rfl rfl (fun x => by simp only [putL, List.set_cons_zero, List.set_cons_succ]; rfl) rfl (fun x w h => h) (by simp) (fun x w => upd_same ..)
        case refine_19 =>
          exact StepG.no 14 false 34 (.bool true) rfl rfl (fun x => by simp only [putL, List.set_cons_zero, List.set_cons_succ]; rfl) rfl (fun x w h => h) (by simp) (fun x w => upd_same ..)
        case refine_20 =>
          exact StepG.no 14 false 34 (.bool true) rfl rfl (fun x => by simp only [putL, List.set_cons_zero, List.set_cons_succ]; rfl) rfl (fun x w h => h) (by simp) (fun x w => upd_same ..)
        case refine_21 =>
          exact StepG.no 14 false 34 (.bool true) rfl rfl (fun x => by simp only [putL, List.set_cons_zero, List.set_cons_succ]; rfl) rfl (fun x w h => h) (by simp) (fun x w => upd_same ..)
        case refine_22 =>
          exact StepG.no 20 true 40 (undef) rfl rfl (fun x => by simp only [putL, List.set_cons_zero, List.set_cons_succ]; rfl) rfl (fun x w h => h) (by simp [undef]) (fun x w => upd_same ..)
        case refine_23 =>
          exact StepG.no 20 true 40 (undef) rfl rfl (fun x => by simp only [putL, List.set_cons_zero, List.set_cons_succ]; rfl) rfl (fun x w h => h) (by simp [undef]) (fun x w => upd_same ..)
        case refine_24 =>
          exact StepG.no 20 true 40 (undef) rfl rfl (fun x => by simp only [putL, List.set_cons_zero, List.set_cons_succ]; rfl) rfl (fun x w h => h) (by simp [undef]) (fun x w => upd_same ..)
        case refine_25 =>
          exact StepG.no 20 true 40 (undef) rfl rfl (fun x => by simp only [putL, List.set_cons_zero, List.set_cons_succ]; rfl) rfl (fun x w h => h) (by simp [undef]) (fun x w => upd_same ..)
        case refine_26 =>
          exact StepG.no 20 true 40 (undef) rfl rfl (fun x => by simp only [putL, List.set_cons_zero, List.set_cons_succ]; rfl) rfl (fun x w h => h) (by simp [undef]) (fun x w => upd_same ..)
        case refine_27 =>
          exact StepG.no 14 false 34 (.bool true) rfl rfl (fun x => by simp only [putL, List.set_cons_zero, List.set_cons_succ]; rfl) rfl (fun x w h => h) (by simp) (fun x w => upd_same ..)
        case refine_28 =>
          refine StepG.of rfl ?_
          refine StepL.up fun x V hV hu K Q hK => ?_
          have u14 : x 14 = _ := hu 14 (by decide)
          clear hu
          simp only [putL, List.set_cons_zero, List.set_cons_succ] at hK ⊢
          rw [owp_eq]
          go_big_op
          exact hK _ _ (Below.refl _ _) rfl
        case refine_29 =>
          refine StepG.of rfl ?_
          refine StepL.up fun x V hV hu K Q hK => ?_
          have u27 : x 27 = _ := hu 27 (by decide)
          clear hu
          simp only [putL, List.set_cons_zero, List.set_cons_succ] at hK ⊢
          rw [owp_eq]
          go_big_op
          exact hK _ _ (Below.refl _ _) rfl
        case refine_30 =>
        refine fun x w' hC hx => ?_
        have hx28 : x 28 = _ := hx 28 (by decide) (by decide)
        clear hx
        simp only [layL, putL, List.set_cons_zero, List.set_cons_succ, hx28]
        have HE := Lib.hid (HBW.out.trans (hC.mono HBW.out.size))
        clear hC hx28 e0 e1 e2 e3 e4 e5 e6 e7 e8 e9 e10 e11 e12 x0 y0 cx0 cx1 cy0 cy1
        go_wp2_with fail
        go_ret
        exact ⟨by rw [HV.out]; rfl, HE.out⟩
      | false =>
        cases hBY : (cx.bay == cy.bay) with
        | false =>
          have HVV := Lib.hid (show R = false by rw [HV.out, hBY]; rfl)
          replace HV := HVV
          clear HVV
          refine wp_region_ogG [.val 0 (.pointer (some ⟨w.heap.size, 0, none⟩)),
            .val 1 (.int .i64 (i : Nat)),
            .val 2 (.pointer (some ⟨w.heap.size + 1, 0, none⟩)),
            .val 3 (.int .i64 (j : Nat)),
            .val 4 (.bool false),
            .val 5 (.bool false),
            .val 6 (.agg #[Value.slice h.A1 s.cols.length h.c1, Value.slice h.A2 s.covs.length h.c2, .int .i64 s.l0, .int .i64 s.l1, .int .i64 s.l2, .int .i64 s.l3, Value.slice h.A3 s.rows.length h.c3, Value.slice h.A4 s.frames.length h.c4, Value.slice h.A5 s.tanks.length h.c5, .int .i64 s.m0, .int .i64 s.m1, .int .i64 s.m2, .int .i64 s.m3]),
            .val 7 (.pointer (some ⟨w.heap.size, 0, none⟩)),
            .val 8 (.int .i64 (i : Nat)),
            .slT tInt 9 BL,
            .val 10 (.pointer (some ⟨w.heap.size + 1, 0, none⟩)),
            .val 11 (.int .i64 (j : Nat)),
            .val 12 (.bool false),
            .val 13 (.bool false),
            .val 14 (.bool false),
            .val 15 (.pointer (some ⟨gx, 0, none⟩)),
            .val 16 (.int .i64 cx.bay),
            .val 17 (.pointer (some ⟨gy, 0, none⟩)),
            .val 18 (.int .i64 cy.bay),
            .val 19 (.bool false),
            .val 20 (.bool false),
            .val 21 undef,
            .val 22 undef,
            .val 23 undef,
            .val 24 undef,
            .val 25 undef,
            .val 26 (.bool false),
            .val 27 (.bool false),
            .val 28 (.bool false)]
            [[], [0], [], [2], [1, 3], [4], [5], [5], [5, 7], [5, 6, 8], [5], [5, 10], [5, 9, 11], [5, 12], [13], [14], [14, 15], [14], [14, 17], [14, 16, 18], [14, 19], [20], [20], [20], [20], [20], [14, 20], [14, 26], [27]] [28] (Cb Z) (by kernel_rfl) (by kernel_rfl) (Cb.drew Z) ⟨?_, ?_, ?_, ?_, ?_, ?_, ?_, ?_, ?_, ?_, ?_, ?_, ?_, ?_, ?_, ?_, ?_, ?_, ?_, ?_, ?_, ?_, ?_, ?_, ?_, ?_, ?_, ?_, ?_, trivial⟩ ?_
          case refine_1 =>
            refine StepG.of rfl ?_
            refine StepL.up fun x V hV hu K Q hK => ?_
            clear hu
            rw [owp_eq]
            go_big_op
            exact hK _ _ (Below.refl _ _) rfl
          case refine_2 =>
            refine StepG.of rfl ?_
            refine StepL.up fun x V hV hu K Q hK => ?_
            have u0 : x 0 = _ := hu 0 (by decide)
            have fx0 := hV.cell x0
            clear hu
            simp only [putL, List.set_cons_zero, List.set_cons_succ] at hK ⊢
            rw [owp_eq]
            go_big_op
            exact hK _ _ (Below.refl _ _) rfl
          case refine_3 =>
            refine StepG.of rfl ?_
            refine StepL.up fun x V hV hu K Q hK => ?_
            clear hu
            simp only [putL, List.set_cons_zero, List.set_cons_succ] at hK ⊢
            rw [owp_eq]
            go_big_op
            exact hK _ _ (Below.refl _ _) rfl
          case refine_4 =>
            refine StepG.of rfl ?_
            refine StepL.up fun x V hV hu K Q hK => ?_
            have u2 : x 2 = _ := hu 2 (by decide)
            have fy0 := hV.cell y0
            clear hu
            simp only [putL, List.set_cons_zero, List.set_cons_succ] at hK ⊢
            rw [owp_eq]
            go_big_op
            exact hK _ _ (Below.refl _ _) rfl
          case refine_5 =>
            refine StepG.of rfl ?_
            refine StepL.up fun x V hV hu K Q hK => ?_
            have u1 : x 1 = _ := hu 1 (by decide)
            have u3 : x 3 = _ := hu 3 (by decide)
            clear hu
            simp only [putL, List.set_cons_zero, List.set_cons_succ] at hK ⊢
            rw [owp_eq]
            go_big_op
            exact hK _ _ (Below.refl _ _) rfl
          case refine_6 =>
            refine StepG.of rfl ?_
            refine StepL.up fun x V hV hu K Q hK => ?_
            have u4 : x 4 = _ := hu 4 (by decide)
            clear hu
            simp only [putL, List.set_cons_zero, List.set_cons_succ] at hK ⊢
            rw [owp_eq]
            go_big_op
            exact hK _ _ (Below.refl _ _) rfl
          case refine_7 =>
            refine StepG.yes 5 false 25 rfl rfl (fun x => by simp only [putL, List.set_cons_zero, List.set_cons_succ]; rfl) rfl (fun x w h => h) ?_
            refine StepL.up fun x V hV hu K Q hK => ?_
            have u5 : x 5 = _ := hu 5 (by decide)
            have fe0 := hV.cell e0
            have fe1 := hV.cell e1
            have fe2 := hV.cell e2
            have fe3 := hV.cell e3
            have fe4 := hV.cell e4
            have fe5 := hV.cell e5
            have fe6 := hV.cell e6
            have fe7 := hV.cell e7
            have fe8 := hV.cell e8
            have fe9 := hV.cell e9
            have fe10 := hV.cell e10
            have fe11 := hV.cell e11
            have fe12 := hV.cell e12
            clear hu
            simp only [putL, List.set_cons_zero, List.set_cons_succ] at hK ⊢
            rw [owp_eq]
            go_big_op
            exact hK _ _ (Below.refl _ _) rfl
          case refine_8 =>
            refine StepG.yes 5 false 25 rfl rfl (fun x => by simp only [putL, List.set_cons_zero, List.set_cons_succ]; rfl) rfl (fun x w h => h) ?_
            refine StepL.up fun x V hV hu K Q hK => ?_
            have u5 : x 5 = _ := hu 5 (by decide)
            clear hu
            simp only [putL, List.set_cons_zero, List.set_cons_succ] at hK ⊢
            rw [owp_eq]
            go_big_op
            exact hK _ _ (Below.refl _ _) rfl
          case refine_9 =>
            refine StepG.yes 5 false 25 rfl rfl (fun x => by simp only [putL, List.set_cons_zero, List.set_cons_succ]; rfl) rfl (fun x w h => h) ?_
            refine StepL.up fun x V hV hu K Q hK => ?_
            have u5 : x 5 = _ := hu 5 (by decide)
            have u7 : x 7 = _ := hu 7 (by decide)
            have fx0 := hV.cell x0
            clear hu
            simp only [putL, List.set_cons_zero, List.set_cons_succ] at hK ⊢
            rw [owp_eq]
            go_big_op
            exact hK _ _ (Below.refl _ _) rfl
          case refine_10 =>
            refine StepG.yes 5 false 25 rfl rfl (fun x => by simp only [putL, List.set_cons_zero, List.set_cons_succ]; rfl) rfl (fun x w h => h) ?_
            refine StepL.up fun x V hV hu K Q hK => ?_
            have u5 : x 5 = _ := hu 5 (by decide)
            have u6 : x 6 = _ := hu 6 (by decide)
            have u8 : x 8 = _ := hu 8 (by decide)
            clear hu
            simp only [putL, List.set_cons_zero, List.set_cons_succ] at hK ⊢
            rw [owp_eq]
            go_big_op
            refine (KBE.out V hV).mono ?_
            rintro e V' ⟨A9, c9, rfl, hc9, hs9, hb⟩
            exact hK _ _ hb ⟨A9, c9, rfl, hc9, hs9⟩
          case refine_11 =>
            refine StepG.yes 5 false 25 rfl rfl (fun x => by simp only [putL, List.set_cons_zero, List.set_cons_succ]; rfl) rfl (fun x w h => h) ?_
            refine StepL.up fun x V hV hu K Q hK => ?_
            have u5 : x 5 = _ := hu 5 (by decide)
            clear hu
            simp only [putL, List.set_cons_zero, List.set_cons_succ] at hK ⊢
            rw [owp_eq]
            go_big_op
            exact hK _ _ (Below.refl _ _) rfl
          case refine_12 =>
            refine StepG.yes 5 false 25 rfl rfl (fun x => by simp only [putL, List.set_cons_zero, List.set_cons_succ]; rfl) rfl (fun x w h => h) ?_
            refine StepL.up fun x V hV hu K Q hK => ?_
            have u5 : x 5 = _ := hu 5 (by decide)
            have u10 : x 10 = _ := hu 10 (by decide)
            have fy0 := hV.cell y0
            clear hu
            simp only [putL, List.set_cons_zero, List.set_cons_succ] at hK ⊢
            rw [owp_eq]
            go_big_op
            exact hK _ _ (Below.refl _ _) rfl
          case refine_13 =>
            refine StepG.yes 5 false 25 rfl rfl (fun x => by simp only [putL, List.set_cons_zero, List.set_cons_succ]; rfl) rfl (fun x w h => h) ?_
            refine StepL.up fun x V hV hu K Q hK => ?_
            have u5 : x 5 = _ := hu 5 (by decide)
            obtain ⟨A9, c9, u9, hc9, hs9⟩ := hu 9 (by decide)
            have u11 : x 11 = _ := hu 11 (by decide)
            clear hu
            simp only [putL, List.set_cons_zero, List.set_cons_succ] at hK ⊢
            rw [owp_eq]
            go_big_op
            refine (KCN.out V A9 c9 hs9).mono ?_
            rintro e V' ⟨rfl, hb⟩
            exact hK _ _ hb rfl
          case refine_14 =>
            refine StepG.of rfl ?_
            refine StepL.up fun x V hV hu K Q hK => ?_
            have u5 : x 5 = _ := hu 5 (by decide)
            have u12 : x 12 = _ := hu 12 (by decide)
            clear hu
            simp only [putL, List.set_cons_zero, List.set_cons_succ] at hK ⊢
            rw [owp_eq]
            go_big_op
            exact hK _ _ (Below.refl _ _) rfl
          case refine_15 =>
            refine StepG.of rfl ?_
            refine StepL.up fun x V hV hu K Q hK => ?_
            have u13 : x 13 = _ := hu 13 (by decide)
            clear hu
            simp only [putL, List.set_cons_zero, List.set_cons_succ] at hK ⊢
            rw [owp_eq]
            go_big_op
            exact hK _ _ (Below.refl _ _) rfl
          case refine_16 =>
            refine StepG.yes 14 false 34 rfl rfl (fun x => by simp only [putL, List.set_cons_zero, List.set_cons_succ]; rfl) rfl (fun x w h => h) ?_
            refine StepL.up fun x V hV hu K Q hK => ?_
            have u14 : x 14 = _ := hu 14 (by decide)
            clear hu
            simp only [putL, List.set_cons_zero, List.set_cons_succ] at hK ⊢
            rw [owp_eq]
            go_big_op
            exact hK _ _ (Below.refl _ _) rfl
          case refine_17 =>
            refine StepG.yes 14 false 34 rfl rfl (fun x => by simp only [putL, List.set_cons_zero, List.set_cons_succ]; rfl) rfl (fun x w h => h) ?_
            refine StepL.up fun x V hV hu K Q hK => ?_
            have u14 : x 14 = _ := hu 14 (by decide)
            have u15 : x 15 = _ := hu 15 (by decide)
            have fcx0 := hV.cell cx0
            clear hu
            simp only [putL, List.set_cons_zero, List.set_cons_succ] at hK ⊢
            rw [owp_eq]
            go_big_op
            exact hK _ _ (Below.refl _ _) rfl
          case refine_18 =>
            refine StepG.yes 14 false 34 rfl rfl (fun x => by simp only [putL, List.set_cons_zero, List.set_cons_succ]; rfl) rfl (fun x w h => h) ?_
            refine StepL.up fun x V hV hu K Q hK => ?_
            have u14 : x 14 = _ := hu 14 (by decide)
            clear hu
            simp only [putL, List.set_cons_zero, List.set_cons_succ] at hK ⊢
            rw [owp_eq]
            go_big_op
            exact hK _ _ (Below.refl _ _) rfl
          case refine_19 =>
            refine StepG.yes 14 false 34 rfl rfl (fun x => by simp only [putL, List.set_cons_zero, List.set_cons_succ]; rfl) rfl (fun x w h => h) ?_
            refine StepL.up fun x V hV hu K Q hK => ?_
            have u14 : x 14 = _ := hu 14 (by decide)
            have u17 : x 17 = _ := hu 17 (by decide)
            have fcy0 := hV.cell cy0
            clear hu
            simp only [putL, List.set_cons_zero, List.set_cons_succ] at hK ⊢
            rw [owp_eq]
            go_big_op
            exact hK _ _ (Below.refl _ _) rfl
          case refine_20 =>
            refine StepG.yes 14 false 34 rfl rfl (fun x => by simp only [putL, List.set_cons_zero, List.set_cons_succ]; rfl) rfl (fun x w h => h) ?_
            refine StepL.up fun x V hV hu K Q hK => ?_
            have u14 : x 14 = _ := hu 14 (by decide)
            have u16 : x 16 = _ := hu 16 (by decide)
            have u18 : x 18 = _ := hu 18 (by decide)
            clear hu
            simp only [putL, List.set_cons_zero, List.set_cons_succ] at hK ⊢
            rw [owp_eq]
            go_big_op
            exact hK _ _ (Below.refl _ _) rfl
          case refine_21 =>
            refine StepG.yes 14 false 34 rfl rfl (fun x => by simp only [putL, List.set_cons_zero, List.set_cons_succ]; rfl) rfl (fun x w h => h) ?_
            refine StepL.up fun x V hV hu K Q hK => ?_
            have u14 : x 14 = _ := hu 14 (by decide)
            have u19 : x 19 = _ := hu 19 (by decide)
            clear hu
            simp only [putL, List.set_cons_zero, List.set_cons_succ] at hK ⊢
            rw [owp_eq]
            go_big_op
            exact hK _ _ (Below.refl _ _) rfl
          case refine_22 =>
            exact StepG.no 20 true 40 (.bool false) rfl rfl (fun x => by simp only [putL, List.set_cons_zero, List.set_cons_succ]; rfl) rfl (fun x w h => h) (by simp) (fun x w => upd_same ..)
          case refine_23 =>
            exact StepG.no 20 true 40 (.bool false) rfl rfl (fun x => by simp only [putL, List.set_cons_zero, List.set_cons_succ]; rfl) rfl (fun x w h => h) (by simp) (fun x w => upd_same ..)
          case refine_24 =>
            exact StepG.no 20 true 40 (.bool false) rfl rfl (fun x => by simp only [putL, List.set_cons_zero, List.set_cons_succ]; rfl) rfl (fun x w h => h) (by simp) (fun x w => upd_same ..)
          case refine_25 =>
            exact StepG.no 20 true 40 (.bool false) rfl rfl (fun x => by simp only [putL, List.set_cons_zero, List.set_cons_succ]; rfl) rfl (fun x w h => h) (by simp) (fun x w => upd_same ..)
          case refine_26 =>
            exact StepG.no 20 true 40 (.bool false) rfl rfl (fun x => by simp only [putL, List.set_cons_zero, List.set_cons_succ]; rfl) rfl (fun x w h => h) (by simp) (fun x w => upd_same ..)
          case refine_27 =>
            refine StepG.yes 14 false 34 rfl rfl (fun x => by simp only [putL, List.set_cons_zero, List.set_cons_succ]; rfl) rfl (fun x w h => h) ?_
            refine StepL.up fun x V hV hu K Q hK => ?_
            have u14 : x 14 = _ := hu 14 (by decide)
            have u20 : x 20 = _ := hu 20 (by decide)
            clear hu
            simp only [putL, List.set_cons_zero, List.set_cons_succ] at hK ⊢
            rw [owp_eq]
            go_big_op
            exact hK _ _ (Below.refl _ _) rfl
          case refine_28 =>
            refine StepG.of rfl ?_
            refine StepL.up fun x V hV hu K Q hK => ?_
            have u14 : x 14 = _ := hu 14 (by decide)
            have u26 : x 26 = _ := hu 26 (by decide)
            clear hu
            simp only [putL, List.set_cons_zero, List.set_cons_succ] at hK ⊢
            rw [owp_eq]
            go_big_op
            exact hK _ _ (Below.refl _ _) rfl
          case refine_29 =>
            refine StepG.of rfl ?_
            refine StepL.up fun x V hV hu K Q hK => ?_
            have u27 : x 27 = _ := hu 27 (by decide)
            clear hu
            simp only [putL, List.set_cons_zero, List.set_cons_succ] at hK ⊢
            rw [owp_eq]
            go_big_op
            exact hK _ _ (Below.refl _ _) rfl
          case refine_30 =>
          refine fun x w' hC hx => ?_
          have hx28 : x 28 = _ := hx 28 (by decide) (by decide)
          clear hx
          simp only [layL, putL, List.set_cons_zero, List.set_cons_succ, hx28]
          have HE := Lib.hid (HBW.out.trans (hC.mono HBW.out.size))
          clear hC hx28 e0 e1 e2 e3 e4 e5 e6 e7 e8 e9 e10 e11 e12 x0 y0 cx0 cx1 cy0 cy1
          go_wp2_with fail
          go_ret
          exact ⟨by rw [HV.out]; rfl, HE.out⟩
        | true =>
          cases hRW : (cx.row == cy.row) with
          | false =>
            have HVV := Lib.hid (show R = false by rw [HV.out, hBY, hRW]; rfl)
            replace HV := HVV
            clear HVV
            refine wp_region_ogG [.val 0 (.pointer (some ⟨w.heap.size, 0, none⟩)),
              .val 1 (.int .i64 (i : Nat)),
              .val 2 (.pointer (some ⟨w.heap.size + 1, 0, none⟩)),
              .val 3 (.int .i64 (j : Nat)),
              .val 4 (.bool false),
              .val 5 (.bool false),
              .val 6 (.agg #[Value.slice h.A1 s.cols.length h.c1, Value.slice h.A2 s.covs.length h.c2, .int .i64 s.l0, .int .i64 s.l1, .int .i64 s.l2, .int .i64 s.l3, Value.slice h.A3 s.rows.length h.c3, Value.slice h.A4 s.frames.length h.c4, Value.slice h.A5 s.tanks.length h.c5, .int .i64 s.m0, .int .i64 s.m1, .int .i64 s.m2, .int .i64 s.m3]),
              .val 7 (.pointer (some ⟨w.heap.size, 0, none⟩)),
              .val 8 (.int .i64 (i : Nat)),
              .slT tInt 9 BL,
              .val 10 (.pointer (some ⟨w.heap.size + 1, 0, none⟩)),
              .val 11 (.int .i64 (j : Nat)),
              .val 12 (.bool false),
              .val 13 (.bool false),
              .val 14 (.bool false),
              .val 15 (.pointer (some ⟨gx, 0, none⟩)),
              .val 16 (.int .i64 cx.bay),
              .val 17 (.pointer (some ⟨gy, 0, none⟩)),
              .val 18 (.int .i64 cy.bay),
              .val 19 (.bool true),
              .val 20 (.bool true),
              .val 21 (.pointer (some ⟨gx, 1, none⟩)),
              .val 22 (.int .i64 cx.row),
              .val 23 (.pointer (some ⟨gy, 1, none⟩)),
              .val 24 (.int .i64 cy.row),
              .val 25 (.bool false),
              .val 26 (.bool false),
              .val 27 (.bool false),
              .val 28 (.bool false)]
              [[], [0], [], [2], [1, 3], [4], [5], [5], [5, 7], [5, 6, 8], [5], [5, 10], [5, 9, 11], [5, 12], [13], [14], [14, 15], [14], [14, 17], [14, 16, 18], [14, 19], [20], [20, 21], [20], [20, 23], [20, 22, 24], [14, 20, 25], [14, 26], [27]] [28] (Cb Z) (by kernel_rfl) (by kernel_rfl) (Cb.drew Z) ⟨?_, ?_, ?_, ?_, ?_, ?_, ?_, ?_, ?_, ?_, ?_, ?_, ?_, ?_, ?_, ?_, ?_, ?_, ?_, ?_, ?_, ?_, ?_, ?_, ?_, ?_, ?_, ?_, ?_, trivial⟩ ?_
            case refine_1 =>
              refine StepG.of rfl ?_
              refine StepL.up fun x V hV hu K Q hK => ?_
              clear hu
              rw [owp_eq]
              go_big_op
              exact hK _ _ (Below.refl _ _) rfl
            case refine_2 =>
              refine StepG.of rfl ?_
              refine StepL.up fun x V hV hu K Q hK => ?_
              have u0 : x 0 = _ := hu 0 (by decide)
              have fx0 := hV.cell x0
              clear hu
              simp only [putL, List.set_cons_zero, List.set_cons_succ] at hK ⊢
              rw [owp_eq]
              go_big_op
              exact hK _ _ (Below.refl _ _) rfl
            case refine_3 =>
              refine StepG.of rfl ?_
              refine StepL.up fun x V hV hu K Q hK => ?_
              clear hu
              simp only [putL, List.set_cons_zero, List.set_cons_succ] at hK ⊢
              rw [owp_eq]
              go_big_op
              exact hK _ _ (Below.refl _ _) rfl
            case refine_4 =>
              refine StepG.of rfl ?_
              refine StepL.up fun x V hV hu K Q hK => ?_
              have u2 : x 2 = _ := hu 2 (by decide)
              have fy0 := hV.cell y0
              clear hu
              simp only [putL, List.set_cons_zero, List.set_cons_succ] at hK ⊢
              rw [owp_eq]
              go_big_op
              exact hK _ _ (Below.refl _ _) rfl
            case refine_5 =>
              refine StepG.of rfl ?_
              refine StepL.up fun x V hV hu K Q hK => ?_
              have u1 : x 1 = _ := hu 1 (by decide)
              have u3 : x 3 = _ := hu 3 (by decide)
              clear hu
              simp only [putL, List.set_cons_zero, List.set_cons_succ] at hK ⊢
              rw [owp_eq]
              go_big_op
              exact hK _ _ (Below.refl _ _) rfl
            case refine_6 =>
              refine StepG.of rfl ?_
              refine StepL.up fun x V hV hu K Q hK => ?_
              have u4 : x 4 = _ := hu 4 (by decide)
              clear hu
              simp only [putL, List.set_cons_zero, List.set_cons_succ] at hK ⊢
              rw [owp_eq]
              go_big_op
              exact hK _ _ (Below.refl _ _) rfl
            case refine_7 =>
              refine StepG.yes 5 false 25 rfl rfl (fun x => by simp only [putL, List.set_cons_zero, List.set_cons_succ]; rfl) rfl (fun x w h => h) ?_
              refine StepL.up fun x V hV hu K Q hK => ?_
              have u5 : x 5 = _ := hu 5 (by decide)
              have fe0 := hV.cell e0
              have fe1 := hV.cell e1
              have fe2 := hV.cell e2
              have fe3 := hV.cell e3
              have fe4 := hV.cell e4
              have fe5 := hV.cell e5
              have fe6 := hV.cell e6
              have fe7 := hV.cell e7
              have fe8 := hV.cell e8
              have fe9 := hV.cell e9
              have fe10 := hV.cell e10
              have fe11 := hV.cell e11
              have fe12 := hV.cell e12
              clear hu
              simp only [putL, List.set_cons_zero, List.set_cons_succ] at hK ⊢
              rw [owp_eq]
              go_big_op
              exact hK _ _ (Below.refl _ _) rfl
            case refine_8 =>
              refine StepG.yes 5 false 25 rfl rfl (fun x => by simp only [putL, List.set_cons_zero, List.set_cons_succ]; rfl) rfl (fun x w h => h) ?_
              refine StepL.up fun x V hV hu K Q hK => ?_
              have u5 : x 5 = _ := hu 5 (by decide)
              clear hu
              simp only [putL, List.set_cons_zero, List.set_cons_succ] at hK ⊢
              rw [owp_eq]
              go_big_op
              exact hK _ _ (Below.refl _ _) rfl
            case refine_9 =>
              refine StepG.yes 5 false 25 rfl rfl (fun x => by simp only [putL, List.set_cons_zero, List.set_cons_succ]; rfl) rfl (fun x w h => h) ?_
              refine StepL.up fun x V hV hu K Q hK => ?_
              have u5 : x 5 = _ := hu 5 (by decide)
              have u7 : x 7 = _ := hu 7 (by decide)
              have fx0 := hV.cell x0
              clear hu
              simp only [putL, List.set_cons_zero, List.set_cons_succ] at hK ⊢
              rw [owp_eq]
              go_big_op
              exact hK _ _ (Below.refl _ _) rfl
            case refine_10 =>
              refine StepG.yes 5 false 25 rfl rfl (fun x => by simp only [putL, List.set_cons_zero, List.set_cons_succ]; rfl) rfl (fun x w h => h) ?_
              refine StepL.up fun x V hV hu K Q hK => ?_
              have u5 : x 5 = _ := hu 5 (by decide)
              have u6 : x 6 = _ := hu 6 (by decide)
              have u8 : x 8 = _ := hu 8 (by decide)
              clear hu
              simp only [putL, List.set_cons_zero, List.set_cons_succ] at hK ⊢
              rw [owp_eq]
              go_big_op
              refine (KBE.out V hV).mono ?_
              rintro e V' ⟨A9, c9, rfl, hc9, hs9, hb⟩
              exact hK _ _ hb ⟨A9, c9, rfl, hc9, hs9⟩
            case refine_11 =>
              refine StepG.yes 5 false 25 rfl rfl (fun x => by simp only [putL, List.set_cons_zero, List.set_cons_succ]; rfl) rfl (fun x w h => h) ?_
              refine StepL.up fun x V hV hu K Q hK => ?_
              have u5 : x 5 = _ := hu 5 (by decide)
              clear hu
              simp only [putL, List.set_cons_zero, List.set_cons_succ] at hK ⊢
              rw [owp_eq]
              go_big_op
              exact hK _ _ (Below.refl _ _) rfl
            case refine_12 =>
              refine StepG.yes 5 false 25 rfl rfl (fun x => by simp only [putL, List.set_cons_zero, List.set_cons_succ]; rfl) rfl (fun x w h => h) ?_
              refine StepL.up fun x V hV hu K Q hK => ?_
              have u5 : x 5 = _ := hu 5 (by decide)
              have u10 : x 10 = _ := hu 10 (by decide)
              have fy0 := hV.cell y0
              clear hu
              simp only [putL, List.set_cons_zero, List.set_cons_succ] at hK ⊢
              rw [owp_eq]
              go_big_op
              exact hK _ _ (Below.refl _ _) rfl
            case refine_13 =>
              refine StepG.yes 5 false 25 rfl rfl (fun x => by simp only [putL, List.set_cons_zero, List.set_cons_succ]; rfl) rfl (fun x w h => h) ?_
              refine StepL.up fun x V hV hu K Q hK => ?_
              have u5 : x 5 = _ := hu 5 (by decide)
              obtain ⟨A9, c9, u9, hc9, hs9⟩ := hu 9 (by decide)
              have u11 : x 11 = _ := hu 11 (by decide)
              clear hu
              simp only [putL, List.set_cons_zero, List.set_cons_succ] at hK ⊢
              rw [owp_eq]
              go_big_op
              refine (KCN.out V A9 c9 hs9).mono ?_
              rintro e V' ⟨rfl, hb⟩
              exact hK _ _ hb rfl
            case refine_14 =>
              refine StepG.of rfl ?_
              refine StepL.up fun x V hV hu K Q hK => ?_
              have u5 : x 5 = _ := hu 5 (by decide)
              have u12 : x 12 = _ := hu 12 (by decide)
              clear hu
              simp only [putL, List.set_cons_zero, List.set_cons_succ] at hK ⊢
              rw [owp_eq]
              go_big_op
              exact hK _ _ (Below.refl _ _) rfl
            case refine_15 =>
              refine StepG.of rfl ?_
              refine StepL.up fun x V hV hu K Q hK => ?_
              have u13 : x 13 = _ := hu 13 (by decide)
              clear hu
              simp only [putL, List.set_cons_zero, List.set_cons_succ] at hK ⊢
              rw [owp_eq]
              go_big_op
              exact hK _ _ (Below.refl _ _) rfl
            case refine_16 =>
              refine StepG.yes 14 false 34 rfl rfl (fun x => by simp only [putL, List.set_cons_zero, List.set_cons_succ]; rfl) rfl (fun x w h => h) ?_
              refine StepL.up fun x V hV hu K Q hK => ?_
              have u14 : x 14 = _ := hu 14 (by decide)
              clear hu
              simp only [putL, List.set_cons_zero, List.set_cons_succ] at hK ⊢
              rw [owp_eq]
              go_big_op
              exact hK _ _ (Below.refl _ _) rfl
            case refine_17 =>
              refine StepG.yes 14 false 34 rfl rfl (fun x => by simp only [putL, List.set_cons_zero, List.set_cons_succ]; rfl) rfl (fun x w h => h) ?_
              refine StepL.up fun x V hV hu K Q hK => ?_
              have u14 : x 14 = _ := hu 14 (by decide)
              have u15 : x 15 = _ := hu 15 (by decide)
              have fcx0 := hV.cell cx0
              clear hu
              simp only [putL, List.set_cons_zero, List.set_cons_succ] at hK ⊢
              rw [owp_eq]
              go_big_op
              exact hK _ _ (Below.refl _ _) rfl
            case refine_18 =>
              refine StepG.yes 14 false 34 rfl rfl (fun x => by simp only [putL, List.set_cons_zero, List.set_cons_succ]; rfl) rfl (fun x w h => h) ?_
              refine StepL.up fun x V hV hu K Q hK => ?_
              have u14 : x 14 = _ := hu 14 (by decide)
              clear hu
              simp only [putL, List.set_cons_zero, List.set_cons_succ] at hK ⊢
              rw [owp_eq]
              go_big_op
              exact hK _ _ (Below.refl _ _) rfl
            case refine_19 =>
              refine StepG.yes 14 false 34 rfl rfl (fun x => by simp only [putL, List.set_cons_zero, List.set_cons_succ]; rfl) rfl (fun x w h => h) ?_
              refine StepL.up fun x V hV hu K Q hK => ?_
              have u14 : x 14 = _ := hu 14 (by decide)
              have u17 : x 17 = _ := hu 17 (by decide)
              have fcy0 := hV.cell cy0
              clear hu
              simp only [putL, List.set_cons_zero, List.set_cons_succ] at hK ⊢
              rw [owp_eq]
              go_big_op
              exact hK _ _ (Below.refl _ _) rfl
            case refine_20 =>
              refine StepG.yes 14 false 34 rfl rfl (fun x => by simp only [putL, List.set_cons_zero, List.set_cons_succ]; rfl) rfl (fun x w h => h) ?_
              refine StepL.up fun x V hV hu K Q hK => ?_
              have u14 : x 14 = _ := hu 14 (by decide)
              have u16 : x 16 = _ := hu 16 (by decide)
              have u18 : x 18 = _ := hu 18 (by decide)
              clear hu
              simp only [putL, List.set_cons_zero, List.set_cons_succ] at hK ⊢
              rw [owp_eq]
              go_big_op
              exact hK _ _ (Below.refl _ _) rfl
            case refine_21 =>
              refine StepG.yes 14 false 34 rfl rfl (fun x => by simp only [putL, List.set_cons_zero, List.set_cons_succ]; rfl) rfl (fun x w h => h) ?_
              refine StepL.up fun x V hV hu K Q hK => ?_
              have u14 : x 14 = _ := hu 14 (by decide)
              have u19 : x 19 = _ := hu 19 (by decide)
              clear hu
              simp only [putL, List.set_cons_zero, List.set_cons_succ] at hK ⊢
              rw [owp_eq]
              go_big_op
              exact hK _ _ (Below.refl _ _) rfl
            case refine_22 =>
              refine StepG.yes 20 true 40 rfl rfl (fun x => by simp only [putL, List.set_cons_zero, List.set_cons_succ]; rfl) rfl (fun x w h => h) ?_
              refine StepL.up fun x V hV hu K Q hK => ?_
              have u20 : x 20 = _ := hu 20 (by decide)
              clear hu
              simp only [putL, List.set_cons_zero, List.set_cons_succ] at hK ⊢
              rw [owp_eq]
              go_big_op
              exact hK _ _ (Below.refl _ _) rfl
            case refine_23 =>
              refine StepG.yes 20 true 40 rfl rfl (fun x => by simp only [putL, List.set_cons_zero, List.set_cons_succ]; rfl) rfl (fun x w h => h) ?_
              refine StepL.up fun x V hV hu K Q hK => ?_
              have u20 : x 20 = _ := hu 20 (by decide)
              have u21 : x 21 = _ := hu 21 (by decide)
              have fcx1 := hV.cell cx1
              clear hu
              simp only [putL, List.set_cons_zero, List.set_cons_succ] at hK ⊢
              rw [owp_eq]
              go_big_op
              exact hK _ _ (Below.refl _ _) rfl
            case refine_24 =>
              refine StepG.yes 20 true 40 rfl rfl (fun x => by simp only [putL, List.set_cons_zero, List.set_cons_succ]; rfl) rfl (fun x w h => h) ?_
              refine StepL.up fun x V hV hu K Q hK => ?_
              have u20 : x 20 = _ := hu 20 (by decide)
              clear hu
              simp only [putL, List.set_cons_zero, List.set_cons_succ] at hK ⊢
              rw [owp_eq]
              go_big_op
              exact hK _ _ (Below.refl _ _) rfl
            case refine_25 =>
              refine StepG.yes 20 true 40 rfl rfl (fun x => by simp only [putL, List.set_cons_zero, List.set_cons_succ]; rfl) rfl (fun x w h => h) ?_
              refine StepL.up fun x V hV hu K Q hK => ?_
              have u20 : x 20 = _ := hu 20 (by decide)
              have u23 : x 23 = _ := hu 23 (by decide)
              have fcy1 := hV.cell cy1
              clear hu
              simp only [putL, List.set_cons_zero, List.set_cons_succ] at hK ⊢
              rw [owp_eq]
              go_big_op
              exact hK _ _ (Below.refl _ _) rfl
            case refine_26 =>
              refine StepG.yes 20 true 40 rfl rfl (fun x => by simp only [putL, List.set_cons_zero, List.set_cons_succ]; rfl) rfl (fun x w h => h) ?_
              refine StepL.up fun x V hV hu K Q hK => ?_
              have u20 : x 20 = _ := hu 20 (by decide)
              have u22 : x 22 = _ := hu 22 (by decide)
              have u24 : x 24 = _ := hu 24 (by decide)
              clear hu
              simp only [putL, List.set_cons_zero, List.set_cons_succ] at hK ⊢
              rw [owp_eq]
              go_big_op
              exact hK _ _ (Below.refl _ _) rfl
            case refine_27 =>
              refine StepG.yes 14 false 34 rfl rfl (fun x => by simp only [putL, List.set_cons_zero, List.set_cons_succ]; rfl) rfl (fun x w h => h) ?_
              refine StepL.up fun x V hV hu K Q hK => ?_
              have u14 : x 14 = _ := hu 14 (by decide)
              have u20 : x 20 = _ := hu 20 (by decide)
              have u25 : x 25 = _ := hu 25 (by decide)
              clear hu
              simp only [putL, List.set_cons_zero, List.set_cons_succ] at hK ⊢
              rw [owp_eq]
              go_big_op
              exact hK _ _ (Below.refl _ _) rfl
            case refine_28 =>
              refine StepG.of rfl ?_
              refine StepL.up fun x V hV hu K Q hK => ?_
              have u14 : x 14 = _ := hu 14 (by decide)
              have u26 : x 26 = _ := hu 26 (by decide)
              clear hu
              simp only [putL, List.set_cons_zero, List.set_cons_succ] at hK ⊢
              rw [owp_eq]
              go_big_op
              exact hK _ _ (Below.refl _ _) rfl
            case refine_29 =>
              refine StepG.of rfl ?_
              refine StepL.up fun x V hV hu K Q hK => ?_
              have u27 : x 27 = _ := hu 27 (by decide)
              clear hu
              simp only [putL, List.set_cons_zero, List.set_cons_succ] at hK ⊢
              rw [owp_eq]
              go_big_op
              exact hK _ _ (Below.refl _ _) rfl
            case refine_30 =>
            refine fun x w' hC hx => ?_
            have hx28 : x 28 = _ := hx 28 (by decide) (by decide)
            clear hx
            simp only [layL, putL, List.set_cons_zero, List.set_cons_succ, hx28]
            have HE := Lib.hid (HBW.out.trans (hC.mono HBW.out.size))
            clear hC hx28 e0 e1 e2 e3 e4 e5 e6 e7 e8 e9 e10 e11 e12 x0 y0 cx0 cx1 cy0 cy1
            go_wp2_with fail
            go_ret
            exact ⟨by rw [HV.out]; rfl, HE.out⟩
          | true =>
            have HVV := Lib.hid (show R = true by rw [HV.out, hBY, hRW]; rfl)
            replace HV := HVV
            clear HVV
            refine wp_region_ogG [.val 0 (.pointer (some ⟨w.heap.size, 0, none⟩)),
              .val 1 (.int .i64 (i : Nat)),
              .val 2 (.pointer (some ⟨w.heap.size + 1, 0, none⟩)),
              .val 3 (.int .i64 (j : Nat)),
              .val 4 (.bool false),
              .val 5 (.bool false),
              .val 6 (.agg #[Value.slice h.A1 s.cols.length h.c1, Value.slice h.A2 s.covs.length h.c2, .int .i64 s.l0, .int .i64 s.l1, .int .i64 s.l2, .int .i64 s.l3, Value.slice h.A3 s.rows.length h.c3, Value.slice h.A4 s.frames.length h.c4, Value.slice h.A5 s.tanks.length h.c5, .int .i64 s.m0, .int .i64 s.m1, .int .i64 s.m2, .int .i64 s.m3]),
              .val 7 (.pointer (some ⟨w.heap.size, 0, none⟩)),
              .val 8 (.int .i64 (i : Nat)),
              .slT tInt 9 BL,
              .val 10 (.pointer (some ⟨w.heap.size + 1, 0, none⟩)),
              .val 11 (.int .i64 (j : Nat)),
              .val 12 (.bool false),
              .val 13 (.bool false),
              .val 14 (.bool false),
              .val 15 (.pointer (some ⟨gx, 0, none⟩)),
              .val 16 (.int .i64 cx.bay),
              .val 17 (.pointer (some ⟨gy, 0, none⟩)),
              .val 18 (.int .i64 cy.bay),
              .val 19 (.bool true),
              .val 20 (.bool true),
              .val 21 (.pointer (some ⟨gx, 1, none⟩)),
              .val 22 (.int .i64 cx.row),
              .val 23 (.pointer (some ⟨gy, 1, none⟩)),
              .val 24 (.int .i64 cy.row),
              .val 25 (.bool true),
              .val 26 (.bool true),
              .val 27 (.bool true),
              .val 28 (.bool true)]
              [[], [0], [], [2], [1, 3], [4], [5], [5], [5, 7], [5, 6, 8], [5], [5, 10], [5, 9, 11], [5, 12], [13], [14], [14, 15], [14], [14, 17], [14, 16, 18], [14, 19], [20], [20, 21], [20], [20, 23], [20, 22, 24], [14, 20, 25], [14, 26], [27]] [28] (Cb Z) (by kernel_rfl) (by kernel_rfl) (Cb.drew Z) ⟨?_, ?_, ?_, ?_, ?_, ?_, ?_, ?_, ?_, ?_, ?_, ?_, ?_, ?_, ?_, ?_, ?_, ?_, ?_, ?_, ?_, ?_, ?_, ?_, ?_, ?_, ?_, ?_, ?_, trivial⟩ ?_
            case refine_1 =>
              refine StepG.of rfl ?_
              refine StepL.up fun x V hV hu K Q hK => ?_
              clear hu
              rw [owp_eq]
              go_big_op
              exact hK _ _ (Below.refl _ _) rfl
            case refine_2 =>
              refine StepG.of rfl ?_
              refine StepL.up fun x V hV hu K Q hK => ?_
              have u0 : x 0 = _ := hu 0 (by decide)
              have fx0 := hV.cell x0
              clear hu
              simp only [putL, List.set_cons_zero, List.set_cons_succ] at hK ⊢
              rw [owp_eq]
              go_big_op
              exact hK _ _ (Below.refl _ _) rfl
            case refine_3 =>
              refine StepG.of rfl ?_
              refine StepL.up fun x V hV hu K Q hK => ?_
              clear hu
              simp only [putL, List.set_cons_zero, List.set_cons_succ] at hK ⊢
              rw [owp_eq]
              go_big_op
              exact hK _ _ (Below.refl _ _) rfl
            case refine_4 =>
              refine StepG.of rfl ?_
              refine StepL.up fun x V hV hu K Q hK => ?_
              have u2 : x 2 = _ := hu 2 (by decide)
              have fy0 := hV.cell y0
              clear hu
              simp only [putL, List.set_cons_zero, List.set_cons_succ] at hK ⊢
              rw [owp_eq]
              go_big_op
              exact hK _ _ (Below.refl _ _) rfl
            case refine_5 =>
              refine StepG.of rfl ?_
              refine StepL.up fun x V hV hu K Q hK => ?_
              have u1 : x 1 = _ := hu 1 (by decide)
              have u3 : x 3 = _ := hu 3 (by decide)
              clear hu
              simp only [putL, List.set_cons_zero, List.set_cons_succ] at hK ⊢
              rw [owp_eq]
              go_big_op
              exact hK _ _ (Below.refl _ _) rfl
            case refine_6 =>
              refine StepG.of rfl ?_
              refine StepL.up fun x V hV hu K Q hK => ?_
              have u4 : x 4 = _ := hu 4 (by decide)
              clear hu
              simp only [putL, List.set_cons_zero, List.set_cons_succ] at hK ⊢
              rw [owp_eq]
              go_big_op
              exact hK _ _ (Below.refl _ _) rfl
            case refine_7 =>
              refine StepG.yes 5 false 25 rfl rfl (fun x => by simp only [putL, List.set_cons_zero, List.set_cons_succ]; rfl) rfl (fun x w h => h) ?_
              refine StepL.up fun x V hV hu K Q hK => ?_
              have u5 : x 5 = _ := hu 5 (by decide)
              have fe0 := hV.cell e0
              have fe1 := hV.cell e1
              have fe2 := hV.cell e2
              have fe3 := hV.cell e3
              have fe4 := hV.cell e4
              have fe5 := hV.cell e5
              have fe6 := hV.cell e6
              have fe7 := hV.cell e7
              have fe8 := hV.cell e8
              have fe9 := hV.cell e9
              have fe10 := hV.cell e10
              have fe11 := hV.cell e11
              have fe12 := hV.cell e12
              clear hu
              simp only [putL, List.set_cons_zero, List.set_cons_succ] at hK ⊢
              rw [owp_eq]
              go_big_op
              exact hK _ _ (Below.refl _ _) rfl
            case refine_8 =>
              refine StepG.yes 5 false 25 rfl rfl (fun x => by simp only [putL, List.set_cons_zero, List.set_cons_succ]; rfl) rfl (fun x w h => h) ?_
              refine StepL.up fun x V hV hu K Q hK => ?_
              have u5 : x 5 = _ := hu 5 (by decide)
              clear hu
              simp only [putL, List.set_cons_zero, List.set_cons_succ] at hK ⊢
              rw [owp_eq]
              go_big_op
              exact hK _ _ (Below.refl _ _) rfl
            case refine_9 =>
              refine StepG.yes 5 false 25 rfl rfl (fun x => by simp only [putL, List.set_cons_zero, List.set_cons_succ]; rfl) rfl (fun x w h => h) ?_
              refine StepL.up fun x V hV hu K Q hK => ?_
              have u5 : x 5 = _ := hu 5 (by decide)
              have u7 : x 7 = _ := hu 7 (by decide)
              have fx0 := hV.cell x0
              clear hu
              simp only [putL, List.set_cons_zero, List.set_cons_succ] at hK ⊢
              rw [owp_eq]
              go_big_op
              exact hK _ _ (Below.refl _ _) rfl
            case refine_10 =>
              refine StepG.yes 5 false 25 rfl rfl (fun x => by simp only [putL, List.set_cons_zero, List.set_cons_succ]; rfl) rfl (fun x w h => h) ?_
              refine StepL.up fun x V hV hu K Q hK => ?_
              have u5 : x 5 = _ := hu 5 (by decide)
              have u6 : x 6 = _ := hu 6 (by decide)
              have u8 : x 8 = _ := hu 8 (by decide)
              clear hu
              simp only [putL, List.set_cons_zero, List.set_cons_succ] at hK ⊢
              rw [owp_eq]
              go_big_op
              refine (KBE.out V hV).mono ?_
              rintro e V' ⟨A9, c9, rfl, hc9, hs9, hb⟩
              exact hK _ _ hb ⟨A9, c9, rfl, hc9, hs9⟩
            case refine_11 =>
              refine StepG.yes 5 false 25 rfl rfl (fun x => by simp only [putL, List.set_cons_zero, List.set_cons_succ]; rfl) rfl (fun x w h => h) ?_
              refine StepL.up fun x V hV hu K Q hK => ?_
              have u5 : x 5 = _ := hu 5 (by decide)
              clear hu
              simp only [putL, List.set_cons_zero, List.set_cons_succ] at hK ⊢
              rw [owp_eq]
              go_big_op
              exact hK _ _ (Below.refl _ _) rfl
            case refine_12 =>
              refine StepG.yes 5 false 25 rfl rfl (fun x => by simp only [putL, List.set_cons_zero, List.set_cons_succ]; rfl) rfl (fun x w h => h) ?_
              refine StepL.up fun x V hV hu K Q hK => ?_
              have u5 : x 5 = _ := hu 5 (by decide)
              have u10 : x 10 = _ := hu 10 (by decide)
              have fy0 := hV.cell y0
              clear hu
              simp only [putL, List.set_cons_zero, List.set_cons_succ] at hK ⊢
              rw [owp_eq]
              go_big_op
              exact hK _ _ (Below.refl _ _) rfl
            case refine_13 =>
              refine StepG.yes 5 false 25 rfl rfl (fun x => by simp only [putL, List.set_cons_zero, List.set_cons_succ]; rfl) rfl (fun x w h => h) ?_
              refine StepL.up fun x V hV hu K Q hK => ?_
              have u5 : x 5 = _ := hu 5 (by decide)
              obtain ⟨A9, c9, u9, hc9, hs9⟩ := hu 9 (by decide)
              have u11 : x 11 = _ := hu 11 (by decide)
              clear hu
              simp only [putL, List.set_cons_zero, List.set_cons_succ] at hK ⊢
              rw [owp_eq]
              go_big_op
              refine (KCN.out V A9 c9 hs9).mono ?_
              rintro e V' ⟨rfl, hb⟩
              exact hK _ _ hb rfl
            case refine_14 =>
              refine StepG.of rfl ?_
              refine StepL.up fun x V hV hu K Q hK => ?_
              have u5 : x 5 = _ := hu 5 (by decide)
              have u12 : x 12 = _ := hu 12 (by decide)
              clear hu
              simp only [putL, List.set_cons_zero, List.set_cons_succ] at hK ⊢
              rw [owp_eq]
              go_big_op
              exact hK _ _ (Below.refl _ _) rfl
            case refine_15 =>
              refine StepG.of rfl ?_
              refine StepL.up fun x V hV hu K Q hK => ?_
              have u13 : x 13 = _ := hu 13 (by decide)
              clear hu
              simp only [putL, List.set_cons_zero, List.set_cons_succ] at hK ⊢
              rw [owp_eq]
              go_big_op
              exact hK _ _ (Below.refl _ _) rfl
            case refine_16 =>
              refine StepG.yes 14 false 34 rfl rfl (fun x => by simp only [putL, List.set_cons_zero, List.set_cons_succ]; rfl) rfl (fun x w h => h) ?_
              refine StepL.up fun x V hV hu K Q hK => ?_
              have u14 : x 14 = _ := hu 14 (by decide)
              clear hu
              simp only [putL, List.set_cons_zero, List.set_cons_succ] at hK ⊢
              rw [owp_eq]
              go_big_op
              exact hK _ _ (Below.refl _ _) rfl
            case refine_17 =>
              refine StepG.yes 14 false 34 rfl rfl (fun x => by simp only [putL, List.set_cons_zero, List.set_cons_succ]; rfl) rfl (fun x w h => h) ?_
              refine StepL.up fun x V hV hu K Q hK => ?_
              have u14 : x 14 = _ := hu 14 (by decide)
              have u15 : x 15 = _ := hu 15 (by decide)
              have fcx0 := hV.cell cx0
              clear hu
              simp only [putL, List.set_cons_zero, List.set_cons_succ] at hK ⊢
              rw [owp_eq]
              go_big_op
              exact hK _ _ (Below.refl _ _) rfl
            case refine_18 =>
              refine StepG.yes 14 false 34 rfl rfl (fun x => by simp only [putL, List.set_cons_zero, List.set_cons_succ]; rfl) rfl (fun x w h => h) ?_
              refine StepL.up fun x V hV hu K Q hK => ?_
              have u14 : x 14 = _ := hu 14 (by decide)
              clear hu
              simp only [putL, List.set_cons_zero, List.set_cons_succ] at hK ⊢
              rw [owp_eq]
              go_big_op
              exact hK _ _ (Below.refl _ _) rfl
            case refine_19 =>
              refine StepG.yes 14 false 34 rfl rfl (fun x => by simp only [putL, List.set_cons_zero, List.set_cons_succ]; rfl) rfl (fun x w h => h) ?_
              refine StepL.up fun x V hV hu K Q hK => ?_
              have u14 : x 14 = _ := hu 14 (by decide)
              have u17 : x 17 = _ := hu 17 (by decide)
              have fcy0 := hV.cell cy0
              clear hu
              simp only [putL, List.set_cons_zero, List.set_cons_succ] at hK ⊢
              rw [owp_eq]
              go_big_op
              exact hK _ _ (Below.refl _ _) rfl
            case refine_20 =>
              refine StepG.yes 14 false 34 rfl rfl (fun x => by simp only [putL, List.set_cons_zero, List.set_cons_succ]; rfl) rfl (fun x w h => h) ?_
              refine StepL.up fun x V hV hu K Q hK => ?_
              have u14 : x 14 = _ := hu 14 (by decide)
              have u16 : x 16 = _ := hu 16 (by decide)
              have u18 : x 18 = _ := hu 18 (by decide)
              clear hu
              simp only [putL, List.set_cons_zero, List.set_cons_succ] at hK ⊢
              rw [owp_eq]
              go_big_op
              exact hK _ _ (Below.refl _ _) rfl
            case refine_21 =>
              refine StepG.yes 14 false 34 rfl rfl (fun x => by simp only [putL, List.set_cons_zero, List.set_cons_succ]; rfl) rfl (fun x w h => h) ?_
              refine StepL.up fun x V hV hu K Q hK => ?_
              have u14 : x 14 = _ := hu 14 (by decide)
              have u19 : x 19 = _ := hu 19 (by decide)
              clear hu
              simp only [putL, List.set_cons_zero, List.set_cons_succ] at hK ⊢
              rw [owp_eq]
              go_big_op
              exact hK _ _ (Below.refl _ _) rfl
            case refine_22 =>
              refine StepG.yes 20 true 40 rfl rfl (fun x => by simp only [putL, List.set_cons_zero, List.set_cons_succ]; rfl) rfl (fun x w h => h) ?_
              refine StepL.up fun x V hV hu K Q hK => ?_
              have u20 : x 20 = _ := hu 20 (by decide)
              clear hu
              simp only [putL, List.set_cons_zero, List.set_cons_succ] at hK ⊢
              rw [owp_eq]
              go_big_op
              exact hK _ _ (Below.refl _ _) rfl
            case refine_23 =>
              refine StepG.yes 20 true 40 rfl rfl (fun x => by simp only [putL, List.set_cons_zero, List.set_cons_succ]; rfl) rfl (fun x w h => h) ?_
              refine StepL.up fun x V hV hu K Q hK => ?_
              have u20 : x 20 = _ := hu 20 (by decide)
              have u21 : x 21 = _ := hu 21 (by decide)
              have fcx1 := hV.cell cx1
              clear hu
              simp only [putL, List.set_cons_zero, List.set_cons_succ] at hK ⊢
              rw [owp_eq]
              go_big_op
              exact hK _ _ (Below.refl _ _) rfl
            case refine_24 =>
              refine StepG.yes 20 true 40 rfl rfl (fun x => by simp only [putL, List.set_cons_zero, List.set_cons_succ]; rfl) rfl (fun x w h => h) ?_
              refine StepL.up fun x V hV hu K Q hK => ?_
              have u20 : x 20 = _ := hu 20 (by decide)
              clear hu
              simp only [putL, List.set_cons_zero, List.set_cons_succ] at hK ⊢
              rw [owp_eq]
              go_big_op
              exact hK _ _ (Below.refl _ _) rfl
            case refine_25 =>
              refine StepG.yes 20 true 40 rfl rfl (fun x => by simp only [putL, List.set_cons_zero, List.set_cons_succ]; rfl) rfl (fun x w h => h) ?_
              refine StepL.up fun x V hV hu K Q hK => ?_
              have u20 : x 20 = _ := hu 20 (by decide)
              have u23 : x 23 = _ := hu 23 (by decide)
              have fcy1 := hV.cell cy1
              clear hu
              simp only [putL, List.set_cons_zero, List.set_cons_succ] at hK ⊢
              rw [owp_eq]
              go_big_op
              exact hK _ _ (Below.refl _ _) rfl
            case refine_26 =>
              refine StepG.yes 20 true 40 rfl rfl (fun x => by simp only [putL, List.set_cons_zero, List.set_cons_succ]; rfl) rfl (fun x w h => h) ?_
              refine StepL.up fun x V hV hu K Q hK => ?_
              have u20 : x 20 = _ := hu 20 (by decide)
              have u22 : x 22 = _ := hu 22 (by decide)
              have u24 : x 24 = _ := hu 24 (by decide)
              clear hu
              simp only [putL, List.set_cons_zero, List.set_cons_succ] at hK ⊢
              rw [owp_eq]
              go_big_op
              exact hK _ _ (Below.refl _ _) rfl
            case refine_27 =>
              refine StepG.yes 14 false 34 rfl rfl (fun x => by simp only [putL, List.set_cons_zero, List.set_cons_succ]; rfl) rfl (fun x w h => h) ?_
              refine StepL.up fun x V hV hu K Q hK => ?_
              have u14 : x 14 = _ := hu 14 (by decide)
              have u20 : x 20 = _ := hu 20 (by decide)
              have u25 : x 25 = _ := hu 25 (by decide)
              clear hu
              simp only [putL, List.set_cons_zero, List.set_cons_succ] at hK ⊢
              rw [owp_eq]
              go_big_op
              exact hK _ _ (Below.refl _ _) rfl
            case refine_28 =>
              refine StepG.of rfl ?_
              refine StepL.up fun x V hV hu K Q hK => ?_
              have u14 : x 14 = _ := hu 14 (by decide)
              have u26 : x 26 = _ := hu 26 (by decide)
              clear hu
              simp only [putL, List.set_cons_zero, List.set_cons_succ] at hK ⊢
              rw [owp_eq]
              go_big_op
              exact hK _ _ (Below.refl _ _) rfl
            case refine_29 =>
              refine StepG.of rfl ?_
              refine StepL.up fun x V hV hu K Q hK => ?_
              have u27 : x 27 = _ := hu 27 (by decide)
              clear hu
              simp only [putL, List.set_cons_zero, List.set_cons_succ] at hK ⊢
              rw [owp_eq]
              go_big_op
              exact hK _ _ (Below.refl _ _) rfl
            case refine_30 =>
            refine fun x w' hC hx => ?_
            have hx28 : x 28 = _ := hx 28 (by decide) (by decide)
            clear hx
            simp only [layL, putL, List.set_cons_zero, List.set_cons_succ, hx28]
            have HE := Lib.hid (HBW.out.trans (hC.mono HBW.out.size))
            clear hC hx28 e0 e1 e2 e3 e4 e5 e6 e7 e8 e9 e10 e11 e12 x0 y0 cx0 cx1 cy0 cy1
            go_wp2_with fail
            go_ret
            exact ⟨by rw [HV.out]; rfl, HE.out⟩
end Go.Proofs.YtmhikcleekfbpaaDoor
