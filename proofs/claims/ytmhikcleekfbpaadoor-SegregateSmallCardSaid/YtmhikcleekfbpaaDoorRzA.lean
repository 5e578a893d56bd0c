/-
  The walk of the reference of chapter 14: Near.
-/
import Derived.Test.YtmhikcleekfbpaaDoorSgP
import Derived.Test.YtmhikcleekfbpaaDoorSgD
namespace Go.Proofs.YtmhikcleekfbpaaDoor
open Go.RowKit

set_option maxRecDepth 100000 in
set_option maxHeartbeats 8000000 in
theorem refNear_any (s : Shp) (h : Hd) (a b : Slt) (code : Nat) (w : World) (hs : ShpR w (Lt w.heap.size) s h) (hcs : Cs s) (hcode : code < 256) :
    Calls Tryd.prog 11 #[.agg (shpA s h), .agg (sltL a).toArray, .agg (sltL b).toArray, .int .u8 (code : Nat)] w (Ret w (.bool (nearR s a b code))) := by
  have HRD : Hid (nearR s a b code = ((colIn s a.col && colIn s b.col) && (decide (0 < code) && (stackB a b || (decide (1 < code) && (blockB s a b || (decide (2 < code) && bayB s a b))))))) := Lib.hid rfl
  have HST : Hid (stackB a b = (a.col == b.col && (a.tier != b.tier && (a.half == b.half || (a.half == 0 || b.half == 0))))) := Lib.hid rfl
  have HBL : Hid (blockB s a b = (a.col == b.col || (((s.cols.getD a.col.toNat default).bay == (s.cols.getD b.col.toNat default).bay && (s.cols.getD a.col.toNat default).row == (s.cols.getD b.col.toNat default).row) || ((s.cols.getD a.col.toNat default).bay == (s.cols.getD b.col.toNat default).bay && ((s.cols.getD a.col.toNat default).deck == (s.cols.getD b.col.toNat default).deck && ((s.cols.getD a.col.toNat default).row == (s.cols.getD b.col.toNat default).row + 1 || (s.cols.getD b.col.toNat default).row == (s.cols.getD a.col.toNat default).row + 1)))))) := Lib.hid rfl
  have HBA : Hid (bayB s a b = ((s.cols.getD a.col.toNat default).bay == (s.cols.getD b.col.toNat default).bay || ((s.cols.getD a.col.toNat default).bay == (s.cols.getD b.col.toNat default).bay + 1 || (s.cols.getD b.col.toNat default).bay == (s.cols.getD a.col.toNat default).bay + 1))) := Lib.hid rfl
  have HCI : Hid (∀ z, colIn s z = (decide (0 ≤ z) && decide (z < s.cols.length))) := Lib.hid fun _ => rfl
  have HCS := Lib.hid hcs
  obtain ⟨ac, at_, ah⟩ := a
  obtain ⟨bc, bt, bh⟩ := b
  simp only at HRD HST HBL HBA
  have hb0 := ba3y w (.cells (shpA s h) 32) (.cells #[.int .i64 ac, .int .i64 at_, .int .u8 (ah : Nat)] 37) (.cells #[.int .i64 bc, .int .i64 bt, .int .u8 (bh : Nat)] 37)
  have KG := Lib.hid (((Bk.new w 32 (shpA s h)).alloc (.cells #[.int .i64 ac, .int .i64 at_, .int .u8 (ah : Nat)] 37)).alloc (.cells #[.int .i64 bc, .int .i64 bt, .int .u8 (bh : Nat)] 37))
  have KX := Lib.hid ((Bk.nxt14 (w := w) (.cells (shpA s h) 32) 37 #[.int .i64 ac, .int .i64 at_, .int .u8 (ah : Nat)]).alloc (.cells #[.int .i64 bc, .int .i64 bt, .int .u8 (bh : Nat)] 37))
  have KY := Lib.hid (bk14c (w := w) (.cells (shpA s h) 32) (.cells #[.int .i64 ac, .int .i64 at_, .int .u8 (ah : Nat)] 37) 37 #[.int .i64 bc, .int .i64 bt, .int .u8 (bh : Nat)])
  have HS := Lib.hid (hs.on hb0)
  have HB0 := Lib.hid hb0
  clear hb0 hs hcs
  unfold sltL
  unfold shpA at KG KX KY HS HB0 ⊢
  simp only
  generalize nearR s ⟨ac, at_, ah⟩ ⟨bc, bt, bh⟩ code = R at *
  generalize stackB ⟨ac, at_, ah⟩ ⟨bc, bt, bh⟩ = sk at *
  generalize blockB s ⟨ac, at_, ah⟩ ⟨bc, bt, bh⟩ = bk at *
  generalize bayB s ⟨ac, at_, ah⟩ ⟨bc, bt, bh⟩ = bb at *
  go_enter Tryd.func11, Tryd.ntmps11
  go_upto_region 1 with fail
  generalize ((w.alloc _).alloc _).alloc _ = W at *
  have e0 : W.cell? ⟨w.heap.size, 0, none⟩ = some (Value.slice h.A1 s.cols.length h.c1) := KG.out.cell 0
  have x0 : W.cell? ⟨w.heap.size + 1, 0, none⟩ = some (.int .i64 ac) := KX.out.cell 0
  have y0 : W.cell? ⟨w.heap.size + 1 + 1, 0, none⟩ = some (.int .i64 bc) := KY.out.cell 0
  by_cases g1 : ac < 0
  · have u1 : decide (ac < 0) = true := decide_eq_true g1
    have HV := Lib.hid (show R = false by rw [HRD.out, HCI.out, decide_eq_false (by omega : ¬ 0 ≤ ac)]; rfl)
    have HE := HB0
    go_wp2_with fail
    go_ret
    exact ⟨by rw [HV.out]; rfl, HE.out⟩
  have u1 : decide (ac < 0) = false := decide_eq_false g1
  by_cases g2 : bc < 0
  · have u2 : decide (bc < 0) = true := decide_eq_true g2
    have HV := Lib.hid (show R = false by rw [HRD.out, HCI.out bc, decide_eq_false (by omega : ¬ 0 ≤ bc)]; simp)
    have HE := HB0
    go_wp2_with fail
    go_ret
    exact ⟨by rw [HV.out]; rfl, HE.out⟩
  have u2 : decide (bc < 0) = false := decide_eq_false g2
  by_cases g3 : (s.cols.length : Int) ≤ ac
  · have u3 : decide ((s.cols.length : Int) ≤ ac) = true := decide_eq_true g3
    have HV := Lib.hid (show R = false by rw [HRD.out, HCI.out ac, decide_eq_false (by omega : ¬ ac < (s.cols.length : Int))]; simp)
    have HE := HB0
    go_wp2_with fail
    go_ret
    exact ⟨by rw [HV.out]; rfl, HE.out⟩
  have u3 : decide ((s.cols.length : Int) ≤ ac) = false := decide_eq_false g3
  by_cases g4 : (s.cols.length : Int) ≤ bc
  · have u4 : decide ((s.cols.length : Int) ≤ bc) = true := decide_eq_true g4
    have HV := Lib.hid (show R = false by rw [HRD.out, HCI.out bc, decide_eq_false (by omega : ¬ bc < (s.cols.length : Int))]; simp)
    have HE := HB0
    go_wp2_with fail
    go_ret
    exact ⟨by rw [HV.out]; rfl, HE.out⟩
  have u4 : decide ((s.cols.length : Int) ≤ bc) = false := decide_eq_false g4
  by_cases g5 : code = 0
  · have HV := Lib.hid (show R = false by rw [HRD.out, decide_eq_false (by omega : ¬ 0 < code)]; simp)
    have HE := HB0
    subst g5
    go_wp2_with fail
    go_ret
    exact ⟨by rw [HV.out]; rfl, HE.out⟩
  have u5 : ((code : Int) == 0) = false := by simpa using g5
  have HR2 := Lib.hid (show R = (sk || (decide (1 < code) && (bk || (decide (2 < code) && bb)))) by
    rw [HRD.out, HCI.out, HCI.out, decide_eq_true (by omega : 0 ≤ ac), decide_eq_true (by omega : 0 ≤ bc), decide_eq_true (by omega : ac < (s.cols.length : Int)), decide_eq_true (by omega : bc < (s.cols.length : Int)), decide_eq_true (by omega : 0 < code)]
    rfl)
  obtain ⟨i, rfl⟩ : ∃ i : Nat, ac = (i : Int) := ⟨ac.toNat, by omega⟩
  obtain ⟨j, rfl⟩ : ∃ j : Nat, bc = (j : Int) := ⟨bc.toNat, by omega⟩
  have hi : i < s.cols.length := by omega
  have hj : j < s.cols.length := by omega
  simp only [Int.toNat_natCast] at HBL HBA
  go_upto_region 3 with fail
  have hc1 : 1 ≤ code := by omega
  clear g1 g2 g3 g4 g5 u1 u2 u3 u4 u5 HRD HCI
  obtain ⟨b1, o1, Ap, p, hA, hb1, hp, hps, i0, i1, i2, i3, i4, i5, i6, i7, i8, i9, i10, i11⟩ := HS.out.cols.col hi
  obtain ⟨b2, o2, Aq, q, hA2, hb2, hq, hqs, j0, j1, j2, j3, j4, j5, j6, j7, j8, j9, j10, j11⟩ := HS.out.cols.col hj
  have hlb : b1 < W.heap.size := hb1
  clear e0
  have e0 : W.cell? ⟨w.heap.size, 0, none⟩ = some (.slice (some ⟨b1, o1, none⟩) s.cols.length h.c1) := by
    have := KG.out.cell 0
    rw [this, ← hA]
    rfl
  have he : b2 = b1 ∧ o2 = o1 := by
    rw [hA] at hA2
    injection hA2 with hA2
    injection hA2 with h1 h2
    exact ⟨h1.symm, h2.symm⟩
  obtain ⟨rfl, rfl⟩ := he
  have hcx := HCS.out _ (getD_memD hi default)
  have hcy := HCS.out _ (getD_memD hj default)
  have HCX := Lib.hid hcx
  have HCY := Lib.hid hcy
  clear hA hA2 hps hqs hp hq hb1 hb2 hcx hcy HCS
  have hlx : w.heap.size + 1 < W.heap.size := KX.out.lt
  have hly : w.heap.size + 1 + 1 < W.heap.size := KY.out.lt
  have hlg : w.heap.size < W.heap.size := KG.out.lt
  have q0 : (0 : Int) ≤ (i : Int) := by omega
  have q1 : (i : Int) < (s.cols.length : Int) := by omega
  have q2 : (0 : Int) ≤ (j : Int) := by omega
  have q3 : (j : Int) < (s.cols.length : Int) := by omega
  generalize s.cols.getD i default = cx at *
  generalize s.cols.getD j default = cy at *
  generalize (Value.agg #[Value.slice h.A1 s.cols.length h.c1, Value.slice h.A2 s.covs.length h.c2, .int .i64 s.l0, .int .i64 s.l1, .int .i64 s.l2, .int .i64 s.l3, Value.slice h.A3 s.rows.length h.c3, Value.slice h.A4 s.frames.length h.c4, Value.slice h.A5 s.tanks.length h.c5, .int .i64 s.m0, .int .i64 s.m1, .int .i64 s.m2, .int .i64 s.m3]) = sv
  go_cut [9, 10, 40, 41, 42, 43, 44, 45, 46, 47, 48, 49, 50, 51] (fun v6 v7 _ _ _ _ _ _ _ _ _ _ _ _ wz => ∃ gx gy : Nat, v6 = .pointer (some ⟨gx, 0, none⟩) ∧ v7 = .pointer (some ⟨gy, 0, none⟩) ∧ Hid (Bk wz gx 35 #[(.int .i64 cx.bay), .int .i64 cx.row, .bool cx.deck, .int .i64 cx.tiers, .int .i64 cx.height, .int .i64 cx.k20, .int .i64 cx.k40, .int .i64 cx.lash, .slice Ap cx.plugs.length p, .int .i64 cx.x, .int .i64 cx.y, .int .i64 cx.z]) ∧ Hid (Bk wz gy 35 #[(.int .i64 cy.bay), .int .i64 cy.row, .bool cy.deck, .int .i64 cy.tiers, .int .i64 cy.height, .int .i64 cy.k20, .int .i64 cy.k40, .int .i64 cy.lash, .slice Aq cy.plugs.length q, .int .i64 cy.x, .int .i64 cy.y, .int .i64 cy.z]) ∧ Hid (Below W.heap.size W wz))
  case first =>
    clear HR2 HST HBL HBA HB0 KG KX KY HS HCX HCY
    as_aux_lemma =>
      go_region
      all_goals (go_wp2_with fail; go_meet; refine ⟨_, _, rfl, rfl, Lib.hid ?_, Lib.hid ?_, Lib.hid ?_⟩)
      all_goals (first | exact bk14a | exact bk14b | exact (Bk.new W _ _).alloc _ | exact below_drewN (ba2 W _ _) 1 | exact ba2 W _ _)
  case rest =>
    obtain ⟨gx, gy, rfl, rfl, HKX, HKY, HBZ⟩ := hcut
    obtain ⟨Z, rfl⟩ : ∃ V, V = wc := ⟨_, rfl⟩
    clear i0 i1 i2 i3 i4 i5 i6 i7 i8 i9 i10 i11 j0 j1 j2 j3 j4 j5 j6 j7 j8 j9 j10 j11 x0 y0 e0 q0 q1 q2 q3 hlx hly hlg hlb
    have HE := Lib.hid (HB0.out.trans (HBZ.out.mono HB0.out.size))
    have SX := KX.out.below HBZ.out KX.out.lt
    have SY := KY.out.below HBZ.out KY.out.lt
    have x0 : Z.cell? ⟨w.heap.size + 1, 0, none⟩ = some (.int .i64 (i : Nat)) := SX.cell 0
    have x1 : Z.cell? ⟨w.heap.size + 1, 1, none⟩ = some (.int .i64 at_) := SX.cell 1
    have x2 : Z.cell? ⟨w.heap.size + 1, 2, none⟩ = some (.int .u8 (ah : Nat)) := SX.cell 2
    have y0 : Z.cell? ⟨w.heap.size + 1 + 1, 0, none⟩ = some (.int .i64 (j : Nat)) := SY.cell 0
    have y1 : Z.cell? ⟨w.heap.size + 1 + 1, 1, none⟩ = some (.int .i64 bt) := SY.cell 1
    have y2 : Z.cell? ⟨w.heap.size + 1 + 1, 2, none⟩ = some (.int .u8 (bh : Nat)) := SY.cell 2
    clear SX SY KX KY KG HS HBZ HB0
    try clear W
    have cx0 : Z.cell? ⟨gx, 0, none⟩ = some (.int .i64 cx.bay) := HKX.out.cell 0
    have cx1 : Z.cell? ⟨gx, 1, none⟩ = some (.int .i64 cx.row) := HKX.out.cell 1
    have cx2 : Z.cell? ⟨gx, 2, none⟩ = some (.bool cx.deck) := HKX.out.cell 2
    have cy0 : Z.cell? ⟨gy, 0, none⟩ = some (.int .i64 cy.bay) := HKY.out.cell 0
    have cy1 : Z.cell? ⟨gy, 1, none⟩ = some (.int .i64 cy.row) := HKY.out.cell 1
    have cy2 : Z.cell? ⟨gy, 2, none⟩ = some (.bool cy.deck) := HKY.out.cell 2
    clear HKX HKY
    obtain ⟨⟨m1, m2⟩, m3, m4⟩ := HCX.out
    obtain ⟨⟨n1, n2⟩, n3, n4⟩ := HCY.out
    generalize cx.bay = xb at *
    generalize cx.row = xr at *
    generalize cx.deck = xd at *
    generalize cy.bay = yb at *
    generalize cy.row = yr at *
    generalize cy.deck = yd at *
    clear HCX HCY
    go_upto_region 5 with fail
    generalize hEQ : ((i : Int) == (j : Int)) = one at *
    go_cut [81, 57, 58, 59, 60, 61, 62, 63, 64, 65, 66, 67, 68, 69, 70, 71, 72, 73, 74, 75, 76, 77, 78, 79, 80] (fun v81 _ _ _ _ _ _ _ _ _ _ _ _ _ _ _ _ _ _ _ _ _ _ _ _ wz => v81 = .bool sk ∧ wz = Z)
    case first =>
      clear HR2 HBL HBA cx0 cx1 cx2 cy0 cy1 cy2
      as_aux_lemma =>
        cases one with
        | false =>
          go_wp2_with fail
          go_meet
          exact ⟨by rw [HST.out]; rfl, rfl⟩
        | true =>
          cases hT : (at_ != bt) with
          | false =>
            rw [hT] at HST
            go_wp2_with fail
            go_meet
            exact ⟨by rw [HST.out]; rfl, rfl⟩
          | true =>
            rw [hT] at HST
            by_cases hh : ah = bh
            · have f1 : ((ah : Int) == (bh : Int)) = true := by rw [hh]; exact beq_self_eq_true _
              have HS2 := Lib.hid (show sk = true by rw [HST.out, show (ah == bh) = true by simpa using hh]; rfl)
              clear HST hh
              go_wp2_with fail
              go_meet
              exact ⟨by rw [HS2.out], rfl⟩
            · have f1 : ((ah : Int) == (bh : Int)) = false := by simp; omega
              by_cases ha : ah = 0
              · have f2 : ((ah : Int) == 0) = true := by rw [ha]; rfl
                have HS2 := Lib.hid (show sk = true by rw [HST.out, ha]; simp)
                clear HST hh ha
                go_wp2_with fail
                go_meet
                exact ⟨by rw [HS2.out], rfl⟩
              · have f2 : ((ah : Int) == 0) = false := by simpa using ha
                have HS2 := Lib.hid (show sk = ((bh : Int) == 0) by
                  rw [HST.out, show (ah == bh) = false by simpa using hh, show (ah == 0) = false by simpa using ha, Bool.eq_iff_iff]
                  simp)
                clear HST hh ha
                go_wp2_with fail
                go_meet
                exact ⟨by rw [HS2.out], rfl⟩
    case rest =>
      obtain ⟨rfl, hz⟩ := hcut
      replace hz := hz.symm
      subst hz
      clear x0 x1 x2 y0 y1 y2 HST
      cases sk with
      | true =>
        have HV := Lib.hid (show R = true from HR2.out)
        go_wp2_with fail
        go_ret
        exact ⟨by rw [HV.out]; rfl, HE.out⟩
      | false =>
        by_cases c1 : code = 1
        · have HV := Lib.hid (show R = false by rw [HR2.out, decide_eq_false (by omega : ¬ 1 < code)]; rfl)
          subst c1
          go_wp2_with fail
          go_ret
          exact ⟨by rw [HV.out]; rfl, HE.out⟩
        · have f1 : ((code : Int) == 1) = false := by simp; omega
          have HR3 := Lib.hid (show R = (bk || (decide (2 < code) && bb)) by rw [HR2.out, decide_eq_true (by omega : 1 < code)]; rfl)
          clear HR2
          go_upto_region 9 with fail
          go_cut [142, 84, 85, 86, 87, 88, 89, 90, 91, 92, 93, 94, 95, 96, 97, 98, 99, 100, 101, 102, 103, 104, 105, 106, 107, 108, 109, 110, 111, 112, 113, 114, 115, 116, 117, 118, 119, 120, 121, 122, 123, 124, 125, 126, 127, 128, 129, 130, 131, 132, 133, 134, 135, 136, 137, 138, 139, 140, 141] (fun v142 _ _ _ _ _ _ _ _ _ _ _ _ _ _ _ _ _ _ _ _ _ _ _ _ _ _ _ _ _ _ _ _ _ _ _ _ _ _ _ _ _ _ _ _ _ _ _ _ _ _ _ _ _ _ _ _ _ _ wz => v142 = .bool bk ∧ wz = Z)
          case first =>
            clear HR3 HBA
            as_aux_lemma =>
              cases one with
              | true =>
                go_wp2_with fail
                go_meet
                exact ⟨by rw [HBL.out]; rfl, rfl⟩
              | false =>
                cases hb : (xb == yb) with
                | false =>
                  rw [hb] at HBL
                  go_wp2_with fail
                  go_meet
                  exact ⟨by rw [HBL.out]; rfl, rfl⟩
                | true =>
                  rw [hb] at HBL
                  cases hr : (xr == yr) with
                  | true =>
                    rw [hr] at HBL
                    go_wp2_with fail
                    go_meet
                    exact ⟨by rw [HBL.out]; rfl, rfl⟩
                  | false =>
                    rw [hr] at HBL
                    cases hd : (xd == yd) with
                    | false =>
                      rw [hd] at HBL
                      go_wp2_with fail
                      go_meet
                      exact ⟨by rw [HBL.out]; rfl, rfl⟩
                    | true =>
                      rw [hd] at HBL
                      cases h1 : (xr == yr + 1) with
                      | true =>
                        rw [h1] at HBL
                        have g1 : decide (yr < xr) = true := by
                          have : xr = yr + 1 := by simpa using h1
                          exact decide_eq_true (by omega)
                        go_wp2_with fail
                        go_meet
                        exact ⟨by rw [HBL.out]; rfl, rfl⟩
                      | false =>
                        rw [h1] at HBL
                        cases h2 : (yr == xr + 1) with
                        | true =>
                          rw [h2] at HBL
                          have g1 : decide (xr < yr) = true := by
                            have : yr = xr + 1 := by simpa using h2
                            exact decide_eq_true (by omega)
                          go_wp2_with fail
                          go_meet
                          exact ⟨by rw [HBL.out]; rfl, rfl⟩
                        | false =>
                          rw [h2] at HBL
                          go_wp2_with fail
                          go_meet
                          exact ⟨by rw [HBL.out]; rfl, rfl⟩
          case rest =>
            obtain ⟨rfl, hz⟩ := hcut
            replace hz := hz.symm
            subst hz
            clear cx1 cx2 cy1 cy2 HBL
            cases bk with
            | true =>
              have HV := Lib.hid (show R = true from HR3.out)
              go_wp2_with fail
              go_ret
              exact ⟨by rw [HV.out]; rfl, HE.out⟩
            | false =>
              by_cases c2 : 2 < code
              · have f2 : decide ((2 : Int) < (code : Int)) = true := decide_eq_true (by omega)
                have HV := Lib.hid (show R = bb by rw [HR3.out, decide_eq_true c2]; simp)
                clear HR3
                cases hb : (xb == yb) with
                | true =>
                  rw [hb] at HBA
                  go_wp2_with fail
                  (try go_ret)
                  exact ⟨by rw [HV.out, HBA.out]; rfl, HE.out⟩
                | false =>
                  rw [hb] at HBA
                  cases h1 : (xb == yb + 1) with
                  | true =>
                    rw [h1] at HBA
                    have g1 : decide (yb < xb) = true := by
                      have : xb = yb + 1 := by simpa using h1
                      exact decide_eq_true (by omega)
                    go_wp2_with fail
                    (try go_ret)
                    exact ⟨by rw [HV.out, HBA.out]; rfl, HE.out⟩
                  | false =>
                    rw [h1] at HBA
                    cases h2 : (yb == xb + 1) with
                    | true =>
                      rw [h2] at HBA
                      have g1 : decide (xb < yb) = true := by
                        have : yb = xb + 1 := by simpa using h2
                        exact decide_eq_true (by omega)
                      go_wp2_with fail
                      (try go_ret)
                      exact ⟨by rw [HV.out, HBA.out]; rfl, HE.out⟩
                    | false =>
                      rw [h2] at HBA
                      go_wp2_with fail
                      (try go_ret)
                      exact ⟨by rw [HV.out, HBA.out]; rfl, HE.out⟩
              · have f2 : decide ((2 : Int) < (code : Int)) = false := decide_eq_false (by omega)
                have HV := Lib.hid (show R = false by rw [HR3.out, decide_eq_false c2]; rfl)
                go_wp2_with fail
                go_ret
                exact ⟨by rw [HV.out]; rfl, HE.out⟩
end Go.Proofs.YtmhikcleekfbpaaDoor
