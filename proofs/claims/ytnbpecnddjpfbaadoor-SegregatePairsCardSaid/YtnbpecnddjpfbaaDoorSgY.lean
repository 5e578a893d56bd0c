/-
  The walk of close of the law file of chapter 14.
-/
import Derived.Test.YtnbpecnddjpfbaaDoorSgT
namespace Go.Proofs.YtnbpecnddjpfbaaDoor
open Go.RowKit

/-- What close reckons. -/
def closeB (s : Shp) (a b : Slt) (code : Nat) : Bool := rule2 a b || ((decide (1 < code) && rule3 s a.col.toNat b.col.toNat) || (decide (2 < code) && decide ((apartF s a.col b.col).1 < 2)))
theorem close_near {s : Shp} {a b : Slt} {code : Nat} (h : (apartF s a.col b.col).2 = true) (hc : 0 < code) : closeB s a b code = nearF s a b code := by
  unfold nearF closeB
  have e : nearTo s a b code 4 = (((decide (1 ≤ code) && rule2 a b) || (decide (2 ≤ code) && rule3 s a.col.toNat b.col.toNat)) || (decide (3 ≤ code) && rule4 s a b)) := by
    rw [nearTo_succ, nearTo_succ, nearTo_succ, nearTo_succ]
    simp [nearTo, ruleN]
  rw [h, Bool.true_and, e]
  unfold rule4
  generalize rule2 a b = x
  generalize rule3 s a.col.toNat b.col.toNat = y
  generalize decide ((apartF s a.col b.col).1 < 2) = z
  rw [Bool.eq_iff_iff]
  simp only [Bool.or_eq_true, Bool.and_eq_true, decide_eq_true_eq]
  constructor
  · rintro (hx | ⟨h1, hx⟩ | ⟨h1, hx⟩)
    · exact .inl (.inl ⟨by omega, hx⟩)
    · exact .inl (.inr ⟨by omega, hx⟩)
    · exact .inr ⟨by omega, hx⟩
  · rintro ((⟨h1, hx⟩ | ⟨h1, hx⟩) | ⟨h1, hx⟩)
    · exact .inl hx
    · exact .inr (.inl ⟨by omega, hx⟩)
    · exact .inr (.inr ⟨by omega, hx⟩)
theorem near_no {s : Shp} {a b : Slt} {code : Nat} (h : (apartF s a.col b.col).2 = false ∨ code = 0) : nearF s a b code = false := by
  unfold nearF
  rcases h with h | h
  · rw [h]; rfl
  · subst h
    have : nearTo s a b 0 4 = false := by
      rw [nearTo_succ, nearTo_succ, nearTo_succ, nearTo_succ]
      simp [nearTo, ruleN]
    rw [this, Bool.and_false]
theorem any_swap (l : List Int) (z : Int) : l.any (fun y => y == z) = l.any (fun y => z == y) := by
  congr 1
  funext y
  rw [Bool.eq_iff_iff]
  simp only [beq_iff_eq]
  exact eq_comm
set_option maxRecDepth 100000 in
set_option maxHeartbeats 8000000 in
theorem close_any (s : Shp) (h : Hd) (a b : Slt) (code : Nat) (w : World) (hs : ShpR w (Lt w.heap.size) s h) (hl : s.cols.length ≤ 1000000) (hr : ∀ c ∈ s.cols, I64 c.row) (hcode : code < 256) :
    Calls Tryd.prog 30 #[.agg (shpA s h), .agg (sltL a).toArray, .agg (sltL b).toArray, .int .u8 (code : Nat)] w (Ret w (.bool (nearF s a b code))) := by
  have HNO := Lib.hid (fun h => near_no (s := s) (a := a) (b := b) (code := code) h)
  have HCL := Lib.hid (fun h1 h2 => close_near (s := s) (a := a) (b := b) (code := code) h1 h2)
  have HCD : Hid (closeB s a b code = (rule2 a b || ((decide (1 < code) && rule3 s a.col.toNat b.col.toNat) || (decide (2 < code) && decide ((apartF s a.col b.col).1 < 2))))) := Lib.hid rfl
  have HIN := Lib.hid (fun (h : (apartF s a.col b.col).2 = true) => apart_in14 h)
  have HO1 := Lib.hid (fun (V : World) => over_any a b V)
  have HO2 := Lib.hid (fun (V : World) => over_any b a V)
  have HR2 : Hid (rule2 a b = (overB a b || overB b a)) := Lib.hid rfl
  obtain ⟨ac, at_, ah⟩ := a
  obtain ⟨bc, bt, bh⟩ := b
  simp only at HNO HCL HCD HIN
  have hb0 := ba3y w (.cells (shpA s h) 32) (.cells #[.int .i64 ac, .int .i64 at_, .int .u8 (ah : Nat)] 37) (.cells #[.int .i64 bc, .int .i64 bt, .int .u8 (bh : Nat)] 37)
  have KG := Lib.hid (((Bk.new w 32 (shpA s h)).alloc (.cells #[.int .i64 ac, .int .i64 at_, .int .u8 (ah : Nat)] 37)).alloc (.cells #[.int .i64 bc, .int .i64 bt, .int .u8 (bh : Nat)] 37))
  have KX := Lib.hid ((Bk.nxt14 (w := w) (.cells (shpA s h) 32) 37 #[.int .i64 ac, .int .i64 at_, .int .u8 (ah : Nat)]).alloc (.cells #[.int .i64 bc, .int .i64 bt, .int .u8 (bh : Nat)] 37))
  have KY := Lib.hid (bk14c (w := w) (.cells (shpA s h) 32) (.cells #[.int .i64 ac, .int .i64 at_, .int .u8 (ah : Nat)] 37) 37 #[.int .i64 bc, .int .i64 bt, .int .u8 (bh : Nat)])
  have HS := Lib.hid (hs.on hb0)
  have HB0 := Lib.hid hb0
  have HAP := Lib.hid (apart_any s h ac bc _ (hs.on hb0))
  clear hb0 hs
  unfold sltL at HO1 HO2 ⊢
  unfold shpA at KG KX KY HS HB0 HAP ⊢
  simp only at HO1 HO2 ⊢
  generalize nearF s ⟨ac, at_, ah⟩ ⟨bc, bt, bh⟩ code = R at *
  go_enter Tryd.func30, Tryd.ntmps30
  go_upto_region 1 with fail
  generalize ((w.alloc _).alloc _).alloc _ = W at *
  have e0 : W.cell? ⟨w.heap.size, 0, none⟩ = some (Value.slice h.A1 s.cols.length h.c1) := KG.out.cell 0
  have e1 : W.cell? ⟨w.heap.size, 1, none⟩ = some (Value.slice h.A2 s.covs.length h.c2) := KG.out.cell 1
  have e2 : W.cell? ⟨w.heap.size, 2, none⟩ = some (.int .i64 s.l0) := KG.out.cell 2
  have e3 : W.cell? ⟨w.heap.size, 3, none⟩ = some (.int .i64 s.l1) := KG.out.cell 3
  have e4 : W.cell? ⟨w.heap.size, 4, none⟩ = some (.int .i64 s.l2) := KG.out.cell 4
  have e5 : W.cell? ⟨w.heap.size, 5, none⟩ = some (.int .i64 s.l3) := KG.out.cell 5
  have e6 : W.cell? ⟨w.heap.size, 6, none⟩ = some (Value.slice h.A3 s.rows.length h.c3) := KG.out.cell 6
  have e7 : W.cell? ⟨w.heap.size, 7, none⟩ = some (Value.slice h.A4 s.frames.length h.c4) := KG.out.cell 7
  have e8 : W.cell? ⟨w.heap.size, 8, none⟩ = some (Value.slice h.A5 s.tanks.length h.c5) := KG.out.cell 8
  have e9 : W.cell? ⟨w.heap.size, 9, none⟩ = some (.int .i64 s.m0) := KG.out.cell 9
  have e10 : W.cell? ⟨w.heap.size, 10, none⟩ = some (.int .i64 s.m1) := KG.out.cell 10
  have e11 : W.cell? ⟨w.heap.size, 11, none⟩ = some (.int .i64 s.m2) := KG.out.cell 11
  have e12 : W.cell? ⟨w.heap.size, 12, none⟩ = some (.int .i64 s.m3) := KG.out.cell 12
  have x0 : W.cell? ⟨w.heap.size + 1, 0, none⟩ = some (.int .i64 ac) := KX.out.cell 0
  have y0 : W.cell? ⟨w.heap.size + 1 + 1, 0, none⟩ = some (.int .i64 bc) := KY.out.cell 0
  generalize hap : apartF s ac bc = ap at *
  obtain ⟨an, ao⟩ := ap
  simp only at HNO HCL HCD HIN
  clear hap
  go_wp2_with fail
  refine HAP.out.mono ?_
  rintro e V ⟨rfl, hb⟩
  simp only
  have HBV := Lib.hid hb
  clear hb HAP e0 e1 e2 e3 e4 e5 e6 e7 e8 e9 e10 e11 e12 x0 y0
  cases ao with
  | false =>
    have HE := Lib.hid (HB0.out.trans (HBV.out.mono HB0.out.size))
    have HV := Lib.hid (HNO.out (.inl rfl))
    go_wp2_with fail
    go_ret
    exact ⟨by rw [HV.out]; rfl, HE.out⟩
  | true =>
    by_cases hc0 : code = 0
    · have HE := Lib.hid (HB0.out.trans (HBV.out.mono HB0.out.size))
      have HV := Lib.hid (HNO.out (.inr hc0))
      subst hc0
      go_wp2_with fail
      go_ret
      exact ⟨by rw [HV.out]; rfl, HE.out⟩
    · have hcb : ((code : Int) == 0) = false := by simpa using hc0
      have HV := Lib.hid ((HCL.out (by first | rfl | trivial) (Nat.pos_of_ne_zero hc0)).symm.trans HCD.out)
      clear hc0 HNO HCL HCD
      obtain ⟨⟨h1, h2⟩, h3, h4⟩ := HIN.out (by first | rfl | trivial)
      obtain ⟨i, rfl⟩ : ∃ i : Nat, ac = (i : Int) := ⟨ac.toNat, by omega⟩
      obtain ⟨j, rfl⟩ : ∃ j : Nat, bc = (j : Int) := ⟨bc.toNat, by omega⟩
      have hi : i < s.cols.length := by omega
      have hj : j < s.cols.length := by omega
      rw [Int.toNat_natCast, Int.toNat_natCast] at HV
      clear h1 h2 h3 h4 HIN
      have HR3 : Hid (rule3 s i j = (((i : Int) == (j : Int)) || ((besideF s i).any (fun y => y == (j : Int)) || ((s.cols.getD i default).bay == (s.cols.getD j default).bay && (s.cols.getD i default).row == (s.cols.getD j default).row)))) := Lib.hid (by rw [any_swap]; rfl)
      have KBE := Lib.hid (beside_any s h (i : Nat) V (HS.out.on HBV.out) hl hr)
      have HBL : Hid ((besideF s (i : Nat)).length ≤ 1000000) := Lib.hid (by
        unfold besideF
        split
        · simp
        · exact Nat.le_trans (pick_len _ _) hl)
      unfold shpA at KBE
      have SC := KG.out.below HBV.out KG.out.lt
      have e0 : V.cell? ⟨w.heap.size, 0, none⟩ = some (Value.slice h.A1 s.cols.length h.c1) := SC.cell 0
      have e1 : V.cell? ⟨w.heap.size, 1, none⟩ = some (Value.slice h.A2 s.covs.length h.c2) := SC.cell 1
      have e2 : V.cell? ⟨w.heap.size, 2, none⟩ = some (.int .i64 s.l0) := SC.cell 2
      have e3 : V.cell? ⟨w.heap.size, 3, none⟩ = some (.int .i64 s.l1) := SC.cell 3
      have e4 : V.cell? ⟨w.heap.size, 4, none⟩ = some (.int .i64 s.l2) := SC.cell 4
      have e5 : V.cell? ⟨w.heap.size, 5, none⟩ = some (.int .i64 s.l3) := SC.cell 5
      have e6 : V.cell? ⟨w.heap.size, 6, none⟩ = some (Value.slice h.A3 s.rows.length h.c3) := SC.cell 6
      have e7 : V.cell? ⟨w.heap.size, 7, none⟩ = some (Value.slice h.A4 s.frames.length h.c4) := SC.cell 7
      have e8 : V.cell? ⟨w.heap.size, 8, none⟩ = some (Value.slice h.A5 s.tanks.length h.c5) := SC.cell 8
      have e9 : V.cell? ⟨w.heap.size, 9, none⟩ = some (.int .i64 s.m0) := SC.cell 9
      have e10 : V.cell? ⟨w.heap.size, 10, none⟩ = some (.int .i64 s.m1) := SC.cell 10
      have e11 : V.cell? ⟨w.heap.size, 11, none⟩ = some (.int .i64 s.m2) := SC.cell 11
      have e12 : V.cell? ⟨w.heap.size, 12, none⟩ = some (.int .i64 s.m3) := SC.cell 12
      clear SC
      have SA := KX.out.below HBV.out KX.out.lt
      have SB := KY.out.below HBV.out KY.out.lt
      have x0 : V.cell? ⟨w.heap.size + 1, 0, none⟩ = some (.int .i64 (i : Nat)) := SA.cell 0
      have x1 : V.cell? ⟨w.heap.size + 1, 1, none⟩ = some (.int .i64 at_) := SA.cell 1
      have x2 : V.cell? ⟨w.heap.size + 1, 2, none⟩ = some (.int .u8 (ah : Nat)) := SA.cell 2
      have y0 : V.cell? ⟨w.heap.size + 1 + 1, 0, none⟩ = some (.int .i64 (j : Nat)) := SB.cell 0
      have y1 : V.cell? ⟨w.heap.size + 1 + 1, 1, none⟩ = some (.int .i64 bt) := SB.cell 1
      have y2 : V.cell? ⟨w.heap.size + 1 + 1, 2, none⟩ = some (.int .u8 (bh : Nat)) := SB.cell 2
      clear SA SB
      generalize rule3 s i j = r3 at *
      generalize rule2 ⟨(i : Int), at_, ah⟩ ⟨(j : Int), bt, bh⟩ = r2 at *
      generalize besideF s (i : Nat) = BL at *
      go_wp2_with fail
      refine KBE.out.mono ?_
      rintro e V2 ⟨v, rfl, ho, hb⟩
      simp only
      obtain ⟨AB, cB, rfl, _, _, hsB⟩ := ho.sl
      have HSB := Lib.hid hsB
      have HB2 := Lib.hid (HBV.out.trans (hb.mono HBV.out.size))
      clear ho hsB hb KBE HBV e0 e1 e2 e3 e4 e5 e6 e7 e8 e9 e10 e11 e12 x0 x1 x2 y0 y1 y2
      try clear V
      have hblen := HBL.out
      go_wp2_with fail
      go_loopw [11, 38] (fun v i wr => ∃ k : Nat, k ≤ BL.length ∧ i = .int .i64 k ∧ v = .bool ((BL.take k).any fun y => y == (j : Int)) ∧ Hid (Below V2.heap.size V2 wr)) (fun _ i _ => BL.length - (intOf i).toNat)
      case atStart => exact ⟨0, Nat.zero_le _, rfl, rfl, Lib.hid (Below.refl _ _)⟩
      case round =>
        obtain ⟨k, hk, rfl, rfl, HBK⟩ := hrel
        obtain ⟨U, rfl⟩ : ∃ V, V = wr := ⟨_, rfl⟩
        by_cases hlt : k < BL.length
        · obtain ⟨b5, off5, rfl, _, d0⟩ := (HSB.out.on HBK.out).int hlt
          have HAT := Lib.hid (any_take (fun y => y == (j : Int)) hlt 0)
          have k0 : (0 : Int) ≤ (k : Int) := by omega
          have k1 : (k : Int) < (BL.length : Int) := by omega
          have hk1 : k + 1 ≤ BL.length := hlt
          have HB3 := Lib.hid (HB2.out.trans (HBK.out.mono HB2.out.size))
          have y0 : U.cell? ⟨w.heap.size + 1 + 1, 0, none⟩ = some (.int .i64 (j : Nat)) := (KY.out.below HB3.out KY.out.lt).cell 0
          generalize ((BL.take k).any fun y => y == (j : Int)) = sd at *
          generalize BL.getD k 0 = z at *
          cases sd with
          | true =>
            have HA2 : Hid (((BL.take (k + 1)).any fun y => y == (j : Int)) = true) := Lib.hid (by rw [HAT.out]; rfl)
            clear HAT
            go_wp2_with fail
            go_roundw
            case rel => (first | exact ⟨k + 1, hk1, by go_num, by rw [HA2.out], Lib.hid HBK.out⟩ | ((repeat apply Exists.intro); (first | exact ⟨⟨k + 1, hk1, by go_num, by rw [HA2.out], Lib.hid HBK.out⟩, rfl⟩ | exact ⟨hk1, by go_num, by rw [HA2.out], Lib.hid HBK.out⟩)))
            case measure => simp [intOf]; omega
          | false =>
            have HA2 : Hid (((BL.take (k + 1)).any fun y => y == (j : Int)) = (z == (j : Int))) := Lib.hid (by rw [HAT.out]; rfl)
            clear HAT
            go_wp2_with fail
            go_roundw
            case rel => (first | exact ⟨k + 1, hk1, by go_num, by rw [HA2.out], Lib.hid HBK.out⟩ | ((repeat apply Exists.intro); (first | exact ⟨⟨k + 1, hk1, by go_num, by rw [HA2.out], Lib.hid HBK.out⟩, rfl⟩ | exact ⟨hk1, by go_num, by rw [HA2.out], Lib.hid HBK.out⟩)))
            case measure => simp [intOf]; omega
        · obtain rfl : k = BL.length := by omega
          rw [List.take_length]
          have HBU := Lib.hid (HB2.out.trans (HBK.out.mono HB2.out.size))
          clear HSB HB2 HBK hlt hk hblen HBL
          try clear V2
          generalize (BL.any fun y => y == (j : Int)) = sd at *
          try clear BL
          obtain ⟨b1, o1, Ap, p, hA, hb1, hp, hps, i0, i1, i2, i3, i4, i5, i6, i7, i8, i9, i10, i11⟩ := (HS.out.on HBU.out).cols.col hi
          obtain ⟨b2, o2, Aq, q, hA2, hb2, hq, hqs, j0, j1, j2, j3, j4, j5, j6, j7, j8, j9, j10, j11⟩ := (HS.out.on HBU.out).cols.col hj
          have hlb : b1 < U.heap.size := hb1
          have SC := KG.out.below HBU.out KG.out.lt
          have e0 : U.cell? ⟨w.heap.size, 0, none⟩ = some (.slice (some ⟨b1, o1, none⟩) s.cols.length h.c1) := by
            have := SC.cell 0
            rw [this, ← hA]
            rfl
          have he : b2 = b1 ∧ o2 = o1 := by
            rw [hA] at hA2
            injection hA2 with hA2
            injection hA2 with h1 h2
            exact ⟨h1.symm, h2.symm⟩
          obtain ⟨rfl, rfl⟩ := he
          have hlg : w.heap.size < U.heap.size := SC.lt
          clear hA hA2 hps hqs hp hq hb1 hb2 SC
          have x0 : U.cell? ⟨w.heap.size + 1, 0, none⟩ = some (.int .i64 (i : Nat)) := (KX.out.below HBU.out KX.out.lt).cell 0
          have y0 : U.cell? ⟨w.heap.size + 1 + 1, 0, none⟩ = some (.int .i64 (j : Nat)) := (KY.out.below HBU.out KY.out.lt).cell 0
          have hlx : w.heap.size + 1 < U.heap.size := (KX.out.below HBU.out KX.out.lt).lt
          have hly : w.heap.size + 1 + 1 < U.heap.size := (KY.out.below HBU.out KY.out.lt).lt
          have q0 : (0 : Int) ≤ (i : Int) := by omega
          have q1 : (i : Int) < (s.cols.length : Int) := by omega
          have q2 : (0 : Int) ≤ (j : Int) := by omega
          have q3 : (j : Int) < (s.cols.length : Int) := by omega
          generalize s.cols.getD i default = cx at *
          generalize s.cols.getD j default = cy at *
          go_upto_region 10 with fail
          generalize (Value.agg #[Value.slice h.A1 s.cols.length h.c1, Value.slice h.A2 s.covs.length h.c2, .int .i64 s.l0, .int .i64 s.l1, .int .i64 s.l2, .int .i64 s.l3, Value.slice h.A3 s.rows.length h.c3, Value.slice h.A4 s.frames.length h.c4, Value.slice h.A5 s.tanks.length h.c5, .int .i64 s.m0, .int .i64 s.m1, .int .i64 s.m2, .int .i64 s.m3]) = sv
          generalize (Value.agg #[.int .i64 (i : Nat), .int .i64 at_, .int .u8 (ah : Nat)]) = av
          generalize (Value.agg #[.int .i64 (j : Nat), .int .i64 bt, .int .u8 (bh : Nat)]) = bv
          go_cut [14, 15, 50, 51, 52, 53, 54, 55, 56, 57, 58, 59, 60, 61] (fun v6 v7 _ _ _ _ _ _ _ _ _ _ _ _ wz => ∃ gx gy : Nat, v6 = .pointer (some ⟨gx, 0, none⟩) ∧ v7 = .pointer (some ⟨gy, 0, none⟩) ∧ Hid (Bk wz gx 35 #[(.int .i64 cx.bay), .int .i64 cx.row, .bool cx.deck, .int .i64 cx.tiers, .int .i64 cx.height, .int .i64 cx.k20, .int .i64 cx.k40, .int .i64 cx.lash, .slice Ap cx.plugs.length p, .int .i64 cx.x, .int .i64 cx.y, .int .i64 cx.z]) ∧ Hid (Bk wz gy 35 #[(.int .i64 cy.bay), .int .i64 cy.row, .bool cy.deck, .int .i64 cy.tiers, .int .i64 cy.height, .int .i64 cy.k20, .int .i64 cy.k40, .int .i64 cy.lash, .slice Aq cy.plugs.length q, .int .i64 cy.x, .int .i64 cy.y, .int .i64 cy.z]) ∧ Hid (Below U.heap.size U wz))
          case first =>
            clear HO1 HO2 HR2 HR3 HV HB0 KG KX KY HS hr
            as_aux_lemma =>
              go_region
              all_goals (go_wp2_with fail; go_meet; refine ⟨_, _, rfl, rfl, Lib.hid ?_, Lib.hid ?_, Lib.hid ?_⟩)
              all_goals (first | exact bk14a | exact bk14b | exact (Bk.new U _ _).alloc _ | exact below_drewN (ba2 U _ _) 1 | exact ba2 U _ _)
          case rest =>
            obtain ⟨gx, gy, rfl, rfl, HKX, HKY, HBZ⟩ := hcut
            obtain ⟨Z, rfl⟩ : ∃ V, V = wc := ⟨_, rfl⟩
            clear i0 i1 i2 i3 i4 i5 i6 i7 i8 i9 i10 i11 j0 j1 j2 j3 j4 j5 j6 j7 j8 j9 j10 j11 x0 y0 e0 q0 q1 q2 q3 hlx hly hlg hlb
            have HBW := Lib.hid (HBU.out.trans (HBZ.out.mono HBU.out.size))
            clear HBU HBZ
            try clear U
            have SA := KX.out.below HBW.out KX.out.lt
            have SB := KY.out.below HBW.out KY.out.lt
            have x0 : Z.cell? ⟨w.heap.size + 1, 0, none⟩ = some (.int .i64 (i : Nat)) := SA.cell 0
            have x1 : Z.cell? ⟨w.heap.size + 1, 1, none⟩ = some (.int .i64 at_) := SA.cell 1
            have x2 : Z.cell? ⟨w.heap.size + 1, 2, none⟩ = some (.int .u8 (ah : Nat)) := SA.cell 2
            have y0 : Z.cell? ⟨w.heap.size + 1 + 1, 0, none⟩ = some (.int .i64 (j : Nat)) := SB.cell 0
            have y1 : Z.cell? ⟨w.heap.size + 1 + 1, 1, none⟩ = some (.int .i64 bt) := SB.cell 1
            have y2 : Z.cell? ⟨w.heap.size + 1 + 1, 2, none⟩ = some (.int .u8 (bh : Nat)) := SB.cell 2
            clear SA SB
            go_upto_region 11 with fail
            go_cut [16, 62, 63, 64, 65, 66, 67, 68, 69] (fun v16 _ _ _ _ _ _ _ _ wz => v16 = .bool r2 ∧ Hid (Below Z.heap.size Z wz))
            case first =>
              as_aux_lemma =>
                generalize overB ⟨(i : Int), at_, ah⟩ ⟨(j : Int), bt, bh⟩ = oa at *
                generalize overB ⟨(j : Int), bt, bh⟩ ⟨(i : Int), at_, ah⟩ = ob at *
                go_wp2_with fail
                refine (HO1.out Z).mono ?_
                rintro e Q ⟨rfl, hb⟩
                simp only
                have HBQ := Lib.hid hb
                clear hb x0 x1 x2 y0 y1 y2
                cases oa with
                | true =>
                  go_wp2_with fail
                  go_meet
                  exact ⟨by rw [HR2.out]; rfl, HBQ⟩
                | false =>
                  have HBQ2 := Lib.hid (HBW.out.trans (HBQ.out.mono HBW.out.size))
                  have SA := KX.out.below HBQ2.out KX.out.lt
                  have SB := KY.out.below HBQ2.out KY.out.lt
                  have x0 : Q.cell? ⟨w.heap.size + 1, 0, none⟩ = some (.int .i64 (i : Nat)) := SA.cell 0
                  have x1 : Q.cell? ⟨w.heap.size + 1, 1, none⟩ = some (.int .i64 at_) := SA.cell 1
                  have x2 : Q.cell? ⟨w.heap.size + 1, 2, none⟩ = some (.int .u8 (ah : Nat)) := SA.cell 2
                  have y0 : Q.cell? ⟨w.heap.size + 1 + 1, 0, none⟩ = some (.int .i64 (j : Nat)) := SB.cell 0
                  have y1 : Q.cell? ⟨w.heap.size + 1 + 1, 1, none⟩ = some (.int .i64 bt) := SB.cell 1
                  have y2 : Q.cell? ⟨w.heap.size + 1 + 1, 2, none⟩ = some (.int .u8 (bh : Nat)) := SB.cell 2
                  clear SA SB
                  go_wp2_with fail
                  refine (HO2.out Q).mono ?_
                  rintro e Q2 ⟨rfl, hb⟩
                  simp only
                  have HBQ3 := Lib.hid (HBQ.out.trans (hb.mono HBQ.out.size))
                  clear hb x0 x1 x2 y0 y1 y2
                  go_wp2_with fail
                  go_meet
                  exact ⟨by rw [HR2.out]; rfl, HBQ3⟩
            case rest =>
              obtain ⟨rfl, HBQ⟩ := hcut
              clear x0 x1 x2 y0 y1 y2
              obtain ⟨Q, rfl⟩ : ∃ V, V = wc := ⟨_, rfl⟩
              have HBX := Lib.hid (HBW.out.trans (HBQ.out.mono HBW.out.size))
              have SX := HKX.out.below HBQ.out HKX.out.lt
              have SY := HKY.out.below HBQ.out HKY.out.lt
              have cx0 : Q.cell? ⟨gx, 0, none⟩ = some (.int .i64 cx.bay) := SX.cell 0
              have cx1 : Q.cell? ⟨gx, 1, none⟩ = some (.int .i64 cx.row) := SX.cell 1
              have cy0 : Q.cell? ⟨gy, 0, none⟩ = some (.int .i64 cy.bay) := SY.cell 0
              have cy1 : Q.cell? ⟨gy, 1, none⟩ = some (.int .i64 cy.row) := SY.cell 1
              have x0 : Q.cell? ⟨w.heap.size + 1, 0, none⟩ = some (.int .i64 (i : Nat)) := (KX.out.below HBX.out KX.out.lt).cell 0
              have y0 : Q.cell? ⟨w.heap.size + 1 + 1, 0, none⟩ = some (.int .i64 (j : Nat)) := (KY.out.below HBX.out KY.out.lt).cell 0
              clear SX SY
              go_upto_region 12 with fail
              go_cut [17, 70, 71, 72, 73, 74, 75, 76, 77, 78, 79, 80, 81, 82, 83, 84, 85, 86, 87, 88, 89, 90, 91] (fun v17 _ _ _ _ _ _ _ _ _ _ _ _ _ _ _ _ _ _ _ _ _ _ wz => v17 = .bool r3 ∧ wz = Q)
              case first =>
                as_aux_lemma =>
                  cases hEQ : ((i : Int) == (j : Int)) with
                  | true =>
                    go_wp2_with fail
                    go_meet
                    exact ⟨by rw [HR3.out, hEQ]; rfl, rfl⟩
                  | false =>
                    cases sd with
                    | true =>
                      go_wp2_with fail
                      go_meet
                      exact ⟨by rw [HR3.out, hEQ]; rfl, rfl⟩
                    | false =>
                      cases hBY : (cx.bay == cy.bay) with
                      | false =>
                        go_wp2_with fail
                        go_meet
                        exact ⟨by rw [HR3.out, hEQ, hBY]; rfl, rfl⟩
                      | true =>
                        go_wp2_with fail
                        go_meet
                        exact ⟨by rw [HR3.out, hEQ, hBY]; rfl, rfl⟩
              case rest =>
                obtain ⟨rfl, rfl⟩ := hcut
                clear cx0 cx1 cy0 cy1 x0 y0
                have HE := Lib.hid (HB0.out.trans (HBX.out.mono HB0.out.size))
                cases r2 with
                | true =>
                  go_wp2_with fail
                  go_ret
                  exact ⟨by rw [HV.out]; rfl, HE.out⟩
                | false =>
                  by_cases hc2 : 2 < code
                  · have m1 : decide ((1 : Int) < (code : Int)) = true := decide_eq_true (by omega)
                    have m2 : decide ((2 : Int) < (code : Int)) = true := decide_eq_true (by omega)
                    have HV2 : Hid (R = (r3 || decide (an < 2))) := Lib.hid (by rw [HV.out, decide_eq_true (by omega : 1 < code), decide_eq_true hc2]; rfl)
                    clear HV
                    cases r3 with
                    | true =>
                      go_wp2_with fail
                      go_ret
                      exact ⟨by rw [HV2.out]; rfl, HE.out⟩
                    | false =>
                      go_wp2_with fail
                      go_ret
                      exact ⟨by rw [HV2.out]; rfl, HE.out⟩
                  · have m2 : decide ((2 : Int) < (code : Int)) = false := decide_eq_false (by omega)
                    by_cases hc1 : 1 < code
                    · have m1 : decide ((1 : Int) < (code : Int)) = true := decide_eq_true (by omega)
                      have HV2 : Hid (R = r3) := Lib.hid (by rw [HV.out, decide_eq_true hc1, decide_eq_false hc2]; simp)
                      clear HV
                      cases r3 with
                      | true =>
                        go_wp2_with fail
                        go_ret
                        exact ⟨by rw [HV2.out]; rfl, HE.out⟩
                      | false =>
                        go_wp2_with fail
                        go_ret
                        exact ⟨by rw [HV2.out]; rfl, HE.out⟩
                    · have m1 : decide ((1 : Int) < (code : Int)) = false := decide_eq_false (by omega)
                      have HV2 : Hid (R = false) := Lib.hid (by rw [HV.out, decide_eq_false hc1, decide_eq_false hc2]; rfl)
                      clear HV
                      go_wp2_with fail
                      go_ret
                      exact ⟨by rw [HV2.out]; rfl, HE.out⟩
end Go.Proofs.YtnbpecnddjpfbaaDoor
