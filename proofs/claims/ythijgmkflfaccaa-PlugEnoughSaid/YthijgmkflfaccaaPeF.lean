/-
  The walk of twistlocklaw12.fed.
-/
import Derived.Test.YthijgmkflfaccaaPeP
namespace Go.Proofs.Ythijgmkflfaccaa
open Go.RowKit

theorem keepI_take (id : Int) (x : Stw) {l : List Stw} {j : Nat} (h : j < l.length) : keepI id x (l.take (j + 1)) = (keepI id x (l.take j) && !((l.getD j default).box == id && (x.box == id || overB x.slot (l.getD j default).slot))) := all_takeD _ h _
theorem fed_take (p : Int → Bool) {l : List Int} {j : Nat} (h : j < l.length) : (l.take (j + 1)).all p = ((l.take j).all p && p (l.getD j 0)) := all_takeD _ h _
set_option maxRecDepth 100000 in
set_option maxHeartbeats 8000000 in
theorem fed_any (s : Shp) (h : Hd) (A1 : Option Addr) (q1 : Nat) (bs : List Bx) (A3 : Option Addr) (q3 : Nat) (st : List Stw) (w : World) (hsh : ShpR w (Lt w.heap.size) s h) (hLm : Lm s) (hLd : Ld s bs st) (hb : SlT tBx w (Lt w.heap.size) A1 bs) (hs : SlT tStw w (Lt w.heap.size) A3 st) :
    Calls Try.prog 23 #[.agg (shpA s h), .slice A1 bs.length q1, .slice A3 st.length q3] w (OwnL tStw 49 w (fedF s bs st)) := by
  have hb0 := ba1 w (.cells (shpA s h) 37)
  have HW0 : Hid (W5 w (w.alloc (.cells (shpA s h) 37)) w.heap.size s h A1 bs A3 st) := Lib.hid ⟨Bk.new w _ _, hsh.on hb0, hb.on hb0, hs.on hb0, hb0⟩
  have hsl := hLd.stlen
  have hbl := hLd.nine
  have HLM := Lib.hid hLm
  have HLD := Lib.hid hLd
  have HI6 := Lib.hid (hLd.i64s hLm)
  have HW3F : Hid (∀ V' : World, Bk V' w.heap.size 37 (shpA s h) → Below w.heap.size w V' → W5 w V' w.heap.size s h A1 bs A3 st) := Lib.hid fun V' h1 h2 => ⟨h1, (hsh.below h2).up h2.size, (hb.below h2).up h2.size, (hs.below h2).up h2.size, h2⟩
  clear hsh hb hs hb0 hLm hLd
  have KFA : Hid (∀ V' : World, W5 w V' w.heap.size s h A1 bs A3 st → Calls Try.prog 15 #[.agg (shpA s h), .slice A1 bs.length q1, .slice A3 st.length q3] V' (fun e w' => ∃ A c, e = .returned (.slice A (pfF s bs st).length c) ∧ SlT tInt w' (Lt w'.heap.size) A (pfF s bs st) ∧ Below V'.heap.size V' w')) := Lib.hid fun V' r => by
    refine (pFaults_any s h A1 q1 bs A3 q3 st V' r.rd HLM.out.few HLM.out.ints r.bx HLD.out.bl r.sx HLD.out.sl HI6.out).mono ?_
    rintro e w' ⟨v, rfl, ho, hb⟩
    obtain ⟨A, c, rfl, hc, _, hs⟩ := ho.sl
    exact ⟨A, c, rfl, hs, hb⟩
  have hpl9 : (pfF s bs st).length ≤ 9 := by
    rw [pf_eq, List.length_map]
    exact Nat.le_trans (List.length_filter_le _ _) hsl
  have HKP : Hid (∀ x, keepP s bs st x = (pfF s bs st).all fun id => keepI id x st) := Lib.hid fun _ => rfl
  have HFD : Hid (fedF s bs st = st.filter (keepP s bs st)) := Lib.hid rfl
  have HFL := Lib.hid (fun k (hk : k < st.length) => filter_take (keepP s bs st) st hk default)
  have HLE := Lib.hid (fun k => filter_take_len (keepP s bs st) st k)
  generalize pfF s bs st = a at *
  generalize keepP s bs st = kp at *
  generalize fedF s bs st = R at *
  unfold shpA at HW0 KFA HW3F ⊢
  go_enter Try.func23, Try.ntmps23
  go_wp2_with fail
  generalize (w.alloc _) = V at *
  go_loopw [7, 17] (fun v i wr => ∃ (k : Nat) (m : List Stw), k ≤ st.length ∧ i = .int .i64 k ∧ m.length ≤ st.length ∧ Hid (m = (st.take k).filter kp) ∧ Hid (OwnT tStw 49 wr w.heap.size v m) ∧ Hid (W5 w wr w.heap.size s h A1 bs A3 st)) (fun _ i _ => st.length - (intOf i).toNat)
  case atStart => exact ⟨0, [], Nat.zero_le _, rfl, by simp, Lib.hid (by simp), Lib.hid OwnT.nil, HW0⟩
  case round =>
    clear HW0
    obtain ⟨k, m, hk, rfl, hm, HM, HO, HW⟩ := hrel
    obtain ⟨Y, rfl⟩ : ∃ V, V = wr := ⟨_, rfl⟩
    by_cases hlt : k < st.length
    · obtain ⟨b3, off3, rfl, hbB, c0, c1, c2', c3⟩ := HW.out.sx.stw hlt
      have i0 : (0 : Int) ≤ (k : Int) := by omega
      have i1 : (k : Int) < (st.length : Int) := by omega
      have HP := Lib.hid (HFL.out k hlt)
      have HLX := Lib.hid (HLE.out (k + 1))
      have HKX0 := Lib.hid (HKP.out (st.getD k default))
      generalize st.getD k default = x at *
      obtain ⟨x0, x1, x2, x3⟩ := x
      simp only at c0 c1 c2' c3
      have hy := ba1 Y (.cells #[.int .i64 x0, .int .i64 x1, .int .i64 x2, .int .u8 (x3 : Nat)] 49)
      have HKX := Lib.hid (Bk.new Y 49 #[.int .i64 x0, .int .i64 x1, .int .i64 x2, .int .u8 (x3 : Nat)])
      replace HW := Lib.hid (HW.out.on hy)
      replace HO := Lib.hid (HO.out.below hy)
      clear hy
      go_upto_region 6 with fail
      clear c0 c1 c2' c3
      generalize Y.heap.size = gx at *
      generalize (Y.alloc _) = Y1 at *
      try clear Y
      have SC := HW.out.bk
      have e0 : Y1.cell? ⟨w.heap.size, 0, none⟩ = some (.slice h.A1 s.cols.length h.c1) := SC.cell 0
      have e1 : Y1.cell? ⟨w.heap.size, 1, none⟩ = some (.slice h.A2 s.covs.length h.c2) := SC.cell 1
      have e2 : Y1.cell? ⟨w.heap.size, 2, none⟩ = some (.int .i64 s.l0) := SC.cell 2
      have e3 : Y1.cell? ⟨w.heap.size, 3, none⟩ = some (.int .i64 s.l1) := SC.cell 3
      have e4 : Y1.cell? ⟨w.heap.size, 4, none⟩ = some (.int .i64 s.l2) := SC.cell 4
      have e5 : Y1.cell? ⟨w.heap.size, 5, none⟩ = some (.int .i64 s.l3) := SC.cell 5
      have e6 : Y1.cell? ⟨w.heap.size, 6, none⟩ = some (.slice h.A3 s.rows.length h.c3) := SC.cell 6
      have e7 : Y1.cell? ⟨w.heap.size, 7, none⟩ = some (.slice h.A4 s.frames.length h.c4) := SC.cell 7
      have e8 : Y1.cell? ⟨w.heap.size, 8, none⟩ = some (.slice h.A5 s.tanks.length h.c5) := SC.cell 8
      have e9 : Y1.cell? ⟨w.heap.size, 9, none⟩ = some (.int .i64 s.m0) := SC.cell 9
      have e10 : Y1.cell? ⟨w.heap.size, 10, none⟩ = some (.int .i64 s.m1) := SC.cell 10
      have e11 : Y1.cell? ⟨w.heap.size, 11, none⟩ = some (.int .i64 s.m2) := SC.cell 11
      have e12 : Y1.cell? ⟨w.heap.size, 12, none⟩ = some (.int .i64 s.m3) := SC.cell 12
      clear SC
      have KF := Lib.hid (KFA.out Y1 HW.out)
      go_wp2_with fail
      refine KF.out.mono ?_
      rintro e Y2 ⟨A4, c4, rfl, hs4, hb⟩
      simp only
      clear KF e0 e1 e2 e3 e4 e5 e6 e7 e8 e9 e10 e11 e12
      replace HW := Lib.hid (HW.out.on hb)
      replace HO := Lib.hid (HO.out.below hb)
      replace HKX := Lib.hid (HKX.out.below hb HKX.out.lt)
      have HS4 := Lib.hid hs4
      clear hb hs4
      try clear Y1
      go_wp2_with fail
      go_loopw [10, 26] (fun ok i wr => ∃ i0 : Nat, i0 ≤ a.length ∧ i = .int .i64 i0 ∧ ok = .bool ((a.take i0).all fun id => keepI id ⟨x0, ⟨x1, x2, x3⟩⟩ st) ∧ Hid (Below Y2.heap.size Y2 wr)) (fun _ i _ => a.length - (intOf i).toNat)
      case atStart => exact ⟨0, Nat.zero_le _, rfl, rfl, Lib.hid (Below.refl _ _)⟩
      case round =>
        obtain ⟨i, hi, rfl, rfl, HBI⟩ := hrel
        obtain ⟨X, rfl⟩ : ∃ V, V = wr := ⟨_, rfl⟩
        by_cases hil : i < a.length
        · obtain ⟨b5, off5, rfl, hb5, d0⟩ := (HS4.out.on HBI.out).int hil
          have q0 : (0 : Int) ≤ (i : Int) := by omega
          have q1' : (i : Int) < (a.length : Int) := by omega
          have HTA := Lib.hid (fed_take (fun id => keepI id ⟨x0, ⟨x1, x2, x3⟩⟩ st) hil)
          generalize (a.take i).all (fun id => keepI id ⟨x0, ⟨x1, x2, x3⟩⟩ st) = ok at *
          generalize a.getD i 0 = id at *
          go_wp2_with fail
          clear d0
          go_loopw [10, 32] (fun o j wr => ∃ j0 : Nat, j0 ≤ st.length ∧ j = .int .i64 j0 ∧ o = .bool (ok && keepI id ⟨x0, ⟨x1, x2, x3⟩⟩ (st.take j0)) ∧ Hid (Below Y2.heap.size Y2 wr)) (fun _ j _ => st.length - (intOf j).toNat)
          case atStart => exact ⟨0, Nat.zero_le _, rfl, by unfold keepI; simp, HBI⟩
          case round =>
            clear HBI
            obtain ⟨j, hj, rfl, rfl, HBJ⟩ := hrel
            obtain ⟨Z, rfl⟩ : ∃ V, V = wr := ⟨_, rfl⟩
            by_cases hjl : j < st.length
            · obtain ⟨b6, off6, e6, hb6, d0, d1, d2, d3⟩ := (HW.out.on HBJ.out).sx.stw hjl
              cases e6
              have r0 : (0 : Int) ≤ (j : Int) := by omega
              have r1 : (j : Int) < (st.length : Int) := by omega
              have HTJ := Lib.hid (keepI_take id ⟨x0, ⟨x1, x2, x3⟩⟩ hjl)
              have KOV := Lib.hid (fun V' : World => over_any ⟨x1, x2, x3⟩ (st.getD j default).slot V')
              generalize keepI id ⟨x0, ⟨x1, x2, x3⟩⟩ (st.take j) = kj at *
              generalize st.getD j default = y at *
              obtain ⟨y0, y1, y2, y3⟩ := y
              simp only at d0 d1 d2 d3 KOV HTJ
              unfold sltL at KOV
              simp only at KOV
              generalize overB ⟨x1, x2, x3⟩ ⟨y1, y2, y3⟩ = ov at *
              have hz := ba1 Z (.cells #[.int .i64 y0, .int .i64 y1, .int .i64 y2, .int .u8 (y3 : Nat)] 49)
              have HKY := Lib.hid (Bk.new Z 49 #[.int .i64 y0, .int .i64 y1, .int .i64 y2, .int .u8 (y3 : Nat)])
              have HBK := Lib.hid (HBJ.out.trans (hz.mono HBJ.out.size))
              have HKX1 := Lib.hid (HKX.out.below HBK.out HKX.out.lt)
              clear hz HBJ
              go_upto_region 12 with fail
              clear d0 d1 d2 d3
              generalize Z.heap.size = gy at *
              generalize (Z.alloc _) = Z1 at *
              try clear Z
              generalize hoo : (ok && kj) = oo at *
              have HOO := Lib.hid hoo
              clear hoo
              cases oo with
              | false =>
                have HN : Hid ((ok && keepI id ⟨x0, ⟨x1, x2, x3⟩⟩ (st.take (j + 1))) = false) := Lib.hid (by rw [HTJ.out, ← Bool.and_assoc, HOO.out]; rfl)
                go_wp2_with fail
                go_roundw
                case rel => first | exact ⟨j + 1, by omega, by go_num, by rw [HN.out], HBK⟩ | ((repeat apply Exists.intro); (first | exact ⟨⟨j + 1, by omega, by go_num, by rw [HN.out], HBK⟩, rfl⟩ | exact ⟨by omega, by go_num, by rw [HN.out], HBK⟩))
                case measure => simp [intOf]; omega
              | true =>
                have yy0 : Z1.cell? ⟨gy, 0, none⟩ = some (.int .i64 y0) := HKY.out.cell 0
                have yy1 : Z1.cell? ⟨gy, 1, none⟩ = some (.int .i64 y1) := HKY.out.cell 1
                have yy2 : Z1.cell? ⟨gy, 2, none⟩ = some (.int .i64 y2) := HKY.out.cell 2
                have yy3 : Z1.cell? ⟨gy, 3, none⟩ = some (.int .u8 (y3 : Nat)) := HKY.out.cell 3
                have xx0 : Z1.cell? ⟨gx, 0, none⟩ = some (.int .i64 x0) := HKX1.out.cell 0
                have xx1 : Z1.cell? ⟨gx, 1, none⟩ = some (.int .i64 x1) := HKX1.out.cell 1
                have xx2 : Z1.cell? ⟨gx, 2, none⟩ = some (.int .i64 x2) := HKX1.out.cell 2
                have xx3 : Z1.cell? ⟨gx, 3, none⟩ = some (.int .u8 (x3 : Nat)) := HKX1.out.cell 3
                cases hq1 : (y0 == id) with
                | false =>
                  have HN : Hid ((ok && keepI id ⟨x0, ⟨x1, x2, x3⟩⟩ (st.take (j + 1))) = true) := Lib.hid (by rw [HTJ.out, ← Bool.and_assoc, HOO.out, hq1]; rfl)
                  go_wp2_with fail
                  go_roundw
                  case rel => first | exact ⟨j + 1, by omega, by go_num, by rw [HN.out], HBK⟩ | ((repeat apply Exists.intro); (first | exact ⟨⟨j + 1, by omega, by go_num, by rw [HN.out], HBK⟩, rfl⟩ | exact ⟨by omega, by go_num, by rw [HN.out], HBK⟩))
                  case measure => simp [intOf]; omega
                | true =>
                  cases hq2 : (x0 == id) with
                  | true =>
                    have HN : Hid ((ok && keepI id ⟨x0, ⟨x1, x2, x3⟩⟩ (st.take (j + 1))) = false) := Lib.hid (by rw [HTJ.out, ← Bool.and_assoc, HOO.out, hq1, hq2]; rfl)
                    go_wp2_with fail
                    go_roundw
                    case rel => first | exact ⟨j + 1, by omega, by go_num, by rw [HN.out], HBK⟩ | ((repeat apply Exists.intro); (first | exact ⟨⟨j + 1, by omega, by go_num, by rw [HN.out], HBK⟩, rfl⟩ | exact ⟨by omega, by go_num, by rw [HN.out], HBK⟩))
                    case measure => simp [intOf]; omega
                  | false =>
                    have HN : Hid ((ok && keepI id ⟨x0, ⟨x1, x2, x3⟩⟩ (st.take (j + 1))) = !ov) := Lib.hid (by rw [HTJ.out, ← Bool.and_assoc, HOO.out, hq1, hq2]; simp)
                    go_wp2_with fail
                    refine (KOV.out Z1).mono ?_
                    rintro e Z2 ⟨rfl, hb⟩
                    simp only
                    replace HBK := Lib.hid (HBK.out.trans (hb.mono HBK.out.size))
                    clear KOV hb yy0 yy1 yy2 yy3 xx0 xx1 xx2 xx3
                    go_wp2_with fail
                    go_roundw
                    case rel => first | exact ⟨j + 1, by omega, by go_num, by rw [HN.out], HBK⟩ | ((repeat apply Exists.intro); (first | exact ⟨⟨j + 1, by omega, by go_num, by rw [HN.out], HBK⟩, rfl⟩ | exact ⟨by omega, by go_num, by rw [HN.out], HBK⟩))
                    case measure => simp [intOf]; omega
            · obtain rfl : j = st.length := by omega
              have HN : Hid ((a.take (i + 1)).all (fun id => keepI id ⟨x0, ⟨x1, x2, x3⟩⟩ st) = (ok && keepI id ⟨x0, ⟨x1, x2, x3⟩⟩ st)) := Lib.hid HTA.out
              rw [List.take_length]
              generalize (ok && keepI id ⟨x0, ⟨x1, x2, x3⟩⟩ st) = o2 at *
              go_wp2_with fail
              go_roundw
              case rel => first | exact ⟨i + 1, by omega, by go_num, by rw [HN.out], HBJ⟩ | ((repeat apply Exists.intro); (first | exact ⟨⟨i + 1, by omega, by go_num, by rw [HN.out], HBJ⟩, rfl⟩ | exact ⟨by omega, by go_num, by rw [HN.out], HBJ⟩))
              case measure => simp [intOf]; omega
        · obtain rfl : i = a.length := by omega
          rw [List.take_length, ← HKX0.out]
          replace HW := Lib.hid (HW.out.on HBI.out)
          replace HO := Lib.hid (HO.out.below HBI.out)
          replace HKX := Lib.hid (HKX.out.below HBI.out HKX.out.lt)
          have hwz := HW.out.be.size
          clear HS4 HBI
          try clear Y2
          generalize hkp : kp ⟨x0, ⟨x1, x2, x3⟩⟩ = pk at *
          have HPK := Lib.hid hkp
          clear hkp
          cases pk with
          | false =>
            have HM2 : Hid (m = (st.take (k + 1)).filter kp) := Lib.hid (by rw [HP.out, HM.out]; simp)
            go_wp2_with fail
            go_roundw
            case rel => first | exact ⟨k + 1, m, by omega, by go_num, hm, HM2, HO, HW⟩ | ((repeat apply Exists.intro); (first | exact ⟨⟨k + 1, m, by omega, by go_num, hm, HM2, HO, HW⟩, rfl⟩ | exact ⟨by omega, by go_num, hm, HM2, HO, HW⟩))
            case measure => simp [intOf]; omega
          | true =>
            obtain ⟨xs, ho, hfl⟩ := HO.out
            have HQ := HLX.out
            rw [HP.out, ← HM.out] at HQ
            simp at HQ
            have HM2 : Hid (m ++ [(⟨x0, ⟨x1, x2, x3⟩⟩ : Stw)] = (st.take (k + 1)).filter kp) := Lib.hid (by rw [HP.out, HM.out]; rfl)
            have xx0 : X.cell? ⟨gx, 0, none⟩ = some (.int .i64 x0) := HKX.out.cell 0
            have xx1 : X.cell? ⟨gx, 1, none⟩ = some (.int .i64 x1) := HKX.out.cell 1
            have xx2 : X.cell? ⟨gx, 2, none⟩ = some (.int .i64 x2) := HKX.out.cell 2
            have xx3 : X.cell? ⟨gx, 3, none⟩ = some (.int .u8 (x3 : Nat)) := HKX.out.cell 3
            clear HO
            go_wp2_with (at_builtin; (refine wpList_append1 el_stw rfl (.tmp 60) (.tmp 62) rfl w.heap.size _ m.length xs rfl ho #[.int .i64 x0, .int .i64 x1, .int .i64 x2, .int .u8 (x3 : Nat)] _ rfl rfl rfl ?c1 ?c2 ?c3 ?_))
            case c1 => unfold maxLen; omega
            case c2 => omega
            intro v' w3 hown' hgr hd3 hbel
            have HO2 : Hid (OwnT tStw 49 w3 w.heap.size v' (m ++ [(⟨x0, ⟨x1, x2, x3⟩⟩ : Stw)])) := Lib.hid (OwnT.append1 (T := tStw) (x := ⟨x0, ⟨x1, x2, x3⟩⟩) hfl (cs := stwL ⟨x0, ⟨x1, x2, x3⟩⟩) rfl hown' hgr hd3)
            have HW3 : Hid (W5 w w3 w.heap.size s h A1 bs _ st) := Lib.hid (HW3F.out w3 (HW.out.bk.grown hgr (Ne.symm (own_ne ho HW.out.bk (by decide)))) (HW.out.be.trans hbel))
            go_wp2
            go_roundw
            case rel => first | exact ⟨k + 1, _, by omega, by go_num, by simp; omega, HM2, HO2, HW3⟩ | ((repeat apply Exists.intro); (first | exact ⟨⟨k + 1, _, by omega, by go_num, by simp; omega, HM2, HO2, HW3⟩, rfl⟩ | exact ⟨by omega, by go_num, by simp; omega, HM2, HO2, HW3⟩))
            case measure => simp [intOf]; omega
    · have hkn : m = R := by rw [HM.out, HFD.out, List.take_of_length_le (by omega)]
      subst hkn
      go_wp2
      go_ret
      exact ⟨_, rfl, HO.out, HW.out.be⟩
end Go.Proofs.Ythijgmkflfaccaa
