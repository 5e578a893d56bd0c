/-
  The walk of twistlocklaw11.free.
-/
import Derived.Test.YtncfakkajknhaaaStRp
namespace Go.Proofs.Ytncfakkajknhaaa
open Go.RowKit

set_option maxRecDepth 100000 in
set_option maxHeartbeats 8000000 in
theorem free11_any (s : Shp) (h : Hd) (A2 : Option Addr) (c2 : Nat) (st : List Stw) (size : Nat) (w : World) (hsh : ShpR w (Lt w.heap.size) s h) (hlm : Lm s) (hs : SlT tStw w (Lt w.heap.size) A2 st) (hl : st.length ≤ 1000) (htr : ∀ x ∈ allF s size, x.tier ≤ 9223372036854775807) :
    Calls Try.prog 29 #[.agg (shpA s h), .slice A2 st.length c2, .int .u8 (size : Nat)] w (OwnSlt w (freeF s st size)) := by
  have HS := Lib.hid (hs.on (ba1 w (.cells (shpA s h) 37)))
  have HSH := Lib.hid (hsh.on (ba1 w (.cells (shpA s h) 37)))
  have HK := Lib.hid (Bk.new w 37 (shpA s h))
  have HBW := Lib.hid (ba1 w (.cells (shpA s h) 37))
  have HLM := Lib.hid hlm
  have HTR := Lib.hid htr
  have HFF : Hid (freeF s st size = (allF s size).filter (freeB st)) := Lib.hid rfl
  clear hs hsh hlm htr
  unfold shpA at HS HSH HK HBW ⊢
  go_enter Try.func29, Try.ntmps29
  go_upto_region 1 with fail
  generalize (w.alloc _) = W at *
  go_wp2_with fail
  go_loopw [7, 18] (fun v i wr => ∃ (k : Nat) (m : List Slt), k ≤ st.length ∧ i = .int .i64 k ∧ m.length = k ∧ Hid (m = (st.take k).map (·.slot)) ∧ OwnT tSlt 47 wr W.heap.size v m ∧ Hid (Below W.heap.size W wr)) (fun _ i _ => st.length - (intOf i).toNat)
  case atStart => exact ⟨0, [], Nat.zero_le _, rfl, rfl, Lib.hid (by simp), OwnT.nil, Lib.hid (Below.refl _ _)⟩
  case round =>
    obtain ⟨k, m, hk, rfl, hm, HM, hown, HB⟩ := hrel
    obtain ⟨V, rfl⟩ : ∃ V, V = wr := ⟨_, rfl⟩
    by_cases hlt : k < st.length
    · obtain ⟨b, off, rfl, hbB, c0, c1, c2', c3⟩ := (HS.out.below HB.out).stw hlt
      have HP := Lib.hid (show (st.take (k + 1)).map (·.slot) = (st.take k).map (·.slot) ++ [(st.getD k default).slot] by rw [List.take_succ_eq_append_getElem hlt, List.map_append]; simp [hlt])
      have hk0 : (0 : Int) ≤ (k : Int) := by omega
      have hk1 : (k : Int) < (st.length : Int) := by omega
      have hkk : k + 1 ≤ st.length := hlt
      generalize st.getD k default = x at *
      obtain ⟨xb, xc, xt, xh⟩ := x
      simp only at c0 c1 c2' c3
      have hown' := hown.below (ba1 V (.cells #[.int .i64 xb, .int .i64 xc, .int .i64 xt, .int .u8 (xh : Nat)] 61))
      have hx := Bk.new V 61 #[.int .i64 xb, .int .i64 xc, .int .i64 xt, .int .u8 (xh : Nat)]
      have HB2 := Lib.hid (HB.out.alloc HB.out.size (.cells #[.int .i64 xb, .int .i64 xc, .int .i64 xt, .int .u8 (xh : Nat)] 61))
      clear HB
      go_upto_region 5 with fail
      clear hown c0 c1 c2' c3
      generalize V.heap.size = gx at *
      generalize (V.alloc _) = X at *
      try clear V
      obtain ⟨xs, ho, hfl⟩ := hown'
      have hz0 := HB2.out.size
      have x1 : X.cell? ⟨gx, 1, none⟩ = some (.int .i64 xc) := hx.cell 1
      have x2 : X.cell? ⟨gx, 2, none⟩ = some (.int .i64 xt) := hx.cell 2
      have x3 : X.cell? ⟨gx, 3, none⟩ = some (.int .u8 (xh : Nat)) := hx.cell 3
      clear hx
      go_wp2_with (at_builtin; (refine wpList_append1 el_slt rfl (.tmp 22) (.tmp 25) rfl W.heap.size _ m.length xs rfl ho #[.int .i64 xc, .int .i64 xt, .int .u8 (xh : Nat)] _ rfl rfl rfl ?c1 ?c2 ?c3 ?_))
      case c1 => unfold maxLen; omega
      case c2 => omega
      intro v' w3 hown' hgr hd3 hbel
      have HB3 := Lib.hid (HB2.out.trans hbel)
      have hfin : OwnT tSlt 47 w3 W.heap.size v' (m ++ [⟨xc, xt, xh⟩]) := OwnT.append1 (T := tSlt) (x := ⟨xc, xt, xh⟩) hfl (cs := sltL ⟨xc, xt, xh⟩) rfl (by rw [hm]; exact hown') hgr hd3
      go_wp2
      go_roundw
      case rel => (repeat apply Exists.intro); (first | exact ⟨⟨k + 1, m ++ [⟨xc, xt, xh⟩], hkk, by go_num, by simp [hm], Lib.hid (by rw [HP.out, HM.out]), hfin, HB3⟩, rfl⟩ | exact ⟨hkk, by go_num, by simp [hm], Lib.hid (by rw [HP.out, HM.out]), hfin, HB3⟩)
      case measure => simp [intOf]; omega
    · obtain rfl : k = st.length := by omega
      have hml : m.length ≤ 1000 := by omega
      clear hm
      rw [List.take_length] at HM
      obtain ⟨A7, q7, rfl, hq7, hqm7, hs7⟩ := hown.sl
      have HT7 := Lib.hid hs7
      have HSR := Lib.hid (HSH.out.on HB.out)
      have HKS := Lib.hid (HK.out.below HB.out HK.out.lt)
      clear hown hs7 hq7 hqm7 HS HSH HK
      have KAL := Lib.hid (all_any s h size V HSR.out HLM.out.short (fun c => Nat.le_trans (HLM.out.tiersN c) (by omega)) (HLM.out.all size))
      have hAl := HLM.out.all size
      generalize allF s size = L at *
      clear HSR
      unfold shpA at KAL
      have SC := HKS.out
      have e0 : V.cell? ⟨w.heap.size, 0, none⟩ = some (.slice h.A1 s.cols.length h.c1) := SC.cell 0
      have e1 : V.cell? ⟨w.heap.size, 1, none⟩ = some (.slice h.A2 s.covs.length h.c2) := SC.cell 1
      have e2 : V.cell? ⟨w.heap.size, 2, none⟩ = some (.int .i64 s.l0) := SC.cell 2
      have e3 : V.cell? ⟨w.heap.size, 3, none⟩ = some (.int .i64 s.l1) := SC.cell 3
      have e4 : V.cell? ⟨w.heap.size, 4, none⟩ = some (.int .i64 s.l2) := SC.cell 4
      have e5 : V.cell? ⟨w.heap.size, 5, none⟩ = some (.int .i64 s.l3) := SC.cell 5
      have e6 : V.cell? ⟨w.heap.size, 6, none⟩ = some (.slice h.A3 s.rows.length h.c3) := SC.cell 6
      have e7 : V.cell? ⟨w.heap.size, 7, none⟩ = some (.slice h.A4 s.frames.length h.c4) := SC.cell 7
      have e8 : V.cell? ⟨w.heap.size, 8, none⟩ = some (.slice h.A5 s.tanks.length h.c5) := SC.cell 8
      have e9 : V.cell? ⟨w.heap.size, 9, none⟩ = some (.int .i64 s.m0) := SC.cell 9
      have e10 : V.cell? ⟨w.heap.size, 10, none⟩ = some (.int .i64 s.m1) := SC.cell 10
      have e11 : V.cell? ⟨w.heap.size, 11, none⟩ = some (.int .i64 s.m2) := SC.cell 11
      have e12 : V.cell? ⟨w.heap.size, 12, none⟩ = some (.int .i64 s.m3) := SC.cell 12
      clear SC HKS
      go_wp2_with fail
      refine KAL.out.mono ?_
      rintro e V2 ⟨v2, rfl, ho2, hb2⟩
      simp only
      clear e0 e1 e2 e3 e4 e5 e6 e7 e8 e9 e10 e11 e12
      clear KAL
      obtain ⟨A8, q8, rfl, _, _, hs8⟩ := ho2.sl
      have HT8 := Lib.hid (HT7.out.on hb2)
      have HL8 := Lib.hid hs8
      have HBV := Lib.hid (HB.out.trans (hb2.mono HB.out.size))
      clear ho2 hs8 hb2 HT7 HB
      try clear V
      go_wp2_with fail
      go_loopw [8, 32] (fun v i wx => ∃ (j : Nat) (o : List Slt), j ≤ L.length ∧ i = .int .i64 j ∧ Hid (o = (L.take j).filter (freeB st)) ∧ OwnT tSlt 47 wx V2.heap.size v o ∧ Hid (Below V2.heap.size V2 wx)) (fun _ i _ => L.length - (intOf i).toNat)
      case atStart => exact ⟨0, [], Nat.zero_le _, rfl, Lib.hid (by simp), OwnT.nil, Lib.hid (Below.refl _ _)⟩
      case round =>
        obtain ⟨j, o, hj, rfl, HO, hown, HBx⟩ := hrel
        obtain ⟨X, rfl⟩ : ∃ V, V = wr := ⟨_, rfl⟩
        by_cases hjl : j < L.length
        · obtain ⟨b, off, rfl, hbB, c0, c1, c2'⟩ := (HL8.out.below HBx.out).slt hjl
          have HXM := Lib.hid (HTR.out _ (getD_memD hjl default))
          have HP : Hid ((L.take (j + 1)).filter (freeB st) = (L.take j).filter (freeB st) ++ if freeB st (L.getD j default) then [L.getD j default] else []) := Lib.hid (by
            rw [List.take_succ_eq_append_getElem hjl, List.filter_append]
            congr 1
            have e : L.getD j default = L[j] := by simp [hjl]
            rw [e, List.filter_cons, List.filter_nil])
          have hj0 : (0 : Int) ≤ (j : Int) := by omega
          have hj1 : (j : Int) < (L.length : Int) := by omega
          have hjj : j + 1 ≤ L.length := hjl
          have hol : o.length ≤ 1000000 := by
            rw [HO.out]
            refine Nat.le_trans (List.length_filter_le _ _) ?_
            simp; omega
          have HFB : Hid (freeB st (L.getD j default) = (heldB (L.getD j default) m && m.all fun y => !meetB (L.getD j default) y)) := Lib.hid (by rw [HM.out]; rfl)
          generalize L.getD j default = x at *
          obtain ⟨xc, xt, xh⟩ := x
          simp only at c0 c1 c2' HXM
          have hxt := HXM.out
          have hY := ba1 X (.cells #[.int .i64 xc, .int .i64 xt, .int .u8 (xh : Nat)] 47)
          have HKX := Lib.hid (Bk.new X 47 #[.int .i64 xc, .int .i64 xt, .int .u8 (xh : Nat)])
          have HOW := Lib.hid (hown.below hY)
          have HB1 := Lib.hid (HBx.out.alloc HBx.out.size (.cells #[.int .i64 xc, .int .i64 xt, .int .u8 (xh : Nat)] 47))
          clear hY hown HBx HXM
          go_upto_region 10 with fail
          clear c0 c1 c2'
          generalize X.heap.size = gx at *
          generalize (X.alloc _) = Y at *
          try clear X
          have x0 : Y.cell? ⟨gx, 0, none⟩ = some (.int .i64 xc) := HKX.out.cell 0
          have x1 : Y.cell? ⟨gx, 1, none⟩ = some (.int .i64 xt) := HKX.out.cell 1
          have x2 : Y.cell? ⟨gx, 2, none⟩ = some (.int .u8 (xh : Nat)) := HKX.out.cell 2
          have KH := Lib.hid (held_any ⟨xc, xt, xh⟩ A7 q7 m Y (HT8.out.on HB1.out) (by omega) hxt)
          unfold sltL at KH
          simp only at KH
          generalize heldB ⟨xc, xt, xh⟩ m = hd at *
          go_wp2_with fail
          refine KH.out.mono ?_
          rintro e Y1 ⟨rfl, hb⟩
          simp only
          clear KH x0 x1 x2
          have HKX1 := Lib.hid (HKX.out.below hb HKX.out.lt)
          have HB2 := Lib.hid (HB1.out.trans (hb.mono HB1.out.size))
          have HOW1 := Lib.hid (HOW.out.below hb)
          clear hb HKX HB1 HOW
          try clear Y
          go_wp2_with fail
          go_loopw [13, 41] (fun v i wz => ∃ (n : Nat) (q : Bool), n ≤ m.length ∧ i = .int .i64 n ∧ v = .bool q ∧ Hid (q = (hd && (m.take n).all fun y => !meetB ⟨xc, xt, xh⟩ y)) ∧ Hid (Below Y1.heap.size Y1 wz)) (fun _ i _ => m.length - (intOf i).toNat)
          case atStart => exact ⟨0, hd, Nat.zero_le _, rfl, rfl, Lib.hid (by simp), Lib.hid (Below.refl _ _)⟩
          case round =>
            obtain ⟨n, q, hn, rfl, rfl, HQ, HBz⟩ := hrel
            obtain ⟨Z, rfl⟩ : ∃ V, V = wr := ⟨_, rfl⟩
            by_cases hnl : n < m.length
            · obtain ⟨b3, off3, hA7, hbB3, d0, d1, d2⟩ := (HT8.out.on (HB2.out.trans (HBz.out.mono HB2.out.size))).slt hnl
              subst hA7
              have HQ2 : Hid ((hd && (m.take (n + 1)).all fun y => !meetB ⟨xc, xt, xh⟩ y) = (q && !meetB ⟨xc, xt, xh⟩ (m.getD n default))) := Lib.hid (by
                rw [HQ.out, List.take_succ_eq_append_getElem hnl, List.all_append]
                have e : m.getD n default = m[n] := by simp [hnl]
                rw [e]
                simp [Bool.and_assoc])
              have hn0 : (0 : Int) ≤ (n : Int) := by omega
              have hn1 : (n : Int) < (m.length : Int) := by omega
              have hnn : n + 1 ≤ m.length := hnl
              clear HQ
              generalize m.getD n default = y at *
              obtain ⟨yc, yt, yh⟩ := y
              simp only at d0 d1 d2
              have hY := ba1 Z (.cells #[.int .i64 yc, .int .i64 yt, .int .u8 (yh : Nat)] 47)
              have HKY := Lib.hid (Bk.new Z 47 #[.int .i64 yc, .int .i64 yt, .int .u8 (yh : Nat)])
              have HBZ := Lib.hid (HBz.out.alloc HBz.out.size (.cells #[.int .i64 yc, .int .i64 yt, .int .u8 (yh : Nat)] 47))
              clear hY HBz
              go_upto_region 14 with fail
              clear d0 d1 d2
              generalize Z.heap.size = gy at *
              generalize (Z.alloc _) = Z2 at *
              try clear Z
              cases q with
              | false =>
                have HQF : Hid (false = (hd && (m.take (n + 1)).all fun y => !meetB ⟨xc, xt, xh⟩ y)) := Lib.hid (by rw [HQ2.out]; rfl)
                clear HQ2 HKY
                go_wp2_with fail
                go_roundw
                case rel => (repeat apply Exists.intro); (first | exact ⟨⟨n + 1, false, hnn, by go_num, rfl, HQF, HBZ⟩, rfl⟩ | exact ⟨hnn, by go_num, rfl, HQF, HBZ⟩)
                case measure => simp [intOf]; omega
              | true =>
                have KM := Lib.hid (fun V => meet_any ⟨xc, xt, xh⟩ ⟨yc, yt, yh⟩ V)
                unfold sltL at KM
                simp only at KM
                have HQF : Hid ((!meetB ⟨xc, xt, xh⟩ ⟨yc, yt, yh⟩) = (hd && (m.take (n + 1)).all fun y => !meetB ⟨xc, xt, xh⟩ y)) := Lib.hid (by rw [HQ2.out]; rfl)
                clear HQ2
                generalize meetB ⟨xc, xt, xh⟩ ⟨yc, yt, yh⟩ = mb at *
                have HKX2 := HKX1.out.below HBZ.out HKX1.out.lt
                have x0 : Z2.cell? ⟨gx, 0, none⟩ = some (.int .i64 xc) := HKX2.cell 0
                have x1 : Z2.cell? ⟨gx, 1, none⟩ = some (.int .i64 xt) := HKX2.cell 1
                have x2 : Z2.cell? ⟨gx, 2, none⟩ = some (.int .u8 (xh : Nat)) := HKX2.cell 2
                have y0 : Z2.cell? ⟨gy, 0, none⟩ = some (.int .i64 yc) := HKY.out.cell 0
                have y1 : Z2.cell? ⟨gy, 1, none⟩ = some (.int .i64 yt) := HKY.out.cell 1
                have y2 : Z2.cell? ⟨gy, 2, none⟩ = some (.int .u8 (yh : Nat)) := HKY.out.cell 2
                clear HKX2 HKY
                go_wp2_with fail
                refine (KM.out _).mono ?_
                rintro e Z3 ⟨rfl, hb⟩
                simp only
                clear KM x0 x1 x2 y0 y1 y2
                have HBZ3 := Lib.hid (HBZ.out.trans (hb.mono HBZ.out.size))
                clear hb HBZ
                cases mb
                all_goals
                  go_wp2_with fail
                  go_roundw
                  case rel => (repeat apply Exists.intro); (first | exact ⟨⟨n + 1, _, hnn, by go_num, rfl, HQF, HBZ3⟩, rfl⟩ | exact ⟨hnn, by go_num, rfl, HQF, HBZ3⟩)
                  case measure => simp [intOf]; omega
            · obtain rfl : n = m.length := by omega
              rw [List.take_length, ← HFB.out] at HQ
              have HBY := Lib.hid (HB2.out.trans (HBz.out.mono HB2.out.size))
              have hownY := HOW1.out.below HBz.out
              have HKX2 := Lib.hid (HKX1.out.below HBz.out HKX1.out.lt)
              rw [← HO.out, ← HQ.out] at HP
              clear HBz HB2 HOW1 HKX1 HFB HQ
              cases q with
              | false =>
                have HOF : Hid (o = (L.take (j + 1)).filter (freeB st)) := Lib.hid (by rw [HP.out]; simp)
                clear HP
                go_wp2_with fail
                go_roundw
                case rel => (repeat apply Exists.intro); (first | exact ⟨⟨j + 1, o, hjj, by go_num, HOF, hownY, HBY⟩, rfl⟩ | exact ⟨hjj, by go_num, HOF, hownY, HBY⟩)
                case measure => simp [intOf]; omega
              | true =>
                have HOF : Hid (o ++ [⟨xc, xt, xh⟩] = (L.take (j + 1)).filter (freeB st)) := Lib.hid (by rw [HP.out]; simp)
                clear HP
                obtain ⟨xs, ho, hfl⟩ := hownY
                have hz0 := HBY.out.size
                have x0 : Z.cell? ⟨gx, 0, none⟩ = some (.int .i64 xc) := HKX2.out.cell 0
                have x1 : Z.cell? ⟨gx, 1, none⟩ = some (.int .i64 xt) := HKX2.out.cell 1
                have x2 : Z.cell? ⟨gx, 2, none⟩ = some (.int .u8 (xh : Nat)) := HKX2.out.cell 2
                clear HKX2
                go_wp2_with (at_builtin; (refine wpList_append1 el_slt rfl (.tmp 54) (.tmp 56) rfl V2.heap.size _ o.length xs rfl ho #[.int .i64 xc, .int .i64 xt, .int .u8 (xh : Nat)] _ rfl rfl rfl (by unfold maxLen; omega) (by omega) hz0 ?_))
                intro v' w3 hown' hgr hd3 hbel
                have HB3 := Lib.hid (HBY.out.trans hbel)
                have hfin : OwnT tSlt 47 w3 V2.heap.size v' (o ++ [⟨xc, xt, xh⟩]) := OwnT.append1 (T := tSlt) (x := ⟨xc, xt, xh⟩) hfl (cs := sltL ⟨xc, xt, xh⟩) rfl hown' hgr hd3
                clear x0 x1 x2
                go_wp2
                go_roundw
                case rel => (repeat apply Exists.intro); (first | exact ⟨⟨j + 1, o ++ [⟨xc, xt, xh⟩], hjj, by go_num, HOF, hfin, HB3⟩, rfl⟩ | exact ⟨hjj, by go_num, HOF, hfin, HB3⟩)
                case measure => simp [intOf]; omega
        · obtain rfl : j = L.length := by omega
          rw [List.take_length, ← HFF.out] at HO
          have HB9 := Lib.hid (HBW.out.trans ((HBV.out.trans (HBx.out.mono HBV.out.size)).mono HBW.out.size))
          have h9 := HBW.out.size
          have h8 := HBV.out.size
          have hown9 := hown.down (base' := w.heap.size) (by omega)
          rw [HO.out] at hown9
          go_wp2_with fail
          go_ret
          exact ⟨_, rfl, hown9, HB9.out⟩
end Go.Proofs.Ytncfakkajknhaaa
