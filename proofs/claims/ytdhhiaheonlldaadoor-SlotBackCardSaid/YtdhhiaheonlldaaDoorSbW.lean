/-
  The walk of the statement SlotBack.
-/
import Derived.Test.YtdhhiaheonlldaaDoorSbN
import Derived.Test.YtdhhiaheonlldaaDoorB5
namespace Go.Proofs.YtdhhiaheonlldaaDoor
open Go.RowKit Go.ChangeMaps

set_option maxRecDepth 100000 in
set_option maxHeartbeats 20000000 in
theorem slotBack_any (A : Option Addr) (c : Nat) (pl : List (Nat × Nat × Nat × Bool)) (covers bay row : Nat) (hbay : bay < 256) (hrow : row < 256) (w : World)
    (hs : SlT tPl w (Lt w.heap.size) A pl) (hl : ∀ p ∈ pl, p.1 < 256 ∧ p.2.1 < 256 ∧ p.2.2.1 < 256) (hc : pl.length ≤ c) (hcm : c ≤ maxLen) (hq : QuarOK w) :
    Calls Tryd.prog 3 #[.slice A pl.length c, .int .u32 covers, .int .u8 (bay : Nat), .int .u8 (row : Nat)] w (TrueRet w) := by
  have HC := Lib.hid (built_n (covers := covers) hs hl hc hcm)
  have HQ := Lib.hid hq
  clear hs hl hc hcm hq
  obtain ⟨B, hB⟩ : ∃ B : Int, B = ((bay : Nat) : Int) % 36 := ⟨_, rfl⟩
  obtain ⟨R, hR⟩ : ∃ R : Int, R = ((row : Nat) : Int) % 27 := ⟨_, rfl⟩
  have hB1 : 0 ≤ B ∧ B ≤ 35 := by omega
  have hR1 : 0 ≤ R ∧ R ≤ 26 := by omega
  go_enter Tryd.func3, Tryd.ntmps3
  go_wp2_with fail
  refine HC.out.mono ?_
  rintro e w1 ⟨s, h, gs, rfl, hBu, ho1, ho2, hrd, hb1⟩
  simp only
  have hrows : s.rows = [] ∧ s.frames = [] ∧ s.tanks = [] := by rw [hBu.eq]; exact ⟨rfl, rfl, rfl⟩
  have hp0 : ∀ c ∈ s.cols, c.plugs = [] := fun c hc => (hBu.cols.1 c hc).plugs
  have hoP := own_free hp0 ho1.ofN
  have h1 := hBu.one
  obtain ⟨b, cc, e1, hbb, hcc, hccm⟩ := OwnS.form hoP (by omega)
  injection e1 with eA _ ec
  have HRD : Hid (∃ w0 S, ShpR w0 S s h) := Lib.hid ⟨_, _, hrd⟩
  have hbw1 := ba1 w1 (.cells (shpA s h) 34)
  have HL0 : Hid (LW w (w1.alloc (.cells (shpA s h) 34)) w1.heap.size b cc gs s h (shiftTo (shiftC B R) s.cols 0)) := Lib.hid (by
    rw [shiftTo_zero]
    have hkg := Bk.new w1 34 (shpA s h)
    have hoQ := hoP.on hbw1
    refine ⟨?_, ?_, ho2.below hbw1, hb1.trans (hbw1.mono hb1.size), hb1.size, hbb, hcc, hccm⟩
    · have : shpA { s with cols := s.cols } { h with A1 := some ⟨b, 0, none⟩, c1 := cc } = shpA s h := by unfold shpA; rw [eA, ec]
      rw [this]; exact hkg
    · rw [eA, ec] at hoQ; exact hoQ)
  have HRW := Lib.hid hrows
  clear HC ho1 ho2 hrd hb1 hoP hbb hbw1 eA ec hrows hp0
  unfold shpA at HL0 ⊢
  go_upto_region 2 with fail
  generalize w1.heap.size = g at *
  generalize (w1.alloc _) = V at *
  clear w1
  have hn12 := hBu.few
  have e0 : V.cell? ⟨g, 0, none⟩ = some (.slice (some ⟨b, 0, none⟩) s.cols.length cc) := by
    have h0 : V.cell? ⟨g, 0, none⟩ = some (.slice (some ⟨b, 0, none⟩) (shiftTo (shiftC B R) s.cols 0).length cc) := HL0.out.bk.cell 0
    rw [shiftTo_len] at h0
    exact h0
  go_wp2_with fail
  clear e0
  go_loopw [26] (fun i wr => ∃ k : Nat, k ≤ s.cols.length ∧ i = .int .i64 k ∧ Hid (LW w wr g b cc gs s h (shiftTo (shiftC B R) s.cols k))) (fun i _ => s.cols.length - (intOf i).toNat)
  case atStart => exact ⟨0, Nat.zero_le _, rfl, HL0⟩
  case round =>
    clear HL0
    clear V
    obtain ⟨k, hk, rfl, HL⟩ := hrel
    obtain ⟨V, rfl⟩ : ∃ V, V = wr := ⟨_, rfl⟩
    by_cases hlt : k < s.cols.length
    · have i0 : (0 : Int) ≤ (k : Int) := by omega
      have i1 : (k : Int) < (s.cols.length : Int) := by omega
      have hgood := hBu.cols.1 _ (getD_memD hlt default)
      have hat := shiftTo_at (shiftC B R) s.cols hlt default
      have HSET := Lib.hid (shiftTo_succ (shiftC B R) s.cols hlt default)
      have hln := shiftTo_len (shiftC B R) s.cols k
      have HX : Hid (shiftC B R (s.cols.getD k default) = { s.cols.getD k default with bay := (s.cols.getD k default).bay + B, row := (s.cols.getD k default).row + R }) := Lib.hid rfl
      have x1 := hgood.bay
      have x2 := hgood.row
      generalize s.cols.getD k default = x at *
      generalize shiftTo (shiftC B R) s.cols k = L at *
      have hkL : k < L.length := by rw [hln]; exact hlt
      have hLx : L[k]? = some x := by rw [← hat]; simp [hkL]
      have e0 : V.cell? ⟨g, 0, none⟩ = some (.slice (some ⟨b, 0, none⟩) s.cols.length cc) := by
        have h0 : V.cell? ⟨g, 0, none⟩ = some (.slice (some ⟨b, 0, none⟩) L.length cc) := HL.out.bk.cell 0
        rw [hln] at h0
        exact h0
      obtain ⟨Ap, q, hc1, hf1⟩ := HL.out.at_ hLx
      have c0 : V.cell? ⟨b, k * 12, none⟩ = some (.int .i64 x.bay) := hc1 0 _ rfl
      have f0 : V.frozen? ⟨b, k * 12, none⟩ = false := hf1 0
      have H1 : Hid (LW w (V.setCell ⟨b, k * 12, none⟩ (.int .i64 (x.bay + B))) g b cc gs s h (L.set k { x with bay := x.bay + B })) := Lib.hid (HL.out.colFld hkL 0 _ _ (by decide) (by rw [hat]) (by rw [hat]; intro A p; rfl))
      clear hc1 hf1 HL hgood
      go_step
      go_step
      go_upto_region 6 with fail
      rw [← hB]
      generalize (V.setCell _ _) = V1 at *
      clear e0 c0 f0
      have e0 : V1.cell? ⟨g, 0, none⟩ = some (.slice (some ⟨b, 0, none⟩) s.cols.length cc) := by
        have h0 : V1.cell? ⟨g, 0, none⟩ = some (.slice (some ⟨b, 0, none⟩) (L.set k { x with bay := x.bay + B }).length cc) := H1.out.bk.cell 0
        rw [List.length_set, hln] at h0
        exact h0
      obtain ⟨Ap, q, hc1, hf1⟩ := H1.out.at_ (k := k) (x := { x with bay := x.bay + B }) (by rw [List.getElem?_set_self hkL])
      have c1 : V1.cell? ⟨b, k * 12 + 1, none⟩ = some (.int .i64 x.row) := hc1 1 _ rfl
      have f1 : V1.frozen? ⟨b, k * 12 + 1, none⟩ = false := hf1 1
      have H2 : Hid (LW w (V1.setCell ⟨b, k * 12 + 1, none⟩ (.int .i64 (x.row + R))) g b cc gs s h (shiftTo (shiftC B R) s.cols (k + 1))) := Lib.hid (by
        have hgd : (L.set k { x with bay := x.bay + B }).getD k default = { x with bay := x.bay + B } := by simp [hkL]
        have := H1.out.colFld (i := k) (by rw [List.length_set]; exact hkL) 1 (.int .i64 (x.row + R)) { x with bay := x.bay + B, row := x.row + R } (by decide) (by rw [hgd]) (by rw [hgd]; intro A p; rfl)
        rw [List.set_set] at this
        rw [HSET.out, HX.out]
        exact this)
      clear hc1 hf1 H1
      go_wp2_with fail
      rw [← hR]
      generalize (V1.setCell _ _) = V2 at *
      clear e0 c1 f1
      go_roundw
      case rel => first | exact ⟨k + 1, by omega, by go_num, H2⟩ | ((repeat apply Exists.intro); (first | exact ⟨⟨k + 1, by omega, by go_num, H2⟩, rfl⟩ | exact ⟨by omega, by go_num, H2⟩))
      case measure => simp [intOf]; omega
    · obtain rfl : k = s.cols.length := by omega
      have H0 : Hid (LW w V g b cc gs s h (s.cols.map (shiftC B R))) := Lib.hid (by have := HL.out; rw [shiftTo_all] at this; exact this)
      clear HL
      have hm2 : (s.cols.map (shiftC B R)).length = s.cols.length := List.length_map ..
      have HCM : Hid (∃ L2, L2 = s.cols.map (shiftC B R)) := Lib.hid ⟨_, rfl⟩
      obtain ⟨L2, hL2⟩ := HCM.out
      rw [← hL2] at H0
      have HL2 := Lib.hid hL2
      clear HCM hL2 hm2
      have e1 : V.cell? ⟨g, 1, none⟩ = some (.slice h.A2 s.covs.length h.c2) := H0.out.bk.cell 1
      have hcv := hBu.covs_le
      go_wp2_with fail
      clear e1
      have H00 : Hid (LW w V g b cc gs { s with covs := shiftTo (shiftX B R) s.covs 0 } h L2) := Lib.hid (by rw [shiftTo_zero]; exact H0.out)
      clear H0
      go_loopw [57] (fun i wr => ∃ k : Nat, k ≤ s.covs.length ∧ i = .int .i64 k ∧ Hid (LW w wr g b cc gs { s with covs := shiftTo (shiftX B R) s.covs k } h L2)) (fun i _ => s.covs.length - (intOf i).toNat)
      case atStart => exact ⟨0, Nat.zero_le _, rfl, H00⟩
      case round =>
        clear H00
        clear V
        obtain ⟨k, hk, rfl, HL⟩ := hrel
        obtain ⟨V, rfl⟩ : ∃ V, V = wr := ⟨_, rfl⟩
        by_cases hlt : k < s.covs.length
        · have i0 : (0 : Int) ≤ (k : Int) := by omega
          have i1 : (k : Int) < (s.covs.length : Int) := by omega
          obtain ⟨⟨x1, x2⟩, x3, x4⟩ := cov_mem hBu (getD_memD hlt default)
          have hat := shiftTo_at (shiftX B R) s.covs hlt default
          have HSET := Lib.hid (shiftTo_succ (shiftX B R) s.covs hlt default)
          have hln := shiftTo_len (shiftX B R) s.covs k
          have HX : Hid (shiftX B R (s.covs.getD k default) = ⟨(s.covs.getD k default).bay + B, (s.covs.getD k default).rows.map (· + R)⟩) := Lib.hid rfl
          have HX4 := Lib.hid x4
          clear x4
          generalize s.covs.getD k default = x at *
          generalize shiftTo (shiftX B R) s.covs k = C at *
          have hkC : k < C.length := by rw [hln]; exact hlt
          obtain ⟨bc, hA, c0, c1, f0⟩ := HL.out.covAt (i := k) hkC
          simp only [hat] at c0 c1
          have e1 : V.cell? ⟨g, 1, none⟩ = some (.slice (some ⟨bc, 0, none⟩) s.covs.length h.c2) := by
            have h0 : V.cell? ⟨g, 1, none⟩ = some (.slice h.A2 C.length h.c2) := HL.out.bk.cell 1
            rw [hA, hln] at h0
            exact h0
          have H1 : Hid (LW w (V.setCell ⟨bc, k * 2, none⟩ (.int .i64 (x.bay + B))) g b cc gs { s with covs := C.set k ⟨x.bay + B, x.rows⟩ } h L2) := Lib.hid (by
            have := HL.out.covBay (oc := 0) (cv := 0) hA (i := k) hkC (x.bay + B)
            simp only [hat] at this
            exact this)
          have HA := Lib.hid hA
          clear c1 HL hA
          go_step
          go_step
          go_upto_region 12 with fail
          rw [← hB]
          generalize (V.setCell _ _) = V1 at *
          clear e1 c0 f0
          obtain ⟨bc', hA, -, c1, -⟩ := H1.out.covAt (i := k) (by show k < (C.set k _).length; rw [List.length_set]; exact hkC)
          obtain rfl : bc' = bc := by
            have := HA.out
            rw [hA] at this
            injection this with this
            injection this
          have hgd : ∀ y : Cov, (C.set k y).getD k default = y := fun y => by simp [hkC]
          simp only [hgd] at c1
          have e1 : V1.cell? ⟨g, 1, none⟩ = some (.slice (some ⟨bc', 0, none⟩) s.covs.length h.c2) := by
            have h0 : V1.cell? ⟨g, 1, none⟩ = some (.slice h.A2 (C.set k ⟨x.bay + B, x.rows⟩).length h.c2) := H1.out.bk.cell 1
            rw [hA, List.length_set, hln] at h0
            exact h0
          clear hA
          go_wp2_with fail
          clear e1 c1
          have H11 : Hid (LW w V1 g b cc gs { s with covs := C.set k ⟨x.bay + B, shiftTo (· + R) x.rows 0⟩ } h L2) := Lib.hid (by rw [shiftTo_zero]; exact H1.out)
          clear H1
          go_loopw [79] (fun i wr => ∃ j : Nat, j ≤ x.rows.length ∧ i = .int .i64 j ∧ Hid (LW w wr g b cc gs { s with covs := C.set k ⟨x.bay + B, shiftTo (· + R) x.rows j⟩ } h L2)) (fun i _ => x.rows.length - (intOf i).toNat)
          case atStart => exact ⟨0, Nat.zero_le _, rfl, H11⟩
          case round =>
            clear H11
            clear V1
            obtain ⟨j, hj, rfl, HL⟩ := hrel
            obtain ⟨V, rfl⟩ : ∃ V, V = wr := ⟨_, rfl⟩
            by_cases hlt2 : j < x.rows.length
            · have j0 : (0 : Int) ≤ (j : Int) := by omega
              have j1 : (j : Int) < (x.rows.length : Int) := by omega
              obtain ⟨y1, y2⟩ := HX4.out _ (getD_memD hlt2 0)
              have hat2 := shiftTo_at (· + R) x.rows hlt2 0
              have HSET2 := Lib.hid (shiftTo_succ (· + R) x.rows hlt2 0)
              have hln2 := shiftTo_len (· + R) x.rows j
              generalize x.rows.getD j 0 = y at *
              generalize shiftTo (· + R) x.rows j = D at *
              have hjD : j < D.length := by rw [hln2]; exact hlt2
              have hkS : k < (C.set k ⟨x.bay + B, D⟩).length := by rw [List.length_set]; exact hkC
              obtain ⟨bc2, hA2, -, c1, -⟩ := HL.out.covAt (i := k) hkS
              obtain rfl : bc2 = bc' := by
                have := HA.out
                rw [hA2] at this
                injection this with this
                injection this
              simp only [hgd, hln2] at c1
              have e1 : V.cell? ⟨g, 1, none⟩ = some (.slice (some ⟨bc2, 0, none⟩) s.covs.length h.c2) := by
                have h0 : V.cell? ⟨g, 1, none⟩ = some (.slice h.A2 (C.set k ⟨x.bay + B, D⟩).length h.c2) := HL.out.bk.cell 1
                rw [hA2, List.length_set, hln] at h0
                exact h0
              obtain ⟨d0, f0⟩ := HL.out.rowAt (i := k) hkS (j := j) (by show j < ((C.set k _).getD k default).rows.length; rw [hgd]; exact hjD)
              simp only [hgd, hat2] at d0
              have H2 : Hid (LW w (V.setCell ⟨gs.getD k 0, j, none⟩ (.int .i64 (y + R))) g b cc gs { s with covs := C.set k ⟨x.bay + B, shiftTo (· + R) x.rows (j + 1)⟩ } h L2) := Lib.hid (by
                have := HL.out.covRow (i := k) hkS j (y + R)
                simp only [hgd, List.set_set] at this
                rw [HSET2.out]
                exact this)
              clear HL hA2 hat2 HSET2
              generalize gs.getD k 0 = gk at *
              go_step
              go_step
              go_wp2_with fail
              rw [← hR]
              generalize (V.setCell _ _) = V2 at *
              clear e1 c1 d0 f0
              go_roundw
              case rel => first | exact ⟨j + 1, by omega, by go_num, H2⟩ | ((repeat apply Exists.intro); (first | exact ⟨⟨j + 1, by omega, by go_num, H2⟩, rfl⟩ | exact ⟨by omega, by go_num, H2⟩))
              case measure => simp [intOf]; omega
            · obtain rfl : j = x.rows.length := by omega
              have H2 : Hid (LW w V g b cc gs { s with covs := shiftTo (shiftX B R) s.covs (k + 1) } h L2) := Lib.hid (by
                have := HL.out
                rw [shiftTo_all] at this
                rw [HSET.out, HX.out]
                exact this)
              clear HL
              go_wp2_with fail
              go_roundw
              case rel => first | exact ⟨k + 1, by omega, by go_num, H2⟩ | ((repeat apply Exists.intro); (first | exact ⟨⟨k + 1, by omega, by go_num, H2⟩, rfl⟩ | exact ⟨by omega, by go_num, H2⟩))
              case measure => simp [intOf]; omega
        · obtain rfl : k = s.covs.length := by omega
          have HL9 : Hid (LW w V g b cc gs { s with covs := s.covs.map (shiftX B R) } h (s.cols.map (shiftC B R))) := Lib.hid (by have := HL.out; rw [shiftTo_all] at this; rw [← HL2.out]; exact this)
          clear HL HL2
          have KB : Hid (Bk V g 34 (shpA (shiftS B R s) { h with A1 := some ⟨b, 0, none⟩, c1 := cc })) := Lib.hid HL9.out.bk
          have HSR : Hid (ShpR V (Lt V.heap.size) (shiftS B R s) { h with A1 := some ⟨b, 0, none⟩, c1 := cc }) := Lib.hid (by
            obtain ⟨w0, S, h0⟩ := HRD.out
            exact HL9.out.ships HRW.out.1 HRW.out.2.1 HRW.out.2.2 h0 (by simp))
          have HFW := Lib.hid (shift_few (b := B) (r := R) hBu.Few)
          have HIN := Lib.hid (shift_ints hB1 hR1 hBu)
          have HRT := Lib.hid (shift_right hB1 hR1 hBu)
          have HTN : Hid (∀ c, tiersN (shiftS B R s) c ≤ 1000000) := Lib.hid fun c => by rw [tiersN_shift]; have := hBu.tiersN_le c; omega
          have HA20 : Hid ((allF (shiftS B R s) 20).length ≤ 1000000) := Lib.hid (by rw [all_shift]; have := hBu.all_le 20; omega)
          have HA40 : Hid ((allF (shiftS B R s) 40).length ≤ 1000000) := Lib.hid (by rw [all_shift]; have := hBu.all_le 40; omega)
          have HCL : Hid ((shiftS B R s).cols.length ≤ 1000000) := Lib.hid (by show (s.cols.map _).length ≤ _; rw [List.length_map]; omega)
          have hel : (everyF (shiftS B R s)).length ≤ 240 := by rw [every_shift]; exact hBu.every_le
          have HEP : Hid (0 < (everyF (shiftS B R s)).length) := Lib.hid (by rw [every_shift]; exact every_some hBu)
          have HQV : Hid (QuarOK V) := Lib.hid (HQ.out.below HL9.out.be)
          have HBV : Hid (Below w.heap.size w V) := Lib.hid HL9.out.be
          clear HL9 HRD HRW hBu hn12 hcv h1 HQ
          generalize shiftS B R s = s2 at *
          obtain ⟨h2, hh2⟩ : ∃ h2 : Hd, h2 = { h with A1 := some ⟨b, 0, none⟩, c1 := cc } := ⟨_, rfl⟩
          rw [← hh2] at KB HSR
          clear hh2 hB1 hR1 hB hR
          have hmm := @run_makeMap Tryd.prog
          go_upto_region 19 with fail
          clear hmm
          have KM := Lib.hid (MetS.made (P := Tryd.prog) (kt := 9) (et := 3) V)
          have HVM := Lib.hid (ba1 V (.map #[] 0))
          obtain ⟨gm, hgm⟩ : ∃ gm, gm = V.heap.size := ⟨_, rfl⟩
          rw [← hgm] at KM ⊢
          have HGM0 := Lib.hid hgm
          clear hgm
          generalize (V.alloc (.map #[] 0)) = V1 at *
          have e0 : V1.cell? ⟨g, 0, none⟩ = some (Value.slice h2.A1 s2.cols.length h2.c1) := (KB.out.below HVM.out KB.out.lt).cell 0
          have e1 : V1.cell? ⟨g, 1, none⟩ = some (Value.slice h2.A2 s2.covs.length h2.c2) := (KB.out.below HVM.out KB.out.lt).cell 1
          have e2 : V1.cell? ⟨g, 2, none⟩ = some (.int .i64 s2.l0) := (KB.out.below HVM.out KB.out.lt).cell 2
          have e3 : V1.cell? ⟨g, 3, none⟩ = some (.int .i64 s2.l1) := (KB.out.below HVM.out KB.out.lt).cell 3
          have e4 : V1.cell? ⟨g, 4, none⟩ = some (.int .i64 s2.l2) := (KB.out.below HVM.out KB.out.lt).cell 4
          have e5 : V1.cell? ⟨g, 5, none⟩ = some (.int .i64 s2.l3) := (KB.out.below HVM.out KB.out.lt).cell 5
          have e6 : V1.cell? ⟨g, 6, none⟩ = some (.slice h2.A3 s2.rows.length h2.c3) := (KB.out.below HVM.out KB.out.lt).cell 6
          have e7 : V1.cell? ⟨g, 7, none⟩ = some (.slice h2.A4 s2.frames.length h2.c4) := (KB.out.below HVM.out KB.out.lt).cell 7
          have e8 : V1.cell? ⟨g, 8, none⟩ = some (.slice h2.A5 s2.tanks.length h2.c5) := (KB.out.below HVM.out KB.out.lt).cell 8
          have e9 : V1.cell? ⟨g, 9, none⟩ = some (.int .i64 s2.m0) := (KB.out.below HVM.out KB.out.lt).cell 9
          have e10 : V1.cell? ⟨g, 10, none⟩ = some (.int .i64 s2.m1) := (KB.out.below HVM.out KB.out.lt).cell 10
          have e11 : V1.cell? ⟨g, 11, none⟩ = some (.int .i64 s2.m2) := (KB.out.below HVM.out KB.out.lt).cell 11
          have e12 : V1.cell? ⟨g, 12, none⟩ = some (.int .i64 s2.m3) := (KB.out.below HVM.out KB.out.lt).cell 12
          have HE := Lib.hid (every_any s2 h2 V1 (HSR.out.on HVM.out) HCL.out HTN.out HA20.out HA40.out)
          unfold shpA at HE
          go_wp2_with fail
          refine HE.out.mono ?_
          rintro e V2 ⟨v, rfl, hoL, hb2⟩
          have HNS := Lib.hid (fun k (hk : k < (everyF s2).length) => namesTo_succ s2 hk)
          have HNW := Lib.hid (fun k (hk : k < (everyF s2).length) => namesTo_new HRT.out hk)
          have HNM := Lib.hid (fun k (hk : k < (everyF s2).length) => every_name HRT.out (getD_memD hk default))
          have HN0 : Hid (namesTo s2 (everyF s2) 0 = []) := Lib.hid rfl
          have HNL : Hid ((namesTo s2 (everyF s2) (everyF s2).length).length = (everyF s2).length) := Lib.hid (by unfold namesTo; simp)
          generalize everyF s2 = L at *
          obtain ⟨A2, c2, rfl, hcl2, hcm2, -⟩ := hoL.sl
          simp only
          have HB2 : Hid (Below V.heap.size V V2) := Lib.hid (HVM.out.trans (hb2.mono HVM.out.size))
          have KM2 : Hid (MetS Tryd.prog 9 3 V2 gm 0 (namesTo s2 L 0)) := Lib.hid (by rw [HN0.out]; exact KM.out.below hb2 (Nat.le_refl _))
          have HOL := Lib.hid hoL
          have HGM : Hid (gm < V1.heap.size) := Lib.hid KM.out.lt
          clear hoL hb2 HE KM HN0 HA20 HA40 HCL HTN HRT HVM e0 e1 e2 e3 e4 e5 e6 e7 e8 e9 e10 e11 e12
          go_wp2_with fail
          go_loopw [102] (fun i wr => ∃ k : Nat, k ≤ L.length ∧ i = .int .i64 k ∧ Hid (Below V.heap.size V wr) ∧ Hid (MetS Tryd.prog 9 3 wr gm k (namesTo s2 L k)) ∧ Hid (OwnT tSlt 45 wr V1.heap.size (.slice A2 L.length c2) L)) (fun i _ => L.length - (intOf i).toNat)
          case atStart => exact ⟨0, Nat.zero_le _, rfl, HB2, KM2, HOL⟩
          case round =>
            clear HB2 KM2 HOL
            clear V2
            obtain ⟨k, hk, rfl, HW, HM, HO⟩ := hrel
            obtain ⟨W, rfl⟩ : ∃ W, W = wr := ⟨_, rfl⟩
            by_cases hlt : k < L.length
            · have i0 : (0 : Int) ≤ (k : Int) := by omega
              have i1 : (k : Int) < (L.length : Int) := by omega
              obtain ⟨A3, c3, e3, -, -, hsl⟩ := HO.out.sl
              injection e3 with e31 e32 e33
              subst e31
              obtain ⟨b1, o1, rfl, -, a0, a1, a2⟩ := hsl.slt hlt
              clear hsl e32 e33
              have HS1 := Lib.hid (HNS.out k hlt)
              have HN1 := Lib.hid (HNW.out k hlt)
              obtain ⟨n1, n2⟩ := HNM.out k hlt
              generalize L.getD k default = x at *
              have hsz := name_size s2 x
              have HNX := Lib.hid (And.intro n1 n2)
              have HXX := Lib.hid (neq_self x)
              clear n1 n2
              generalize hnm : strN (nameL s2 x) = nm at *
              have KN : Hid (∀ U, Below V.heap.size V U → Calls Tryd.prog 6 #[.agg (shpA s2 h2), .agg (sltL x).toArray] U (Ret U (.tuple #[.string nm, .int .i64 0]))) := Lib.hid fun U hU => by
                have := name_any s2 h2 x U (HSR.out.on hU) HFW.out HIN.out (HQV.out.below hU)
                rw [HNX.out.1] at this
                unfold NameRet at this
                rw [hnm] at this
                exact this
              have KFD : Hid (∀ U, Below V.heap.size V U → Calls Tryd.prog 7 #[.agg (shpA s2 h2), .string nm] U (Ret U (.tuple #[.agg (sltL x).toArray, .int .i64 0]))) := Lib.hid fun U hU => by
                have := findS_any s2 h2 nm U (HSR.out.on hU) HFW.out HIN.out (HQV.out.below hU)
                rw [HNX.out.2] at this
                exact this
              clear HNX hnm
              obtain ⟨xc, xt, xh⟩ := x
              unfold sltL at KN KFD
              simp only at a0 a1 a2 KN KFD HXX
              unfold shpA at KN KFD
              go_step
              go_step
              go_upto_region 22 with fail
              have KX := Lib.hid (Bk.new W 45 #[.int .i64 xc, .int .i64 xt, .int .u8 (xh : Nat)])
              have hbx := ba1 W (.cells #[.int .i64 xc, .int .i64 xt, .int .u8 (xh : Nat)] 45)
              have HU1 := Lib.hid (HW.out.trans (hbx.mono HW.out.size))
              have HM1 := Lib.hid (HM.out.below hbx (Nat.le_refl _))
              have HO1 := Lib.hid (HO.out.below hbx)
              obtain ⟨gx, hgx⟩ : ∃ gx, gx = W.heap.size := ⟨_, rfl⟩
              rw [← hgx] at KX ⊢
              clear hgx
              generalize (W.alloc _) = W1 at *
              clear HM HO hbx a0 a1 a2
              have e0 : W1.cell? ⟨g, 0, none⟩ = some (Value.slice h2.A1 s2.cols.length h2.c1) := (KB.out.below HU1.out KB.out.lt).cell 0
              have e1 : W1.cell? ⟨g, 1, none⟩ = some (Value.slice h2.A2 s2.covs.length h2.c2) := (KB.out.below HU1.out KB.out.lt).cell 1
              have e2 : W1.cell? ⟨g, 2, none⟩ = some (.int .i64 s2.l0) := (KB.out.below HU1.out KB.out.lt).cell 2
              have e3 : W1.cell? ⟨g, 3, none⟩ = some (.int .i64 s2.l1) := (KB.out.below HU1.out KB.out.lt).cell 3
              have e4 : W1.cell? ⟨g, 4, none⟩ = some (.int .i64 s2.l2) := (KB.out.below HU1.out KB.out.lt).cell 4
              have e5 : W1.cell? ⟨g, 5, none⟩ = some (.int .i64 s2.l3) := (KB.out.below HU1.out KB.out.lt).cell 5
              have e6 : W1.cell? ⟨g, 6, none⟩ = some (.slice h2.A3 s2.rows.length h2.c3) := (KB.out.below HU1.out KB.out.lt).cell 6
              have e7 : W1.cell? ⟨g, 7, none⟩ = some (.slice h2.A4 s2.frames.length h2.c4) := (KB.out.below HU1.out KB.out.lt).cell 7
              have e8 : W1.cell? ⟨g, 8, none⟩ = some (.slice h2.A5 s2.tanks.length h2.c5) := (KB.out.below HU1.out KB.out.lt).cell 8
              have e9 : W1.cell? ⟨g, 9, none⟩ = some (.int .i64 s2.m0) := (KB.out.below HU1.out KB.out.lt).cell 9
              have e10 : W1.cell? ⟨g, 10, none⟩ = some (.int .i64 s2.m1) := (KB.out.below HU1.out KB.out.lt).cell 10
              have e11 : W1.cell? ⟨g, 11, none⟩ = some (.int .i64 s2.m2) := (KB.out.below HU1.out KB.out.lt).cell 11
              have e12 : W1.cell? ⟨g, 12, none⟩ = some (.int .i64 s2.m3) := (KB.out.below HU1.out KB.out.lt).cell 12
              have x0 : W1.cell? ⟨gx, 0, none⟩ = some (.int .i64 xc) := KX.out.cell 0
              have x1 : W1.cell? ⟨gx, 1, none⟩ = some (.int .i64 xt) := KX.out.cell 1
              have x2 : W1.cell? ⟨gx, 2, none⟩ = some (.int .u8 (xh : Nat)) := KX.out.cell 2
              go_wp2_with fail
              refine (KN.out _ HU1.out).mono ?_
              rintro e W2 ⟨rfl, hb⟩
              simp only
              have HU2 := Lib.hid (HU1.out.trans (hb.mono HU1.out.size))
              have HM2 := Lib.hid (HM1.out.below hb (Nat.le_refl _))
              have HO2 := Lib.hid (HO1.out.below hb)
              have KX2 := Lib.hid (KX.out.below hb KX.out.lt)
              clear hb HM1 HO1 KX KN HU1 e0 e1 e2 e3 e4 e5 e6 e7 e8 e9 e10 e11 e12 x0 x1 x2
              have e0 : W2.cell? ⟨g, 0, none⟩ = some (Value.slice h2.A1 s2.cols.length h2.c1) := (KB.out.below HU2.out KB.out.lt).cell 0
              have e1 : W2.cell? ⟨g, 1, none⟩ = some (Value.slice h2.A2 s2.covs.length h2.c2) := (KB.out.below HU2.out KB.out.lt).cell 1
              have e2 : W2.cell? ⟨g, 2, none⟩ = some (.int .i64 s2.l0) := (KB.out.below HU2.out KB.out.lt).cell 2
              have e3 : W2.cell? ⟨g, 3, none⟩ = some (.int .i64 s2.l1) := (KB.out.below HU2.out KB.out.lt).cell 3
              have e4 : W2.cell? ⟨g, 4, none⟩ = some (.int .i64 s2.l2) := (KB.out.below HU2.out KB.out.lt).cell 4
              have e5 : W2.cell? ⟨g, 5, none⟩ = some (.int .i64 s2.l3) := (KB.out.below HU2.out KB.out.lt).cell 5
              have e6 : W2.cell? ⟨g, 6, none⟩ = some (.slice h2.A3 s2.rows.length h2.c3) := (KB.out.below HU2.out KB.out.lt).cell 6
              have e7 : W2.cell? ⟨g, 7, none⟩ = some (.slice h2.A4 s2.frames.length h2.c4) := (KB.out.below HU2.out KB.out.lt).cell 7
              have e8 : W2.cell? ⟨g, 8, none⟩ = some (.slice h2.A5 s2.tanks.length h2.c5) := (KB.out.below HU2.out KB.out.lt).cell 8
              have e9 : W2.cell? ⟨g, 9, none⟩ = some (.int .i64 s2.m0) := (KB.out.below HU2.out KB.out.lt).cell 9
              have e10 : W2.cell? ⟨g, 10, none⟩ = some (.int .i64 s2.m1) := (KB.out.below HU2.out KB.out.lt).cell 10
              have e11 : W2.cell? ⟨g, 11, none⟩ = some (.int .i64 s2.m2) := (KB.out.below HU2.out KB.out.lt).cell 11
              have e12 : W2.cell? ⟨g, 12, none⟩ = some (.int .i64 s2.m3) := (KB.out.below HU2.out KB.out.lt).cell 12
              go_wp2_with fail
              refine (KFD.out _ HU2.out).mono ?_
              rintro e W3 ⟨rfl, hb⟩
              simp only
              have HU3 := Lib.hid (HU2.out.trans (hb.mono HU2.out.size))
              have HM3 := Lib.hid (HM2.out.below hb (Nat.le_refl _))
              have HO3 := Lib.hid (HO2.out.below hb)
              have KX3 := Lib.hid (KX2.out.below hb KX2.out.lt)
              clear hb HM2 HO2 KX2 KFD HU2 e0 e1 e2 e3 e4 e5 e6 e7 e8 e9 e10 e11 e12
              go_upto_region 24 with fail
              have KY := Lib.hid (Bk.new W3 45 #[.int .i64 xc, .int .i64 xt, .int .u8 (xh : Nat)])
              have hby := ba1 W3 (.cells #[.int .i64 xc, .int .i64 xt, .int .u8 (xh : Nat)] 45)
              have KX4 := Lib.hid (KX3.out.below hby KX3.out.lt)
              have HU4 := Lib.hid (HU3.out.trans (hby.mono HU3.out.size))
              have HM4 := Lib.hid (HM3.out.below hby (Nat.le_refl _))
              have HO4 := Lib.hid (HO3.out.below hby)
              obtain ⟨gy, hgy⟩ : ∃ gy, gy = W3.heap.size := ⟨_, rfl⟩
              rw [← hgy] at KY ⊢
              clear hgy
              generalize (W3.alloc _) = W4 at *
              clear hby HM3 HO3 KX3 HU3
              have x0 : ∀ p : Gr W4, p.W.cell? ⟨gx, 0, none⟩ = some (.int .i64 xc) := Gr.cell (KX4.out.cell 0)
              have x1 : ∀ p : Gr W4, p.W.cell? ⟨gx, 1, none⟩ = some (.int .i64 xt) := Gr.cell (KX4.out.cell 1)
              have x2 : ∀ p : Gr W4, p.W.cell? ⟨gx, 2, none⟩ = some (.int .u8 (xh : Nat)) := Gr.cell (KX4.out.cell 2)
              have y0 : ∀ p : Gr W4, p.W.cell? ⟨gy, 0, none⟩ = some (.int .i64 xc) := Gr.cell (KY.out.cell 0)
              have y1 : ∀ p : Gr W4, p.W.cell? ⟨gy, 1, none⟩ = some (.int .i64 xt) := Gr.cell (KY.out.cell 1)
              have y2 : ∀ p : Gr W4, p.W.cell? ⟨gy, 2, none⟩ = some (.int .u8 (xh : Nat)) := Gr.cell (KY.out.cell 2)
              have hnx := HXX.out
              refine wp_region_grs ?_
              repeat (go_big_quiet_step (fail))
              refine wpQuiet_nil ?_
              rintro Y ⟨⟨_, hb⟩, rfl⟩
              have HU5 := Lib.hid (HU4.out.trans (hb.mono HU4.out.size))
              have HM5 := Lib.hid (HM4.out.below hb (Nat.le_refl _))
              have HO5 := Lib.hid (HO4.out.below hb)
              clear hb HM4 HO4 KX4 KY HU4 hnx x0 x1 x2 y0 y1 y2 HXX
              obtain ⟨Z2, r1, r2, HM6, g2⟩ := HM5.out.inc (t := 41) Tryd.underlying9 Tryd.underlying41 Tryd.underlying3 zeroInt (by unfold maxLen; omega) nm (by rw [hsz]; unfold maxLen; omega) HN1.out
              rw [← HS1.out] at HM6
              have r5 := HM6.look (t := 41) Tryd.underlying9 Tryd.underlying41 Tryd.underlying3 zeroInt nm (by rw [hsz]; unfold maxLen; omega) (by rw [HS1.out]; simp)
              have HM7 := Lib.hid HM6
              have HU6 : Hid (Below V.heap.size V Z2) := Lib.hid (HU5.out.trans (below_of_grown g2 (by rw [← HGM0.out]; exact Nat.le_refl _) HU5.out.size))
              have HO6 : Hid (OwnT tSlt 45 Z2 V1.heap.size (.slice (some ⟨b1, o1, none⟩) L.length c2) L) := Lib.hid (by
                obtain ⟨xs, ho, hf⟩ := HO5.out
                refine ⟨xs, ho.kept g2 (.inr fun e => ?_), flat_slts hf⟩
                have h1 := (ho.lt gm e).1
                have h2 := HGM.out
                omega)
              clear HM5 HO5 HU5 HM6 g2
              go_wp2_with fail
              clear r1 r2 r5
              go_roundw
              case rel => first | exact ⟨k + 1, by omega, by go_num, HU6, HM7, HO6⟩ | ((repeat apply Exists.intro); (first | exact ⟨⟨k + 1, by omega, by go_num, HU6, HM7, HO6⟩, rfl⟩ | exact ⟨by omega, by go_num, HU6, HM7, HO6⟩))
              case measure => simp [intOf]; omega
            · obtain rfl : k = L.length := by omega
              obtain ⟨m, hm0, r1⟩ := HM.out.len (t := 41) Tryd.underlying41 (by rw [HNL.out]; exact HEP.out) 3
              have d0 : decide ((0 : Int) < (m : Int)) = true := by simpa using hm0
              have HAW := Lib.hid (fun U (hU : Below W.heap.size W U) => awake08_true U (HQV.out.below (HW.out.trans (hU.mono HW.out.size))))
              have HE := Lib.hid (HBV.out.trans (HW.out.mono HBV.out.size))
              clear HM HO
              go_wp2_with fail
              refine (HAW.out _ (Below.refl _ _)).mono ?_
              rintro e Z ⟨rfl, hz⟩
              simp only
              go_wp2_with fail
              go_ret
              exact ⟨rfl, HE.out.trans (hz.mono HE.out.size)⟩
end Go.Proofs.YtdhhiaheonlldaaDoor
