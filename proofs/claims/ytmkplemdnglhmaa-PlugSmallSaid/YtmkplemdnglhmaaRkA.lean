/-
  Walks of the reference of chapter 12: plugged, At, Faults, Cold.
-/
import Derived.Test.YtmkplemdnglhmaaRhA
import Derived.Test.YtmkplemdnglhmaaPlZ
namespace Go.Proofs.Ytmkplemdnglhmaa
open Go.RowKit

theorem plug_no {s : Shp} {c t : Int} (h : ∀ k : Nat, k < s.cols.length → c = (k : Int) → 0 ≤ t → t < (s.cols.getD k default).tiers → t ∉ (s.cols.getD k default).plugs) : pluggedB s c t = false := by
  cases hp : pluggedB s c t with
  | false => rfl
  | true =>
    obtain ⟨k, h1, h2, h3, h4, h5⟩ := plugged_iff.1 hp
    exact absurd h5 (h k h1 h2 h3 h4)
theorem at_ref (s : Shp) (x : Slt) : atF s x = (decide (x.half ≤ 2) && pluggedB s x.col x.tier) := by
  unfold atF
  cases hp : pluggedB s x.col x.tier with
  | false => simp
  | true =>
    obtain ⟨k, h1, h2, h3, h4, h5⟩ := plugged_iff.1 hp
    rw [Bool.and_true, Bool.and_true]
    unfold slotRight halvesL
    rw [h2, Int.toNat_natCast]
    have d1 : decide ((0 : Int) ≤ (k : Int)) = true := by simp
    have d2 : decide ((k : Int) < (s.cols.length : Int)) = true := by simp; omega
    have d3 : decide (0 ≤ x.tier) = true := by simpa using h3
    have d4 : decide (x.tier < (s.cols.getD k default).tiers) = true := by simpa using h4
    rw [d1, d2, d3, d4]
    simp
    rw [Bool.eq_iff_iff]
    simp
    omega
theorem pf_ref (s : Shp) (bs : List Bx) (st : List Stw) : pfF s bs st = (st.filter fun x => unfedB s x && coldB bs x).map (·.box) := by
  unfold pfF
  rw [List.filter_filter]
set_option maxRecDepth 100000 in
set_option maxHeartbeats 4000000 in
theorem refPlugged_any (s : Shp) (h : Hd) (c t : Int) (w : World) (hsh : ShpR w (Lt w.heap.size) s h) (hf : Few s) :
    Calls Try.prog 74 #[.agg (shpA s h), .int .i64 c, .int .i64 t] w (Ret w (.bool (pluggedB s c t))) := by
  have hb0 := ba1 w (.cells (shpA s h) 32)
  have KE := Lib.hid (Bk.new w 32 (shpA s h))
  have HB0 := Lib.hid hb0
  have HSH := Lib.hid (hsh.on hb0)
  have HF := Lib.hid hf
  have hcl := hf.cols
  clear hsh hb0 hf
  obtain ⟨r, hr⟩ : ∃ r, pluggedB s c t = r := ⟨_, rfl⟩
  rw [hr]
  have HR := Lib.hid hr
  clear hr
  unfold shpA at *
  go_enter Try.func74, Try.ntmps74
  go_upto_region 1 with fail
  generalize (w.alloc _) = W at *
  have e0 : W.cell? ⟨w.heap.size, 0, none⟩ = some (.slice h.A1 s.cols.length h.c1) := KE.out.cell 0
  cases p1 : decide (c < 0) with
  | true =>
    have HY : Hid (r = false) := Lib.hid (by rw [← HR.out]; exact plug_no fun k h1 h2 h3 h4 => by have := of_decide_eq_true p1; omega)
    go_wp2_with fail
    go_ret
    exact ⟨by rw [HY.out]; rfl, HB0.out⟩
  | false =>
    cases p2 : decide ((s.cols.length : Int) ≤ c) with
    | true =>
      have HY : Hid (r = false) := Lib.hid (by rw [← HR.out]; exact plug_no fun k h1 h2 h3 h4 => by have := of_decide_eq_true p2; omega)
      go_wp2_with fail
      go_ret
      exact ⟨by rw [HY.out]; rfl, HB0.out⟩
    | false =>
      obtain ⟨k, rfl⟩ : ∃ k : Nat, c = (k : Int) := ⟨c.toNat, by have := of_decide_eq_false p1; omega⟩
      have hk : k < s.cols.length := by have := of_decide_eq_false p2; omega
      have i0 : (0 : Int) ≤ (k : Int) := by omega
      have i1 : (k : Int) < (s.cols.length : Int) := by omega
      cases p3 : decide (t < 0) with
      | true =>
        have HY : Hid (r = false) := Lib.hid (by rw [← HR.out]; exact plug_no fun k h1 h2 h3 h4 => by have := of_decide_eq_true p3; omega)
        go_wp2_with fail
        go_ret
        exact ⟨by rw [HY.out]; rfl, HB0.out⟩
      | false =>
        obtain ⟨b1, o1, cA, cq, hA, _, hcq, hcp, d0, d1, d2, d3, d4, d5, d6, d7, d8, -⟩ := HSH.out.cols.col hk
        have HA := Lib.hid hA
        rw [hA] at e0
        clear hA
        have hpll := HF.out.plugs _ (getD_memD hk default)
        cases p4 : decide ((s.cols.getD k default).tiers ≤ t) with
        | true =>
          have HY : Hid (r = false) := Lib.hid (by
            rw [← HR.out]
            refine plug_no fun k' h1 h2 h3 h4 => ?_
            obtain rfl : k = k' := by omega
            have := of_decide_eq_true p4
            omega)
          clear HR
          generalize s.cols.getD k default = cc at *
          go_wp2_with fail
          go_ret
          exact ⟨by rw [HY.out]; rfl, HB0.out⟩
        | false =>
          have HYES : Hid (t ∈ (s.cols.getD k default).plugs → r = true) := Lib.hid fun h5 => by
            rw [← HR.out]
            exact plugged_iff.2 ⟨k, hk, rfl, by have := of_decide_eq_false p3; omega, by have := of_decide_eq_false p4; omega, h5⟩
          have HNO : Hid ((∀ j, j < (s.cols.getD k default).plugs.length → (s.cols.getD k default).plugs.getD j 0 ≠ t) → r = false) := Lib.hid fun h5 => by
            rw [← HR.out]
            refine plug_no fun k' h1 h2 h3 h4 h6 => ?_
            obtain rfl : k = k' := by omega
            obtain ⟨j, hj, e⟩ := List.getElem_of_mem h6
            exact h5 j hj (by rw [List.getD_eq_getElem?_getD, List.getElem?_eq_getElem hj]; exact e)
          have HCOL := Lib.hid (fun (V : World) (hV : Below W.heap.size W V) => (HSH.out.on hV).cols.col hk)
          have HPL := Lib.hid hcp
          generalize hcc : s.cols.getD k default = cc at *
          clear hcc
          have HD3 := Lib.hid d3
          have HD8 := Lib.hid d8
          clear d0 d1 d2 d4 d5 d6 d7 d8 HCOL hcp
          obtain ⟨cb, cr, cd, ct, ch, c20, c40, cl, ps, cx, cy, cz⟩ := cc
          simp only at d3 HD3 HD8 HYES HNO HPL hcq hpll p4
          clear HR HF
          go_wp2_with fail
          clear d3 e0
          go_loopw [7] (fun i wr => ∃ j : Nat, j ≤ ps.length ∧ i = .int .i64 j ∧ Hid ((∀ i, i < j → ps.getD i 0 ≠ t) ∧ Below W.heap.size W wr)) (fun i _ => ps.length - (intOf i).toNat)
          case atStart => exact ⟨0, Nat.zero_le _, rfl, Lib.hid (And.intro (fun i hi => absurd hi (by omega)) (Below.refl _ _))⟩
          case round =>
            obtain ⟨j, hj, rfl, HB⟩ := hrel
            obtain ⟨V, rfl⟩ : ∃ V, V = wr := ⟨_, rfl⟩
            have e0 : V.cell? ⟨w.heap.size, 0, none⟩ = some (.slice h.A1 s.cols.length h.c1) := (KE.out.below HB.out.2 KE.out.lt).cell 0
            rw [HA.out] at e0
            have d8 : V.cell? ⟨b1, o1 + k * 12 + 8, none⟩ = some (.slice cA ps.length cq) := (HB.out.2.cell (p := ⟨b1, o1 + k * 12 + 8, none⟩) (block_lt_of_cell HD8.out)).trans HD8.out
            by_cases hlt : j < ps.length
            · obtain ⟨b2, o2, rfl, _, a0⟩ := (HPL.out.on HB.out.2).int hlt
              have j0 : (0 : Int) ≤ (j : Int) := by omega
              have j1 : (j : Int) < (ps.length : Int) := by omega
              have HM := Lib.hid (getD_memD hlt 0)
              have HN1 : Hid (ps.getD j 0 ≠ t → ∀ i, i < j + 1 → ps.getD i 0 ≠ t) := Lib.hid fun hh i hi => by
                rcases Nat.lt_succ_iff_lt_or_eq.1 hi with h' | h'
                · exact HB.out.1 i h'
                · rw [h']; exact hh
              have HBV := Lib.hid HB.out.2
              clear HB
              generalize ps.getD j 0 = p at *
              cases q1 : (p == t) with
              | true =>
                have HY := Lib.hid (HYES.out (by have : p = t := by simpa using q1
                                                 rw [← this]; exact HM.out))
                go_wp2_with fail
                go_ret
                exact ⟨by rw [HY.out]; rfl, HB0.out.trans (HBV.out.mono HB0.out.size)⟩
              | false =>
                have HN := Lib.hid (And.intro (HN1.out (by intro e; rw [e] at q1; simp at q1)) HBV.out)
                clear HBV HN1 HM
                go_wp2_with fail
                clear e0 d8 a0
                go_roundw
                case rel => first | exact ⟨j + 1, by omega, by go_num, HN⟩ | ((repeat apply Exists.intro); (first | exact ⟨⟨j + 1, by omega, by go_num, HN⟩, rfl⟩ | exact ⟨by omega, by go_num, HN⟩))
                case measure => simp [intOf]; omega
            · obtain rfl : j = ps.length := by omega
              have HY := Lib.hid (HNO.out HB.out.1)
              go_wp2_with fail
              go_ret
              exact ⟨by rw [HY.out]; rfl, HB0.out.trans (HB.out.2.mono HB0.out.size)⟩
set_option maxRecDepth 100000 in
set_option maxHeartbeats 4000000 in
theorem refAt_any (s : Shp) (h : Hd) (x : Slt) (w : World) (hsh : ShpR w (Lt w.heap.size) s h) (hf : Few s) :
    Calls Try.prog 37 #[.agg (shpA s h), .agg (sltL x).toArray] w (Ret w (.bool (atF s x))) := by
  rw [at_ref]
  obtain ⟨xc, xt, xh⟩ := x
  have hb0 := ba2 w (.cells (shpA s h) 32) (.cells #[.int .i64 xc, .int .i64 xt, .int .u8 (xh : Nat)] 40)
  have KE := Lib.hid ((Bk.new w 32 (shpA s h)).alloc (.cells #[.int .i64 xc, .int .i64 xt, .int .u8 (xh : Nat)] 40))
  have KX := Lib.hid (Bk.nxt8 (w := w) (.cells (shpA s h) 32) 40 #[.int .i64 xc, .int .i64 xt, .int .u8 (xh : Nat)])
  have HB0 := Lib.hid hb0
  have KP := Lib.hid (fun (U : World) (hU : Below ((w.alloc (.cells (shpA s h) 32)).alloc (.cells #[.int .i64 xc, .int .i64 xt, .int .u8 (xh : Nat)] 40)).heap.size ((w.alloc (.cells (shpA s h) 32)).alloc (.cells #[.int .i64 xc, .int .i64 xt, .int .u8 (xh : Nat)] 40)) U) => refPlugged_any s h xc xt U ((hsh.on hb0).on hU) hf)
  clear hsh hb0 hf
  unfold shpA sltL at *
  simp only at *
  generalize pluggedB s xc xt = pg at *
  have hd : decide (xh ≤ 2) = decide ((xh : Int) ≤ 2) := by rw [Bool.eq_iff_iff]; simp; omega
  rw [hd]
  clear hd
  cases p1 : decide ((xh : Int) ≤ 2) with
  | false =>
    go_enter Try.func37, Try.ntmps37
    go_upto_region 1 with fail
    generalize ((w.alloc _).alloc _) = W at *
    have x2 : W.cell? ⟨w.heap.size + 1, 2, none⟩ = some (.int .u8 (xh : Nat)) := KX.out.cell 2
    go_wp2_with fail
    go_ret
    exact ⟨rfl, HB0.out⟩
  | true =>
    go_enter Try.func37, Try.ntmps37
    go_upto_region 1 with fail
    generalize ((w.alloc _).alloc _) = W at *
    have e0 : ∀ p : Gr W, p.W.cell? ⟨w.heap.size, 0, none⟩ = some (Value.slice h.A1 s.cols.length h.c1) := Gr.cell (KE.out.cell 0)
    have e1 : ∀ p : Gr W, p.W.cell? ⟨w.heap.size, 1, none⟩ = some (Value.slice h.A2 s.covs.length h.c2) := Gr.cell (KE.out.cell 1)
    have e2 : ∀ p : Gr W, p.W.cell? ⟨w.heap.size, 2, none⟩ = some (.int .i64 s.l0) := Gr.cell (KE.out.cell 2)
    have e3 : ∀ p : Gr W, p.W.cell? ⟨w.heap.size, 3, none⟩ = some (.int .i64 s.l1) := Gr.cell (KE.out.cell 3)
    have e4 : ∀ p : Gr W, p.W.cell? ⟨w.heap.size, 4, none⟩ = some (.int .i64 s.l2) := Gr.cell (KE.out.cell 4)
    have e5 : ∀ p : Gr W, p.W.cell? ⟨w.heap.size, 5, none⟩ = some (.int .i64 s.l3) := Gr.cell (KE.out.cell 5)
    have e6 : ∀ p : Gr W, p.W.cell? ⟨w.heap.size, 6, none⟩ = some (.slice h.A3 s.rows.length h.c3) := Gr.cell (KE.out.cell 6)
    have e7 : ∀ p : Gr W, p.W.cell? ⟨w.heap.size, 7, none⟩ = some (.slice h.A4 s.frames.length h.c4) := Gr.cell (KE.out.cell 7)
    have e8 : ∀ p : Gr W, p.W.cell? ⟨w.heap.size, 8, none⟩ = some (.slice h.A5 s.tanks.length h.c5) := Gr.cell (KE.out.cell 8)
    have e9 : ∀ p : Gr W, p.W.cell? ⟨w.heap.size, 9, none⟩ = some (.int .i64 s.m0) := Gr.cell (KE.out.cell 9)
    have e10 : ∀ p : Gr W, p.W.cell? ⟨w.heap.size, 10, none⟩ = some (.int .i64 s.m1) := Gr.cell (KE.out.cell 10)
    have e11 : ∀ p : Gr W, p.W.cell? ⟨w.heap.size, 11, none⟩ = some (.int .i64 s.m2) := Gr.cell (KE.out.cell 11)
    have e12 : ∀ p : Gr W, p.W.cell? ⟨w.heap.size, 12, none⟩ = some (.int .i64 s.m3) := Gr.cell (KE.out.cell 12)
    have x0 : ∀ gp : Gr W, gp.W.cell? ⟨w.heap.size + 1, 0, none⟩ = some (.int .i64 xc) := Gr.cell (KX.out.cell 0)
    have x1 : ∀ gp : Gr W, gp.W.cell? ⟨w.heap.size + 1, 1, none⟩ = some (.int .i64 xt) := Gr.cell (KX.out.cell 1)
    have x2 : ∀ gp : Gr W, gp.W.cell? ⟨w.heap.size + 1, 2, none⟩ = some (.int .u8 (xh : Nat)) := Gr.cell (KX.out.cell 2)
    refine wp_region_grs ?_
    repeat (go_big_quiet_step ((with_reducible exact Gr.call _ (fun V hV => KP.out V hV))))
    refine wpQuiet_nil ?_
    rintro Y ⟨⟨_, hbY⟩, rfl⟩
    have HE := Lib.hid (HB0.out.trans (hbY.mono HB0.out.size))
    clear hbY e0 e1 e2 e3 e4 e5 e6 e7 e8 e9 e10 e11 e12 x0 x1 x2
    go_wp2_with fail
    go_ret
    exact ⟨by simp, HE.out⟩
set_option maxRecDepth 100000 in
set_option maxHeartbeats 4000000 in
theorem refPFaults_any (s : Shp) (h : Hd) (A : Option Addr) (c : Nat) (boxes : List Bx) (A2 : Option Addr) (c2 : Nat) (l : List Stw) (w : World) (hsh : ShpR w (Lt w.heap.size) s h) (hf : Few s) (hb : SlT tBx w (Lt w.heap.size) A boxes) (hbl : boxes.length ≤ 1000000) (hs : SlT tStw w (Lt w.heap.size) A2 l) (hl : l.length ≤ 1000000) :
    Calls Try.prog 35 #[.agg (shpA s h), .slice A boxes.length c, .slice A2 l.length c2] w (OwnL tInt 3 w (pfF s boxes l)) := by
  rw [pf_ref]
  have hb0 := ba1 w (.cells (shpA s h) 32)
  have KE := Lib.hid (Bk.new w 32 (shpA s h))
  have HB0 := Lib.hid hb0
  have HBX := Lib.hid (hb.on hb0)
  have HST := Lib.hid (hs.on hb0)
  have KP := Lib.hid (fun (c t : Int) (U : World) (hU : Below (w.alloc (.cells (shpA s h) 32)).heap.size (w.alloc (.cells (shpA s h) 32)) U) => refPlugged_any s h c t U ((hsh.on hb0).on hU) hf)
  have HSU : Hid (∀ k, k < l.length → ((l.take (k + 1)).filter (fun x => unfedB s x && coldB boxes x)).map (·.box) = ((l.take k).filter (fun x => unfedB s x && coldB boxes x)).map (·.box) ++ if (unfedB s (l.getD k default) && coldB boxes (l.getD k default)) then [(l.getD k default).box] else []) := Lib.hid fun k hk => by
    rw [filter_take _ l hk default, List.map_append]
    split <;> simp
  have HLN : Hid (∀ k, (((l.take k).filter (fun x => unfedB s x && coldB boxes x)).map (·.box)).length ≤ l.length) := Lib.hid fun k => by
    rw [List.length_map]
    exact Nat.le_trans (List.length_filter_le _ _) (by simp; omega)
  have HFIN : Hid (((l.take l.length).filter (fun x => unfedB s x && coldB boxes x)).map (·.box) = (l.filter (fun x => unfedB s x && coldB boxes x)).map (·.box)) := Lib.hid (by rw [List.take_length])
  clear hsh hb hs hb0
  obtain ⟨F, hF⟩ : ∃ F : Nat → List Int, ∀ k, F k = ((l.take k).filter (fun x => unfedB s x && coldB boxes x)).map (·.box) := ⟨_, fun k => rfl⟩
  have HF0 : Hid (F 0 = []) := Lib.hid (by rw [hF]; rfl)
  simp only [← hF] at HSU HLN HFIN
  rw [← HFIN.out]
  clear HFIN hF
  unfold shpA at *
  go_enter Try.func35, Try.ntmps35
  go_upto_region 1 with fail
  generalize (w.alloc _) = W at *
  go_wp2_with fail
  go_loopw [7, 8] (fun v i wr => ∃ k : Nat, k ≤ l.length ∧ i = .int .i64 k ∧ Hid (OwnT tInt 3 wr W.heap.size v (F k)) ∧ Hid (Below W.heap.size W wr)) (fun _ i _ => l.length - (intOf i).toNat)
  case atStart => exact ⟨0, Nat.zero_le _, rfl, Lib.hid (by rw [HF0.out]; exact OwnT.nil), Lib.hid (Below.refl _ _)⟩
  case round =>
    obtain ⟨k, hk, rfl, HO, HB⟩ := hrel
    obtain ⟨V, rfl⟩ : ∃ V, V = wr := ⟨_, rfl⟩
    by_cases hlt : k < l.length
    · obtain ⟨b, off, rfl, hbB, a0, a1, a2, a3⟩ := (HST.out.on HB.out).stw hlt
      have i0 : (0 : Int) ≤ (k : Int) := by omega
      have i1 : (k : Int) < (l.length : Int) := by omega
      have hbb : b < V.heap.size := hbB
      clear hbB
      have HS1 := Lib.hid (HSU.out k hlt)
      generalize l.getD k default = x at *
      obtain ⟨xb, xc, xt, xh⟩ := x
      simp only at a0 a1 a2 a3 HS1
      have KF := Lib.hid (refFindBx_any A c boxes xb V (HBX.out.on HB.out) hbl)
      have KPX := Lib.hid (fun (U : World) (hU : Below W.heap.size W U) => KP.out xc xt U hU)
      have HU : Hid (unfedB s ⟨xb, ⟨xc, xt, xh⟩⟩ = !pluggedB s xc xt) := Lib.hid rfl
      have HC : Hid (coldB boxes ⟨xb, ⟨xc, xt, xh⟩⟩ = (findBx boxes xb).1.reefer) := Lib.hid rfl
      generalize pluggedB s xc xt = pg at *
      generalize findBx boxes xb = fb at *
      obtain ⟨⟨b0, b1, b2, b3, b4, b5, b6, b7, b8⟩, ok⟩ := fb
      unfold bxL at KF
      simp only at KF HC
      go_step
      go_step
      go_upto_region 5 with fail
      go_wp2_with fail
      refine KF.out.mono ?_
      rintro e V1 ⟨rfl, hb1⟩
      simp only
      have KY := Lib.hid (Bk.new V1 37 #[.int .i64 b0, .string b1, .int .u8 (b2 : Nat), .bool b3, .int .i64 b4, .int .i64 b5, .int .i64 b6, .int .u8 (b7 : Nat), .bool b8])
      have hb2 := hb1.trans ((ba1 V1 (.cells #[.int .i64 b0, .string b1, .int .u8 (b2 : Nat), .bool b3, .int .i64 b4, .int .i64 b5, .int .i64 b6, .int .u8 (b7 : Nat), .bool b8] 37)).mono hb1.size)
      go_upto_region 6 with fail
      obtain ⟨gy, hgy⟩ : ∃ gy, gy = V1.heap.size := ⟨_, rfl⟩
      rw [← hgy] at KY ⊢
      clear hgy
      generalize (V1.alloc _) = V2 at *
      replace a0 := (hb2.cell (p := ⟨b, off + k * 4, none⟩) hbb).trans a0
      replace a1 := (hb2.cell (p := ⟨b, off + k * 4 + 1, none⟩) hbb).trans a1
      replace a2 := (hb2.cell (p := ⟨b, off + k * 4 + 2, none⟩) hbb).trans a2
      replace a3 := (hb2.cell (p := ⟨b, off + k * 4 + 3, none⟩) hbb).trans a3
      have HB2 := Lib.hid (HB.out.trans (hb2.mono HB.out.size))
      have HO2 := Lib.hid (HO.out.below hb2)
      have HKE := Lib.hid (KE.out.below HB2.out KE.out.lt)
      have KP2 := Lib.hid (fun (U : World) (hU : Below V2.heap.size V2 U) => KPX.out U (HB2.out.trans (hU.mono HB2.out.size)))
      have y8 : ∀ gp : Gr V2, gp.W.cell? ⟨gy, 8, none⟩ = some (.bool b8) := Gr.cell (KY.out.cell 8)
      clear hb1 hb2 KF KY HB HO KPX hbb
      cases b8 with
      | false =>
        have HEQ : Hid (F (k + 1) = F k) := Lib.hid (by rw [HS1.out, HC.out, Bool.and_false]; simp)
        refine wp_region_gr (by kernel_rfl) (by kernel_rfl) ?_
        repeat (go_big_quiet_step (fail))
        refine wpQuiet_nil ?_
        rintro Y ⟨⟨_, hbY⟩, rfl⟩
        have HB3 := Lib.hid (HB2.out.trans (hbY.mono HB2.out.size))
        have HO3 : Hid (OwnT tInt 3 Y W.heap.size u7 (F (k + 1))) := Lib.hid (by rw [HEQ.out]; exact HO2.out.below hbY)
        clear hbY HB2 HO2 y8 KP2 HKE HEQ a0 a1 a2 a3
        go_wp2_with fail
        go_roundw
        case rel => first | exact ⟨k + 1, by omega, by go_num, HO3, HB3⟩ | ((repeat apply Exists.intro); (first | exact ⟨⟨k + 1, by omega, by go_num, HO3, HB3⟩, rfl⟩ | exact ⟨by omega, by go_num, HO3, HB3⟩))
        case measure => simp [intOf]; omega
      | true =>
        have e0 : ∀ p : Gr V2, p.W.cell? ⟨w.heap.size, 0, none⟩ = some (Value.slice h.A1 s.cols.length h.c1) := Gr.cell (HKE.out.cell 0)
        have e1 : ∀ p : Gr V2, p.W.cell? ⟨w.heap.size, 1, none⟩ = some (Value.slice h.A2 s.covs.length h.c2) := Gr.cell (HKE.out.cell 1)
        have e2 : ∀ p : Gr V2, p.W.cell? ⟨w.heap.size, 2, none⟩ = some (.int .i64 s.l0) := Gr.cell (HKE.out.cell 2)
        have e3 : ∀ p : Gr V2, p.W.cell? ⟨w.heap.size, 3, none⟩ = some (.int .i64 s.l1) := Gr.cell (HKE.out.cell 3)
        have e4 : ∀ p : Gr V2, p.W.cell? ⟨w.heap.size, 4, none⟩ = some (.int .i64 s.l2) := Gr.cell (HKE.out.cell 4)
        have e5 : ∀ p : Gr V2, p.W.cell? ⟨w.heap.size, 5, none⟩ = some (.int .i64 s.l3) := Gr.cell (HKE.out.cell 5)
        have e6 : ∀ p : Gr V2, p.W.cell? ⟨w.heap.size, 6, none⟩ = some (.slice h.A3 s.rows.length h.c3) := Gr.cell (HKE.out.cell 6)
        have e7 : ∀ p : Gr V2, p.W.cell? ⟨w.heap.size, 7, none⟩ = some (.slice h.A4 s.frames.length h.c4) := Gr.cell (HKE.out.cell 7)
        have e8 : ∀ p : Gr V2, p.W.cell? ⟨w.heap.size, 8, none⟩ = some (.slice h.A5 s.tanks.length h.c5) := Gr.cell (HKE.out.cell 8)
        have e9 : ∀ p : Gr V2, p.W.cell? ⟨w.heap.size, 9, none⟩ = some (.int .i64 s.m0) := Gr.cell (HKE.out.cell 9)
        have e10 : ∀ p : Gr V2, p.W.cell? ⟨w.heap.size, 10, none⟩ = some (.int .i64 s.m1) := Gr.cell (HKE.out.cell 10)
        have e11 : ∀ p : Gr V2, p.W.cell? ⟨w.heap.size, 11, none⟩ = some (.int .i64 s.m2) := Gr.cell (HKE.out.cell 11)
        have e12 : ∀ p : Gr V2, p.W.cell? ⟨w.heap.size, 12, none⟩ = some (.int .i64 s.m3) := Gr.cell (HKE.out.cell 12)
        have a0 : ∀ p : Gr V2, p.W.cell? ⟨b, off + k * 4, none⟩ = some (.int .i64 xb) := Gr.cell a0
        have a1 : ∀ p : Gr V2, p.W.cell? ⟨b, off + k * 4 + 1, none⟩ = some (.int .i64 xc) := Gr.cell a1
        have a2 : ∀ p : Gr V2, p.W.cell? ⟨b, off + k * 4 + 2, none⟩ = some (.int .i64 xt) := Gr.cell a2
        have a3 : ∀ p : Gr V2, p.W.cell? ⟨b, off + k * 4 + 3, none⟩ = some (.int .u8 (xh : Nat)) := Gr.cell a3
        refine wp_region_gr (by kernel_rfl) (by kernel_rfl) ?_
        repeat (go_big_quiet_step ((with_reducible exact Gr.call _ (fun V hV => KP2.out V hV))))
        refine wpQuiet_nil ?_
        rintro Y ⟨⟨_, hbY⟩, rfl⟩
        have HB3 := Lib.hid (HB2.out.trans (hbY.mono HB2.out.size))
        have HO3 := Lib.hid (HO2.out.below hbY)
        have a0 : Y.cell? ⟨b, off + k * 4, none⟩ = some (.int .i64 xb) := a0 ⟨Y, hbY⟩
        clear hbY HB2 HO2 y8 KP2 HKE a1 a2 a3 e0 e1 e2 e3 e4 e5 e6 e7 e8 e9 e10 e11 e12
        cases pg with
        | true =>
          have HEQ : Hid (F (k + 1) = F k) := Lib.hid (by rw [HS1.out, HU.out]; simp)
          replace HO3 : Hid (OwnT tInt 3 Y W.heap.size u7 (F (k + 1))) := Lib.hid (by rw [HEQ.out]; exact HO3.out)
          clear a0 HEQ
          go_wp2_with fail
          go_roundw
          case rel => first | exact ⟨k + 1, by omega, by go_num, HO3, HB3⟩ | ((repeat apply Exists.intro); (first | exact ⟨⟨k + 1, by omega, by go_num, HO3, HB3⟩, rfl⟩ | exact ⟨by omega, by go_num, HO3, HB3⟩))
          case measure => simp [intOf]; omega
        | false =>
          have HEQ : Hid (F (k + 1) = F k ++ [xb]) := Lib.hid (by rw [HS1.out, HU.out, HC.out]; rfl)
          have hml := HLN.out k
          generalize F k = M at *
          obtain ⟨xs, ho, hfl⟩ := HO3.out
          have hz9 := HB3.out.size
          go_wp2_with (at_builtin; (refine wpList_append1 el_int rfl (.tmp 46) (.tmp 52) rfl W.heap.size _ M.length xs rfl ho #[.int .i64 xb] _ rfl rfl rfl ?cA ?cB hz9 ?_))
          case cA => unfold maxLen; omega
          case cB => omega
          intro v' w3 hown' hgr hd3 hbel
          have HO4 : Hid (OwnT tInt 3 w3 W.heap.size v' (F (k + 1))) := Lib.hid (by rw [HEQ.out]; exact OwnT.int1 hfl hown' hgr hd3)
          have HB4 := Lib.hid (HB3.out.trans hbel)
          clear hown' hgr hd3 hbel ho hfl hz9 HO3 HB3 HEQ a0
          go_wp2_with fail
          go_roundw
          case rel => first | exact ⟨k + 1, by omega, by go_num, HO4, HB4⟩ | ((repeat apply Exists.intro); (first | exact ⟨⟨k + 1, by omega, by go_num, HO4, HB4⟩, rfl⟩ | exact ⟨by omega, by go_num, HO4, HB4⟩))
          case measure => simp [intOf]; omega
    · obtain rfl : k = l.length := by omega
      have HE := Lib.hid (HB0.out.trans (HB.out.mono HB0.out.size))
      have HOE := Lib.hid (HO.out.down HB0.out.size)
      go_wp2_with fail
      go_ret
      exact ⟨_, rfl, HOE.out, HE.out⟩
set_option maxRecDepth 100000 in
set_option maxHeartbeats 4000000 in
theorem refCold_any (A : Option Addr) (c : Nat) (boxes : List Bx) (A2 : Option Addr) (c2 : Nat) (l : List Stw) (w : World) (hb : SlT tBx w (Lt w.heap.size) A boxes) (hbl : boxes.length ≤ 1000000) (hs : SlT tStw w (Lt w.heap.size) A2 l) (hl : l.length ≤ 1000000) :
    Calls Try.prog 47 #[.slice A boxes.length c, .slice A2 l.length c2] w (OwnL tBx 37 w (coldF boxes l)) := by
  have HBX := Lib.hid hb
  have HST := Lib.hid hs
  have HSU : Hid (∀ k, k < l.length → ((l.take (k + 1)).filter (coldB boxes)).map (fun x => (findBx boxes x.box).1) = ((l.take k).filter (coldB boxes)).map (fun x => (findBx boxes x.box).1) ++ if coldB boxes (l.getD k default) then [(findBx boxes (l.getD k default).box).1] else []) := Lib.hid fun k hk => by
    rw [filter_take _ l hk default, List.map_append]
    split <;> simp
  have HLN : Hid (∀ k, (((l.take k).filter (coldB boxes)).map (fun x => (findBx boxes x.box).1)).length ≤ l.length) := Lib.hid fun k => by
    rw [List.length_map]
    exact Nat.le_trans (List.length_filter_le _ _) (by simp; omega)
  have HFIN : Hid (((l.take l.length).filter (coldB boxes)).map (fun x => (findBx boxes x.box).1) = coldF boxes l) := Lib.hid (by rw [List.take_length]; rfl)
  clear hb hs
  obtain ⟨F, hF⟩ : ∃ F : Nat → List Bx, ∀ k, F k = ((l.take k).filter (coldB boxes)).map (fun x => (findBx boxes x.box).1) := ⟨_, fun k => rfl⟩
  have HF0 : Hid (F 0 = []) := Lib.hid (by rw [hF]; rfl)
  simp only [← hF] at HSU HLN HFIN
  rw [← HFIN.out]
  clear HFIN hF
  go_enter Try.func47, Try.ntmps47
  go_wp2_with fail
  go_loopw [5, 6] (fun v i wr => ∃ k : Nat, k ≤ l.length ∧ i = .int .i64 k ∧ Hid (OwnT tBx 37 wr w.heap.size v (F k)) ∧ Hid (Below w.heap.size w wr)) (fun _ i _ => l.length - (intOf i).toNat)
  case atStart => exact ⟨0, Nat.zero_le _, rfl, Lib.hid (by rw [HF0.out]; exact OwnT.nil), Lib.hid (Below.refl _ _)⟩
  case round =>
    obtain ⟨k, hk, rfl, HO, HB⟩ := hrel
    obtain ⟨V, rfl⟩ : ∃ V, V = wr := ⟨_, rfl⟩
    by_cases hlt : k < l.length
    · obtain ⟨b, off, rfl, hbB, a0, a1, a2, a3⟩ := (HST.out.on HB.out).stw hlt
      have i0 : (0 : Int) ≤ (k : Int) := by omega
      have i1 : (k : Int) < (l.length : Int) := by omega
      clear hbB
      have HS1 := Lib.hid (HSU.out k hlt)
      generalize l.getD k default = x at *
      obtain ⟨xb, xc, xt, xh⟩ := x
      simp only at a0 a1 a2 a3 HS1
      have KF := Lib.hid (refFindBx_any A c boxes xb V (HBX.out.on HB.out) hbl)
      have HC : Hid (coldB boxes ⟨xb, ⟨xc, xt, xh⟩⟩ = (findBx boxes xb).1.reefer) := Lib.hid rfl
      generalize findBx boxes xb = fb at *
      obtain ⟨⟨b0, b1, b2, b3, b4, b5, b6, b7, b8⟩, ok⟩ := fb
      unfold bxL at KF
      simp only at KF HC HS1
      go_step
      go_step
      go_upto_region 5 with fail
      go_wp2_with fail
      refine KF.out.mono ?_
      rintro e V1 ⟨rfl, hb1⟩
      simp only
      have KY := Lib.hid (Bk.new V1 37 #[.int .i64 b0, .string b1, .int .u8 (b2 : Nat), .bool b3, .int .i64 b4, .int .i64 b5, .int .i64 b6, .int .u8 (b7 : Nat), .bool b8])
      have hb2 := hb1.trans ((ba1 V1 (.cells #[.int .i64 b0, .string b1, .int .u8 (b2 : Nat), .bool b3, .int .i64 b4, .int .i64 b5, .int .i64 b6, .int .u8 (b7 : Nat), .bool b8] 37)).mono hb1.size)
      go_upto_region 6 with fail
      obtain ⟨gy, hgy⟩ : ∃ gy, gy = V1.heap.size := ⟨_, rfl⟩
      rw [← hgy] at KY ⊢
      clear hgy
      generalize (V1.alloc _) = V2 at *
      have HB2 := Lib.hid (HB.out.trans (hb2.mono HB.out.size))
      have HO2 := Lib.hid (HO.out.below hb2)
      have y0 : V2.cell? ⟨gy, 0, none⟩ = some (.int .i64 b0) := KY.out.cell 0
      have y1 : V2.cell? ⟨gy, 1, none⟩ = some (.string b1) := KY.out.cell 1
      have y2 : V2.cell? ⟨gy, 2, none⟩ = some (.int .u8 (b2 : Nat)) := KY.out.cell 2
      have y3 : V2.cell? ⟨gy, 3, none⟩ = some (.bool b3) := KY.out.cell 3
      have y4 : V2.cell? ⟨gy, 4, none⟩ = some (.int .i64 b4) := KY.out.cell 4
      have y5 : V2.cell? ⟨gy, 5, none⟩ = some (.int .i64 b5) := KY.out.cell 5
      have y6 : V2.cell? ⟨gy, 6, none⟩ = some (.int .i64 b6) := KY.out.cell 6
      have y7 : V2.cell? ⟨gy, 7, none⟩ = some (.int .u8 (b7 : Nat)) := KY.out.cell 7
      have y8 : V2.cell? ⟨gy, 8, none⟩ = some (.bool b8) := KY.out.cell 8
      clear hb1 hb2 KF KY HB HO a0 a1 a2 a3
      cases b8 with
      | false =>
        have HEQ : Hid (F (k + 1) = F k) := Lib.hid (by rw [HS1.out, HC.out]; simp)
        have HO3 : Hid (OwnT tBx 37 V2 w.heap.size u5 (F (k + 1))) := Lib.hid (by rw [HEQ.out]; exact HO2.out)
        clear HEQ HO2
        go_wp2_with fail
        clear y0 y1 y2 y3 y4 y5 y6 y7 y8
        go_roundw
        case rel => first | exact ⟨k + 1, by omega, by go_num, HO3, HB2⟩ | ((repeat apply Exists.intro); (first | exact ⟨⟨k + 1, by omega, by go_num, HO3, HB2⟩, rfl⟩ | exact ⟨by omega, by go_num, HO3, HB2⟩))
        case measure => simp [intOf]; omega
      | true =>
        have HEQ : Hid (F (k + 1) = F k ++ [⟨b0, b1, b2, b3, b4, b5, b6, b7, true⟩]) := Lib.hid (by rw [HS1.out, HC.out]; rfl)
        have hml := HLN.out k
        generalize F k = M at *
        obtain ⟨xs, ho, hfl⟩ := HO2.out
        have hz9 := HB2.out.size
        go_wp2_with (at_builtin; (refine wpList_append1 el_bx rfl (.tmp 27) (.tmp 29) rfl w.heap.size _ M.length xs rfl ho #[.int .i64 b0, .string b1, .int .u8 (b2 : Nat), .bool b3, .int .i64 b4, .int .i64 b5, .int .i64 b6, .int .u8 (b7 : Nat), .bool true] _ rfl rfl rfl ?cA ?cB hz9 ?_))
        case cA => unfold maxLen; omega
        case cB => omega
        intro v' w3 hown' hgr hd3 hbel
        have HO4 : Hid (OwnT tBx 37 w3 w.heap.size v' (F (k + 1))) := Lib.hid (by rw [HEQ.out]; exact OwnT.append1 (T := tBx) (x := ⟨b0, b1, b2, b3, b4, b5, b6, b7, true⟩) hfl (cs := bxL ⟨b0, b1, b2, b3, b4, b5, b6, b7, true⟩) rfl hown' hgr hd3)
        have HB4 := Lib.hid (HB2.out.trans hbel)
        clear hown' hgr hd3 hbel ho hfl hz9 HO2 HB2 HEQ y0 y1 y2 y3 y4 y5 y6 y7 y8
        go_wp2_with fail
        go_roundw
        case rel => first | exact ⟨k + 1, by omega, by go_num, HO4, HB4⟩ | ((repeat apply Exists.intro); (first | exact ⟨⟨k + 1, by omega, by go_num, HO4, HB4⟩, rfl⟩ | exact ⟨by omega, by go_num, HO4, HB4⟩))
        case measure => simp [intOf]; omega
    · obtain rfl : k = l.length := by omega
      go_wp2_with fail
      go_ret
      exact ⟨_, rfl, HO.out, HB.out⟩
end Go.Proofs.Ytmkplemdnglhmaa
