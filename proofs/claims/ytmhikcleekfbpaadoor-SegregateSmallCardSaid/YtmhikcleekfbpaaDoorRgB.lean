/-
  Walks of the reference of chapter 08: Right, All.
-/
import Derived.Test.YtmhikcleekfbpaaDoorRgA
namespace Go.Proofs.YtmhikcleekfbpaaDoor
open Go.RowKit

set_option maxRecDepth 100000 in
set_option maxHeartbeats 4000000 in
theorem refRightS_any (s : Shp) (h : Hd) (x : Slt) (size : Nat) (w : World) (hs : ShpR w (Lt w.heap.size) s h) (hsz : size < 256) :
    Calls Tryd.prog 47 #[.agg (shpA s h), .agg (sltL x).toArray, .int .i64 (size : Nat)] w (Ret w (.bool (slotRight s x size))) := by
  obtain ⟨xc, xt, xh⟩ := x
  have hb0 := ba2 w (.cells (shpA s h) 32) (.cells #[.int .i64 xc, .int .i64 xt, .int .u8 (xh : Nat)] 37)
  have KE := Lib.hid ((Bk.new w 32 (shpA s h)).alloc (.cells #[.int .i64 xc, .int .i64 xt, .int .u8 (xh : Nat)] 37))
  have KX := Lib.hid (Bk.nxt8 (w := w) (.cells (shpA s h) 32) 37 #[.int .i64 xc, .int .i64 xt, .int .u8 (xh : Nat)])
  have HS := Lib.hid (hs.on hb0)
  have HB0 := Lib.hid hb0
  clear hs hb0
  have HV : Hid (slotRight s ⟨xc, xt, xh⟩ size = (decide (0 ≤ xc) && (decide (xc < s.cols.length) && (decide (0 ≤ xt) && (decide (xt < (s.cols.getD xc.toNat default).tiers) && (halvesL size).any fun y => xh == y))))) := Lib.hid rfl
  generalize slotRight s ⟨xc, xt, xh⟩ size = r at *
  unfold shpA sltL at *
  simp only at *
  by_cases h1 : xc < 0
  · have HY : Hid (r = false) := Lib.hid (by rw [HV.out, decide_eq_false (by omega)]; rfl)
    have d1 : decide (xc < 0) = true := decide_eq_true h1
    clear h1 HV
    go_enter Tryd.func47, Tryd.ntmps47
    go_upto_region 1 with fail
    generalize ((w.alloc _).alloc _) = W at *
    have e0 : ∀ p : Gr W, p.W.cell? ⟨w.heap.size, 0, none⟩ = some (.slice h.A1 s.cols.length h.c1) := Gr.cell (KE.out.cell 0)
    have x0 : ∀ p : Gr W, p.W.cell? ⟨w.heap.size + 1, 0, none⟩ = some (.int .i64 xc) := Gr.cell (KX.out.cell 0)
    have x1 : ∀ p : Gr W, p.W.cell? ⟨w.heap.size + 1, 1, none⟩ = some (.int .i64 xt) := Gr.cell (KX.out.cell 1)
    have x2 : ∀ p : Gr W, p.W.cell? ⟨w.heap.size + 1, 2, none⟩ = some (.int .u8 (xh : Nat)) := Gr.cell (KX.out.cell 2)
    refine wp_region_gr (by kernel_rfl) (by kernel_rfl) ?_
    repeat (go_big_quiet_step (fail))
    refine wpQuiet_nil ?_
    rintro Y ⟨⟨_, hbY⟩, rfl⟩
    have HE := Lib.hid (HB0.out.trans (hbY.mono HB0.out.size))
    have x2y : Y.cell? ⟨w.heap.size + 1, 2, none⟩ = some (.int .u8 (xh : Nat)) := x2 ⟨Y, hbY⟩
    clear hbY e0 x0 x1 x2
    clear x2y
    go_wp2_with fail
    go_ret
    exact ⟨by rw [HY.out]; rfl, HE.out⟩
  · have d1 : decide (xc < 0) = false := decide_eq_false h1
    by_cases h2 : (s.cols.length : Int) ≤ xc
    · have HY : Hid (r = false) := Lib.hid (by rw [HV.out, decide_eq_false (show ¬ xc < (s.cols.length : Int) by omega)]; simp)
      have d2 : decide ((s.cols.length : Int) ≤ xc) = true := decide_eq_true h2
      clear h1 h2 HV
      go_enter Tryd.func47, Tryd.ntmps47
      go_upto_region 1 with fail
      generalize ((w.alloc _).alloc _) = W at *
      have e0 : ∀ p : Gr W, p.W.cell? ⟨w.heap.size, 0, none⟩ = some (.slice h.A1 s.cols.length h.c1) := Gr.cell (KE.out.cell 0)
      have x0 : ∀ p : Gr W, p.W.cell? ⟨w.heap.size + 1, 0, none⟩ = some (.int .i64 xc) := Gr.cell (KX.out.cell 0)
      have x1 : ∀ p : Gr W, p.W.cell? ⟨w.heap.size + 1, 1, none⟩ = some (.int .i64 xt) := Gr.cell (KX.out.cell 1)
      have x2 : ∀ p : Gr W, p.W.cell? ⟨w.heap.size + 1, 2, none⟩ = some (.int .u8 (xh : Nat)) := Gr.cell (KX.out.cell 2)
      refine wp_region_gr (by kernel_rfl) (by kernel_rfl) ?_
      repeat (go_big_quiet_step (fail))
      refine wpQuiet_nil ?_
      rintro Y ⟨⟨_, hbY⟩, rfl⟩
      have HE := Lib.hid (HB0.out.trans (hbY.mono HB0.out.size))
      have x2y : Y.cell? ⟨w.heap.size + 1, 2, none⟩ = some (.int .u8 (xh : Nat)) := x2 ⟨Y, hbY⟩
      clear hbY e0 x0 x1 x2
      clear x2y
      go_wp2_with fail
      go_ret
      exact ⟨by rw [HY.out]; rfl, HE.out⟩
    · obtain ⟨k, rfl⟩ := Int.eq_ofNat_of_zero_le (show 0 ≤ xc by omega)
      have hk : k < s.cols.length := by omega
      have d2 : decide ((s.cols.length : Int) ≤ (k : Int)) = false := decide_eq_false h2
      have d2' : decide (s.cols.length ≤ k) = false := decide_eq_false (by omega)
      have k0 : (0 : Int) ≤ (k : Int) := by omega
      have k1 : (k : Int) < (s.cols.length : Int) := by omega
      have HV2 : Hid (r = (decide (0 ≤ xt) && (decide (xt < (s.cols.getD k default).tiers) && (halvesL size).any fun y => xh == y))) := Lib.hid (by rw [HV.out, decide_eq_true k0, decide_eq_true k1, Int.toNat_natCast]; rfl)
      obtain ⟨b1, o1, Ap1, p1, hA1, _, _, _, _, _, _, a3, _⟩ := HS.out.cols.col hk
      clear HV h1 h2 d1
      have HD3 := Lib.hid a3
      clear a3
      clear HS
      rw [hA1] at KE KX HB0 HD3 ⊢
      generalize (s.cols.getD k default).tiers = T at *
      have d1 : decide ((k : Int) < 0) = false := decide_eq_false (by omega)
      by_cases h3 : xt < 0
      · have HY : Hid (r = false) := Lib.hid (by rw [HV2.out, decide_eq_false (by omega)]; rfl)
        have d3' : decide (xt < 0) = true := decide_eq_true h3
        clear h3 HV2
        go_enter Tryd.func47, Tryd.ntmps47
        go_upto_region 1 with fail
        generalize ((w.alloc _).alloc _) = W at *
        have e0 : ∀ p : Gr W, p.W.cell? ⟨w.heap.size, 0, none⟩ = some (.slice (some ⟨b1, o1, none⟩) s.cols.length h.c1) := Gr.cell (KE.out.cell 0)
        have x0 : ∀ p : Gr W, p.W.cell? ⟨w.heap.size + 1, 0, none⟩ = some (.int .i64 (k : Nat)) := Gr.cell (KX.out.cell 0)
        have x1 : ∀ p : Gr W, p.W.cell? ⟨w.heap.size + 1, 1, none⟩ = some (.int .i64 xt) := Gr.cell (KX.out.cell 1)
        have x2 : ∀ p : Gr W, p.W.cell? ⟨w.heap.size + 1, 2, none⟩ = some (.int .u8 (xh : Nat)) := Gr.cell (KX.out.cell 2)
        have d3 : ∀ p : Gr W, p.W.cell? ⟨b1, o1 + k * 12 + 3, none⟩ = some (.int .i64 T) := Gr.cell HD3.out
        refine wp_region_gr (by kernel_rfl) (by kernel_rfl) ?_
        repeat (go_big_quiet_step (fail))
        refine wpQuiet_nil ?_
        rintro Y ⟨⟨_, hbY⟩, rfl⟩
        have HE := Lib.hid (HB0.out.trans (hbY.mono HB0.out.size))
        have x2y : Y.cell? ⟨w.heap.size + 1, 2, none⟩ = some (.int .u8 (xh : Nat)) := x2 ⟨Y, hbY⟩
        clear hbY e0 x0 x1 x2 d3
        clear x2y
        go_wp2_with fail
        go_ret
        exact ⟨by rw [HY.out]; rfl, HE.out⟩
      · have d3' : decide (xt < 0) = false := decide_eq_false h3
        by_cases h4 : T ≤ xt
        · have HY : Hid (r = false) := Lib.hid (by rw [HV2.out, decide_eq_false (show ¬ xt < T by omega)]; simp)
          have d4 : decide (T ≤ xt) = true := decide_eq_true h4
          clear h3 h4 HV2
          go_enter Tryd.func47, Tryd.ntmps47
          go_upto_region 1 with fail
          generalize ((w.alloc _).alloc _) = W at *
          have e0 : ∀ p : Gr W, p.W.cell? ⟨w.heap.size, 0, none⟩ = some (.slice (some ⟨b1, o1, none⟩) s.cols.length h.c1) := Gr.cell (KE.out.cell 0)
          have x0 : ∀ p : Gr W, p.W.cell? ⟨w.heap.size + 1, 0, none⟩ = some (.int .i64 (k : Nat)) := Gr.cell (KX.out.cell 0)
          have x1 : ∀ p : Gr W, p.W.cell? ⟨w.heap.size + 1, 1, none⟩ = some (.int .i64 xt) := Gr.cell (KX.out.cell 1)
          have x2 : ∀ p : Gr W, p.W.cell? ⟨w.heap.size + 1, 2, none⟩ = some (.int .u8 (xh : Nat)) := Gr.cell (KX.out.cell 2)
          have d3 : ∀ p : Gr W, p.W.cell? ⟨b1, o1 + k * 12 + 3, none⟩ = some (.int .i64 T) := Gr.cell HD3.out
          refine wp_region_gr (by kernel_rfl) (by kernel_rfl) ?_
          repeat (go_big_quiet_step (fail))
          refine wpQuiet_nil ?_
          rintro Y ⟨⟨_, hbY⟩, rfl⟩
          have HE := Lib.hid (HB0.out.trans (hbY.mono HB0.out.size))
          have x2y : Y.cell? ⟨w.heap.size + 1, 2, none⟩ = some (.int .u8 (xh : Nat)) := x2 ⟨Y, hbY⟩
          clear hbY e0 x0 x1 x2 d3
          clear x2y
          go_wp2_with fail
          go_ret
          exact ⟨by rw [HY.out]; rfl, HE.out⟩
        · have d4 : decide (T ≤ xt) = false := decide_eq_false h4
          have HV3 : Hid (r = (halvesL size).any fun y => xh == y) := Lib.hid (by rw [HV2.out, decide_eq_true (show 0 ≤ xt by omega), decide_eq_true (show xt < T by omega)]; rfl)
          clear h3 h4 HV2
          go_enter Tryd.func47, Tryd.ntmps47
          go_upto_region 1 with fail
          generalize ((w.alloc _).alloc _) = W at *
          have e0 : ∀ p : Gr W, p.W.cell? ⟨w.heap.size, 0, none⟩ = some (.slice (some ⟨b1, o1, none⟩) s.cols.length h.c1) := Gr.cell (KE.out.cell 0)
          have x0 : ∀ p : Gr W, p.W.cell? ⟨w.heap.size + 1, 0, none⟩ = some (.int .i64 (k : Nat)) := Gr.cell (KX.out.cell 0)
          have x1 : ∀ p : Gr W, p.W.cell? ⟨w.heap.size + 1, 1, none⟩ = some (.int .i64 xt) := Gr.cell (KX.out.cell 1)
          have x2 : ∀ p : Gr W, p.W.cell? ⟨w.heap.size + 1, 2, none⟩ = some (.int .u8 (xh : Nat)) := Gr.cell (KX.out.cell 2)
          have d3 : ∀ p : Gr W, p.W.cell? ⟨b1, o1 + k * 12 + 3, none⟩ = some (.int .i64 T) := Gr.cell HD3.out
          refine wp_region_gr (by kernel_rfl) (by kernel_rfl) ?_
          repeat (go_big_quiet_step (fail))
          refine wpQuiet_nil ?_
          rintro Y ⟨⟨_, hbY⟩, rfl⟩
          have HE := Lib.hid (HB0.out.trans (hbY.mono HB0.out.size))
          have x2y : Y.cell? ⟨w.heap.size + 1, 2, none⟩ = some (.int .u8 (xh : Nat)) := x2 ⟨Y, hbY⟩
          clear hbY e0 x0 x1 x2 d3
          clear d1 d2 d2' d3' d4
          by_cases g1 : size = 40
          · subst g1
            have HY : Hid (r = ((xh : Int) == 0)) := Lib.hid (by rw [HV3.out]; unfold halvesL; rw [if_pos rfl]; show (xh == 0 || false) = _; rw [Bool.or_false]; exact (int_beq xh 0).symm)
            cases z : ((xh : Int) == 0) with
            | true =>
              rw [z] at HY
              go_wp2_with fail
              go_ret
              exact ⟨by rw [HY.out]; rfl, HE.out⟩
            | false =>
              rw [z] at HY
              go_wp2_with fail
              go_ret
              exact ⟨by rw [HY.out]; rfl, HE.out⟩
          · by_cases g2 : size = 20
            · subst g2
              have HY : Hid (r = (((xh : Int) == 1) || ((xh : Int) == 2))) := Lib.hid (by rw [HV3.out]; unfold halvesL; rw [if_neg (by decide), if_pos rfl]; show (xh == 1 || (xh == 2 || false)) = _; rw [Bool.or_false]; exact congr (congrArg _ (int_beq xh 1).symm) (int_beq xh 2).symm)
              cases z : ((xh : Int) == 1) with
              | true =>
                rw [z] at HY
                replace HY : Hid (r = true) := Lib.hid (by rw [HY.out]; rfl)
                go_wp2_with fail
                go_ret
                exact ⟨by rw [HY.out]; rfl, HE.out⟩
              | false =>
                cases z2 : ((xh : Int) == 2) with
                | true =>
                  rw [z, z2] at HY
                  go_wp2_with fail
                  go_ret
                  exact ⟨by rw [HY.out]; rfl, HE.out⟩
                | false =>
                  rw [z, z2] at HY
                  go_wp2_with fail
                  go_ret
                  exact ⟨by rw [HY.out]; rfl, HE.out⟩
            · have HY : Hid (r = false) := Lib.hid (by rw [HV3.out]; unfold halvesL; rw [if_neg g1, if_neg g2]; rfl)
              have z1 : ((size : Int) == 40) = false := beq_eq_false_iff_ne.2 (by omega)
              have z2 : ((size : Int) == 20) = false := beq_eq_false_iff_ne.2 (by omega)
              clear g1 g2
              go_wp2_with fail
              go_ret
              exact ⟨by rw [HY.out]; rfl, HE.out⟩
theorem halves_filter (s : Shp) (c t size : Nat) (hc : c < s.cols.length) (ht : (t : Int) < (s.cols.getD c default).tiers) : ((List.range 3).filter fun y => slotRight s ⟨c, t, y⟩ size).map (fun y => (⟨c, t, y⟩ : Slt)) = tierSlots c t size := by
  have hr : ∀ y : Nat, slotRight s ⟨c, t, y⟩ size = (halvesL size).any fun z => y == z := fun y => by
    unfold slotRight
    simp only [Int.toNat_natCast]
    rw [decide_eq_true (show (0 : Int) ≤ (c : Int) by omega), decide_eq_true (show (c : Int) < (s.cols.length : Int) by omega), decide_eq_true (show (0 : Int) ≤ (t : Int) by omega), decide_eq_true ht]
    rfl
  have : (fun y : Nat => slotRight s ⟨c, t, y⟩ size) = fun y => (halvesL size).any fun z => y == z := funext hr
  rw [this]
  unfold tierSlots halvesL
  split
  · rfl
  · split
    · rfl
    · rfl
theorem tier_len (c t size : Nat) : (tierSlots c t size).length ≤ 2 := by
  unfold tierSlots halvesL
  rw [List.length_map]
  split <;> (try split) <;> simp
theorem colS_len (c size : Nat) : ∀ T, (colSlots c size T).length ≤ 2 * T
  | 0 => by simp [colSlots]
  | T + 1 => by
    have := colS_len c size T
    have := tier_len c T size
    rw [colSlots_succ, List.length_append]
    omega
theorem colsT_len (s : Shp) (size : Nat) (hT : ∀ c, tiersN s c ≤ 12) : ∀ n, (colsTo s size n).length ≤ 24 * n
  | 0 => by simp [colsTo]
  | n + 1 => by
    have := colsT_len s size hT n
    have := colS_len n size (tiersN s n)
    have := hT n
    rw [colsTo_succ, List.length_append]
    omega
set_option maxRecDepth 100000 in
set_option maxHeartbeats 4000000 in
theorem refAll_any (s : Shp) (h : Hd) (size : Nat) (w : World) (hs : ShpR w (Lt w.heap.size) s h) (hl : s.cols.length ≤ 60) (hT : ∀ c, tiersN s c ≤ 12) (hsz : size < 256) :
    Calls Tryd.prog 33 #[.agg (shpA s h), .int .i64 (size : Nat)] w (OwnSlt w (allF s size)) := by
  have hb0 := ba1 w (.cells (shpA s h) 32)
  have KE := Lib.hid (Bk.new w 32 (shpA s h))
  have HS := Lib.hid (hs.on hb0)
  have HB0 := Lib.hid hb0
  have HLEN := Lib.hid (colsT_len s size hT)
  have HTN := Lib.hid hT
  clear hs hb0 hT
  unfold shpA at *
  go_enter Tryd.func33, Tryd.ntmps33
  go_upto_region 2 with fail
  generalize (w.alloc _) = W at *
  go_wp2_with fail
  go_loopw [5, 6] (fun v i wr => ∃ c : Nat, c ≤ s.cols.length ∧ i = .int .i64 c ∧ Hid (OwnT tSlt 37 wr W.heap.size v (colsTo s size c) ∧ Below W.heap.size W wr)) (fun _ i _ => s.cols.length - (intOf i).toNat)
  case atStart => exact ⟨0, Nat.zero_le _, rfl, Lib.hid (And.intro OwnT.nil (Below.refl _ _))⟩
  case round =>
    obtain ⟨c, hc, rfl, HB⟩ := hrel
    obtain ⟨V, rfl⟩ : ∃ V, V = wr := ⟨_, rfl⟩
    have e0 : V.cell? ⟨w.heap.size, 0, none⟩ = some (.slice h.A1 s.cols.length h.c1) := (KE.out.below HB.out.2 KE.out.lt).cell 0
    by_cases hlt : c < s.cols.length
    · have c0 : (0 : Int) ≤ (c : Int) := by omega
      have c1 : (c : Int) < (s.cols.length : Int) := by omega
      have hL0 := HLEN.out c
      have HCS := Lib.hid (colsTo_succ s size c)
      have htn := HTN.out c
      go_wp2_with fail
      clear e0
      go_loopw [5, 7] (fun v i wr => ∃ t : Nat, t ≤ tiersN s c ∧ i = .int .i64 t ∧ Hid (OwnT tSlt 37 wr W.heap.size v (colsTo s size c ++ colSlots c size t) ∧ Below W.heap.size W wr)) (fun _ i _ => tiersN s c - (intOf i).toNat)
      case atStart => exact ⟨0, Nat.zero_le _, rfl, Lib.hid (And.intro (by simpa [colSlots] using HB.out.1) HB.out.2)⟩
      case round =>
        clear HB
        try clear V
        obtain ⟨t, ht, rfl, HB⟩ := hrel
        obtain ⟨V, rfl⟩ : ∃ V, V = wr := ⟨_, rfl⟩
        obtain ⟨b1, o1, Ap1, p1, hA1, _, _, _, _, _, _, a3, _⟩ := (HS.out.on HB.out.2).cols.col hlt
        have e0 : V.cell? ⟨w.heap.size, 0, none⟩ = some (.slice (some ⟨b1, o1, none⟩) s.cols.length h.c1) := by
          have h0 : V.cell? ⟨w.heap.size, 0, none⟩ = some (.slice h.A1 s.cols.length h.c1) := (KE.out.below HB.out.2 KE.out.lt).cell 0
          rw [hA1] at h0
          exact h0
        clear hA1
        by_cases htl : (t : Int) < (s.cols.getD c default).tiers
        · have htN : t + 1 ≤ tiersN s c := by unfold tiersN; omega
          have HCT := Lib.hid (colSlots_succ c size t)
          have hL1 := colS_len c size t
          have HHF := Lib.hid (halves_filter s c t size hlt htl)
          have HTL := Lib.hid htl
          generalize (s.cols.getD c default).tiers = T at *
          go_wp2_with fail
          clear e0 a3 htl
          go_loopw [5, 8] (fun v i wr => ∃ y : Nat, y ≤ 3 ∧ i = .int .u8 y ∧ Hid (OwnT tSlt 37 wr W.heap.size v (colsTo s size c ++ colSlots c size t ++ ((List.range y).filter fun y => slotRight s ⟨c, t, y⟩ size).map fun y => (⟨c, t, y⟩ : Slt)) ∧ Below W.heap.size W wr)) (fun _ i _ => 3 - (intOf i).toNat)
          case atStart => exact ⟨0, Nat.zero_le _, rfl, Lib.hid (And.intro (by simpa using HB.out.1) HB.out.2)⟩
          case round =>
            clear HB
            try clear V
            obtain ⟨y, hy, rfl, HB⟩ := hrel
            obtain ⟨V, rfl⟩ : ∃ V, V = wr := ⟨_, rfl⟩
            by_cases hyl : y < 3
            · have y0 : (0 : Int) ≤ (y : Int) := by omega
              have y1 : (y : Int) < 3 := by omega
              have HNX : Hid (colsTo s size c ++ colSlots c size t ++ ((List.range (y + 1)).filter fun y => slotRight s ⟨c, t, y⟩ size).map (fun y => (⟨c, t, y⟩ : Slt)) = (colsTo s size c ++ colSlots c size t ++ ((List.range y).filter fun y => slotRight s ⟨c, t, y⟩ size).map fun y => (⟨c, t, y⟩ : Slt)) ++ if slotRight s ⟨c, t, y⟩ size then [⟨c, t, y⟩] else []) := Lib.hid (by
                rw [List.range_succ, List.filter_append, List.map_append, ← List.append_assoc]
                congr 1
                simp only [List.filter_cons, List.filter_nil]
                split <;> rfl)
              have hfl : (((List.range y).filter fun y => slotRight s ⟨c, t, y⟩ size).map fun y => (⟨c, t, y⟩ : Slt)).length ≤ 3 := by
                rw [List.length_map]
                have := List.length_filter_le (fun y => slotRight s ⟨c, t, y⟩ size) (List.range y)
                rw [List.length_range] at this
                omega
              have hLL : (colsTo s size c ++ colSlots c size t ++ ((List.range y).filter fun y => slotRight s ⟨c, t, y⟩ size).map fun y => (⟨c, t, y⟩ : Slt)).length ≤ 2000 := by
                rw [List.length_append, List.length_append]
                omega
              generalize (colsTo s size c ++ colSlots c size t ++ ((List.range y).filter fun y => slotRight s ⟨c, t, y⟩ size).map fun y => (⟨c, t, y⟩ : Slt)) = L at *
              clear hfl
              have hbx := ba1 V (.cells #[.int .i64 (c : Nat), .int .i64 (t : Nat), .int .u8 (y : Nat)] 37)
              have HKX := Lib.hid (Bk.new V 37 #[.int .i64 (c : Nat), .int .i64 (t : Nat), .int .u8 (y : Nat)])
              have HO := Lib.hid (HB.out.1.below hbx)
              have HBX := Lib.hid (HB.out.2.trans (hbx.mono HB.out.2.size))
              clear hbx HB
              go_upto_region 12 with fail
              generalize V.heap.size = gx at *
              generalize (V.alloc _) = V1 at *
              try clear V
              have KR := Lib.hid (refRightS_any s h ⟨c, t, y⟩ size V1 (HS.out.on HBX.out) hsz)
              unfold shpA sltL at KR
              simp only at KR
              have KV := KE.out.below HBX.out KE.out.lt
              have e0 : V1.cell? ⟨w.heap.size, 0, none⟩ = some (Value.slice h.A1 s.cols.length h.c1) := KV.cell 0
              have e1 : V1.cell? ⟨w.heap.size, 1, none⟩ = some (Value.slice h.A2 s.covs.length h.c2) := KV.cell 1
              have e2 : V1.cell? ⟨w.heap.size, 2, none⟩ = some (.int .i64 s.l0) := KV.cell 2
              have e3 : V1.cell? ⟨w.heap.size, 3, none⟩ = some (.int .i64 s.l1) := KV.cell 3
              have e4 : V1.cell? ⟨w.heap.size, 4, none⟩ = some (.int .i64 s.l2) := KV.cell 4
              have e5 : V1.cell? ⟨w.heap.size, 5, none⟩ = some (.int .i64 s.l3) := KV.cell 5
              have e6 : V1.cell? ⟨w.heap.size, 6, none⟩ = some (.slice h.A3 s.rows.length h.c3) := KV.cell 6
              have e7 : V1.cell? ⟨w.heap.size, 7, none⟩ = some (.slice h.A4 s.frames.length h.c4) := KV.cell 7
              have e8 : V1.cell? ⟨w.heap.size, 8, none⟩ = some (.slice h.A5 s.tanks.length h.c5) := KV.cell 8
              have e9 : V1.cell? ⟨w.heap.size, 9, none⟩ = some (.int .i64 s.m0) := KV.cell 9
              have e10 : V1.cell? ⟨w.heap.size, 10, none⟩ = some (.int .i64 s.m1) := KV.cell 10
              have e11 : V1.cell? ⟨w.heap.size, 11, none⟩ = some (.int .i64 s.m2) := KV.cell 11
              have e12 : V1.cell? ⟨w.heap.size, 12, none⟩ = some (.int .i64 s.m3) := KV.cell 12
              clear KV
              have x0 : V1.cell? ⟨gx, 0, none⟩ = some (.int .i64 (c : Nat)) := HKX.out.cell 0
              have x1 : V1.cell? ⟨gx, 1, none⟩ = some (.int .i64 (t : Nat)) := HKX.out.cell 1
              have x2 : V1.cell? ⟨gx, 2, none⟩ = some (.int .u8 (y : Nat)) := HKX.out.cell 2
              generalize slotRight s ⟨c, t, y⟩ size = q at *
              go_wp2_with fail
              refine KR.out.mono ?_
              rintro e V2 ⟨rfl, hb⟩
              simp only
              clear KR x0 x1 x2 e0 e1 e2 e3 e4 e5 e6 e7 e8 e9 e10 e11 e12
              replace HO := Lib.hid (HO.out.below hb)
              replace HBX := Lib.hid (HBX.out.trans (hb.mono HBX.out.size))
              replace HKX := Lib.hid (HKX.out.below hb HKX.out.lt)
              clear hb
              try clear V1
              have x0 : V2.cell? ⟨gx, 0, none⟩ = some (.int .i64 (c : Nat)) := HKX.out.cell 0
              have x1 : V2.cell? ⟨gx, 1, none⟩ = some (.int .i64 (t : Nat)) := HKX.out.cell 1
              have x2 : V2.cell? ⟨gx, 2, none⟩ = some (.int .u8 (y : Nat)) := HKX.out.cell 2
              cases q with
              | true =>
                obtain ⟨xs, ho, hf⟩ := HO.out
                go_wp2_with (at_builtin; (refine wpList_append1 el_slt rfl (.tmp 39) (.tmp 41) rfl W.heap.size _ L.length xs rfl ho #[.int .i64 (c : Nat), .int .i64 (t : Nat), .int .u8 (y : Nat)] _ rfl rfl rfl ?c1 ?c2 ?c3 ?_))
                case c1 => unfold maxLen; omega
                case c2 => omega
                case c3 => exact HBX.out.size
                intro v' w3 hown' hgr hd3 hbel
                have ho2 := OwnT.append1 (T := tSlt) (x := ⟨c, t, y⟩) hf (cs := [.int .i64 (c : Nat), .int .i64 (t : Nat), .int .u8 (y : Nat)]) rfl hown' hgr hd3
                have HN := Lib.hid (And.intro ho2 (HBX.out.trans hbel))
                clear ho hf hown' hgr hd3 hbel ho2 HO HBX x0 x1 x2
                go_wp2
                go_roundw
                case rel => first | exact ⟨y + 1, by omega, by go_num, Lib.hid (And.intro (by rw [HNX.out]; exact HN.out.1) HN.out.2)⟩ | ((repeat apply Exists.intro); (first | exact ⟨⟨y + 1, by omega, by go_num, Lib.hid (And.intro (by rw [HNX.out]; exact HN.out.1) HN.out.2)⟩, rfl⟩ | exact ⟨by omega, by go_num, Lib.hid (And.intro (by rw [HNX.out]; exact HN.out.1) HN.out.2)⟩))
                case measure => simp [intOf]; omega
              | false =>
                clear x0 x1 x2
                go_wp2_with fail
                go_roundw
                case rel => first | exact ⟨y + 1, by omega, by go_num, Lib.hid (And.intro (by rw [HNX.out]; simpa using HO.out) HBX.out)⟩ | ((repeat apply Exists.intro); (first | exact ⟨⟨y + 1, by omega, by go_num, Lib.hid (And.intro (by rw [HNX.out]; simpa using HO.out) HBX.out)⟩, rfl⟩ | exact ⟨by omega, by go_num, Lib.hid (And.intro (by rw [HNX.out]; simpa using HO.out) HBX.out)⟩))
                case measure => simp [intOf]; omega
            · obtain rfl : y = 3 := by omega
              have HN : Hid (OwnT tSlt 37 V W.heap.size _ (colsTo s size c ++ colSlots c size (t + 1)) ∧ Below W.heap.size W V) := Lib.hid (by
                have := HB.out
                rw [HHF.out] at this
                rw [HCT.out, ← List.append_assoc]
                exact this)
              clear HB
              go_wp2_with fail
              go_roundw
              case rel => first | exact ⟨t + 1, by omega, by go_num, HN⟩ | ((repeat apply Exists.intro); (first | exact ⟨⟨t + 1, by omega, by go_num, HN⟩, rfl⟩ | exact ⟨by omega, by go_num, HN⟩))
              case measure => simp [intOf]; omega
        · obtain rfl : t = tiersN s c := by unfold tiersN at *; omega
          have d9 : decide (((tiersN s c : Nat) : Int) < (s.cols.getD c default).tiers) = false := decide_eq_false htl
          have HN : Hid (OwnT tSlt 37 V W.heap.size _ (colsTo s size (c + 1)) ∧ Below W.heap.size W V) := Lib.hid (by
            have := HB.out
            rw [← HCS.out] at this
            exact this)
          clear HB htl
          generalize (s.cols.getD c default).tiers = T at *
          generalize tiersN s c = tn at *
          go_wp2_with fail
          go_roundw
          case rel => first | exact ⟨c + 1, by omega, by go_num, HN⟩ | ((repeat apply Exists.intro); (first | exact ⟨⟨c + 1, by omega, by go_num, HN⟩, rfl⟩ | exact ⟨by omega, by go_num, HN⟩))
          case measure => simp [intOf]; omega
    · obtain rfl : c = s.cols.length := by omega
      have HO : Hid (OwnT tSlt 37 V W.heap.size _ (allF s size)) := Lib.hid HB.out.1
      have hbz := HB.out.2
      have HE : Hid (Below w.heap.size w V) := Lib.hid (HB0.out.trans (hbz.mono HB0.out.size))
      have hsz0 := HB0.out.size
      clear HB
      go_wp2_with fail
      go_ret
      exact ⟨_, rfl, HO.out.down hsz0, HE.out⟩
end Go.Proofs.YtmhikcleekfbpaaDoor
