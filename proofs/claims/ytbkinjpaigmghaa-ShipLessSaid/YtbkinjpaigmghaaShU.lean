/-
  The walk of the statement ShipLess.
-/
import Derived.Test.YtbkinjpaigmghaaShV
namespace Go.Proofs.Ytbkinjpaigmghaa
open Go.RowKit

set_option maxRecDepth 100000 in
set_option maxHeartbeats 16000000 in
theorem shipLess_any (A : Option Addr) (c : Nat) (pl : List (Nat × Nat × Nat × Bool)) (covers a : Nat) (ha : a < 256) (w : World) (hs : SlT tPl w (Lt w.heap.size) A pl) (hl : ∀ p ∈ pl, p.1 < 256 ∧ p.2.1 < 256 ∧ p.2.2.1 < 256) (hc : pl.length ≤ c) (hcm : c ≤ maxLen) :
    Calls Try.prog 7 #[.slice A pl.length c, .int .u32 covers, .int .u8 a] w (TrueRet w) := by
  have HC := Lib.hid (built_s (covers := covers) hs hl hc hcm)
  clear hs hl hc hcm
  go_enter Try.func7, Try.ntmps7
  go_wp2_with fail
  refine HC.out.mono ?_
  rintro e w1 ⟨s, h, gs, rfl, hBu, ho1, ho2, hrd, hb1⟩
  clear HC ho1 ho2
  have hS : ShB w (w1.alloc (.cells (shpA s h) 32)) w1.heap.size w1.heap.size s h := ⟨hrd.below (ba1 w1 _), Bk.new w1 _ _, hb1.trans ((ba1 w1 _).mono hb1.size), by simp⟩
  have hgw := hb1.size
  clear hrd hb1
  have hl1 := hBu.one
  have hl12 := hBu.few
  have hm1 : a % s.cols.length < s.cols.length := Nat.mod_lt _ (by omega)
  unfold shpA at hS ⊢
  have hn0 : (s.cols.length : Int) ≠ 0 := by omega
  go_wp2_with fail
  have hT : ShB w ((w1.alloc (.cells (shpA s h) 32)).alloc (.cells (shpA s h) 32)) w1.heap.size (w1.heap.size + 1) s h := ⟨(hS.on (ba1 _ (.cells (shpA s h) 32))).rd, Bk.new2 w1 _ _ _, (hS.on (ba1 _ (.cells (shpA s h) 32))).be, (hS.on (ba1 _ (.cells (shpA s h) 32))).le⟩
  replace hS := hS.on (ba1 _ (.cells (shpA s h) 32))
  unfold shpA at hT hS
  generalize w1.heap.size = g at *
  generalize ((w1.alloc _).alloc _) = W at *
  clear w1
  rw [show (a : Int) % (s.cols.length : Int) = ((a % s.cols.length : Nat) : Int) from (Int.natCast_emod _ _).symm]
  clear hn0
  generalize a % s.cols.length = k at *
  have c1 := hS.rd.n1
  have c1m := hS.rd.m1
  unfold maxLen at c1m
  go_cut [8] (fun x wx => x = .int .i64 k ∧ ∃ h', Sh w wx g s h ∧ Sh w wx (g + 1) (lessC s k) h')
  case first =>
    have i1 : (0 : Int) ≤ (k : Int) := by omega
    have i2 : (k : Int) ≤ (h.c1 : Int) := by omega
    have i3 : (0 : Int) ≤ (k : Int) + 1 := by omega
    have i4 : (k : Int) + 1 ≤ (s.cols.length : Int) := by omega
    have i5 : (s.cols.length : Int) ≤ (h.c1 : Int) := by omega
    have s1 : IntKind.i64.wrap ((k : Int) + 1) = (k : Int) + 1 := IntWalk.i64_in _ (by omega)
    have s2 : ((k : Int) + 1).toNat = k + 1 := by omega
    have e0 : W.cell? ⟨g, 0, none⟩ = some (.slice h.A1 s.cols.length h.c1) := hS.bk.cell 0
    have f0 : W.cell? ⟨g + 1, 0, none⟩ = some (.slice h.A1 s.cols.length h.c1) := hT.bk.cell 0
    have f1 := hT.bk.frozen 0
    have hgW := hS.bk.lt
    have hgT := hT.bk.lt
    have hgS : ∀ b, Lt g b → b < W.heap.size := fun b hb => Nat.lt_trans hb hgW
    go_region_held3 (fun w' => w'.cell? ⟨g, 0, none⟩ = some (.slice h.A1 s.cols.length h.c1)) (go_keep)
      (first
        | (refine step_append_S el_col rfl (.tmp 28) (.tmp 32) rfl W.heap.size (Lt g) (.slice (some ⟨W.heap.size, 0, none⟩) 0 0) [] (by simp [Act.eval]) (OwnS.empty tCol _ W W.heap.size (Lt g) (Nat.le_refl _) hgS).drew h.A1 k h.c1 (s.cols.take k) (by simp; omega) (by simp [Act.eval]) (copy_front hS.rd.cols hS.le k).drew (by unfold maxLen; simp; omega) (by simp; omega) (by simp) ?_; intro v1 w1 hO1 hg1 hb1; rw [List.nil_append] at hO1; have hb1' : Below W.heap.size W w1 := (Below.drew (ba1 W (.cells #[] 53))).trans hb1; have y0 := (hb1'.cell (p := ⟨g, 0, none⟩) hgW).trans e0; have HB1 := Lib.hid hb1'; obtain ⟨A1, k1, rfl, hk1, hk1m, hs1⟩ := hO1.sl; have HO1 := Lib.hid hO1; clear hO1 hg1 hb1 hb1' hs1 hk1 hk1m)
        | ((refine step_append_S el_col rfl (.tmp 33) (.tmp 38) rfl W.heap.size (Lt g) (.slice A1 (s.cols.take k).length k1) (s.cols.take k) (by simp [Act.eval]) HO1.out _ (s.cols.length - (k + 1)) (h.c1 - (k + 1)) (s.cols.drop (k + 1)) (by simp) (by simp [Act.eval, tCol]) (copy_back hS.rd.cols hS.le (by omega) c1 HB1.out) (by unfold maxLen; simp; omega) (by simp; omega) HB1.out.size ?_; intro v2 w2 hO2 hg2 hb2; obtain ⟨A2, k2, rfl, _, _, _⟩ := hO2.sl; have hb2' := HB1.out.trans hb2; have y0 := (hb2'.cell (p := ⟨g, 0, none⟩) hgW).trans e0; have y1 := (hb2'.cell (p := ⟨g + 1, 0, none⟩) hgT).trans f0; have y2 := (hb2'.frozen (p := ⟨g + 1, 0, none⟩) hgT).trans f1; have HB2 := Lib.hid hb2'; have HO2 := Lib.hid hO2; clear hO2 hg2 hb2 hb2')))
    go_wp2_with fail
    all_goals
      go_meet
      obtain ⟨h', hL⟩ := sh_cols hT (by omega) (by omega) HB2.out HO2.out
      simp only [List.length_append, List.length_take, List.length_drop] at hL
      exact ⟨rfl, h', (hS.far HB2.out hS.le hgW (by omega) (by omega) (by omega) hS.be.size 0).sh, hL⟩
  case rest =>
    obtain ⟨rfl, h', hS0, hL0⟩ := hcut
    clear hS hT
    clear W
    obtain ⟨W, rfl⟩ : ∃ W, W = wc := ⟨_, rfl⟩
    have hR := lessC_right hBu hm1
    obtain ⟨hP, hP0, hP1⟩ := lessC_places hBu hm1
    have hTl := lessC_tall hBu k
    have hW1 := lessC_few hBu k
    have hW2 := lessC_ints hBu k
    have hW3 := lessC_short hBu k
    have HF := Lib.hid (fun i hi => lessC_find hBu (k := k) (i := i) hm1 hi)
    have HFS := Lib.hid (fun i hi => find_at hBu (i := i) hi)
    generalize lessC s k = t at *
    obtain ⟨gb, off, Ap, q, hA1, hgb, _, _, _, _, _, tc, _⟩ := hS0.rd.cols.col hm1
    have tb := (hBu.col hm1).tiers
    obtain ⟨xA1, xc1, xA2, xc2, xA3, xc3, xA4, xc4, xA5, xc5⟩ := h
    simp only at hA1
    subst hA1
    obtain ⟨yA1, yc1, yA2, yc2, yA3, yc3, yA4, yc4, yA5, yc5⟩ := h'
    have C1 : ∀ (V : World), Sh w V (g + 1) t ⟨yA1, yc1, yA2, yc2, yA3, yc3, yA4, yc4, yA5, yc5⟩ → _ := fun V hV => shipRight_any t _ V hV.rd hW1 hW2
    have C2 : ∀ (V : World), Sh w V (g + 1) t ⟨yA1, yc1, yA2, yc2, yA3, yc3, yA4, yc4, yA5, yc5⟩ → _ := fun V hV => places_any t _ V hV.rd hW3
    have C3 : ∀ (V : World), Sh w V g s ⟨some ⟨gb, off, none⟩, xc1, xA2, xc2, xA3, xc3, xA4, xc4, xA5, xc5⟩ → _ := fun V hV => places_any s _ V hV.rd hBu.short
    have C4 : ∀ (V : World), Sh w V (g + 1) t ⟨yA1, yc1, yA2, yc2, yA3, yc3, yA4, yc4, yA5, yc5⟩ → _ := fun V hV => tallest_any t _ V hV.rd hW3
    have C5 : ∀ (V : World), Sh w V g s ⟨some ⟨gb, off, none⟩, xc1, xA2, xc2, xA3, xc3, xA4, xc4, xA5, xc5⟩ → _ := fun V hV => tallest_any s _ V hV.rd hBu.short
    rw [hR] at C1
    rw [hP] at C2
    unfold shpA at C1 C2 C3 C4 C5
    simp only at C1 C2 C3 C4 C5
    generalize placesTo s.cols s.cols.length = P at *
    generalize tallTo s.cols s.cols.length = T1 at *
    generalize tallTo t.cols t.cols.length = T2 at *
    generalize (s.cols.getD k default).tiers = tr at *
    have HW3 := Lib.hid hW3
    have D1 := Lib.hid C1
    have D2 := Lib.hid C2
    have D3 := Lib.hid C3
    have D4 := Lib.hid C4
    have D5 := Lib.hid C5
    clear C1 C2 C3 C4 C5 hR hP hW1 hW2 hW3
    have hS : Sh w W.drew g s ⟨some ⟨gb, off, none⟩, xc1, xA2, xc2, xA3, xc3, xA4, xc4, xA5, xc5⟩ := hS0.on (Below.drew (Below.refl _ _))
    have hL : Sh w W.drew (g + 1) t ⟨yA1, yc1, yA2, yc2, yA3, yc3, yA4, yc4, yA5, yc5⟩ := hL0.on (Below.drew (Below.refl _ _))
    clear hS0 hL0
    have hT : (W.drew).cell? ⟨gb, off + k * 12 + 3, none⟩ = some (.int .i64 tr) := tc
    have hgb : gb < W.drew.heap.size := hgb
    have n1 : decide ((1 : Int) < (s.cols.length : Int)) = decide (1 < s.cols.length) := by rw [decide_eq_decide]; omega
    have i1 : (0 : Int) ≤ (k : Int) := by omega
    have i2 : (k : Int) < (s.cols.length : Int) := by omega
    have s1 : IntKind.i64.wrap (2 * tr) = 2 * tr := IntWalk.i64_in _ (by omega)
    have s2 : IntKind.i64.wrap (P - 2 * tr) = P - 2 * tr := IntWalk.i64_in _ (by omega)
    have s3 : decide (T1 < T2) = false := by simp; omega
    go_wp2_with fail
    go_region_held3 (fun w' => w'.cell? ⟨g, 0, none⟩ = some (.slice (some ⟨gb, off, none⟩) s.cols.length xc1) ∧ w'.cell? ⟨g, 1, none⟩ = some (.slice xA2 s.covs.length xc2) ∧ w'.cell? ⟨g, 2, none⟩ = some (.int .i64 s.l0) ∧ w'.cell? ⟨g, 3, none⟩ = some (.int .i64 s.l1) ∧ w'.cell? ⟨g, 4, none⟩ = some (.int .i64 s.l2) ∧ w'.cell? ⟨g, 5, none⟩ = some (.int .i64 s.l3) ∧ w'.cell? ⟨g, 6, none⟩ = some (.slice xA3 s.rows.length xc3) ∧ w'.cell? ⟨g, 7, none⟩ = some (.slice xA4 s.frames.length xc4) ∧ w'.cell? ⟨g, 8, none⟩ = some (.slice xA5 s.tanks.length xc5) ∧ w'.cell? ⟨g, 9, none⟩ = some (.int .i64 s.m0) ∧ w'.cell? ⟨g, 10, none⟩ = some (.int .i64 s.m1) ∧ w'.cell? ⟨g, 11, none⟩ = some (.int .i64 s.m2) ∧ w'.cell? ⟨g, 12, none⟩ = some (.int .i64 s.m3) ∧ w'.cell? ⟨g + 1, 0, none⟩ = some (.slice yA1 t.cols.length yc1) ∧ w'.cell? ⟨g + 1, 1, none⟩ = some (.slice yA2 t.covs.length yc2) ∧ w'.cell? ⟨g + 1, 2, none⟩ = some (.int .i64 t.l0) ∧ w'.cell? ⟨g + 1, 3, none⟩ = some (.int .i64 t.l1) ∧ w'.cell? ⟨g + 1, 4, none⟩ = some (.int .i64 t.l2) ∧ w'.cell? ⟨g + 1, 5, none⟩ = some (.int .i64 t.l3) ∧ w'.cell? ⟨g + 1, 6, none⟩ = some (.slice yA3 t.rows.length yc3) ∧ w'.cell? ⟨g + 1, 7, none⟩ = some (.slice yA4 t.frames.length yc4) ∧ w'.cell? ⟨g + 1, 8, none⟩ = some (.slice yA5 t.tanks.length yc5) ∧ w'.cell? ⟨g + 1, 9, none⟩ = some (.int .i64 t.m0) ∧ w'.cell? ⟨g + 1, 10, none⟩ = some (.int .i64 t.m1) ∧ w'.cell? ⟨g + 1, 11, none⟩ = some (.int .i64 t.m2) ∧ w'.cell? ⟨g + 1, 12, none⟩ = some (.int .i64 t.m3) ∧ w'.cell? ⟨gb, off + k * 12 + 3, none⟩ = some (.int .i64 tr))
      ((have q1 := hS.cells; have q2 := hL.cells; simp only at q1 q2; obtain ⟨a0, a1, a2, a3, a4, a5, a6, a7, a8, a9, a10, a11, a12⟩ := q1; obtain ⟨b0, b1, b2, b3, b4, b5, b6, b7, b8, b9, b10, b11, b12⟩ := q2; exact ⟨a0, a1, a2, a3, a4, a5, a6, a7, a8, a9, a10, a11, a12, b0, b1, b2, b3, b4, b5, b6, b7, b8, b9, b10, b11, b12, hT⟩))
      (first
        | (go_at_call 14; refine (D1.out _ hL).mono ?_; rintro e w1 ⟨rfl, hq⟩; replace hS := hS.on hq; replace hL := hL.on hq; replace hT := (hq.cell (p := ⟨gb, off + k * 12 + 3, none⟩) hgb).trans hT; replace hgb := Nat.lt_of_lt_of_le hgb hq.size)
        | (go_at_call 24; refine (D2.out _ hL).mono ?_; rintro e w1 ⟨rfl, hq⟩; clear D2; replace hS := hS.on hq; replace hL := hL.on hq; replace hT := (hq.cell (p := ⟨gb, off + k * 12 + 3, none⟩) hgb).trans hT; replace hgb := Nat.lt_of_lt_of_le hgb hq.size)
        | (go_at_call 24; refine (D3.out _ hS).mono ?_; rintro e w1 ⟨rfl, hq⟩; replace hS := hS.on hq; replace hL := hL.on hq; replace hT := (hq.cell (p := ⟨gb, off + k * 12 + 3, none⟩) hgb).trans hT; replace hgb := Nat.lt_of_lt_of_le hgb hq.size)
        | (go_at_call 22; refine (D4.out _ hL).mono ?_; rintro e w1 ⟨rfl, hq⟩; clear D4; replace hS := hS.on hq; replace hL := hL.on hq; replace hT := (hq.cell (p := ⟨gb, off + k * 12 + 3, none⟩) hgb).trans hT; replace hgb := Nat.lt_of_lt_of_le hgb hq.size)
        | (go_at_call 22; refine (D5.out _ hS).mono ?_; rintro e w1 ⟨rfl, hq⟩; replace hS := hS.on hq; replace hL := hL.on hq; replace hT := (hq.cell (p := ⟨gb, off + k * 12 + 3, none⟩) hgb).trans hT; replace hgb := Nat.lt_of_lt_of_le hgb hq.size))
    go_wp2_with fail
    clear D1 D3 D5 hT hgb n1 i1 i2 s1 s2 s3 hTl hP0 hP1 tb tc
    go_loopw [73] (fun q wr => ∃ m : Nat, m ≤ s.covs.length ∧ q = .int .i64 m ∧ Sh w wr g s ⟨some ⟨gb, off, none⟩, xc1, xA2, xc2, xA3, xc3, xA4, xc4, xA5, xc5⟩ ∧ Sh w wr (g + 1) t ⟨yA1, yc1, yA2, yc2, yA3, yc3, yA4, yc4, yA5, yc5⟩) (fun q _ => s.covs.length - (intOf q).toNat)
    case atStart => exact ⟨0, Nat.zero_le _, rfl, hS, hL⟩
    case round =>
      clear hS hL
      obtain ⟨m, hm, rfl, hS, hL⟩ := hrel
      obtain ⟨W0, rfl⟩ : ∃ W, W = wr := ⟨_, rfl⟩
      by_cases hlt : m < s.covs.length
      · have hcs := hS.cells
        simp only at hcs
        obtain ⟨e0, e1, e2, e3, e4, e5, e6, e7, e8, e9, e10, e11, e12⟩ := hcs
        go_wp2_with fail
        have hO : ShB w (W0.alloc (.cells (shpA s ⟨some ⟨gb, off, none⟩, xc1, xA2, xc2, xA3, xc3, xA4, xc4, xA5, xc5⟩) 32)) W0.heap.size W0.heap.size s ⟨some ⟨gb, off, none⟩, xc1, xA2, xc2, xA3, xc3, xA4, xc4, xA5, xc5⟩ := ⟨hS.rd.below (ba1 W0 _), Bk.new W0 _ _, hS.be.trans ((ba1 W0 _).mono hS.be.size), by simp⟩
        have hg1 := hS.bk.lt
        have hg2 := hL.bk.lt
        have hg0 := hS.be.size
        replace hS := hS.toB.on (ba1 W0 (.cells (shpA s ⟨some ⟨gb, off, none⟩, xc1, xA2, xc2, xA3, xc3, xA4, xc4, xA5, xc5⟩) 32))
        replace hL := hL.toB.on (ba1 W0 (.cells (shpA s ⟨some ⟨gb, off, none⟩, xc1, xA2, xc2, xA3, xc3, xA4, xc4, xA5, xc5⟩) 32))
        unfold shpA at hS hL hO
        simp only at hS hL hO
        clear e0 e1 e2 e3 e4 e5 e6 e7 e8 e9 e10 e11 e12
        generalize W0.heap.size = gz at *
        generalize (W0.alloc _) = V at *
        clear W0
        have c1 := hS.rd.n2
        have c1m := hS.rd.m2
        unfold maxLen at c1m
        simp only at c1 c1m
        go_cut [77] (fun _ wx => ∃ h', Sh w wx g s ⟨some ⟨gb, off, none⟩, xc1, xA2, xc2, xA3, xc3, xA4, xc4, xA5, xc5⟩ ∧ Sh w wx (g + 1) t ⟨yA1, yc1, yA2, yc2, yA3, yc3, yA4, yc4, yA5, yc5⟩ ∧ Sh w wx gz (lessV s m) h')
        case first =>
          have i1 : (0 : Int) ≤ (m : Int) := by omega
          have i2 : (m : Int) ≤ (xc2 : Int) := by omega
          have i3 : (0 : Int) ≤ (m : Int) + 1 := by omega
          have i4 : (m : Int) + 1 ≤ (s.covs.length : Int) := by omega
          have i5 : (s.covs.length : Int) ≤ (xc2 : Int) := by omega
          have s1 : IntKind.i64.wrap ((m : Int) + 1) = (m : Int) + 1 := IntWalk.i64_in _ (by omega)
          have s2 : ((m : Int) + 1).toNat = m + 1 := by omega
          have hvl := hBu.Few.covs
          have e0 : V.cell? ⟨g, 1, none⟩ = some (.slice xA2 s.covs.length xc2) := hS.bk.cell 1
          have f0 : V.cell? ⟨gz, 1, none⟩ = some (.slice xA2 s.covs.length xc2) := hO.bk.cell 1
          have f1 := hO.bk.frozen 1
          have hgW := hS.bk.lt
          have hgT := hO.bk.lt
          have hgL := hL.bk.lt
          have hne1 : g ≠ gz := by omega
          obtain ⟨AA, hAA⟩ : ∃ AA, (if xc2 = m + 1 then xA2 else Option.map (fun x => x.add ((m + 1) * 2)) xA2) = AA := ⟨_, rfl⟩
          have HB : ∀ w1, Below V.heap.size V w1 → SlT tCov w1 (Lt gz) AA (s.covs.drop (m + 1)) := fun w1 hb => hAA ▸ copy_back hO.rd.covs hO.le (by omega) c1 hb
          have HBK := Lib.hid HB; clear HB
          have hne2 : gz ≠ g := by omega
          have hgS : ∀ b, Lt gz b → b < V.heap.size := fun b hb => Nat.lt_of_lt_of_le hb (by omega)
          go_region_held3 (fun w' => w'.cell? ⟨g, 1, none⟩ = some (.slice xA2 s.covs.length xc2)) (go_keep)
            (first
              | (refine step_append_S el_cov rfl (.tmp 77) (.tmp 81) rfl V.heap.size (Lt gz) (.slice (some ⟨V.heap.size, 0, none⟩) 0 0) [] (by simp [Act.eval]) (OwnS.empty tCov _ V V.heap.size (Lt gz) (Nat.le_refl _) hgS).drew xA2 m xc2 (s.covs.take m) (by simp; omega) (by simp [Act.eval]) (copy_front hO.rd.covs hO.le m).drew (by unfold maxLen; simp; omega) (by simp; omega) (by simp) ?_; intro v1 w1 hO1 hg1 hb1; rw [List.nil_append] at hO1; have hb1' : Below V.heap.size V w1 := (Below.drew (ba1 V (.cells #[] 55))).trans hb1; have y0 := (hb1'.cell (p := ⟨g, 1, none⟩) hgW).trans e0; have HB1 := Lib.hid hb1'; obtain ⟨A1, k1, rfl, hk1, hk1m, hs1⟩ := hO1.sl; have HO1 := Lib.hid hO1; clear hO1 hg1 hb1 hb1' hs1 hk1 hk1m)
              | ((refine step_append_S el_cov rfl (.tmp 82) (.tmp 87) rfl V.heap.size (Lt gz) (.slice A1 (s.covs.take m).length k1) (s.covs.take m) (by simp [Act.eval]) HO1.out _ (s.covs.length - (m + 1)) (xc2 - (m + 1)) (s.covs.drop (m + 1)) (by simp) (by simp [Act.eval]) (HBK.out _ HB1.out) (by unfold maxLen; simp; omega) (by simp; omega) HB1.out.size ?_; intro v2 w2 hO2 hg2 hb2; obtain ⟨A2, k2, rfl, _, _, _⟩ := hO2.sl; have hb2' := HB1.out.trans hb2; have y0 := (hb2'.cell (p := ⟨g, 1, none⟩) hgW).trans e0; have y1 := (hb2'.cell (p := ⟨gz, 1, none⟩) hgT).trans f0; have y2 := (hb2'.frozen (p := ⟨gz, 1, none⟩) hgT).trans f1; have HB2 := Lib.hid hb2'; have HO2 := Lib.hid hO2; clear hO2 hg2 hb2 hb2')))
          go_wp2_with fail
          all_goals
            go_meet
            obtain ⟨h', hV⟩ := sh_covs hO (by omega) (by omega) HB2.out HO2.out
            rw [show (List.take m s.covs ++ List.drop (m + 1) s.covs).length = m + (s.covs.length - (m + 1)) from by simp; omega] at hV
            exact ⟨h', (hS.far HB2.out hS.le hgW (Nat.le_refl _) (by omega) (by omega) hS.be.size 1).sh, (hL.far HB2.out hL.le hgL (Nat.le_refl _) (by omega) (by omega) hS.be.size 1).sh, hV⟩
        case rest =>
          clear hO hS hL
          obtain ⟨h', hS, hL, hV⟩ := hcut
          clear V
          obtain ⟨W0, rfl⟩ : ∃ W, W = wc := ⟨_, rfl⟩
          have hcs := hV.cells
          have hBV := lessV_bu hBu m
          have K := shipRight_any (lessV s m) h' W0 hV.rd hBV.Few hBV.ints
          rw [hBV.right] at K
          unfold shpA at K
          have HK := Lib.hid K; clear K
          obtain ⟨e0, e1, e2, e3, e4, e5, e6, e7, e8, e9, e10, e11, e12⟩ := hcs
          clear hBV hV
          generalize lessV s m = sv at *
          go_wp2_with fail
          refine HK.out.mono ?_
          rintro e w1 ⟨rfl, hq⟩
          clear e0 e1 e2 e3 e4 e5 e6 e7 e8 e9 e10 e11 e12 HK
          replace hS := hS.on hq
          replace hL := hL.on hq
          go_wp2
          go_roundw
          case rel => exact ⟨m + 1, by omega, by go_num, hS, hL⟩
          case measure => simp [intOf]; omega
      · have hcs := hS.cells
        simp only at hcs
        obtain ⟨e0, e1, e2, e3, e4, e5, e6, e7, e8, e9, e10, e11, e12⟩ := hcs
        go_wp2_with fail
        clear e0 e1 e2 e3 e4 e5 e6 e7 e8 e9 e10 e11 e12 hlt hm
        go_loopw [97] (fun q wr => ∃ m : Nat, m ≤ s.cols.length ∧ q = .int .i64 m ∧ Sh w wr g s ⟨some ⟨gb, off, none⟩, xc1, xA2, xc2, xA3, xc3, xA4, xc4, xA5, xc5⟩ ∧ Sh w wr (g + 1) t ⟨yA1, yc1, yA2, yc2, yA3, yc3, yA4, yc4, yA5, yc5⟩) (fun q _ => s.cols.length - (intOf q).toNat)
        case atStart => exact ⟨0, Nat.zero_le _, rfl, hS, hL⟩
        case round =>
          clear hS hL
          clear W0
          obtain ⟨m, hm, rfl, hS, hL⟩ := hrel
          obtain ⟨W0, rfl⟩ : ∃ W, W = wr := ⟨_, rfl⟩
          by_cases hlt : m < s.cols.length
          · obtain ⟨b', off', Ap', q', hA', hb', hq', hpl', c0, c1, c2, c3, c4, c5, c6, c7, c8, c9, c10, c11⟩ := hS.rd.cols.col hlt
            simp only at hA'
            injection hA' with hA'
            injection hA' with hA1 hA2
            subst hA1 hA2
            have F1 := HFS.out m hlt
            have F2 := HF.out m hlt
            have K1 : ∀ (V : World), Sh w V g s ⟨some ⟨gb, off, none⟩, xc1, xA2, xc2, xA3, xc3, xA4, xc4, xA5, xc5⟩ → _ := fun V hV => find_any s _ (s.cols.getD m default).bay (s.cols.getD m default).row (s.cols.getD m default).deck V hV.rd hBu.short
            have K2 : ∀ (V : World), Sh w V (g + 1) t ⟨yA1, yc1, yA2, yc2, yA3, yc3, yA4, yc4, yA5, yc5⟩ → _ := fun V hV => find_any t _ (s.cols.getD m default).bay (s.cols.getD m default).row (s.cols.getD m default).deck V hV.rd HW3.out
            rw [F1] at K1
            rw [F2] at K2
            generalize (findF t (s.cols.getD m default).bay (s.cols.getD m default).row (s.cols.getD m default).deck).1 = zz at K2
            clear F1 F2 hpl' hq'
            unfold shpA at K1 K2
            simp only at K1 K2
            have L1 := Lib.hid K1
            have L2 := Lib.hid K2
            clear K1 K2
            generalize s.cols.getD m default = col at *
            obtain ⟨xb, xr, xd, xt, xh, x2, x4, xl, xp, xx, xy, xz⟩ := col
            simp only at c0 c1 c2 c3 c4 c5 c6 c7 c8 c9 c10 c11 L1 L2
            have hcs := hS.cells
            simp only at hcs
            obtain ⟨e0, e1, e2, e3, e4, e5, e6, e7, e8, e9, e10, e11, e12⟩ := hcs
            have hg1 := hS.bk.lt
            have hg2 := hL.bk.lt
            go_wp2_with fail
            clear hg1 hg2
            have hq0 := ba1 W0 (.cells #[.int .i64 xb, .int .i64 xr, .bool xd, .int .i64 xt, .int .i64 xh, .int .i64 x2, .int .i64 x4, .int .i64 xl, .slice Ap' xp.length q', .int .i64 xx, .int .i64 xy, .int .i64 xz] 53)
            have hK := Bk.new W0 53 #[.int .i64 xb, .int .i64 xr, .bool xd, .int .i64 xt, .int .i64 xh, .int .i64 x2, .int .i64 x4, .int .i64 xl, .slice Ap' xp.length q', .int .i64 xx, .int .i64 xy, .int .i64 xz]
            replace hS := hS.on hq0
            replace hL := hL.on hq0
            clear hq0 e0 e1 e2 e3 e4 e5 e6 e7 e8 e9 e10 e11 e12 c0 c1 c2 c3 c4 c5 c6 c7 c8 c9 c10 c11 hb'
            refine (L1.out _ hS).mono ?_
            rintro e w1 ⟨rfl, hq⟩
            replace hS := hS.on hq
            replace hL := hL.on hq
            replace hK := hK.below hq hK.lt
            clear hq L1
            generalize W0.heap.size = gz at *
            clear W0
            have hcs := hL.cells
            simp only at hcs
            obtain ⟨e0, e1, e2, e3, e4, e5, e6, e7, e8, e9, e10, e11, e12⟩ := hcs
            have k0 := hK.cell 0
            have k1 := hK.cell 1
            have k2 := hK.cell 2
            simp at k0 k1 k2
            have tt : ((m : Int) == (m : Int)) = true := by simp
            go_wp2_with fail
            refine (L2.out _ hL).mono ?_
            rintro e w2 ⟨rfl, hq⟩
            replace hS := hS.on hq
            replace hL := hL.on hq
            clear hq L2 e0 e1 e2 e3 e4 e5 e6 e7 e8 e9 e10 e11 e12 k0 k1 k2 hK
            by_cases hmk : m = k
            · have t2 : decide (m ≠ k) = false := by simp; omega
              rw [t2]
              clear t2
              subst hmk
              go_wp2
              go_roundw
              case rel => exact ⟨m + 1, by omega, by go_num, hS, hL⟩
              case measure => simp [intOf]; omega
            · have t2 : decide (m ≠ k) = true := by simp; omega
              rw [t2]
              clear t2
              have t1 : ((m : Int) == (k : Int)) = false := by simp; omega
              have t3 : ((m : Int) != (k : Int)) = true := by rw [bne_iff_ne]; omega
              go_wp2
              go_goals
              go_outline
              go_roundw
              case rel => exact ⟨m + 1, by omega, by go_num, hS, hL⟩
              case measure => simp [intOf]; omega
          · go_wp2_with fail
            refine (awake_true _).mono ?_
            rintro e w1 ⟨rfl, hq⟩
            go_wp2
            go_ret
            exact ⟨rfl, hS.be.trans (hq.mono hS.be.size)⟩
end Go.Proofs.Ytbkinjpaigmghaa
