/-
  The walk of the statement ShipCovers, part 2.
-/
import Derived.Test.YtbkinjpaigmghaaShR
namespace Go.Proofs.Ytbkinjpaigmghaa
open Go.RowKit

/-- The blocks between. -/
def Bt (a b : Nat) (x : Nat) : Prop := a < x ∧ x < b
theorem OwnInts.slb {w : World} {l : List Int} {e : Ending} {w' : World} (h : OwnInts w l e w') (gm : Nat) (hg : gm < w.heap.size) : ∃ A c, e = .returned (.slice A l.length c) ∧ SlT tInt w' (Bt gm w'.heap.size) A l ∧ Below w.heap.size w w' := by
  obtain ⟨v, h1, h2, h3⟩ := h
  obtain ⟨xs, ho, hf⟩ := id h2
  obtain ⟨A, c, rfl, h4, h5, h6⟩ := h2.sl
  refine ⟨A, c, h1, fun hn => ?_, h3⟩
  obtain ⟨b, off, rfl, hb, hc⟩ := h6 hn
  have hlt := ho.lt b rfl
  exact ⟨b, off, rfl, ⟨by omega, hb⟩, hc⟩
theorem sl_read {α : Type} {T : Ty α} {w w' : World} {B : Nat} {A : Option Addr} {l : List α} (h : SlT T w (Lt B) A l) (hb : Below B w w') : SlT T w' (Lt B) A l := h.below hb

set_option maxRecDepth 100000 in
set_option maxHeartbeats 16000000 in
theorem shipCovers_any (A : Option Addr) (c : Nat) (pl : List (Nat × Nat × Nat × Bool)) (covers : Nat) (w : World) (hs : SlT tPl w (Lt w.heap.size) A pl) (hl : ∀ p ∈ pl, p.1 < 256 ∧ p.2.1 < 256 ∧ p.2.2.1 < 256) (hc : pl.length ≤ c) (hcm : c ≤ maxLen) :
    Calls Try.prog 5 #[.slice A pl.length c, .int .u32 covers] w (TrueRet w) := by
  have HC := Lib.hid (built_s (covers := covers) hs hl hc hcm)
  clear hs hl hc hcm
  go_enter Try.func5, Try.ntmps5
  go_wp2_with fail
  refine HC.out.mono ?_
  rintro e w1 ⟨s, h, gs, rfl, hBu, ho1, ho2, hrd, hb1⟩
  clear HC ho1 ho2
  have hS : Sh w (w1.alloc (.cells (shpA s h) 32)) w1.heap.size s h := ⟨hrd.on (ba1 w1 _), Bk.new w1 _ _, hb1.trans ((ba1 w1 _).mono hb1.size)⟩
  have hR := hrd.below (ba1 w1 (.cells (shpA s h) 32))
  clear hrd hb1
  have hl12 := hBu.few
  have hc10 : s.covs.length ≤ 10 := by have := hBu.sub.length_le; have h2 : (allTo 5).length = 10 := by decide
                                       omega
  unfold shpA at hS hR ⊢
  go_wp2_with fail
  refine (hBu.right ▸ shipRight_any s h _ hS.rd hBu.Few hBu.ints).mono ?_
  rintro e w2 ⟨rfl, hq⟩
  replace hR := hR.below (hq.mono (by simp))
  replace hS := hS.on hq
  clear hq
  generalize w1.heap.size = g at *
  clear w1
  obtain ⟨e0, e1, e2, e3, e4, e5, e6, e7, e8, e9, e10, e11, e12⟩ := hS.cells
  have hmk := make_met s.cols.length (by omega)
  have hgl := hS.bk.lt
  have hC : SC w (w2.alloc (.cells (metA s.cols.length (doneM s 0 0 [] 0)) 3)) g w2.heap.size s h (doneM s 0 0 [] 0) := ⟨hR.below ((ba1 w2 _).mono (by have := hS.bk.lt; omega)), (hS.on (ba1 w2 _)).bk, (hS.on (ba1 w2 _)).be, Bk.new w2 _ _, hS.be.size, hS.bk.lt⟩
  rw [metA_congr s.cols.length (doneM s 0 0 [] 0) (fun _ => 0) (fun c _ => doneM_zero s c hBu)] at hC
  go_wp2
  clear hmk hS hR hgl e0 e1 e2 e3 e4 e5 e6 e7 e8 e9 e10 e11 e12
  generalize w2.heap.size = gm at *
  generalize (w2.alloc _) = W0 at *
  clear w2
  go_loopw [27] (fun q wr => ∃ (k : Nat), k ≤ s.covs.length ∧ q = .int .i64 k ∧ SC w wr g gm s h (doneM s k 0 [] 0)) (fun q _ => s.covs.length - (intOf q).toNat)
  case atStart => exact ⟨0, Nat.zero_le _, rfl, hC⟩
  case round =>
    clear hC
    obtain ⟨k, hk, rfl, hC⟩ := hrel
    obtain ⟨W, rfl⟩ : ∃ W, W = wr := ⟨_, rfl⟩
    by_cases hlt : k < s.covs.length
    · have hU := Lib.hid (under_any s h k)
      have hP := Lib.hid (upon_any s h k)
      have hUl := along_len hBu k false
      have hPl := along_len hBu k true
      go_upto_region 8 with fail
      go_cut [36, 37, 38] (fun a b q wx => ∃ (g2 : Nat) (A0 A1 : Option Addr) (c0 c1 : Nat), a = .slice (some ⟨g2, 0, none⟩) 2 2 ∧ b = .int .i64 2 ∧ q = .int .i64 0 ∧ Bk wx g2 39 #[.slice A0 (alongF s k false).length c0, .slice A1 (alongF s k true).length c1] ∧ SlT tInt wx (Bt gm g2) A0 (alongF s k false) ∧ SlT tInt wx (Bt gm g2) A1 (alongF s k true) ∧ SC w wx g gm s h (doneM s k 0 [] 0) ∧ gm < g2)
      case first =>
        obtain ⟨e0, e1, e2, e3, e4, e5, e6, e7, e8, e9, e10, e11, e12⟩ := hC.sh.cells
        generalize alongF s k false = U at *
        generalize alongF s k true = Q at *
        go_region_held3 (fun w' => w'.cell? ⟨g, 0, none⟩ = some (.slice h.A1 s.cols.length h.c1) ∧ w'.cell? ⟨g, 1, none⟩ = some (.slice h.A2 s.covs.length h.c2) ∧ w'.cell? ⟨g, 2, none⟩ = some (.int .i64 s.l0) ∧ w'.cell? ⟨g, 3, none⟩ = some (.int .i64 s.l1) ∧ w'.cell? ⟨g, 4, none⟩ = some (.int .i64 s.l2) ∧ w'.cell? ⟨g, 5, none⟩ = some (.int .i64 s.l3) ∧
            w'.cell? ⟨g, 6, none⟩ = some (.slice h.A3 s.rows.length h.c3) ∧ w'.cell? ⟨g, 7, none⟩ = some (.slice h.A4 s.frames.length h.c4) ∧ w'.cell? ⟨g, 8, none⟩ = some (.slice h.A5 s.tanks.length h.c5) ∧ w'.cell? ⟨g, 9, none⟩ = some (.int .i64 s.m0) ∧ w'.cell? ⟨g, 10, none⟩ = some (.int .i64 s.m1) ∧ w'.cell? ⟨g, 11, none⟩ = some (.int .i64 s.m2) ∧ w'.cell? ⟨g, 12, none⟩ = some (.int .i64 s.m3)) (go_keep)
          (first
            | (go_at_call 18; refine (hU.out _ (by exact (hC.on (drew_below W 1)).sh.rd) hBu.Few).mono ?_; intro e w1 hO; obtain ⟨Au, cu, rfl, hslu, hbu⟩ := OwnInts.slb hO gm hC.met.lt; clear hO; have hCu := (hC.on (drew_below W 1)).on hbu; clear hbu; obtain ⟨y0, y1, y2, y3, y4, y5, y6, y7, y8, y9, y10, y11, y12⟩ := hCu.sh.cells)
            | (go_at_call 19; refine (hP.out _ (by exact hCu.sh.rd) hBu.Few).mono ?_; intro e w2 hO; obtain ⟨Ap, cp, rfl, hslp, hbp⟩ := OwnInts.slb hO gm hCu.met.lt; clear hO; have hCp := hCu.on hbp; have hslu2 := (hslu.keep (w' := w2) fun b o hb => hbp.cell (p := ⟨b, o, none⟩) hb.2).more (S' := Bt gm w2.heap.size) fun b hb => ⟨hb.1, Nat.lt_of_lt_of_le hb.2 hbp.size⟩; clear hbp; obtain ⟨z0, z1, z2, z3, z4, z5, z6, z7, z8, z9, z10, z11, z12⟩ := hCp.sh.cells))
        all_goals
          go_wp2_with fail
          go_meet
          exact ⟨w2.heap.size, Au, Ap, cu, cp, rfl, rfl, rfl, Bk.new _ _ _, hslu2.keep fun b o hb => (ba1 w2 _).cell (p := ⟨b, o, none⟩) hb.2, hslp.keep fun b o hb => (ba1 w2 _).cell (p := ⟨b, o, none⟩) hb.2, hCp.on (ba1 w2 _), hCp.met.lt⟩
      case rest =>
        clear hC hU hP
        obtain ⟨g2, A0, A1, c0, c1, rfl, rfl, rfl, hk2, hsl0, hsl1, hC, hg2⟩ := hcut
        have HIN := Lib.hid (show ∀ i, i < 2 → ∃ Ai ci, #[Value.slice A0 (alongF s k false).length c0, .slice A1 (alongF s k true).length c1][i]? = some (.slice Ai (alongF s k (decide (i = 1))).length ci) ∧ SlT tInt wc (Bt gm g2) Ai (alongF s k (decide (i = 1))) from fun i hi => by
          have : i = 0 ∨ i = 1 := by omega
          rcases this with rfl | rfl
          · exact ⟨A0, c0, rfl, hsl0⟩
          · exact ⟨A1, c1, rfl, hsl1⟩)
        clear hsl0 hsl1 W
        generalize #[Value.slice A0 (alongF s k false).length c0, .slice A1 (alongF s k true).length c1] = PA at *
        clear A0 A1 c0 c1 hUl hPl
        go_wp2
        go_loopw [38] (fun q wr => ∃ (i : Nat), i ≤ 2 ∧ q = .int .i64 i ∧ SC w wr g gm s h (doneM s k i [] 0) ∧ Bk wr g2 39 PA ∧ (∀ b o, Bt gm g2 b → wr.cell? ⟨b, o, none⟩ = wc.cell? ⟨b, o, none⟩)) (fun q _ => 2 - (intOf q).toNat)
        case atStart => exact ⟨0, Nat.zero_le _, rfl, hC, hk2, fun _ _ _ => rfl⟩
        case round =>
          clear hC hk2
          obtain ⟨i, hi, rfl, hC, hk2, hkp⟩ := hrel
          have HKP := Lib.hid hkp; clear hkp
          by_cases hli : i < 2
          · obtain ⟨Ai, ci, hPA, hsli⟩ := HIN.out i hli
            have ce := (hk2.cell i).trans hPA
            have HSL := Lib.hid (hsli.keep HKP.out)
            have hpl := along_len hBu k (decide (i = 1))
            have HIFF := Lib.hid (along_iff hBu hlt (decide (i = 1)))
            have HSTEP := Lib.hid (fun (j : Nat) hj x hx => doneM_step hBu hlt i hli (j := j) hj x hx)
            have HPART := Lib.hid (fun (c : Nat) hc => doneM_part hBu hlt i hli (c := c) hc)
            have hdi : ((i : Int) == 1) = decide (i = 1) := by rw [Bool.eq_iff_iff]; simp; omega
            clear hsli hPA
            generalize alongF s k (decide (i = 1)) = P at *
            have i1 : (0 : Int) ≤ (i : Int) := by omega
            have i2 : (i : Int) < 2 := by omega
            have t0 : decide ((i : Int) < 2) = true := by simp; omega
            generalize decide (i = 1) = di at *
            obtain ⟨wo, rfl⟩ : ∃ wo : World, wo = wr := ⟨_, rfl⟩
            go_wp2
            go_loopw [45] (fun q wr => ∃ (j : Nat), j ≤ P.length ∧ q = .int .i64 j ∧ SC w wr g gm s h (doneM s k i P j) ∧ Bk wr g2 39 PA ∧ (∀ b o, Bt gm g2 b → wr.cell? ⟨b, o, none⟩ = wc.cell? ⟨b, o, none⟩)) (fun q _ => P.length - (intOf q).toNat)
            case atStart =>
              have e : doneM s k i P 0 = doneM s k i [] 0 := by funext c; simp [doneM]
              exact ⟨0, Nat.zero_le _, rfl, by rw [e]; exact hC, hk2, HKP.out⟩
            case round =>
              clear hC hk2 ce
              obtain ⟨j, hj, rfl, hC, hk2, hkp⟩ := hrel
              have HKQ := Lib.hid hkp; clear hkp
              by_cases hlj : j < P.length
              · obtain ⟨bP, oP, rfl, hbP, cP⟩ := (HSL.out.keep (w' := wr) fun b o hb => (HKQ.out b o hb).trans (HKP.out b o hb).symm).int hlj
                obtain ⟨x, hx, hxe, hxd, hxc⟩ := (HIFF.out _).1 (getD_memD hlj 0)
                obtain ⟨hz, hnext⟩ := HSTEP.out j hlj x hxe
                rw [hxe] at cP
                have HNX := Lib.hid hnext; clear hnext
                have hbay := cover_bay hBu hx hlt hxc
                obtain ⟨b1, o1, _, _, hA1, hb1B, _, _, k0, _, k2, _⟩ := hC.sh.rd.cols.col hx
                obtain ⟨b2, o2, _, _, hA2, hb2B, _, _, v0, _⟩ := hC.sh.rd.covs.cov hlt
                rw [hxd] at k2
                rw [hbay] at k0
                have hm0 := (hC.met.cell x).trans (metA_at _ _ x hx)
                rw [hz] at hm0
                have hb1' : b1 < wr.heap.size := hb1B
                have hb2' : b2 < wr.heap.size := hb2B
                have hgs := hC.bk.lt
                obtain ⟨e0, e1, e2, e3, e4, e5, e6, e7, e8, e9, e10, e11, e12⟩ := hC.sh.cells
                have HCO := fun (W : World) (hs : ShpR W (Lt W.heap.size) s h) => coverOf_any s h x W hs hBu.Few
                rw [hxc] at HCO
                unfold shpA at HCO
                simp only [hA1, hA2] at HCO e0 e1
                have HCC := Lib.hid HCO; clear HCO hA1 hA2 hb1B hb2B
                generalize (s.cols.getD x default).bay = cb at *
                generalize (s.covs.getD k default).bay = kb at *
                clear hbay hxe hxd hxc hz
                have x1 : (0 : Int) ≤ (x : Int) := by omega
                have x2 : (x : Int) < (s.cols.length : Int) := by omega
                have x3 : decide ((x : Int) < 0) = false := by simp
                have x4 : decide (s.cols.length ≤ x) = false := by simp; omega
                have k1' : (0 : Int) ≤ (k : Int) := by omega
                have k2' : (k : Int) < (s.covs.length : Int) := by omega
                have hC' := hC.on (drew_below wr 1)
                go_upto_region 14 with fail
                go_region_held3 (fun w' => (w'.cell? ⟨g, 0, none⟩ = some (.slice (some ⟨b1, o1, none⟩) s.cols.length h.c1) ∧ w'.cell? ⟨g, 1, none⟩ = some (.slice (some ⟨b2, o2, none⟩) s.covs.length h.c2) ∧ w'.cell? ⟨g, 2, none⟩ = some (.int .i64 s.l0) ∧ w'.cell? ⟨g, 3, none⟩ = some (.int .i64 s.l1) ∧ w'.cell? ⟨g, 4, none⟩ = some (.int .i64 s.l2) ∧ w'.cell? ⟨g, 5, none⟩ = some (.int .i64 s.l3) ∧
                    w'.cell? ⟨g, 6, none⟩ = some (.slice h.A3 s.rows.length h.c3) ∧ w'.cell? ⟨g, 7, none⟩ = some (.slice h.A4 s.frames.length h.c4) ∧ w'.cell? ⟨g, 8, none⟩ = some (.slice h.A5 s.tanks.length h.c5) ∧ w'.cell? ⟨g, 9, none⟩ = some (.int .i64 s.m0) ∧ w'.cell? ⟨g, 10, none⟩ = some (.int .i64 s.m1) ∧ w'.cell? ⟨g, 11, none⟩ = some (.int .i64 s.m2) ∧ w'.cell? ⟨g, 12, none⟩ = some (.int .i64 s.m3)) ∧
                    w'.cell? ⟨b1, o1 + x * 12, none⟩ = some (.int .i64 kb) ∧ w'.cell? ⟨b1, o1 + x * 12 + 2, none⟩ = some (.bool di) ∧ w'.cell? ⟨b2, o2 + k * 2, none⟩ = some (.int .i64 kb)) (go_keep)
                  (first
                    | (go_at_call 16; refine (HCC.out _ (by exact hC'.sh.rd)).mono ?_; rintro e w7 ⟨rfl, hb7⟩; have y0 := (hb7.cell (p := ⟨g, 0, none⟩) hgs).trans e0; have y1 := (hb7.cell (p := ⟨g, 1, none⟩) hgs).trans e1; have y2 := (hb7.cell (p := ⟨g, 2, none⟩) hgs).trans e2; have y3 := (hb7.cell (p := ⟨g, 3, none⟩) hgs).trans e3; have y4 := (hb7.cell (p := ⟨g, 4, none⟩) hgs).trans e4; have y5 := (hb7.cell (p := ⟨g, 5, none⟩) hgs).trans e5; have y6 := (hb7.cell (p := ⟨g, 6, none⟩) hgs).trans e6; have y7 := (hb7.cell (p := ⟨g, 7, none⟩) hgs).trans e7; have y8 := (hb7.cell (p := ⟨g, 8, none⟩) hgs).trans e8; have y9 := (hb7.cell (p := ⟨g, 9, none⟩) hgs).trans e9; have y10 := (hb7.cell (p := ⟨g, 10, none⟩) hgs).trans e10; have y11 := (hb7.cell (p := ⟨g, 11, none⟩) hgs).trans e11; have y12 := (hb7.cell (p := ⟨g, 12, none⟩) hgs).trans e12; have y13 := (hb7.cell (p := ⟨b1, o1 + x * 12, none⟩) hb1').trans k0; have y14 := (hb7.cell (p := ⟨b1, o1 + x * 12 + 2, none⟩) hb1').trans k2; have y15 := (hb7.cell (p := ⟨b2, o2 + k * 2, none⟩) hb2').trans v0; have hC7 := hC'.on hb7; have m7 := (hb7.cell (p := ⟨gm, x, none⟩) hC.met.lt).trans hm0))
                have f7 := hC7.met.frozen x
                have hbr7 : Below wr.heap.size wr w7 := (drew_below wr 1).trans hb7
                have hlt2 := hk2.lt
                have HR := Lib.hid (And.intro ((hC7.store x 1 hx).congr (N := doneM s k i P (j + 1)) fun c hc => (HNX.out c hc).symm) (And.intro ((hk2.below hbr7 hlt2).far (p := ⟨gm, x, none⟩) (by simp; omega) (.int .i64 ((1 : Nat) : Int))) (show ∀ b o, Bt gm g2 b → (w7.setCell ⟨gm, x, none⟩ (.int .i64 ((1 : Nat) : Int))).cell? ⟨b, o, none⟩ = wc.cell? ⟨b, o, none⟩ from fun b o hb => by
                  have h1 : gm < b := hb.1
                  have h2 : b < g2 := hb.2
                  rw [World.cell?_setCell_other _ _ _ _ (by intro e; injection e with e; omega), hbr7.cell (p := ⟨b, o, none⟩) (show b < wr.heap.size by omega)]
                  exact HKQ.out b o hb)))
                clear hC7 hC hC' hb7 hbr7 hk2 e0 e1 e2 e3 e4 e5 e6 e7 e8 e9 e10 e11 e12 k0 k2 v0 cP hm0 y0 y1 y2 y3 y4 y5 y6 y7 y8 y9 y10 y11 y12 y13 y14 y15
                go_wp2
                go_roundw
                case rel => exact ⟨j + 1, by omega, by go_num, HR.out⟩
                case measure => simp [intOf]; omega
              · obtain rfl : j = P.length := by omega
                go_wp2
                go_roundw
                case rel => exact ⟨i + 1, by omega, by go_num, hC.congr fun c hc => HPART.out c hc, hk2, HKQ.out⟩
                case measure => simp [intOf]; omega
          · obtain rfl : i = 2 := by omega
            go_wp2
            go_roundw
            case rel => exact ⟨k + 1, by omega, by go_num, hC.congr fun c hc => doneM_next k c hBu hc⟩
            case measure => simp [intOf]; omega
    · obtain rfl : k = s.covs.length := by omega
      have HEND := Lib.hid (fun (c : Nat) hc => doneM_end hBu (c := c) hc)
      generalize doneM s s.covs.length 0 [] 0 = M at *
      go_wp2
      go_loopw [102] (fun q wr => ∃ (c : Nat), c ≤ s.cols.length ∧ q = .int .i64 c ∧ SC w wr g gm s h M) (fun q _ => s.cols.length - (intOf q).toNat)
      case atStart => exact ⟨0, Nat.zero_le _, rfl, hC⟩
      case round =>
        clear hC
        obtain ⟨x, hx, rfl, hC⟩ := hrel
        by_cases hlx : x < s.cols.length
        · have hm0 := (hC.met.cell x).trans (metA_at _ _ x hlx)
          obtain ⟨h1, h2⟩ := HEND.out x hlx
          have HCO := Lib.hid (coverOf_any s h x wr hC.sh.rd hBu.Few)
          obtain ⟨e0, e1, e2, e3, e4, e5, e6, e7, e8, e9, e10, e11, e12⟩ := hC.sh.cells
          generalize coverOfF s x = cv at *
          generalize M x = mx at *
          have hcase : (mx = 0 ∧ cv = -1) ∨ (mx = 1 ∧ cv ≠ -1) := by omega
          clear h1 h2
          rcases hcase with ⟨rfl, rfl⟩ | ⟨rfl, hne⟩
          · have t1 : decide ((1 : Int) < ((0 : Nat) : Int)) = false := by simp
            go_wp2_with fail
            refine HCO.out.mono ?_
            rintro e w7 ⟨rfl, hb7⟩
            have hC7 := hC.on hb7
            clear hC hb7 HCO hm0 e0 e1 e2 e3 e4 e5 e6 e7 e8 e9 e10 e11 e12
            go_wp2
            go_roundw
            case rel => exact ⟨x + 1, by omega, by go_num, hC7⟩
            case measure => simp [intOf]; omega
          · have t1 : decide ((1 : Int) < ((1 : Nat) : Int)) = false := by simp
            have t2 : (cv == -1) = false := by simpa using hne
            go_wp2_with fail
            refine HCO.out.mono ?_
            rintro e w7 ⟨rfl, hb7⟩
            have hC7 := hC.on hb7
            clear hC hb7 HCO hm0 e0 e1 e2 e3 e4 e5 e6 e7 e8 e9 e10 e11 e12
            go_wp2
            go_roundw
            case rel => exact ⟨x + 1, by omega, by go_num, hC7⟩
            case measure => simp [intOf]; omega
        · go_wp2_with fail
          refine (awake_true _).mono ?_
          rintro e w7 ⟨rfl, hb7⟩
          go_wp2
          go_ret
          exact ⟨rfl, hC.be.trans (hb7.mono hC.be.size)⟩
end Go.Proofs.Ytbkinjpaigmghaa
