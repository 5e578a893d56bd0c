/-
  The walk of the statement SlotAll.
-/
import Derived.Test.YtggebllkkiennaaDoorSlAm
import Derived.Test.YtggebllkkiennaaDoorSlAw
namespace Go.Proofs.YtggebllkkiennaaDoor
open Go.RowKit Go.Maps

/-- What SlotAll keeps: the ship and the slot in their boxes. -/
structure SA (w V : World) (g gx : Nat) (s : Shp) (h : Hd) (x : Slt) : Prop where
  sh : Sh w V g s h
  x : Bk V gx 34 (sltL x).toArray
theorem SA.on {w V V' : World} {g gx : Nat} {s : Shp} {h : Hd} {x : Slt} (r : SA w V g gx s h x) (hb : Below V.heap.size V V') : SA w V' g gx s h x := ⟨r.sh.on hb, r.x.below hb r.x.lt⟩
theorem key8 : Keyed Tryd.prog 5 := int_keyed Tryd.underlying5
theorem keyOf8 (n : Int) (h0 : 0 ≤ n) (h1 : n < 256) : keyOf Tryd.prog 5 (.int .u8 n) = some (.int .u8 n) := keyOf_int_mk Tryd.underlying5 (by simp [Lit.wf, IntKind.min, IntKind.max, IntKind.bits, IntKind.signed]; omega)
set_option maxRecDepth 100000 in
set_option maxHeartbeats 20000000 in
theorem slotAll_any (A : Option Addr) (c : Nat) (pl : List (Nat × Nat × Nat × Bool)) (covers : Nat) (x : Slt) (w : World) (hs : SlT tPl w (Lt w.heap.size) A pl) (hl : ∀ p ∈ pl, p.1 < 256 ∧ p.2.1 < 256 ∧ p.2.2.1 < 256) (hc : pl.length ≤ c) (hcm : c ≤ maxLen) (hx : x.half < 256) (hq : QuarOK w) :
    Calls Tryd.prog 5 #[.slice A pl.length c, .int .u32 (covers : Nat), .agg (sltL x).toArray] w (TrueRet w) := by
  have HQ := Lib.hid hq
  have hbx := ba1 w (.cells (sltL x).toArray 34)
  have kx := Bk.new w 34 (sltL x).toArray
  have HBU := Lib.hid (built_s (covers := covers) (hs.on hbx) hl hc hcm)
  clear hq hs hl hc hcm
  obtain ⟨xc, xt, xh⟩ := x
  unfold sltL at kx hbx HBU ⊢
  simp only at kx hbx HBU hx ⊢
  go_enter Tryd.func5, Tryd.ntmps5
  go_wp2_with fail
  refine HBU.out.mono ?_
  rintro e w1 ⟨s, h, gs, rfl, hbu, _, _, hrd, hb1⟩
  have HS0 : Hid (SA w (w1.alloc (.cells (shpA s h) 32)) w1.heap.size w.heap.size s h ⟨xc, xt, xh⟩) := Lib.hid ⟨⟨hrd.on (ba1 w1 _), Bk.new w1 _ _, (hbx.trans (hb1.mono hbx.size)).trans ((ba1 w1 _).mono (hbx.trans (hb1.mono hbx.size)).size)⟩, (kx.below hb1 kx.lt).alloc _⟩
  have HU := Lib.hid hbu
  have hn12 := hbu.few
  have hn1 := hbu.one
  clear hbu hrd hb1 HBU kx hbx
  unfold shpA at HS0 ⊢
  go_upto_region 2 with fail
  generalize w1.heap.size = g at *
  generalize (w1.alloc _) = W at *
  have e0 : W.cell? ⟨g, 0, none⟩ = some (.slice h.A1 s.cols.length h.c1) := HS0.out.sh.bk.cell 0
  go_wp2_with fail
  have HBD := Lib.hid (tiersTo_bd (l := s.cols) (fun c hc => (HU.out.col hc).tiers))
  go_loopw [8, 23] (fun n i wr => ∃ k : Nat, k ≤ s.cols.length ∧ i = .int .i64 k ∧ n = .int .i64 (tiersTo s.cols k) ∧ Hid (SA w wr g w.heap.size s h ⟨xc, xt, xh⟩)) (fun _ i _ => s.cols.length - (intOf i).toNat)
  case atStart => exact ⟨0, Nat.zero_le _, rfl, rfl, HS0⟩
  case round =>
    clear HS0 e0
    obtain ⟨k, hk, rfl, rfl, HS⟩ := hrel
    obtain ⟨V, rfl⟩ : ∃ V, V = wr := ⟨_, rfl⟩
    by_cases hlt : k < s.cols.length
    · obtain ⟨b, off, Ap, q, hA1, hgb, _, _, c0, c1, c2, c3, c4, c5, c6, c7, c8, c9, c10, c11⟩ := HS.out.sh.rd.cols.col hlt
      have hT := Lib.hid (show tiersTo s.cols (k + 1) = tiersTo s.cols k + (s.cols.getD k default).tiers from rfl)
      have hb2 := HBD.out k hk
      have hb3 := (HU.out.col hlt).tiers
      generalize tiersTo s.cols k = tk at *
      generalize s.cols.getD k default = col at *
      obtain ⟨xb, xr, xd, xti, xhe, xk2, xk4, xl, xp, xx, xy, xz⟩ := col
      simp only at c0 c1 c2 c3 c4 c5 c6 c7 c8 c9 c10 c11 hT hb3
      obtain ⟨A1, cc1, A2, cc2, A3, cc3, A4, cc4, A5, cc5⟩ := h
      simp only at hA1
      subst hA1
      have hk0 : (0 : Int) ≤ (k : Int) := by omega
      have hk1 : (k : Int) < (s.cols.length : Int) := by omega
      have hbk : tk ≤ 60 := by omega
      go_wp2
      go_roundw
      case rel => exact ⟨k + 1, by omega, by go_num, by rw [hT.out], Lib.hid (HS.out.on (ba1 V _))⟩
      case measure => simp [intOf]; omega
    · obtain rfl : k = s.cols.length := by omega
      have hb2 := HBD.out s.cols.length (Nat.le_refl _)
      have HP : Hid (∀ c, c < s.cols.length → 0 ≤ (s.cols.getD c default).tiers) := Lib.hid fun c hc => by have := (HU.out.col hc).tiers; omega
      have HD4 : Hid (∀ a b : Int, a = 2 * tiersTo s.cols s.cols.length → b = tiersTo s.cols s.cols.length → ∀ x c : Int, (∀ zd, (D4 a b).atKey (.int .u8 x) zd = .lit (.int .i64 c)) → ∃ size : Nat, x = (size : Int) ∧ size < 256 ∧ c = ((allF s size).length : Int)) := Lib.hid fun a b ha hb x c h => by subst ha hb; exact D4_size HP.out h
      have HLEN : Hid (∀ size : Nat, (allF s size).length ≤ 200) := Lib.hid fun size => by
        have h1 := all_len HP.out size
        have h2 : (halvesL size).length ≤ 2 := by unfold halvesL; split <;> (try split) <;> simp
        have h3 := HBD.out s.cols.length (Nat.le_refl _)
        have h4 : ((halvesL size).length : Int) * tiersTo s.cols s.cols.length ≤ 2 * tiersTo s.cols s.cols.length := Int.mul_le_mul_of_nonneg_right (by omega) h3.1
        omega
      have HTN : Hid (∀ c, tiersN s c ≤ 1000000) := Lib.hid fun c => by
        unfold tiersN
        by_cases hc : c < s.cols.length
        · have := (HU.out.col hc).tiers; omega
        · rw [show s.cols.getD c default = default from by rw [List.getD_eq_getElem?_getD, List.getElem?_eq_none (by omega)]; rfl]
          show (0 : Int).toNat ≤ _
          simp
      generalize tiersTo s.cols s.cols.length = tt at *
      have ht60 : tt ≤ 60 := by omega
      have ht0 := hb2.1
      clear hb2 HBD
      have hmm := @run_makeMap Tryd.prog
      have HD5 := Lib.hid (HD4.out (2 * tt) tt rfl rfl)
      clear HD4
      have hown0 := World.ownsMap_made (H := Unit) V Tryd.prog 5 (plainElem Tryd.prog 3)
      go_upto_region 8 with fail
      go_wp2_with (first
        | (refine wpList_insert_own _ rfl (.tmp 32) (.const (.int .u8 20)) (.tmp 34) 61 rfl 5 3 key8 Tryd.underlying61 (plainElem Tryd.prog 3) V.heap.size 0 _ rfl hown0 (by unfold maxLen; omega) _ _ (.int .u8 20) rfl rfl (keyOf8 20 (by omega) (by omega)) (.lit (.int .i64 (2 * tt))) [] (plainElem_int Tryd.underlying3 (WalkArith.wf_i64 (by omega))) ?_; intro m1 hown1 hg1)
        | (refine wpList_insert_own _ rfl (.tmp 32) (.const (.int .u8 40)) (.tmp 35) 61 rfl 5 3 key8 Tryd.underlying61 (plainElem Tryd.prog 3) V.heap.size 1 _ rfl hown1 (by unfold maxLen; omega) _ _ (.int .u8 40) rfl rfl (keyOf8 40 (by omega) (by omega)) (.lit (.int .i64 tt)) [] (plainElem_int Tryd.underlying3 (WalkArith.wf_i64 (by omega))) ?_; intro m2 hown2 hg2)
        | (refine wpList_insert_own _ rfl (.tmp 32) (.const (.int .u8 0)) (.const (.int .i64 0)) 61 rfl 5 3 key8 Tryd.underlying61 (plainElem Tryd.prog 3) V.heap.size 2 _ rfl hown2 (by unfold maxLen; omega) _ _ (.int .u8 0) rfl rfl (keyOf8 0 (by omega) (by omega)) (.lit (.int .i64 0)) [] (plainElem_int Tryd.underlying3 (WalkArith.wf_i64 (by omega))) ?_; intro m3 hown3 hg3)
        | (refine wpList_insert_own _ rfl (.tmp 32) (.const (.int .u8 45)) (.const (.int .i64 0)) 61 rfl 5 3 key8 Tryd.underlying61 (plainElem Tryd.prog 3) V.heap.size 3 _ rfl hown3 (by unfold maxLen; omega) _ _ (.int .u8 45) rfl rfl (keyOf8 45 (by omega) (by omega)) (.lit (.int .i64 0)) [] (plainElem_int Tryd.underlying3 (WalkArith.wf_i64 (by omega))) ?_; intro m4 hown4 hg4)
        | (at_range; refine wpList_range_own _ rfl _ 61 rfl 5 3 key8 Tryd.underlying61 (plainElem Tryd.prog 3) V.heap.size 4 _ rfl hown4 ?_; intro w5 hrg5 hg5 hs5))
      have z1 : V.heap.size + 1 ≤ m1.heap.size := by have := hg1.size; simpa using this
      have z2 : m1.heap.size ≤ m2.heap.size := hg2.size
      have z3 : m2.heap.size ≤ m3.heap.size := hg3.size
      have z4 : m3.heap.size ≤ m4.heap.size := hg4.size
      have hB5 : Below V.heap.size V w5 := (((((ba1 V (.map #[] 0)).trans (below_of_grown hg1 (Nat.le_refl _) (by simp))).trans (below_of_grown hg2 (Nat.le_refl _) (by omega))).trans (below_of_grown hg3 (Nat.le_refl _) (by omega))).trans (below_of_grown hg4 (Nat.le_refl _) (by omega))).trans ⟨hg5.os, hg5.tape, hg5.output, hg5.size, fun i hi => hg5.block i (by omega) (by simp)⟩
      have hrg : w5.ranges (H := Unit) Tryd.prog 5 (plainElem Tryd.prog 3) V.heap.size m4.heap.size 4 (D4 (2 * tt) tt) (Maps.has (D4 (2 * tt) tt)) (Maps.size (D4 (2 * tt) tt)) := hrg5
      clear hown0 hown1 hown2 hown3 hown4 hg1 hg2 hg3 hg4 hg5 hs5 hrg5 hmm
      generalize D4 (2 * tt) tt = D at *
      have KALL : Hid (∀ (size : Nat) (V' : World), Below V.heap.size V V' → Calls Tryd.prog 20 #[.agg #[.slice h.A1 s.cols.length h.c1, .slice h.A2 s.covs.length h.c2, .int .i64 s.l0, .int .i64 s.l1, .int .i64 s.l2, .int .i64 s.l3, .slice h.A3 s.rows.length h.c3, .slice h.A4 s.frames.length h.c4, .slice h.A5 s.tanks.length h.c5, .int .i64 s.m0, .int .i64 s.m1, .int .i64 s.m2, .int .i64 s.m3], .int .u8 (size : Nat)] V' (OwnSlt V' (allF s size))) := Lib.hid fun size V' hV => all_any s h size V' ((HS.out.on hV).sh.rd) (by omega) HTN.out (by have := HLEN.out size; omega)
      have KR : Hid (∀ (y : Slt) (size : Nat) (V' : World), Below V.heap.size V V' → Calls Tryd.prog 21 #[.agg #[.slice h.A1 s.cols.length h.c1, .slice h.A2 s.covs.length h.c2, .int .i64 s.l0, .int .i64 s.l1, .int .i64 s.l2, .int .i64 s.l3, .slice h.A3 s.rows.length h.c3, .slice h.A4 s.frames.length h.c4, .slice h.A5 s.tanks.length h.c5, .int .i64 s.m0, .int .i64 s.m1, .int .i64 s.m2, .int .i64 s.m3], .agg (sltL y).toArray, .int .u8 (size : Nat)] V' (Ret V' (.bool (slotRight s y size)))) := Lib.hid fun y size V' hV => slotRight_any s h y size V' ((HS.out.on hV).sh.rd)
      have hgw : V.heap.size < m4.heap.size := by omega
      clear z1 z2 z3 z4 HTN
      generalize m4.heap.size = gw at *
      generalize hvs : V.heap.size = gm at *
      have HVS := Lib.hid hvs
      have HTV : Hid (∀ W : World, Below gm V W → Below V.heap.size V W) := Lib.hid fun W h => by rw [hvs]; exact h
      clear hvs
      have HB5 := Lib.hid hB5
      clear hB5
      go_frame
      go_loopw [14] (fun _ wr => ∃ (left : Lit → Bool) (cnt : Nat), wr.ranges (H := Unit) Tryd.prog 5 (plainElem Tryd.prog 3) gm gw 4 D left cnt ∧ Hid (Below gm V wr)) (fun _ wr => wr.rangeLeft gm gw)
      case atStart => exact ⟨_, _, hrg, HB5⟩
      case round =>
        clear HB5 hrg
        obtain ⟨left, cnt, hrg, BV⟩ := hrel
        obtain ⟨V1, rfl⟩ : ∃ V, V = wr := ⟨_, rfl⟩
        go_wp2_with (first
          | (at_next; refine wpList_next_ranges _ rfl _ rfl 5 key8 (plainElem Tryd.prog 3) (Value.int .u8) (Value.int .i64) (fun key kl hk => (keyOf_int_inv Tryd.underlying5 hk).elim fun x h => ⟨x, h.1⟩) (fun v y hv => (plainElem_int_inv Tryd.underlying3 hv).elim fun c h => ⟨c, h.1⟩) gm gw 4 D left cnt rfl hrg ?_ ?_))
        · intro _ _
          have HA := Lib.hid (awake08_true V1 (HQ.out.below (HS.out.on (HTV.out _ BV.out)).sh.be))
          have HB := Lib.hid (HS.out.on (HTV.out _ BV.out)).sh.be
          go_wp2_with fail
          refine HA.out.mono ?_
          rintro e w9 ⟨rfl, hb9⟩
          have HB9 := Lib.hid (HB.out.trans (hb9.mono HB.out.size))
          clear hb9
          go_wp2
          go_ret
          exact ⟨rfl, HB9.out⟩
        · intro x c kl y y2 w6 cnt6 hkx hlx hRy haty hrg6 hlt6 hg6 hs6 hen
          obtain ⟨x', hx1, rfl, _⟩ := keyOf_int_inv Tryd.underlying5 hkx
          obtain ⟨c', hc', hy, _⟩ := plainElem_int_inv Tryd.underlying3 hRy
          have hxx : x' = x := by injection hx1 with _ h2; exact h2.symm
          have hcc : c' = c := by injection hc' with _ h2; exact h2.symm
          subst hxx hcc
          have hyy : y = .lit (.int .i64 c') := by injection hy
          obtain ⟨size, rfl, hs256, rfl⟩ := HD5.out x' c' (fun zd => (haty zd).trans hyy)
          have hgV : gm ≤ V1.heap.size := by have := BV.out.size; have := HVS.out; omega
          have BV6 : Below gm V w6 := below_inc BV.out hg6 (by have := HVS.out; omega) hgV
          have hV6 : gm ≤ w6.heap.size := by have := BV6.size; have := HVS.out; omega
          have HS6 := Lib.hid (HS.out.on (HTV.out _ BV6))
          have e0 : w6.cell? ⟨g, 0, none⟩ = some (.slice h.A1 s.cols.length h.c1) := HS6.out.sh.bk.cell 0
          have e1 : w6.cell? ⟨g, 1, none⟩ = some (.slice h.A2 s.covs.length h.c2) := HS6.out.sh.bk.cell 1
          have e2 : w6.cell? ⟨g, 2, none⟩ = some (.int .i64 s.l0) := HS6.out.sh.bk.cell 2
          have e3 : w6.cell? ⟨g, 3, none⟩ = some (.int .i64 s.l1) := HS6.out.sh.bk.cell 3
          have e4 : w6.cell? ⟨g, 4, none⟩ = some (.int .i64 s.l2) := HS6.out.sh.bk.cell 4
          have e5 : w6.cell? ⟨g, 5, none⟩ = some (.int .i64 s.l3) := HS6.out.sh.bk.cell 5
          have e6 : w6.cell? ⟨g, 6, none⟩ = some (.slice h.A3 s.rows.length h.c3) := HS6.out.sh.bk.cell 6
          have e7 : w6.cell? ⟨g, 7, none⟩ = some (.slice h.A4 s.frames.length h.c4) := HS6.out.sh.bk.cell 7
          have e8 : w6.cell? ⟨g, 8, none⟩ = some (.slice h.A5 s.tanks.length h.c5) := HS6.out.sh.bk.cell 8
          have e9 : w6.cell? ⟨g, 9, none⟩ = some (.int .i64 s.m0) := HS6.out.sh.bk.cell 9
          have e10 : w6.cell? ⟨g, 10, none⟩ = some (.int .i64 s.m1) := HS6.out.sh.bk.cell 10
          have e11 : w6.cell? ⟨g, 11, none⟩ = some (.int .i64 s.m2) := HS6.out.sh.bk.cell 11
          have e12 : w6.cell? ⟨g, 12, none⟩ = some (.int .i64 s.m3) := HS6.out.sh.bk.cell 12
          have HLE := HLEN.out size
          have HSO := Lib.hid (fun i (h0 : 0 < i) (hi : i < (allF s size).length) => sorted_at h0 hi)
          have HRI : Hid (∀ y ∈ allF s size, slotRight s y size = true) := Lib.hid fun y hy => right_mem.2 hy
          have HAN := Lib.hid (any_right s size ⟨xc, xt, xh⟩)
          have KA := Lib.hid (KALL.out size w6 BV6)
          clear hyy hy haty hRy hkx hx1 hc' hg6
          generalize allF s size = L at *
          go_wp2_with fail
          refine KA.out.mono ?_
          rintro e w7 ⟨v, rfl, hv, hb7⟩
          obtain ⟨A', c7, rfl, _, _, hsl⟩ := hv.sl
          have hrg7 := hrg6.kept (below_grown hb7) (by simp) (by simp)
          have hV7 : gm ≤ w7.heap.size := Nat.le_trans hV6 hb7.size
          have BV7 : Hid (Below gm V w7) := Lib.hid (BV6.trans (hb7.mono hV6))
          have HS7 := Lib.hid (HS6.out.on hb7)
          have HSL := Lib.hid hsl
          clear hv hb7 hsl e0 e1 e2 e3 e4 e5 e6 e7 e8 e9 e10 e11 e12 KA HS6 BV6 hen hrg6
          have HRG := Lib.hid hrg7
          clear hrg7
          go_wp2_with fail
          go_loopw [14, 52] (fun nd j wr => ∃ i : Nat, i ≤ L.length ∧ j = .int .i64 i ∧ nd = .bool ((L.take i).any fun y => sltEq y ⟨xc, xt, xh⟩) ∧ Hid (Below w7.heap.size w7 wr)) (fun _ j _ => L.length - (intOf j).toNat)
          case atStart => exact ⟨0, Nat.zero_le _, rfl, rfl, Lib.hid (Below.refl _ _)⟩
          case round =>
            obtain ⟨i, hi, rfl, rfl, BI⟩ := hrel
            obtain ⟨VI, rfl⟩ : ∃ V, V = wr := ⟨_, rfl⟩
            by_cases hil : i < L.length
            · have ET := Lib.hid (any_take (fun y => sltEq y ⟨xc, xt, xh⟩) hil default)
              obtain ⟨b, off, rfl, hbb, c0, c1, c2⟩ := (HSL.out.below BI.out).slt hil
              have hbb : b < w7.heap.size := hbb
              have hri := HRI.out _ (getD_memD hil default)
              have KRy0 := Lib.hid (KR.out (L.getD i default) size)
              rw [hri] at KRy0
              have HEQ0 := Lib.hid (fun W => run_eql_slt (L.getD i default) ⟨xc, xt, xh⟩ W)
              generalize (L.take i).any (fun y => sltEq y ⟨xc, xt, xh⟩) = r0 at *
              generalize hyd : L.getD i default = y at *
              obtain ⟨yc, yt, yh⟩ := y
              generalize sltEq ⟨yc, yt, yh⟩ ⟨xc, xt, xh⟩ = q at *
              simp only at c0 c1 c2
              have HEQ : Hid (∀ W : World, (binOp .eql 34 (.agg #[.int .i64 yc, .int .i64 yt, .int .u8 (yh : Nat)]) (.agg #[.int .i64 xc, .int .i64 xt, .int .u8 (xh : Nat)])).run Tryd.prog W = .ok (.bool q) W) := Lib.hid HEQ0.out
              have hi0 : (0 : Int) ≤ (i : Int) := by omega
              have hi1 : (i : Int) < (L.length : Int) := by omega
              clear hri HEQ0
              go_upto_region 18 with fail
              have HY := Lib.hid (Bk.new VI 34 #[.int .i64 yc, .int .i64 yt, .int .u8 (yh : Nat)])
              have BU := Lib.hid (BI.out.trans ((ba1 VI (.cells #[.int .i64 yc, .int .i64 yt, .int .u8 (yh : Nat)] 34)).mono BI.out.size))
              clear c0 c1 c2
              generalize VI.heap.size = gy at *
              generalize (VI.alloc _) = U at *
              have HSU := Lib.hid (HS7.out.on BU.out)
              have hVU : gm ≤ U.heap.size := Nat.le_trans hV7 BU.out.size
              have BVU : Hid (Below gm V U) := Lib.hid (BV7.out.trans (BU.out.mono hV7))
              have KRy : Hid (∀ V' : World, Below U.heap.size U V' → Calls Tryd.prog 21 #[.agg #[.slice h.A1 s.cols.length h.c1, .slice h.A2 s.covs.length h.c2, .int .i64 s.l0, .int .i64 s.l1, .int .i64 s.l2, .int .i64 s.l3, .slice h.A3 s.rows.length h.c3, .slice h.A4 s.frames.length h.c4, .slice h.A5 s.tanks.length h.c5, .int .i64 s.m0, .int .i64 s.m1, .int .i64 s.m2, .int .i64 s.m3], .agg #[.int .i64 yc, .int .i64 yt, .int .u8 (yh : Nat)], .int .u8 (size : Nat)] V' (Ret V' (.bool true))) := Lib.hid fun V' hV => KRy0.out V' (BVU.out.trans (hV.mono hVU))
              have y0 : ∀ p : Gr U, p.W.cell? ⟨gy, 0, none⟩ = some (.int .i64 yc) := Gr.cell (HY.out.cell 0)
              have y1 : ∀ p : Gr U, p.W.cell? ⟨gy, 1, none⟩ = some (.int .i64 yt) := Gr.cell (HY.out.cell 1)
              have y2 : ∀ p : Gr U, p.W.cell? ⟨gy, 2, none⟩ = some (.int .u8 (yh : Nat)) := Gr.cell (HY.out.cell 2)
              have e0 : ∀ p : Gr U, p.W.cell? ⟨g, 0, none⟩ = some (.slice h.A1 s.cols.length h.c1) := Gr.cell (HSU.out.sh.bk.cell 0)
              have e1 : ∀ p : Gr U, p.W.cell? ⟨g, 1, none⟩ = some (.slice h.A2 s.covs.length h.c2) := Gr.cell (HSU.out.sh.bk.cell 1)
              have e2 : ∀ p : Gr U, p.W.cell? ⟨g, 2, none⟩ = some (.int .i64 s.l0) := Gr.cell (HSU.out.sh.bk.cell 2)
              have e3 : ∀ p : Gr U, p.W.cell? ⟨g, 3, none⟩ = some (.int .i64 s.l1) := Gr.cell (HSU.out.sh.bk.cell 3)
              have e4 : ∀ p : Gr U, p.W.cell? ⟨g, 4, none⟩ = some (.int .i64 s.l2) := Gr.cell (HSU.out.sh.bk.cell 4)
              have e5 : ∀ p : Gr U, p.W.cell? ⟨g, 5, none⟩ = some (.int .i64 s.l3) := Gr.cell (HSU.out.sh.bk.cell 5)
              have e6 : ∀ p : Gr U, p.W.cell? ⟨g, 6, none⟩ = some (.slice h.A3 s.rows.length h.c3) := Gr.cell (HSU.out.sh.bk.cell 6)
              have e7 : ∀ p : Gr U, p.W.cell? ⟨g, 7, none⟩ = some (.slice h.A4 s.frames.length h.c4) := Gr.cell (HSU.out.sh.bk.cell 7)
              have e8 : ∀ p : Gr U, p.W.cell? ⟨g, 8, none⟩ = some (.slice h.A5 s.tanks.length h.c5) := Gr.cell (HSU.out.sh.bk.cell 8)
              have e9 : ∀ p : Gr U, p.W.cell? ⟨g, 9, none⟩ = some (.int .i64 s.m0) := Gr.cell (HSU.out.sh.bk.cell 9)
              have e10 : ∀ p : Gr U, p.W.cell? ⟨g, 10, none⟩ = some (.int .i64 s.m1) := Gr.cell (HSU.out.sh.bk.cell 10)
              have e11 : ∀ p : Gr U, p.W.cell? ⟨g, 11, none⟩ = some (.int .i64 s.m2) := Gr.cell (HSU.out.sh.bk.cell 11)
              have e12 : ∀ p : Gr U, p.W.cell? ⟨g, 12, none⟩ = some (.int .i64 s.m3) := Gr.cell (HSU.out.sh.bk.cell 12)
              clear KRy0 HSU BVU
              by_cases hi00 : i = 0
              · subst hi00
                refine wp_region_gr (by kernel_rfl) (by kernel_rfl) ?_
                repeat (go_big_quiet_step (((first | (with_reducible exact Gr.call _ (fun V' hV => KRy.out V' hV)) | (with_reducible exact Gr.call _ (fun V' _ => KC.out V'))))))
                refine wpQuiet_nil ?_
                rintro Y ⟨⟨_, hbY⟩, rfl⟩
                clear e0 e1 e2 e3 e4 e5 e6 e7 e8 e9 e10 e11 e12 y0 y1 y2
                have HYY := Lib.hid (HY.out.below hbY HY.out.lt)
                have BY := Lib.hid (BU.out.trans (hbY.mono BU.out.size))
                have HSY := Lib.hid (HS7.out.on BY.out)
                clear hbY
                have y0 : Y.cell? ⟨gy, 0, none⟩ = some (.int .i64 yc) := HYY.out.cell 0
                have y1 : Y.cell? ⟨gy, 1, none⟩ = some (.int .i64 yt) := HYY.out.cell 1
                have y2 : Y.cell? ⟨gy, 2, none⟩ = some (.int .u8 (yh : Nat)) := HYY.out.cell 2
                have x0 : Y.cell? ⟨w.heap.size, 0, none⟩ = some (.int .i64 xc) := HSY.out.x.cell 0
                have x1 : Y.cell? ⟨w.heap.size, 1, none⟩ = some (.int .i64 xt) := HSY.out.x.cell 1
                have x2 : Y.cell? ⟨w.heap.size, 2, none⟩ = some (.int .u8 (xh : Nat)) := HSY.out.x.cell 2
                have HE : ∀ W : World, (binOp .eql 34 (.agg #[.int .i64 yc, .int .i64 yt, .int .u8 (yh : Nat)]) (.agg #[.int .i64 xc, .int .i64 xt, .int .u8 (xh : Nat)])).run Tryd.prog W = .ok (.bool q) W := HEQ.out
                cases r0 with
                | true =>
                  go_wp2
                  go_roundw
                  case rel => exact ⟨0 + 1, by omega, by go_num, by rw [ET.out]; rfl, BY⟩
                  case measure => simp [intOf]; omega
                | false =>
                  go_wp2
                  go_roundw
                  case rel => exact ⟨0 + 1, by omega, by go_num, by rw [ET.out]; rfl, BY⟩
                  case measure => simp [intOf]; omega
              · have hso := HSO.out i (by omega) hil
                rw [hyd] at hso
                obtain ⟨b', off', hA2, _, z0, z1, z2⟩ := (HSL.out.below BU.out).slt (show i - 1 < L.length by omega)
                obtain ⟨rfl, rfl⟩ : b = b' ∧ off = off' := by simpa using hA2
                generalize L.getD (i - 1) default = z at *
                obtain ⟨zc, zt, zh⟩ := z
                simp only at z0 z1 z2
                have KC : Hid (∀ V' : World, Calls Tryd.prog 22 #[.agg #[.int .i64 zc, .int .i64 zt, .int .u8 (zh : Nat)], .agg #[.int .i64 yc, .int .i64 yt, .int .u8 (yh : Nat)]] V' (Ret V' (.int .i64 (-1)))) := Lib.hid fun V' => by rw [← hso]; exact compare_any ⟨zc, zt, zh⟩ ⟨yc, yt, yh⟩ V'
                have v0 : ∀ p : Gr U, p.W.cell? ⟨b, off + (i - 1) * 3, none⟩ = some (.int .i64 zc) := Gr.cell z0
                have v1 : ∀ p : Gr U, p.W.cell? ⟨b, off + (i - 1) * 3 + 1, none⟩ = some (.int .i64 zt) := Gr.cell z1
                have v2 : ∀ p : Gr U, p.W.cell? ⟨b, off + (i - 1) * 3 + 2, none⟩ = some (.int .u8 (zh : Nat)) := Gr.cell z2
                have dp : decide ((0 : Int) < (i : Int)) = true := by simp; omega
                have dp2 : decide (0 < i) = true := by simp; omega
                have dp3 : 0 < i := by omega
                have j0 : (0 : Int) ≤ (i : Int) - 1 := by omega
                have j1 : (i : Int) - 1 < (L.length : Int) := by omega
                clear hso hA2 z0 z1 z2
                refine wp_region_gr (by kernel_rfl) (by kernel_rfl) ?_
                repeat (go_big_quiet_step (((first | (with_reducible exact Gr.call _ (fun V' hV => KRy.out V' hV)) | (with_reducible exact Gr.call _ (fun V' _ => KC.out V'))))))
                refine wpQuiet_nil ?_
                rintro Y ⟨⟨_, hbY⟩, rfl⟩
                clear e0 e1 e2 e3 e4 e5 e6 e7 e8 e9 e10 e11 e12 y0 y1 y2
                have HYY := Lib.hid (HY.out.below hbY HY.out.lt)
                have BY := Lib.hid (BU.out.trans (hbY.mono BU.out.size))
                have HSY := Lib.hid (HS7.out.on BY.out)
                clear hbY
                have y0 : Y.cell? ⟨gy, 0, none⟩ = some (.int .i64 yc) := HYY.out.cell 0
                have y1 : Y.cell? ⟨gy, 1, none⟩ = some (.int .i64 yt) := HYY.out.cell 1
                have y2 : Y.cell? ⟨gy, 2, none⟩ = some (.int .u8 (yh : Nat)) := HYY.out.cell 2
                have x0 : Y.cell? ⟨w.heap.size, 0, none⟩ = some (.int .i64 xc) := HSY.out.x.cell 0
                have x1 : Y.cell? ⟨w.heap.size, 1, none⟩ = some (.int .i64 xt) := HSY.out.x.cell 1
                have x2 : Y.cell? ⟨w.heap.size, 2, none⟩ = some (.int .u8 (xh : Nat)) := HSY.out.x.cell 2
                have HE : ∀ W : World, (binOp .eql 34 (.agg #[.int .i64 yc, .int .i64 yt, .int .u8 (yh : Nat)]) (.agg #[.int .i64 xc, .int .i64 xt, .int .u8 (xh : Nat)])).run Tryd.prog W = .ok (.bool q) W := HEQ.out
                cases r0 with
                | true =>
                  go_wp2
                  go_roundw
                  case rel => exact ⟨i + 1, by omega, by go_num, by rw [ET.out]; rfl, BY⟩
                  case measure => simp [intOf]; omega
                | false =>
                  go_wp2
                  go_roundw
                  case rel => exact ⟨i + 1, by omega, by go_num, by rw [ET.out]; rfl, BY⟩
                  case measure => simp [intOf]; omega
            · obtain rfl : i = L.length := by omega
              rw [List.take_length, HAN.out]
              have HSI := Lib.hid (HS7.out.on BI.out)
              have BVI : Hid (Below gm V VI) := Lib.hid (BV7.out.trans (BI.out.mono hV7))
              have hVI : gm ≤ VI.heap.size := Nat.le_trans hV7 BI.out.size
              have hrgI := HRG.out.kept (below_grown BI.out) (by simp) (by simp)
              have HRX := Lib.hid (KR.out ⟨xc, xt, xh⟩ size VI BVI.out)
              unfold sltL at HRX
              simp only at HRX
              generalize slotRight s ⟨xc, xt, xh⟩ size = q at *
              have e0 : VI.cell? ⟨g, 0, none⟩ = some (.slice h.A1 s.cols.length h.c1) := HSI.out.sh.bk.cell 0
              have e1 : VI.cell? ⟨g, 1, none⟩ = some (.slice h.A2 s.covs.length h.c2) := HSI.out.sh.bk.cell 1
              have e2 : VI.cell? ⟨g, 2, none⟩ = some (.int .i64 s.l0) := HSI.out.sh.bk.cell 2
              have e3 : VI.cell? ⟨g, 3, none⟩ = some (.int .i64 s.l1) := HSI.out.sh.bk.cell 3
              have e4 : VI.cell? ⟨g, 4, none⟩ = some (.int .i64 s.l2) := HSI.out.sh.bk.cell 4
              have e5 : VI.cell? ⟨g, 5, none⟩ = some (.int .i64 s.l3) := HSI.out.sh.bk.cell 5
              have e6 : VI.cell? ⟨g, 6, none⟩ = some (.slice h.A3 s.rows.length h.c3) := HSI.out.sh.bk.cell 6
              have e7 : VI.cell? ⟨g, 7, none⟩ = some (.slice h.A4 s.frames.length h.c4) := HSI.out.sh.bk.cell 7
              have e8 : VI.cell? ⟨g, 8, none⟩ = some (.slice h.A5 s.tanks.length h.c5) := HSI.out.sh.bk.cell 8
              have e9 : VI.cell? ⟨g, 9, none⟩ = some (.int .i64 s.m0) := HSI.out.sh.bk.cell 9
              have e10 : VI.cell? ⟨g, 10, none⟩ = some (.int .i64 s.m1) := HSI.out.sh.bk.cell 10
              have e11 : VI.cell? ⟨g, 11, none⟩ = some (.int .i64 s.m2) := HSI.out.sh.bk.cell 11
              have e12 : VI.cell? ⟨g, 12, none⟩ = some (.int .i64 s.m3) := HSI.out.sh.bk.cell 12
              have x0 : VI.cell? ⟨w.heap.size, 0, none⟩ = some (.int .i64 xc) := HSI.out.x.cell 0
              have x1 : VI.cell? ⟨w.heap.size, 1, none⟩ = some (.int .i64 xt) := HSI.out.x.cell 1
              have x2 : VI.cell? ⟨w.heap.size, 2, none⟩ = some (.int .u8 (xh : Nat)) := HSI.out.x.cell 2
              have HRGI := Lib.hid hrgI
              clear hrgI
              go_wp2_with fail
              refine HRX.out.mono ?_
              rintro e w8 ⟨rfl, hb8⟩
              have hrg8 := HRGI.out.kept (below_grown hb8) (by simp) (by simp)
              have B8 : Hid (Below gm V w8) := Lib.hid (BVI.out.trans (hb8.mono hVI))
              clear hb8 e0 e1 e2 e3 e4 e5 e6 e7 e8 e9 e10 e11 e12 x0 x1 x2
              have HRG8 := Lib.hid hrg8
              clear hrg8
              cases q with
              | true =>
                go_wp2
                go_roundw
                case rel => exact ⟨_, cnt6, HRG8.out, B8⟩
                case measure => rw [HRG8.out.left_eq, hrg.left_eq]; exact hlt6
              | false =>
                go_wp2
                go_roundw
                case rel => exact ⟨_, cnt6, HRG8.out, B8⟩
                case measure => rw [HRG8.out.left_eq, hrg.left_eq]; exact hlt6
end Go.Proofs.YtggebllkkiennaaDoor
