/-
  The walk of the statement SlotHeld.
-/
import Derived.Test.YtggebllkkiennaaDoorSlHl
import Derived.IntWalk
namespace Go.Proofs.YtggebllkkiennaaDoor
open Go.RowKit

set_option maxRecDepth 100000 in
set_option maxHeartbeats 20000000 in
theorem slotHeld_any (n : Nat) (A : Option Addr) (c : Nat) (l : List Nat) (more : Nat) (w : World) (hn : n < 65536) (hs : SlT tU8 w (Lt w.heap.size) A l) (hl : ∀ x ∈ l, x < 256) (hlen : l.length ≤ 1048576) (hm : more < 256) (hq : QuarOK w) :
    Calls Tryd.prog 6 #[.int .u16 (n : Nat), .slice A l.length c, .int .u8 (more : Nat)] w (TrueRet w) := by
  have HQ := Lib.hid hq
  have HS := Lib.hid hs
  have HL := Lib.hid hl
  clear hq hs hl
  have KF : Hid (∀ (m : Nat) (V : World), m < 1000000 → Calls Tryd.prog 23 #[.int .i64 (m : Nat)] V (Ret V (.agg (sltL (few8 m)).toArray))) := Lib.hid fun m V h => heldFew m V h
  go_enter Tryd.func6, Tryd.ntmps6
  go_wp2_with fail
  refine (KF.out n _ (by omega)).mono ?_
  rintro e w1 ⟨rfl, hb⟩
  obtain ⟨x, hx⟩ : ∃ x, few8 n = x := ⟨_, rfl⟩
  have hx0 : 0 ≤ x.tier ∧ x.tier ≤ 3 := by rw [← hx]; simp only [few8]; omega
  rw [hx]
  clear hx hn
  have hk := Bk.new w1 34 (sltL x).toArray
  have hb0 := hb.trans ((ba1 w1 (.cells (sltL x).toArray 34)).mono hb.size)
  clear hb
  have HLO := Lib.hid (held_low x)
  have HNA := Lib.hid (need8_all x)
  obtain ⟨xc, xt, xh⟩ := x
  unfold sltL at hk hb0 ⊢
  simp only at hk hb0 hx0 ⊢
  go_upto_region 3 with fail
  generalize w1.heap.size = gx at *
  generalize (w1.alloc _) = W0 at *
  clear w1
  have HX := Lib.hid hk
  have HB0 := Lib.hid hb0
  have H0 := Lib.hid (H3.start W0)
  clear hk hb0
  go_wp2_with fail
  go_loopw [9, 10, 11, 26] (fun va vb vc i wr => ∃ k : Nat, k ≤ l.length ∧ i = .int .i64 k ∧ Hid (H3 W0 wr va vb vc (all8 l k) (back8 l k) (under8 ⟨xc, xt, xh⟩ l k))) (fun _ _ _ i _ => l.length - (intOf i).toNat)
  case atStart => exact ⟨0, Nat.zero_le _, rfl, H0⟩
  case round =>
    clear H0
    obtain ⟨k, hk, rfl, H⟩ := hrel
    obtain ⟨V, rfl⟩ : ∃ V, V = wr := ⟨_, rfl⟩
    by_cases hlt : k < l.length
    · have hlt2 : l.length - 1 - k < l.length := by omega
      have hbV := HB0.out.trans (H.out.be.mono HB0.out.size)
      obtain ⟨b, off, rfl, hbw, cA⟩ := (HS.out.below hbV).u8 hlt
      obtain ⟨b', off', hA', _, cB⟩ := (HS.out.below hbV).u8 hlt2
      obtain ⟨rfl, rfl⟩ : b = b' ∧ off = off' := by simpa using hA'
      have hbw : b < w.heap.size := hbw
      have m1 := HL.out _ (getD_memD hlt 0)
      have m2 := HL.out _ (getD_memD hlt2 0)
      have e1 := all8_succ hlt
      have e2 := back8_succ l k
      have e3 := under8_succ (x := ⟨xc, xt, xh⟩) hlt
      have n1 := all8_len l k
      have n2 := back8_len l k
      have n3 := under8_len ⟨xc, xt, xh⟩ l k
      generalize l.getD k 0 = p1 at *
      generalize l.getD (l.length - 1 - k) 0 = p2 at *
      have K1 := Lib.hid (fun V => KF.out p1 V (by omega))
      have K2 := Lib.hid (fun V => KF.out p2 V (by omega))
      generalize few8 p1 = y at *
      generalize few8 p2 = z at *
      have E1 := Lib.hid e1
      have E2 := Lib.hid e2
      have E3 := Lib.hid e3
      generalize all8 l k = la at *
      generalize back8 l k = lb at *
      generalize under8 ⟨xc, xt, xh⟩ l k = lc at *
      have n2' : lb.length ≤ 1048576 := by omega
      have hk0 : (0 : Int) ≤ (k : Int) := by omega
      have hk1 : (k : Int) < (l.length : Int) := by omega
      obtain ⟨yc, yt, yh⟩ := y
      obtain ⟨zc, zt, zh⟩ := z
      have HOV := Lib.hid (fun V => over_any ⟨xc, xt, xh⟩ ⟨yc, yt, yh⟩ V)
      have HBE : Hid (below8 ⟨xc, xt, xh⟩ ⟨yc, yt, yh⟩ = (overB ⟨xc, xt, xh⟩ ⟨yc, yt, yh⟩ && (yt == xt - 1))) := Lib.hid rfl
      generalize overB ⟨xc, xt, xh⟩ ⟨yc, yt, yh⟩ = ov at *
      generalize below8 ⟨xc, xt, xh⟩ ⟨yc, yt, yh⟩ = bl at *
      unfold sltL at K1 K2 HOV
      simp only at K1 K2 HOV
      clear e1 e2 e3 n2 hA' hbV
      go_wp2_with fail
      refine (K1.out _).mono ?_
      rintro e w1 ⟨rfl, hb⟩
      replace H := Lib.hid (H.out.on hb)
      have cB1 : w1.cell? ⟨b, off + (l.length - 1 - k), none⟩ = some (.int .u8 (p2 : Nat)) := (hb.cell (p := ⟨b, off + (l.length - 1 - k), none⟩) (block_lt_of_cell cB)).trans cB
      clear hb K1 cA cB
      have NA : Hid (∀ g, u9.ownBlock = some g → g < w1.heap.size) := Lib.hid fun g hg => (H.out.a.lt g hg).2
      have NB : Hid (∀ g, u10.ownBlock = some g → g < w1.heap.size) := Lib.hid fun g hg => (H.out.b.lt g hg).2
      have hkY := Bk.new w1 34 #[.int .i64 yc, .int .i64 yt, .int .u8 (yh : Nat)]
      have hbY := ba1 w1 (.cells #[.int .i64 yc, .int .i64 yt, .int .u8 (yh : Nat)] 34)
      replace H := Lib.hid (H.out.on hbY)
      have cB := (hbY.cell (p := ⟨b, off + (l.length - 1 - k), none⟩) (block_lt_of_cell cB1)).trans cB1
      clear hbY cB1
      go_upto_region 8 with fail
      generalize hgy : w1.heap.size = gy at *
      generalize (w1.alloc _) = V1 at *
      clear hgy w1
      have HY := Lib.hid hkY
      have y0 : V1.cell? ⟨gy, 0, none⟩ = some (.int .i64 yc) := HY.out.cell 0
      have y1 : V1.cell? ⟨gy, 1, none⟩ = some (.int .i64 yt) := HY.out.cell 1
      have y2 : V1.cell? ⟨gy, 2, none⟩ = some (.int .u8 (yh : Nat)) := HY.out.cell 2
      have ly := HY.out.lt
      have hbs := H.out.be.size
      clear hkY
      go_wp2_with (at_builtin; (refine wpList_append1 el_slt rfl (.tmp 36) (.tmp 38) rfl W0.heap.size _ la.length (la.flatMap sltL) rfl H.out.a #[.int .i64 yc, .int .i64 yt, .int .u8 (yh : Nat)] _ rfl rfl rfl ?c1 ?c2 ?c3 ?_))
      case c1 => unfold maxLen; omega
      case c2 => omega
      case c3 => omega
      intro va V2 hown hgr hd hbel
      have hbW := HB0.out.size
      replace H := Lib.hid (H.out.add ⟨yc, yt, yh⟩ hown hgr hd hbel)
      replace HY := Lib.hid (HY.out.grown hgr (by intro e; have := NA.out _ e.symm; omega))
      replace cB := (hbel.cell (p := ⟨b, off + (l.length - 1 - k), none⟩) (show b < W0.heap.size by omega)).trans cB
      clear hown hgr hd hbel y0 y1 y2 ly hbs NA
      go_wp2_with fail
      refine (K2.out _).mono ?_
      rintro e w3 ⟨rfl, hb⟩
      replace H := Lib.hid (H.out.on hb)
      replace HY := Lib.hid (HY.out.below hb HY.out.lt)
      clear hb K2 cB
      have hbs := H.out.be.size
      go_wp2_with (at_builtin; (refine wpList_append1 el_slt rfl (.tmp 40) (.tmp 52) rfl W0.heap.size _ lb.length (lb.flatMap sltL) rfl H.out.b #[.int .i64 zc, .int .i64 zt, .int .u8 (zh : Nat)] _ rfl rfl rfl ?d1 ?d2 ?d3 ?_))
      case d1 => unfold maxLen; omega
      case d2 => omega
      case d3 => omega
      intro vb V4 hown hgr hd hbel
      replace H := Lib.hid (H.out.rot.add ⟨zc, zt, zh⟩ hown hgr hd hbel).rot.rot
      replace HY := Lib.hid (HY.out.grown hgr (by intro e; have := NB.out _ e.symm; omega))
      clear hown hgr hd hbel hbs NB
      have y0 : V4.cell? ⟨gy, 0, none⟩ = some (.int .i64 yc) := HY.out.cell 0
      have y1 : V4.cell? ⟨gy, 1, none⟩ = some (.int .i64 yt) := HY.out.cell 1
      have y2 : V4.cell? ⟨gy, 2, none⟩ = some (.int .u8 (yh : Nat)) := HY.out.cell 2
      have HX4 := Lib.hid (HX.out.below H.out.be HX.out.lt)
      have x0 : V4.cell? ⟨gx, 0, none⟩ = some (.int .i64 xc) := HX4.out.cell 0
      have x1 : V4.cell? ⟨gx, 1, none⟩ = some (.int .i64 xt) := HX4.out.cell 1
      have x2 : V4.cell? ⟨gx, 2, none⟩ = some (.int .u8 (xh : Nat)) := HX4.out.cell 2
      go_wp2_with fail
      refine (HOV.out _).mono ?_
      rintro e V5 ⟨rfl, hb⟩
      replace H := Lib.hid (H.out.on hb)
      replace HY := Lib.hid (HY.out.below hb HY.out.lt)
      clear hb HOV HX4 x0 x1 x2 y0 y1 y2
      cases ov with
      | false =>
        have hbl := HBE.out
        rw [Bool.false_and] at hbl
        subst hbl
        have hbl : (false : Bool) = false := rfl
        clear HBE
        go_wp2
        go_roundw
        case rel => exact ⟨k + 1, by omega, by go_num, Lib.hid (by rw [E1.out, E2.out, E3.out]; simpa using H.out)⟩
        case measure => simp [intOf]; omega
      | true =>
        have y0 : V5.cell? ⟨gy, 0, none⟩ = some (.int .i64 yc) := HY.out.cell 0
        have y1 : V5.cell? ⟨gy, 1, none⟩ = some (.int .i64 yt) := HY.out.cell 1
        have y2 : V5.cell? ⟨gy, 2, none⟩ = some (.int .u8 (yh : Nat)) := HY.out.cell 2
        have HX5 := Lib.hid (HX.out.below H.out.be HX.out.lt)
        have x1 : V5.cell? ⟨gx, 1, none⟩ = some (.int .i64 xt) := HX5.out.cell 1
        have hbl := HBE.out
        rw [Bool.true_and] at hbl
        clear HBE
        cases hv : (yt == xt - 1) with
        | false =>
          rw [hv] at hbl
          subst hbl
          go_wp2
          go_roundw
          case rel => exact ⟨k + 1, by omega, by go_num, Lib.hid (by rw [E1.out, E2.out, E3.out]; simpa using H.out)⟩
          case measure => simp [intOf]; omega
        | true =>
          rw [hv] at hbl
          subst hbl
          have hbs := H.out.be.size
          go_wp2_with (at_builtin; (refine wpList_append1 el_slt rfl (.tmp 65) (.tmp 67) rfl W0.heap.size _ lc.length (lc.flatMap sltL) rfl H.out.c #[.int .i64 yc, .int .i64 yt, .int .u8 (yh : Nat)] _ rfl rfl rfl ?f1 ?f2 ?f3 ?_))
          case f1 => unfold maxLen; omega
          case f2 => omega
          case f3 => omega
          intro vc V6 hown hgr hd hbel
          replace H := Lib.hid (H.out.rot.rot.add ⟨yc, yt, yh⟩ hown hgr hd hbel).rot
          clear hown hgr hd hbel
          go_wp2
          go_roundw
          case rel => exact ⟨k + 1, by omega, by go_num, Lib.hid (by rw [E1.out, E2.out, E3.out]; simpa using H.out)⟩
          case measure => simp [intOf]; omega
    · obtain rfl : k = l.length := by omega
      have HQV : Hid (Below w.heap.size w V) := Lib.hid (HB0.out.trans (H.out.be.mono HB0.out.size))
      have q2 : heldB ⟨xc, xt, xh⟩ (back8 l l.length) = heldB ⟨xc, xt, xh⟩ (all8 l l.length) := by rw [back8_rev, held_reverse]
      have q3 : heldB ⟨xc, xt, xh⟩ (under8 ⟨xc, xt, xh⟩ l l.length) = heldB ⟨xc, xt, xh⟩ (all8 l l.length) := held_under _ _
      have q4 : 0 < xt → need8 ⟨xc, xt, xh⟩ (under8 ⟨xc, xt, xh⟩ l l.length) (under8 ⟨xc, xt, xh⟩ l l.length).length = heldB ⟨xc, xt, xh⟩ (all8 l l.length) := fun h => (HNA.out (all8 l l.length) h).trans (held_under _ _)
      have q5 : xt = 0 → heldB ⟨xc, xt, xh⟩ (all8 l l.length) = true := HLO.out _
      have q6 : heldB ⟨xc, xt, xh⟩ (all8 l l.length) = true → heldB ⟨xc, xt, xh⟩ (all8 l l.length ++ [few8 more]) = true := held_more _ _ _
      have n1 := all8_len l l.length
      have n2 := back8_len l l.length
      have n3 := under8_len ⟨xc, xt, xh⟩ l l.length
      clear HLO HNA HL HS
      generalize all8 l l.length = L1 at *
      generalize back8 l l.length = L2 at *
      generalize under8 ⟨xc, xt, xh⟩ l l.length = L3 at *
      have b1 : L1.length ≤ 1048576 := by omega
      have b2 : L2.length ≤ 1048576 := by omega
      have b3 : L3.length ≤ 1048576 := by omega
      clear n1 n2 n3
      obtain ⟨A1, c1, h1, hc1, s1⟩ := H.out.slA
      obtain ⟨A2, c2, h2, hc2, s2⟩ := H.out.rot.slA
      obtain ⟨A3, c3, h3, hc3, s3⟩ := H.out.rot.rot.slA
      subst h1 h2 h3
      have HM : Hid (∀ V : World, Calls Tryd.prog 23 #[.int .i64 (more : Nat)] V (Ret V (.agg (sltL (few8 more)).toArray))) := Lib.hid fun V => KF.out more V (by omega)
      have K1 : Hid (∀ V' : World, Below V.heap.size V V' → Calls Tryd.prog 25 #[.agg #[.int .i64 xc, .int .i64 xt, .int .u8 (xh : Nat)], .slice A1 L1.length c1] V' (Ret V' (.bool (heldB ⟨xc, xt, xh⟩ L1)))) := Lib.hid fun V' hV => held_any ⟨xc, xt, xh⟩ A1 c1 L1 V' (s1.on hV) (by omega) (by show xt ≤ _; omega)
      have K2 : Hid (∀ V' : World, Below V.heap.size V V' → Calls Tryd.prog 25 #[.agg #[.int .i64 xc, .int .i64 xt, .int .u8 (xh : Nat)], .slice A2 L2.length c2] V' (Ret V' (.bool (heldB ⟨xc, xt, xh⟩ L1)))) := Lib.hid fun V' hV => by rw [← q2]; exact held_any ⟨xc, xt, xh⟩ A2 c2 L2 V' (s2.on hV) (by omega) (by show xt ≤ _; omega)
      have K3 : Hid (∀ V' : World, Below V.heap.size V V' → Calls Tryd.prog 25 #[.agg #[.int .i64 xc, .int .i64 xt, .int .u8 (xh : Nat)], .slice A3 L3.length c3] V' (Ret V' (.bool (heldB ⟨xc, xt, xh⟩ L1)))) := Lib.hid fun V' hV => by rw [← q3]; exact held_any ⟨xc, xt, xh⟩ A3 c3 L3 V' (s3.on hV) (by omega) (by show xt ≤ _; omega)
      clear KF q2 q3 s1 s2
      generalize few8 more = m at *
      have Q4 := Lib.hid q4
      have Q5 := Lib.hid q5
      have Q6 := Lib.hid q6
      have S3 := Lib.hid s3
      clear q4 q5 q6 s3
      generalize heldB ⟨xc, xt, xh⟩ L1 = hd at *
      have HXV := Lib.hid (HX.out.below H.out.be HX.out.lt)
      have x0 : V.cell? ⟨gx, 0, none⟩ = some (.int .i64 xc) := HXV.out.cell 0
      have x1 : V.cell? ⟨gx, 1, none⟩ = some (.int .i64 xt) := HXV.out.cell 1
      have x2 : V.cell? ⟨gx, 2, none⟩ = some (.int .u8 (xh : Nat)) := HXV.out.cell 2
      go_wp2_with fail
      refine (K1.out _ (Below.refl _ _)).mono ?_
      rintro e W1 ⟨rfl, hb1⟩
      have HB1 := Lib.hid hb1
      clear hb1 K1 x0 x1 x2
      go_upto_region 14 with fail
      have hgx := HX.out.lt
      go_cut [99] (fun t wx => t = .bool false ∧ Hid (SlT tSlt wx (Lt wx.heap.size) A3 L3) ∧ Hid (Bk wx gx 34 #[.int .i64 xc, .int .i64 xt, .int .u8 (xh : Nat)]) ∧ Hid (Below w.heap.size w wx))
      case first =>
        cases hd with
        | false =>
          have K2' : Hid (∀ V' : World, Below W1.heap.size W1 V' → Calls Tryd.prog 25 #[.agg #[.int .i64 xc, .int .i64 xt, .int .u8 (xh : Nat)], .slice A2 L2.length c2] V' (Ret V' (.bool false))) := Lib.hid fun V' hV => K2.out V' (HB1.out.trans (hV.mono HB1.out.size))
          have K3' : Hid (∀ V' : World, Below W1.heap.size W1 V' → Calls Tryd.prog 25 #[.agg #[.int .i64 xc, .int .i64 xt, .int .u8 (xh : Nat)], .slice A3 L3.length c3] V' (Ret V' (.bool false))) := Lib.hid fun V' hV => K3.out V' (HB1.out.trans (hV.mono HB1.out.size))
          have HX1 := Lib.hid (HXV.out.below HB1.out HXV.out.lt)
          have x0 : ∀ p : Gr W1, p.W.cell? ⟨gx, 0, none⟩ = some (.int .i64 xc) := Gr.cell (HX1.out.cell 0)
          have x1 : ∀ p : Gr W1, p.W.cell? ⟨gx, 1, none⟩ = some (.int .i64 xt) := Gr.cell (HX1.out.cell 1)
          have x2 : ∀ p : Gr W1, p.W.cell? ⟨gx, 2, none⟩ = some (.int .u8 (xh : Nat)) := Gr.cell (HX1.out.cell 2)
          clear K2 K3 HM
          refine wp_region_gr (by kernel_rfl) (by kernel_rfl) ?_
          repeat (go_big_quiet_step ((first | (with_reducible exact Gr.call _ (fun V hV => K2'.out V hV)) | (with_reducible exact Gr.call _ (fun V hV => K3'.out V hV)))))
          refine wpQuiet_nil ?_
          rintro Y ⟨⟨_, hbY⟩, rfl⟩
          have HBY := Lib.hid (HB1.out.trans (hbY.mono HB1.out.size))
          clear x0 x1 x2
          go_wp2_with fail
          go_meet
          exact ⟨rfl, Lib.hid (S3.out.on HBY.out), Lib.hid (HXV.out.below HBY.out HXV.out.lt), Lib.hid (HQV.out.trans (HBY.out.mono HQV.out.size))⟩
        | true =>
          have HX1 := Lib.hid (HXV.out.below HB1.out HXV.out.lt)
          have x0 : W1.cell? ⟨gx, 0, none⟩ = some (.int .i64 xc) := HX1.out.cell 0
          have x1 : W1.cell? ⟨gx, 1, none⟩ = some (.int .i64 xt) := HX1.out.cell 1
          have x2 : W1.cell? ⟨gx, 2, none⟩ = some (.int .u8 (xh : Nat)) := HX1.out.cell 2
          have HBV : W0.heap.size ≤ V.heap.size := H.out.be.size
          have HKX : Hid (∀ V' : World, Below W0.heap.size V V' → V'.cell? ⟨gx, 0, none⟩ = some (.int .i64 xc) ∧ V'.cell? ⟨gx, 1, none⟩ = some (.int .i64 xt) ∧ V'.cell? ⟨gx, 2, none⟩ = some (.int .u8 (xh : Nat))) := Lib.hid fun V' hv => ⟨(hv.cell (p := ⟨gx, 0, none⟩) hgx).trans (HXV.out.cell 0), (hv.cell (p := ⟨gx, 1, none⟩) hgx).trans (HXV.out.cell 1), (hv.cell (p := ⟨gx, 2, none⟩) hgx).trans (HXV.out.cell 2)⟩
          have q6 := Q6.out rfl
          have w20 : IntKind.i64.wrap (more : Int) = more := IntWalk.i64_in _ (by omega)
          obtain ⟨mc, mt, mh⟩ := m
          have Q7 := Lib.hid q6
          unfold sltL at HM
          simp only at HM
          clear q6 Q4 Q5 Q6
          have HAP : Hid (∀ (w4 : World) (v5 : Value) (w5 : World), Below V.heap.size V w4 → w5.ownsRow W0.heap.size 34 3 v5 (L1.length + 1) (L1.flatMap sltL ++ #[.int .i64 mc, .int .i64 mt, .int .u8 (mh : Nat)].toList) → (w4.alloc (.cells #[.int .i64 mc, .int .i64 mt, .int .u8 (mh : Nat)] 34)).grownBy w5 (Value.slice A1 L1.length c1).ownBlock →
              (v5.ownBlock = (Value.slice A1 L1.length c1).ownBlock ∨ ∃ g, v5.ownBlock = some g ∧ (w4.alloc (.cells #[.int .i64 mc, .int .i64 mt, .int .u8 (mh : Nat)] 34)).heap.size ≤ g) → Below W0.heap.size (w4.alloc (.cells #[.int .i64 mc, .int .i64 mt, .int .u8 (mh : Nat)] 34)) w5 →
              ∃ A5 c5, v5 = .slice A5 (L1.length + 1) c5 ∧ Below W0.heap.size V w5 ∧ (SlT tSlt w5 (Lt w5.heap.size) A3 L3 ∧ Bk w5 gx 34 #[.int .i64 xc, .int .i64 xt, .int .u8 (xh : Nat)] ∧ Below w.heap.size w w5) ∧
                Calls Tryd.prog 25 #[.agg #[.int .i64 xc, .int .i64 xt, .int .u8 (xh : Nat)], .slice A5 (L1.length + 1) c5] w5 (Ret w5 (.bool true))) := Lib.hid fun w4 v5 w5 hB ho hg hd hb => by
            have H5 := ((H.out.on hB).on (ba1 w4 _)).add ⟨mc, mt, mh⟩ ho hg hd hb
            obtain ⟨A5, c5, hv5, _, s5⟩ := H5.slA
            obtain ⟨A6, c6, hv6, _, s6⟩ := H5.rot.rot.slA
            have hA : A3 = A6 := by injection hv6
            have hle : (L1 ++ [(⟨mc, mt, mh⟩ : Slt)]).length = L1.length + 1 := by simp
            rw [hle] at hv5
            subst hA
            have hbd : Below W0.heap.size V w5 := ((hB.mono HBV).alloc (Nat.le_trans HBV hB.size) _).trans hb
            refine ⟨A5, c5, hv5, hbd, ⟨s6, HXV.out.below hbd hgx, HQV.out.trans (hbd.mono HB0.out.size)⟩, ?_⟩
            have hh := held_any ⟨xc, xt, xh⟩ A5 c5 (L1 ++ [(⟨mc, mt, mh⟩ : Slt)]) w5 s5 (by simp; omega) (by show xt ≤ _; omega)
            rw [Q7.out, hle] at hh
            exact hh
          go_region_held3 (fun V' => V'.cell? ⟨gx, 0, none⟩ = some (.int .i64 xc) ∧ V'.cell? ⟨gx, 1, none⟩ = some (.int .i64 xt) ∧ V'.cell? ⟨gx, 2, none⟩ = some (.int .u8 (xh : Nat))) ((first | go_keep | exact HKX.out _ (HBC.out.mono HBV) | exact HKX.out _ ((HBC.out.mono HBV).alloc (Nat.le_trans HBV HBC.out.size) _) | exact HKX.out _ HBD.out))
            (first
              | ((with_reducible refine (K2.out _ (Below.drew HB1.out)).mono ?_); rintro e w2 ⟨rfl, hq2⟩; have HBC := Lib.hid ((Below.drew HB1.out).trans (hq2.mono (Below.drew HB1.out).size)); clear K2)
              | ((with_reducible refine (K3.out _ HBC.out).mono ?_); rintro e w3 ⟨rfl, hq3⟩; replace HBC := Lib.hid (HBC.out.trans (hq3.mono HBC.out.size)); clear K3)
              | ((with_reducible refine (HM.out _).mono ?_); rintro e w4 ⟨rfl, hq4⟩; replace HBC := Lib.hid (HBC.out.trans (hq4.mono HBC.out.size)); clear HM)
              | (refine step_append1w el_slt (by rfl) (.tmp 89) (.tmp 94) rfl W0.heap.size (.slice A1 L1.length c1) L1.length (L1.flatMap sltL) (by simp [Act.eval]) ((H.out.on HBC.out).a.alloc _) w4.heap.size #[.int .i64 mc, .int .i64 mt, .int .u8 (mh : Nat)] 1 (by simp [Act.eval]) (Bk.new w4 _ _) rfl rfl (by unfold maxLen; omega) (by omega) (Nat.le_trans (H.out.on HBC.out).be.size (by simp)) ?_; intro v5 w5 hown5 hgr5 hd5 hbel5
                 obtain ⟨A5, c5, rfl, hbd, hr5, hk5⟩ := HAP.out w4 v5 w5 HBC.out hown5 hgr5 hd5 hbel5
                 have HBD := Lib.hid hbd
                 have HR := Lib.hid hr5
                 have K5 := Lib.hid hk5
                 clear hbd hr5 hk5 hown5 hgr5 hd5 hbel5)
              | ((with_reducible refine K5.out.mono ?_); rintro e w6 ⟨rfl, hq6⟩; replace HR := Lib.hid (And.intro (HR.out.1.on hq6) (And.intro (HR.out.2.1.below hq6 HR.out.2.1.lt) (HR.out.2.2.trans (hq6.mono HR.out.2.2.size)))); replace HBD := Lib.hid (HBD.out.trans (hq6.mono (Nat.le_trans HBV HBD.out.size))); clear K5))
          all_goals
            go_wp2_with fail
            go_meet
            exact ⟨rfl, Lib.hid HR.out.1, Lib.hid HR.out.2.1, Lib.hid HR.out.2.2⟩
      case rest =>
        obtain ⟨rfl, S4, X4, B4⟩ := hcut
        generalize wc = Y at *
        have x0 : Y.cell? ⟨gx, 0, none⟩ = some (.int .i64 xc) := X4.out.cell 0
        have x1 : Y.cell? ⟨gx, 1, none⟩ = some (.int .i64 xt) := X4.out.cell 1
        clear HM K2 K3 HXV HX H S3 Q6 HB1 HB0 HQV
        by_cases ht : xt = 0
        · obtain rfl : hd = true := Q5.out ht
          subst ht
          have HA := Lib.hid (awake08_true Y (HQ.out.below B4.out))
          go_wp2_with fail
          refine HA.out.mono ?_
          rintro e w9 ⟨rfl, hb9⟩
          go_wp2
          go_ret
          exact ⟨rfl, B4.out.trans (hb9.mono B4.out.size)⟩
        · have d0 : (xt == 0) = false := by simpa using ht
          have q4 := Q4.out (by omega)
          have Q8 := Lib.hid q4
          clear Q4 Q5 q4 ht
          go_wp2_with fail
          go_loopw [15, 109] (fun nd i wr => ∃ k : Nat, k ≤ L3.length ∧ i = .int .i64 k ∧ nd = .bool (need8 ⟨xc, xt, xh⟩ L3 k) ∧ Hid (Below Y.heap.size Y wr)) (fun _ i _ => L3.length - (intOf i).toNat)
          case atStart => exact ⟨0, Nat.zero_le _, rfl, rfl, Lib.hid (Below.refl _ _)⟩
          case round =>
            clear x0 x1
            obtain ⟨k, hk, rfl, rfl, BV⟩ := hrel
            obtain ⟨V2, rfl⟩ : ∃ V, V = wr := ⟨_, rfl⟩
            by_cases hlt : k < L3.length
            · have E := Lib.hid (need8_succ (x := ⟨xc, xt, xh⟩) hlt)
              obtain ⟨b, off, hA3, hbY, c0, c1, c2⟩ := (S4.out.below BV.out).slt hlt
              have hbY : b < Y.heap.size := hbY
              generalize need8 ⟨xc, xt, xh⟩ L3 k = r0 at *
              generalize L3.getD k default = y at *
              obtain ⟨yc, yt, yh⟩ := y
              simp only at c0 c1 c2
              have hk0 : (0 : Int) ≤ (k : Int) := by omega
              have hk1 : (k : Int) < (L3.length : Int) := by omega
              subst hA3
              go_upto_region 22 with fail
              have HY := Lib.hid (Bk.new V2 34 #[.int .i64 yc, .int .i64 yt, .int .u8 (yh : Nat)])
              have BU := Lib.hid (BV.out.trans ((ba1 V2 (.cells #[.int .i64 yc, .int .i64 yt, .int .u8 (yh : Nat)] 34)).mono BV.out.size))
              clear c0 c1 c2
              generalize V2.heap.size = gy at *
              generalize (V2.alloc _) = U at *
              go_wp2_with fail
              go_loopw [15, 115] (fun nd i wi => ∃ j : Nat, j ≤ L3.length ∧ i = .int .i64 j ∧ nd = .bool (r0 || (L3.take j).any (pairB ⟨xc, xt, xh⟩ ⟨yc, yt, yh⟩)) ∧ Hid (Below U.heap.size U wi)) (fun _ i _ => L3.length - (intOf i).toNat)
              case atStart => exact ⟨0, Nat.zero_le _, rfl, by simp, Lib.hid (Below.refl _ _)⟩
              case round =>
                obtain ⟨j, hj, rfl, rfl, BI⟩ := hrel
                obtain ⟨VI, rfl⟩ : ∃ V, V = wr := ⟨_, rfl⟩
                by_cases hjt : j < L3.length
                · have EJ := Lib.hid (any_take (pairB ⟨xc, xt, xh⟩ ⟨yc, yt, yh⟩) hjt default)
                  obtain ⟨b', off', hA3, hbU, c0, c1, c2⟩ := ((S4.out.on BU.out).below BI.out).slt hjt
                  obtain ⟨rfl, rfl⟩ : b = b' ∧ off = off' := by simpa using hA3
                  have HPB : Hid (pairB ⟨xc, xt, xh⟩ ⟨yc, yt, yh⟩ (L3.getD j default) = ((yh == xh) || ((xh == 0) && ((yh == 1) && ((L3.getD j default).half == 2))))) := Lib.hid rfl
                  generalize (L3.take j).any (pairB ⟨xc, xt, xh⟩ ⟨yc, yt, yh⟩) = r1 at *
                  generalize pairB ⟨xc, xt, xh⟩ ⟨yc, yt, yh⟩ (L3.getD j default) = pz at *
                  generalize L3.getD j default = z at *
                  obtain ⟨zc, zt, zh⟩ := z
                  simp only at c0 c1 c2
                  have HPZ := Lib.hid HPB.out
                  simp only at HPZ
                  have hj0 : (0 : Int) ≤ (j : Int) := by omega
                  have hj1 : (j : Int) < (L3.length : Int) := by omega
                  have hlU := HY.out.lt
                  have HYI := Lib.hid (HY.out.below BI.out hlU)
                  have HXI := Lib.hid ((X4.out.below BU.out X4.out.lt).below BI.out (Nat.lt_of_lt_of_le X4.out.lt BU.out.size))
                  have y2 : VI.cell? ⟨gy, 2, none⟩ = some (.int .u8 (yh : Nat)) := HYI.out.cell 2
                  have x2 : VI.cell? ⟨gx, 2, none⟩ = some (.int .u8 (xh : Nat)) := HXI.out.cell 2
                  have ly := HYI.out.lt
                  have lx := HXI.out.lt
                  have i1 := int_beq yh xh
                  have i2 : ((xh : Int) == 0) = (xh == 0) := int_beq xh 0
                  have i3 : ((yh : Int) == 1) = (yh == 1) := int_beq yh 1
                  have i4 : ((zh : Int) == 2) = (zh == 2) := int_beq zh 2
                  clear HPB hA3 HYI HXI hbU
                  generalize hr : (r0 || r1) = rr at *
                  have HRR := Lib.hid hr
                  clear hr
                  generalize (yh == xh) = t1 at *
                  generalize (xh == 0) = t2 at *
                  generalize (yh == 1) = t3 at *
                  generalize (zh == 2) = t4 at *
                  cases rr with
                  | true =>
                    clear HPZ
                    go_wp2
                    go_roundw
                    case rel => exact ⟨j + 1, by omega, by go_num, by rw [EJ.out, ← Bool.or_assoc, HRR.out]; simp, Lib.hid (BI.out.trans ((ba1 VI _).mono BI.out.size))⟩
                    case measure => simp [intOf]; omega
                  | false =>
                    cases t1 with
                    | true =>
                      have hz := Lib.hid HPZ.out
                      go_wp2
                      go_roundw
                      case rel => exact ⟨j + 1, by omega, by go_num, by rw [EJ.out, ← Bool.or_assoc, HRR.out, hz.out]; simp, Lib.hid (BI.out.trans ((ba1 VI _).mono BI.out.size))⟩
                      case measure => simp [intOf]; omega
                    | false =>
                      cases t2 with
                      | false =>
                        have hz := Lib.hid HPZ.out
                        go_wp2
                        go_roundw
                        case rel => exact ⟨j + 1, by omega, by go_num, by rw [EJ.out, ← Bool.or_assoc, HRR.out, hz.out]; simp, Lib.hid (BI.out.trans ((ba1 VI _).mono BI.out.size))⟩
                        case measure => simp [intOf]; omega
                      | true =>
                        cases t3 with
                        | false =>
                          have hz := Lib.hid HPZ.out
                          go_wp2
                          go_roundw
                          case rel => exact ⟨j + 1, by omega, by go_num, by rw [EJ.out, ← Bool.or_assoc, HRR.out, hz.out]; simp, Lib.hid (BI.out.trans ((ba1 VI _).mono BI.out.size))⟩
                          case measure => simp [intOf]; omega
                        | true =>
                          have hz := Lib.hid HPZ.out
                          go_wp2
                          go_roundw
                          case rel => exact ⟨j + 1, by omega, by go_num, by rw [EJ.out, ← Bool.or_assoc, HRR.out, hz.out]; simp, Lib.hid (BI.out.trans ((ba1 VI _).mono BI.out.size))⟩
                          case measure => simp [intOf]; omega
                · obtain rfl : j = L3.length := by omega
                  rw [List.take_length, ← E.out]
                  go_wp2
                  go_roundw
                  case rel => exact ⟨k + 1, by omega, by go_num, rfl, Lib.hid (BU.out.trans (BI.out.mono BU.out.size))⟩
                  case measure => simp [intOf]; omega
            · obtain rfl : k = L3.length := by omega
              rw [Q8.out]
              have HA := Lib.hid (awake08_true V2 (HQ.out.below (B4.out.trans (BV.out.mono B4.out.size))))
              cases hd with
              | true =>
                go_wp2_with fail
                refine HA.out.mono ?_
                rintro e w9 ⟨rfl, hb9⟩
                have HB9 := Lib.hid ((B4.out.trans (BV.out.mono B4.out.size)).trans (hb9.mono (B4.out.trans (BV.out.mono B4.out.size)).size))
                clear hb9
                go_wp2
                go_ret
                exact ⟨rfl, HB9.out⟩
              | false =>
                go_wp2_with fail
                refine HA.out.mono ?_
                rintro e w9 ⟨rfl, hb9⟩
                have HB9 := Lib.hid ((B4.out.trans (BV.out.mono B4.out.size)).trans (hb9.mono (B4.out.trans (BV.out.mono B4.out.size)).size))
                clear hb9
                go_wp2
                go_ret
                exact ⟨rfl, HB9.out⟩
end Go.Proofs.YtggebllkkiennaaDoor
