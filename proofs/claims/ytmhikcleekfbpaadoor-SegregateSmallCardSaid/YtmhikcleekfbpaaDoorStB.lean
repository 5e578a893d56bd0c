/-
  Walks of package stow: taken, Height, fits.
-/
import Derived.Test.YtmhikcleekfbpaaDoorStP
namespace Go.Proofs.YtmhikcleekfbpaaDoor
open Go.RowKit

set_option maxRecDepth 100000 in
set_option maxHeartbeats 2000000 in
theorem taken_any (A : Option Addr) (c : Nat) (l : List Stw) (w : World) (hs : SlT tStw w (Lt w.heap.size) A l) (hl : l.length ≤ 1000000) :
    Calls Tryd.prog 53 #[.slice A l.length c] w (OwnSlt w (l.map (·.slot))) := by
  have HS := Lib.hid hs; clear hs
  go_enter Tryd.func53, Tryd.ntmps53
  go_wp2
  go_loopw [3, 8] (fun v i wr => ∃ (k : Nat) (m : List Slt), k ≤ l.length ∧ i = .int .i64 k ∧ m.length = k ∧ Hid (m = (l.take k).map (·.slot)) ∧ OwnT tSlt 37 wr w.heap.size v m ∧ Below w.heap.size w wr) (fun _ i _ => l.length - (intOf i).toNat)
  case atStart => exact ⟨0, [], Nat.zero_le _, rfl, rfl, Lib.hid (by simp), OwnT.nil, Below.refl _ _⟩
  case round =>
    obtain ⟨k, m, hk, rfl, hm, HM, hown, hb⟩ := hrel
    by_cases hlt : k < l.length
    · obtain ⟨b, off, rfl, hbB, c0, c1, c2, c3⟩ := (HS.out.below hb).stw hlt
      have HP := Lib.hid (show (l.take (k + 1)).map (·.slot) = (l.take k).map (·.slot) ++ [(l.getD k default).slot] by rw [List.take_succ_eq_append_getElem hlt, List.map_append]; simp [hlt])
      have hk0 : (0 : Int) ≤ (k : Int) := by omega
      have hk1 : (k : Int) < (l.length : Int) := by omega
      generalize l.getD k default = x at *
      obtain ⟨xb, xc, xt, xh⟩ := x
      simp only at c0 c1 c2 c3
      have hown' := hown.below (ba1 wr (.cells #[.int .i64 xb, .int .i64 xc, .int .i64 xt, .int .u8 (xh : Nat)] 44))
      have hx := Bk.new wr 44 #[.int .i64 xb, .int .i64 xc, .int .i64 xt, .int .u8 (xh : Nat)]
      have hbW := hb.alloc hb.size (.cells #[.int .i64 xb, .int .i64 xc, .int .i64 xt, .int .u8 (xh : Nat)] 44)
      go_upto_region 5 with fail
      clear hown c0 c1 c2 c3 hb
      generalize wr.heap.size = gx at *
      generalize (wr.alloc _) = W at *
      obtain ⟨xs, ho, hfl⟩ := hown'
      have hz0 := hbW.size
      have x1 : W.cell? ⟨gx, 1, none⟩ = some (.int .i64 xc) := hx.cell 1
      have x2 : W.cell? ⟨gx, 2, none⟩ = some (.int .i64 xt) := hx.cell 2
      have x3 : W.cell? ⟨gx, 3, none⟩ = some (.int .u8 (xh : Nat)) := hx.cell 3
      clear hx
      go_wp2_with (at_builtin; (refine wpList_append1 el_slt rfl (.tmp 12) (.tmp 15) rfl w.heap.size _ m.length xs rfl ho #[.int .i64 xc, .int .i64 xt, .int .u8 (xh : Nat)] _ rfl rfl rfl ?c1 ?c2 ?c3 ?_))
      case c1 => unfold maxLen; omega
      case c2 => omega
      intro v' w3 hown' hgr hd3 hbel
      go_wp2
      go_roundw
      case rel => exact ⟨k + 1, m ++ [⟨xc, xt, xh⟩], by omega, by go_num, by simp [hm], Lib.hid (by rw [HP.out, HM.out]), OwnT.append1 (T := tSlt) (x := ⟨xc, xt, xh⟩) hfl (cs := sltL ⟨xc, xt, xh⟩) rfl (by rw [hm]; exact hown') hgr hd3, hbW.trans hbel⟩
      case measure => simp [intOf]; omega
    · have hkn : m = l.map (·.slot) := by rw [HM.out, List.take_of_length_le (by omega)]
      subst hkn
      go_wp2
      go_ret
      exact ⟨_, rfl, hown, hb⟩
set_option maxRecDepth 100000 in
set_option maxHeartbeats 4000000 in
theorem height_any (A : Option Addr) (c : Nat) (boxes : List Bx) (A2 : Option Addr) (c2 : Nat) (l : List Stw) (col : Int) (half : Nat) (w : World) (hb : SlT tBx w (Lt w.heap.size) A boxes) (hbl : boxes.length ≤ 1000000) (hs : SlT tStw w (Lt w.heap.size) A2 l) (hl : l.length ≤ 1000000) :
    Calls Tryd.prog 71 #[.slice A boxes.length c, .slice A2 l.length c2, .int .i64 col, .int .u8 (half : Nat)] w (Ret w (.int .i64 (heightF boxes l col half))) := by
  have HS := Lib.hid hs
  have HBX := Lib.hid hb
  clear hs hb
  go_enter Tryd.func71, Tryd.ntmps71
  go_wp2
  go_loopw [9, 16] (fun v i wr => ∃ (k : Nat) (n : Int), k ≤ l.length ∧ i = .int .i64 k ∧ v = .int .i64 n ∧ Hid (n = ((l.take k).map (htOf boxes col half)).sum) ∧ Below w.heap.size w wr) (fun _ i _ => l.length - (intOf i).toNat)
  case atStart => exact ⟨0, 0, Nat.zero_le _, rfl, rfl, Lib.hid (by simp), Below.refl _ _⟩
  case round =>
    obtain ⟨k, n, hk, rfl, rfl, HN, hb⟩ := hrel
    by_cases hlt : k < l.length
    · obtain ⟨b, off, rfl, hbB, c0, c1, c2', c3⟩ := (HS.out.below hb).stw hlt
      have HP := Lib.hid (sum_take_succ (htOf boxes col half) l hlt default)
      have hbd := sum_bd (htOf boxes col half) 2896 (l.take k) (fun x _ => htOf_bd boxes col half x)
      rw [← HN.out] at hbd
      have hlk : (l.take k).length = k := by simp; omega
      rw [hlk] at hbd
      clear hlk
      have hk0 : (0 : Int) ≤ (k : Int) := by omega
      have hk1 : (k : Int) < (l.length : Int) := by omega
      obtain ⟨hn0, hn1⟩ := hbd
      have hn2 : n ≤ 2896000000 := by omega
      clear hn1
      generalize l.getD k default = x at *
      obtain ⟨xb, xc, xt, xh⟩ := x
      simp only at c0 c1 c2' c3
      have KF := Lib.hid (stowFind_any A c boxes xb (wr.alloc (.cells #[.int .i64 xb, .int .i64 xc, .int .i64 xt, .int .u8 (xh : Nat)] 44)) ((HBX.out.below (hb.alloc hb.size _)).up (hb.alloc hb.size _).size) hbl)
      have HH : Hid (htOf boxes col half ⟨xb, xc, xt, xh⟩ = if xc == col && (xh == half || xh == 0) then (if (findBx boxes xb).2 then tallB (findBx boxes xb).1 else 0) else 0) := Lib.hid rfl
      have hz0 := hb.size
      have e0 : ((xh : Int) == (half : Int)) = (xh == half) := int_beq _ _
      have e1 : ((xh : Int) == 0) = (xh == 0) := int_beq xh 0
      have hbk : Below w.heap.size w (wr.alloc (.cells #[.int .i64 xb, .int .i64 xc, .int .i64 xt, .int .u8 (xh : Nat)] 44)) := hb.alloc hz0 _
      by_cases hc : (xc == col && (xh == half || xh == 0)) = true
      · have HH1 : Hid (htOf boxes col half ⟨xb, xc, xt, xh⟩ = if (findBx boxes xb).2 then tallB (findBx boxes xb).1 else 0) := Lib.hid (by rw [HH.out, if_pos hc])
        obtain ⟨h1, h2⟩ := Bool.and_eq_true_iff.1 hc
        have g1 : (xc == col) = true := h1
        have KT := Lib.hid (fun b W => stowTall_any b W)
        clear HH hc h1
        generalize findBx boxes xb = fb at *
        obtain ⟨⟨b0, b1, b2, b3, b4, b5, b6, b7, b8⟩, ok⟩ := fb
        unfold bxL at KF
        simp only at KF HH1
        have hx := Bk.new wr 44 #[.int .i64 xb, .int .i64 xc, .int .i64 xt, .int .u8 (xh : Nat)]
        go_upto_region 5 with fail
        clear c0 c1 c2' c3 hb
        generalize wr.heap.size = gx at *
        generalize (wr.alloc _) = W at *
        have x0 : W.cell? ⟨gx, 0, none⟩ = some (.int .i64 xb) := hx.cell 0
        have x1 : W.cell? ⟨gx, 1, none⟩ = some (.int .i64 xc) := hx.cell 1
        have x3 : W.cell? ⟨gx, 3, none⟩ = some (.int .u8 (xh : Nat)) := hx.cell 3
        clear hx
        have hor : (xh == half) = true ∨ (xh == half) = false ∧ (xh == 0) = true := by
          cases hq : (xh == half)
          · right; rw [hq] at h2; exact ⟨rfl, by simpa using h2⟩
          · left; rfl
        clear h2
        rcases hor with h3 | ⟨h3, h4⟩
        all_goals
          go_upto_region 6 with fail
          go_wp2_with fail
          refine KF.out.mono ?_
          rintro e w1 ⟨rfl, hb1⟩
          simp only
          clear KF x0 x1 x3
          have hb2 := hbk.trans (hb1.mono hbk.size)
          have hy := Bk.new w1 41 #[.int .i64 b0, .string b1, .int .u8 (b2 : Nat), .bool b3, .int .i64 b4, .int .i64 b5, .int .i64 b6, .int .u8 (b7 : Nat), .bool b8]
          have hb3 := hb2.alloc hb2.size (.cells #[.int .i64 b0, .string b1, .int .u8 (b2 : Nat), .bool b3, .int .i64 b4, .int .i64 b5, .int .i64 b6, .int .u8 (b7 : Nat), .bool b8] 41)
          go_upto_region 7 with fail
          clear hb1 hb2 hbk
          generalize w1.heap.size = gy at *
          generalize (w1.alloc _) = W2 at *
          have y0 : W2.cell? ⟨gy, 0, none⟩ = some (.int .i64 b0) := hy.cell 0
          have y1 : W2.cell? ⟨gy, 1, none⟩ = some (.string b1) := hy.cell 1
          have y2 : W2.cell? ⟨gy, 2, none⟩ = some (.int .u8 (b2 : Nat)) := hy.cell 2
          have y3 : W2.cell? ⟨gy, 3, none⟩ = some (.bool b3) := hy.cell 3
          have y4 : W2.cell? ⟨gy, 4, none⟩ = some (.int .i64 b4) := hy.cell 4
          have y5 : W2.cell? ⟨gy, 5, none⟩ = some (.int .i64 b5) := hy.cell 5
          have y6 : W2.cell? ⟨gy, 6, none⟩ = some (.int .i64 b6) := hy.cell 6
          have y7 : W2.cell? ⟨gy, 7, none⟩ = some (.int .u8 (b7 : Nat)) := hy.cell 7
          have y8 : W2.cell? ⟨gy, 8, none⟩ = some (.bool b8) := hy.cell 8
          clear hy
          have KT1 := Lib.hid (KT.out ⟨b0, b1, b2, b3, b4, b5, b6, b7, b8⟩ W2)
          unfold bxL at KT1
          simp only at KT1
          have htb : 0 ≤ tallB ⟨b0, b1, b2, b3, b4, b5, b6, b7, b8⟩ ∧ tallB ⟨b0, b1, b2, b3, b4, b5, b6, b7, b8⟩ ≤ 2896 := by unfold tallB; split <;> omega
          generalize tallB ⟨b0, b1, b2, b3, b4, b5, b6, b7, b8⟩ = tv at *
          have s1 : IntKind.i64.wrap (n + tv) = n + tv := IntWalk.i64_in _ (by omega)
          cases ok with
          | true =>
            go_wp2_with fail
            refine KT1.out.mono ?_
            rintro e w3 ⟨rfl, hb4⟩
            simp only
            clear KT1
            have hb5 := hb3.trans (hb4.mono hb3.size)
            have a1 : k + 1 ≤ l.length := hlt
            have a4 : Hid (n + tv = ((l.take (k + 1)).map (htOf boxes col half)).sum) := Lib.hid (by rw [HP.out, ← HN.out, HH1.out]; simp)
            go_wp2_with fail
            go_roundw
            case rel => (repeat apply Exists.intro); (first | exact ⟨⟨k + 1, n + tv, a1, by go_num, rfl, a4, hb5⟩, rfl⟩ | exact ⟨a1, by go_num, rfl, a4, hb5⟩)
            case measure => simp [intOf]; omega
          | false =>
            clear KT1
            have a1 : k + 1 ≤ l.length := hlt
            have a4 : Hid (n = ((l.take (k + 1)).map (htOf boxes col half)).sum) := Lib.hid (by rw [HP.out, ← HN.out, HH1.out]; simp)
            go_wp2_with fail
            go_roundw
            case rel => (repeat apply Exists.intro); (first | exact ⟨⟨k + 1, n, a1, by go_num, rfl, a4, hb3⟩, rfl⟩ | exact ⟨a1, by go_num, rfl, a4, hb3⟩)
            case measure => simp [intOf]; omega
      · have HH1 : Hid (htOf boxes col half ⟨xb, xc, xt, xh⟩ = 0) := Lib.hid (by rw [HH.out, if_neg hc])
        clear HH KF
        have a1 : k + 1 ≤ l.length := hlt
        have a4 : Hid (n = ((l.take (k + 1)).map (htOf boxes col half)).sum) := Lib.hid (by rw [HP.out, ← HN.out, HH1.out]; simp)
        have hx := Bk.new wr 44 #[.int .i64 xb, .int .i64 xc, .int .i64 xt, .int .u8 (xh : Nat)]
        have hor : (xc == col) = false ∨ (xc == col) = true ∧ (xh == half) = false ∧ (xh == 0) = false := by
          cases hq : (xc == col)
          · left; rfl
          · right; rw [hq] at hc; simpa using hc
        clear hc
        go_upto_region 5 with fail
        clear c0 c1 c2' c3 hb
        generalize wr.heap.size = gx at *
        generalize (wr.alloc _) = W at *
        have x1 : W.cell? ⟨gx, 1, none⟩ = some (.int .i64 xc) := hx.cell 1
        have x3 : W.cell? ⟨gx, 3, none⟩ = some (.int .u8 (xh : Nat)) := hx.cell 3
        clear hx
        rcases hor with h1 | ⟨h1, h2, h3⟩
        all_goals
          go_wp2_with fail
          go_roundw
          case rel => (repeat apply Exists.intro); (first | exact ⟨⟨k + 1, n, a1, by go_num, rfl, a4, hbk⟩, rfl⟩ | exact ⟨a1, by go_num, rfl, a4, hbk⟩)
          case measure => simp [intOf]; omega
    · have hkn : n = heightF boxes l col half := by rw [HN.out, List.take_of_length_le (by omega)]; rfl
      subst hkn
      go_wp2
      go_ret
      exact ⟨rfl, hb⟩
set_option maxRecDepth 100000 in
set_option maxHeartbeats 4000000 in
theorem fits_any (s : Shp) (h : Hd) (A : Option Addr) (c : Nat) (boxes : List Bx) (A2 : Option Addr) (c2 : Nat) (l : List Stw) (k : Nat) (w : World) (hsh : ShpR w (Lt w.heap.size) s h) (hk : k < s.cols.length) (hb : SlT tBx w (Lt w.heap.size) A boxes) (hbl : boxes.length ≤ 1000000) (hs : SlT tStw w (Lt w.heap.size) A2 l) (hl : l.length ≤ 1000000) :
    Calls Tryd.prog 57 #[.agg (shpA s h), .slice A boxes.length c, .slice A2 l.length c2, .int .i64 (k : Nat)] w (Ret w (.bool (fitsF s boxes l k))) := by
  obtain ⟨b, off, Ap, q, hA1, hB, hpq, hpl, c0, c1, c2', c3, c4, c5, c6, c7, c8, c9, c10, c11⟩ := hsh.cols.col (i := k) hk
  clear c0 c1 c2' c3 c5 c6 c7 c8 c9 c10 c11 hpl
  have HF : Hid (fitsF s boxes l k = (decide ((s.cols.getD k default).height ≤ 0) || (decide (heightF boxes l k 1 ≤ (s.cols.getD k default).height) && decide (heightF boxes l k 2 ≤ (s.cols.getD k default).height)))) := Lib.hid rfl
  have hbx := ba1 w (.cells (shpA s h) 32)
  have HH : Hid (∀ (half : Nat) (V : World), Below w.heap.size w V → Calls Tryd.prog 71 #[.slice A boxes.length c, .slice A2 l.length c2, .int .i64 (k : Nat), .int .u8 (half : Nat)] V (Ret V (.int .i64 (heightF boxes l k half)))) := Lib.hid fun half V hV => height_any A c boxes A2 c2 l k half V ((hb.below hV).up hV.size) hbl ((hs.below hV).up hV.size) hl
  have kx := Bk.new w 32 (shpA s h)
  have c4' := (hbx.cell (p := ⟨b, off + k * 12 + 4, none⟩) hB).trans c4
  have HBX := Lib.hid hbx
  have x0 : (w.alloc (.cells (shpA s h) 32)).cell? ⟨w.heap.size, 0, none⟩ = some (.slice (some ⟨b, off, none⟩) s.cols.length h.c1) := by rw [kx.cell 0]; unfold shpA; rw [hA1]; rfl
  have H1 := Lib.hid (HH.out 1)
  have H2 := Lib.hid (HH.out 2)
  have hk0 : (0 : Int) ≤ (k : Int) := by omega
  have hk1 : (k : Int) < (s.cols.length : Int) := by omega
  clear c4 hb hs hbx kx HH hsh hpq
  generalize heightF boxes l k 1 = h1 at *
  generalize heightF boxes l k 2 = h2 at *
  generalize (s.cols.getD k default).height = mo at *
  unfold shpA at x0 c4' HBX ⊢
  rw [hA1] at x0 c4' HBX ⊢
  clear hA1
  go_enter Tryd.func57, Tryd.ntmps57
  go_upto_region 1 with fail
  generalize (w.alloc _) = W at *
  by_cases p0 : mo ≤ 0
  · have hv : Hid (fitsF s boxes l k = true) := Lib.hid (by rw [HF.out, decide_eq_true p0]; rfl)
    clear HF
    go_wp2_with fail
    go_ret
    exact ⟨by rw [hv.out]; rfl, HBX.out⟩
  · have hv0 : Hid (fitsF s boxes l k = (decide (h1 ≤ mo) && decide (h2 ≤ mo))) := Lib.hid (by rw [HF.out, decide_eq_false p0]; rfl)
    clear HF
    go_wp2_with fail
    refine (H1.out W HBX.out).mono ?_
    rintro e w1 ⟨rfl, hb1⟩
    simp only
    have HB1 := Lib.hid (HBX.out.trans (hb1.mono HBX.out.size))
    clear hb1 x0 c4'
    by_cases p1 : h1 ≤ mo
    · go_wp2_with fail
      refine (H2.out w1 HB1.out).mono ?_
      rintro e w2 ⟨rfl, hb2⟩
      simp only
      go_wp2_with fail
      go_ret
      exact ⟨by rw [hv0.out, decide_eq_true p1]; rfl, HB1.out.trans (hb2.mono HB1.out.size)⟩
    · go_wp2_with fail
      go_ret
      exact ⟨by rw [hv0.out, decide_eq_false (Int.not_le.2 p1)]; rfl, HB1.out⟩
end Go.Proofs.YtmhikcleekfbpaaDoor
