/-
  Walks of package stow: Right.
-/
import Derived.Test.YtmhikcleekfbpaaDoorStB
import Derived.Deep.CutBlock
namespace Go.Proofs.YtmhikcleekfbpaaDoor
open Go.RowKit

theorem stowRight_falseAt {s : Shp} {boxes : List Bx} {l : List Stw} {k : Nat} (hk : k < l.length) (h : stowAt s boxes l k = false) : stowRight s boxes l = false := by
  cases e : stowRight s boxes l with
  | false => rfl
  | true => rw [(stowRight_parts.1 e).2.1 k hk] at h; cases h
theorem stowRight_falseFit {s : Shp} {boxes : List Bx} {l : List Stw} {c : Nat} (hc : c < s.cols.length) (h : fitsF s boxes l c = false) : stowRight s boxes l = false := by
  cases e : stowRight s boxes l with
  | false => rfl
  | true => rw [(stowRight_parts.1 e).2.2 c hc] at h; cases h
theorem stowRight_falseShip {s : Shp} {boxes : List Bx} {l : List Stw} (h : rightF s = false) : stowRight s boxes l = false := by
  unfold stowRight; rw [h]; rfl
/-- What one round asks ahead of the meetings. -/
def stowBad (s : Shp) (boxes : List Bx) (l : List Stw) (i : Nat) : Bool :=
  !((findBx boxes (l.getD i default).box).2 && (decide (i = 0) || decide ((l.getD (i - 1) default).box < (l.getD i default).box)) && slotRight s (l.getD i default).slot (findBx boxes (l.getD i default).box).1.size && heldB (l.getD i default).slot (l.map (·.slot)))
theorem stowAt_eq (s : Shp) (boxes : List Bx) (l : List Stw) (i : Nat) : stowAt s boxes l i = (!stowBad s boxes l i && (List.range i).all fun k => !meetB (l.getD i default).slot (l.getD k default).slot) := by
  unfold stowAt stowBad
  rw [Bool.not_not]
theorem stowAt_bad {s : Shp} {boxes : List Bx} {l : List Stw} {i : Nat} (h : stowBad s boxes l i = true) : stowAt s boxes l i = false := by rw [stowAt_eq, h]; rfl
theorem stowAt_meet {s : Shp} {boxes : List Bx} {l : List Stw} {i k : Nat} (hk : k < i) (h : meetB (l.getD i default).slot (l.getD k default).slot = true) : stowAt s boxes l i = false := by
  rw [stowAt_eq]
  have : ((List.range i).all fun k => !meetB (l.getD i default).slot (l.getD k default).slot) = false := by
    rw [List.all_eq_false]
    exact ⟨k, by simpa using hk, by rw [h]; decide⟩
  rw [this, Bool.and_false]
theorem stowAt_good {s : Shp} {boxes : List Bx} {l : List Stw} {i : Nat} (h : stowBad s boxes l i = false) (hm : ∀ k, k < i → meetB (l.getD i default).slot (l.getD k default).slot = false) : stowAt s boxes l i = true := by
  rw [stowAt_eq, h]
  simp only [Bool.not_false, Bool.true_and, List.all_eq_true, List.mem_range, Bool.not_eq_true']
  exact hm
set_option maxRecDepth 100000 in
set_option maxHeartbeats 8000000 in
theorem stowRight_any (s : Shp) (h : Hd) (A : Option Addr) (c : Nat) (boxes : List Bx) (A2 : Option Addr) (c2 : Nat) (l : List Stw) (w : World) (hsh : ShpR w (Lt w.heap.size) s h) (hf : Few s) (hi : Ints s) (hcl : s.cols.length ≤ 1000000)
    (hb : SlT tBx w (Lt w.heap.size) A boxes) (hbl : boxes.length ≤ 1000000) (hs : SlT tStw w (Lt w.heap.size) A2 l) (hl : l.length ≤ 1000000) (_ : l.length ≤ c2) (ht : ∀ x ∈ l, x.slot.tier ≤ 9223372036854775807) :
    Calls Tryd.prog 41 #[.agg (shpA s h), .slice A boxes.length c, .slice A2 l.length c2] w (Ret w (.bool (stowRight s boxes l))) := by
  have HR := Lib.hid (fun (V : World) (hV : Below w.heap.size w V) => shipRight_any s h V (hsh.on hV) hf hi)
  have hbx := ba1 w (.cells (shpA s h) 32)
  have HS0 : Hid (Sh w (w.alloc (.cells (shpA s h) 32)) w.heap.size s h) := Lib.hid ⟨hsh.on hbx, Bk.new w _ _, hbx⟩
  have HBX := Lib.hid hb
  have HST := Lib.hid hs
  have HT := Lib.hid ht
  clear hsh hb hs ht hbx
  unfold shpA at HR HS0 ⊢
  go_enter Tryd.func41, Tryd.ntmps41
  have e0 := HS0.out.bk.cell 0
  go_upto_region 1 with fail
  clear e0
  generalize (w.alloc _) = W0 at *
  have e0 : W0.cell? ⟨w.heap.size, 0, none⟩ = some (.slice h.A1 s.cols.length h.c1) := HS0.out.bk.cell 0
  have e1 : W0.cell? ⟨w.heap.size, 1, none⟩ = some (.slice h.A2 s.covs.length h.c2) := HS0.out.bk.cell 1
  have e2 : W0.cell? ⟨w.heap.size, 2, none⟩ = some (.int .i64 s.l0) := HS0.out.bk.cell 2
  have e3 : W0.cell? ⟨w.heap.size, 3, none⟩ = some (.int .i64 s.l1) := HS0.out.bk.cell 3
  have e4 : W0.cell? ⟨w.heap.size, 4, none⟩ = some (.int .i64 s.l2) := HS0.out.bk.cell 4
  have e5 : W0.cell? ⟨w.heap.size, 5, none⟩ = some (.int .i64 s.l3) := HS0.out.bk.cell 5
  have e6 : W0.cell? ⟨w.heap.size, 6, none⟩ = some (.slice h.A3 s.rows.length h.c3) := HS0.out.bk.cell 6
  have e7 : W0.cell? ⟨w.heap.size, 7, none⟩ = some (.slice h.A4 s.frames.length h.c4) := HS0.out.bk.cell 7
  have e8 : W0.cell? ⟨w.heap.size, 8, none⟩ = some (.slice h.A5 s.tanks.length h.c5) := HS0.out.bk.cell 8
  have e9 : W0.cell? ⟨w.heap.size, 9, none⟩ = some (.int .i64 s.m0) := HS0.out.bk.cell 9
  have e10 : W0.cell? ⟨w.heap.size, 10, none⟩ = some (.int .i64 s.m1) := HS0.out.bk.cell 10
  have e11 : W0.cell? ⟨w.heap.size, 11, none⟩ = some (.int .i64 s.m2) := HS0.out.bk.cell 11
  have e12 : W0.cell? ⟨w.heap.size, 12, none⟩ = some (.int .i64 s.m3) := HS0.out.bk.cell 12
  go_wp2_with fail
  refine (HR.out _ HS0.out.be).mono ?_
  rintro e w1 ⟨rfl, hb1⟩
  simp only
  clear e0 e1 e2 e3 e4 e5 e6 e7 e8 e9 e10 e11 e12
  have HS1 := Lib.hid (HS0.out.on hb1)
  clear HS0 hb1 HR
  have HRF : Hid (rightF s = false → stowRight s boxes l = false) := Lib.hid fun hr => stowRight_falseShip hr
  cases hr : rightF s with
  | false =>
    have HF := Lib.hid (HRF.out hr)
    clear HRF hr
    go_wp2_with fail
    go_ret
    exact ⟨by rw [HF.out]; rfl, HS1.out.be⟩
  | true =>
    have HRT := Lib.hid hr
    clear HRF hr
    go_upto_region 3 with fail
    go_wp2_with fail
    refine (taken_any A2 c2 l w1 ((HST.out.below HS1.out.be).up HS1.out.be.size) hl).mono ?_
    rintro e w2 ⟨v, rfl, hown, hb2⟩
    simp only
    obtain ⟨A7, c7, rfl, hc7, hm7, hsl⟩ := hown.sl
    have HS2 := Lib.hid (HS1.out.on hb2)
    have HSL := Lib.hid hsl
    clear hown hb2 HS1 hsl
    rw [List.length_map] at hc7 ⊢
    go_upto_block 0 with fail
    have HSON : Hid (∀ V, Below w2.heap.size w2 V → Sh w V w.heap.size s h) := Lib.hid fun V hV => HS2.out.on hV
    have HFITS : Hid (∀ (j : Nat) (V : World), j < s.cols.length → Below w2.heap.size w2 V → Calls Tryd.prog 57 #[.agg #[.slice h.A1 s.cols.length h.c1, .slice h.A2 s.covs.length h.c2, .int .i64 s.l0, .int .i64 s.l1, .int .i64 s.l2, .int .i64 s.l3, .slice h.A3 s.rows.length h.c3, .slice h.A4 s.frames.length h.c4, .slice h.A5 s.tanks.length h.c5, .int .i64 s.m0, .int .i64 s.m1, .int .i64 s.m2, .int .i64 s.m3], .slice A boxes.length c, .slice A2 l.length c2, .int .i64 (j : Nat)] V (Ret V (.bool (fitsF s boxes l j)))) := Lib.hid fun j V hj hV => by
      have hw := (HSON.out V hV).be
      have := fits_any s h A c boxes A2 c2 l j V (HSON.out V hV).rd hj ((HBX.out.below hw).up hw.size) hbl ((HST.out.below hw).up hw.size) hl
      unfold shpA at this
      exact this
    go_cut [22] (fun _ wx => Hid (∀ j, j < l.length → stowAt s boxes l j = true) ∧ Hid (Below w2.heap.size w2 wx))
    case first =>
      go_wp2_with fail
      go_loopw [22] (fun i wr => ∃ k : Nat, k ≤ l.length ∧ i = .int .i64 k ∧ Hid (∀ j, j < k → stowAt s boxes l j = true) ∧ Hid (Below w2.heap.size w2 wr)) (fun i _ => l.length - (intOf i).toNat)
      case atStart => exact ⟨0, Nat.zero_le _, rfl, Lib.hid (fun j h => absurd h (Nat.not_lt_zero _)), Lib.hid (Below.refl _ _)⟩
      case round =>
        obtain ⟨k, hk, rfl, HG, HB⟩ := hrel
        by_cases hlt : k < l.length
        · have HSV := Lib.hid (HSON.out wr HB.out)
          obtain ⟨b, off, hA2, hbB, c0, c1, c2', c3⟩ := (HST.out.below HSV.out.be).stw hlt
          have HPV := Lib.hid (fun hk1 : k - 1 < l.length => (HST.out.below HSV.out.be).stw hk1)
          have HBAD : Hid (stowBad s boxes l k = !((findBx boxes (l.getD k default).box).2 && (decide (k = 0) || decide ((l.getD (k - 1) default).box < (l.getD k default).box)) && slotRight s (l.getD k default).slot (findBx boxes (l.getD k default).box).1.size && heldB (l.getD k default).slot (l.map (·.slot)))) := Lib.hid rfl
          have HFB := Lib.hid (fun hq => stowRight_falseAt (s := s) (boxes := boxes) (l := l) hlt (stowAt_bad (s := s) (boxes := boxes) (l := l) hq))
          have HFM := Lib.hid (fun (j : Nat) (hj : j < k) hq => stowRight_falseAt (s := s) (boxes := boxes) (l := l) hlt (stowAt_meet (s := s) (boxes := boxes) (l := l) hj hq))
          have HGD := Lib.hid (fun h1 h2 => stowAt_good (s := s) (boxes := boxes) (l := l) (i := k) h1 h2)
          have HXT := Lib.hid (HT.out _ (getD_memD hlt default))
          have hk0 : (0 : Int) ≤ (k : Int) := Int.natCast_nonneg _
          have hk1 : (k : Int) < (l.length : Int) := Int.ofNat_lt.2 hlt
          have a1 : k + 1 ≤ l.length := hlt
          subst hA2
          generalize hx : l.getD k default = x at *
          clear hx
          obtain ⟨xb, xc, xt, xh⟩ := x
          simp only at c0 c1 c2' c3 HBAD HXT HFM HGD
          have hx := Bk.new wr 44 #[.int .i64 xb, .int .i64 xc, .int .i64 xt, .int .u8 (xh : Nat)]
          have hbx := ba1 wr (.cells #[.int .i64 xb, .int .i64 xc, .int .i64 xt, .int .u8 (xh : Nat)] 44)
          go_upto_region 7 with fail
          have HBx : Hid (Below w2.heap.size w2 (wr.alloc (.cells #[.int .i64 xb, .int .i64 xc, .int .i64 xt, .int .u8 (xh : Nat)] 44))) := Lib.hid (HB.out.trans (hbx.mono HB.out.size))
          have HPX : Hid (∀ hk1 : k - 1 < l.length, (wr.alloc (.cells #[.int .i64 xb, .int .i64 xc, .int .i64 xt, .int .u8 (xh : Nat)] 44)).cell? ⟨b, off + (k - 1) * 4, none⟩ = some (.int .i64 (l.getD (k - 1) default).box)) := Lib.hid fun hk1 => by
            obtain ⟨b', off', e, hb', p0, _⟩ := HPV.out hk1
            cases e
            exact (hbx.cell (p := ⟨b, off + (k - 1) * 4, none⟩) (Nat.lt_of_lt_of_le hb' HSV.out.be.size)).trans p0
          clear HSV HB hbx c0 c1 c2' c3 HPV
          generalize wr.heap.size = gx at *
          generalize (wr.alloc _) = W3 at *
          have HX := Lib.hid hx
          have x0 : W3.cell? ⟨gx, 0, none⟩ = some (.int .i64 xb) := hx.cell 0
          clear hx
          have HSV := Lib.hid (HSON.out W3 HBx.out)
          have KF := Lib.hid (stowFind_any A c boxes xb W3 ((HBX.out.below HSV.out.be).up HSV.out.be.size) hbl)
          generalize findBx boxes xb = fb at *
          obtain ⟨⟨b0, b1, b2, b3, b4, b5, b6, b7, b8⟩, ok⟩ := fb
          unfold bxL at KF
          simp only at KF HBAD
          go_wp2_with fail
          refine KF.out.mono ?_
          rintro e W4 ⟨rfl, hb4⟩
          simp only
          clear KF x0
          have hy := Bk.new W4 41 #[.int .i64 b0, .string b1, .int .u8 (b2 : Nat), .bool b3, .int .i64 b4, .int .i64 b5, .int .i64 b6, .int .u8 (b7 : Nat), .bool b8]
          have HX4 := Lib.hid ((HX.out.below hb4 HX.out.lt).alloc (.cells #[.int .i64 b0, .string b1, .int .u8 (b2 : Nat), .bool b3, .int .i64 b4, .int .i64 b5, .int .i64 b6, .int .u8 (b7 : Nat), .bool b8] 41))
          have HB4 : Hid (Below w2.heap.size w2 (W4.alloc (.cells #[.int .i64 b0, .string b1, .int .u8 (b2 : Nat), .bool b3, .int .i64 b4, .int .i64 b5, .int .i64 b6, .int .u8 (b7 : Nat), .bool b8] 41))) := Lib.hid ((HBx.out.trans (hb4.mono HBx.out.size)).alloc (HBx.out.trans (hb4.mono HBx.out.size)).size _)
          have HP4 : Hid (∀ hk1 : k - 1 < l.length, (W4.alloc (.cells #[.int .i64 b0, .string b1, .int .u8 (b2 : Nat), .bool b3, .int .i64 b4, .int .i64 b5, .int .i64 b6, .int .u8 (b7 : Nat), .bool b8] 41)).cell? ⟨b, off + (k - 1) * 4, none⟩ = some (.int .i64 (l.getD (k - 1) default).box)) := Lib.hid fun hk1 => by
            have := HPX.out hk1
            have hlb := block_lt_of_cell this
            exact ((hb4.trans ((ba1 W4 _).mono hb4.size)).cell (p := ⟨b, off + (k - 1) * 4, none⟩) hlb).trans this
          go_upto_region 8 with fail
          clear hb4 HX HBx HPX HSV
          generalize W4.heap.size = gy at *
          generalize (W4.alloc _) = W5 at *
          have HSV := Lib.hid (HSON.out W5 HB4.out)
          have KR : Hid (∀ V : World, Below W5.heap.size W5 V → Calls Tryd.prog 54 #[.agg #[.slice h.A1 s.cols.length h.c1, .slice h.A2 s.covs.length h.c2, .int .i64 s.l0, .int .i64 s.l1, .int .i64 s.l2, .int .i64 s.l3, .slice h.A3 s.rows.length h.c3, .slice h.A4 s.frames.length h.c4, .slice h.A5 s.tanks.length h.c5, .int .i64 s.m0, .int .i64 s.m1, .int .i64 s.m2, .int .i64 s.m3], .agg #[.int .i64 xc, .int .i64 xt, .int .u8 (xh : Nat)], .int .u8 (b2 : Nat)] V (Ret V (.bool (slotRight s ⟨xc, xt, xh⟩ b2)))) := Lib.hid fun V hV => by
            have := slotRight_any s h ⟨xc, xt, xh⟩ b2 V (HSV.out.on hV).rd
            unfold shpA sltL at this
            exact this
          have KH : Hid (∀ V : World, Below W5.heap.size W5 V → Calls Tryd.prog 55 #[.agg #[.int .i64 xc, .int .i64 xt, .int .u8 (xh : Nat)], .slice A7 l.length c7] V (Ret V (.bool (heldB ⟨xc, xt, xh⟩ (l.map (·.slot)))))) := Lib.hid fun V hV => by
            have hV2 := HB4.out.trans (hV.mono HB4.out.size)
            have := held_any ⟨xc, xt, xh⟩ A7 c7 (l.map (·.slot)) V ((HSL.out.below hV2).up hV2.size) (by rw [List.length_map]; exact Nat.le_trans hl (by decide)) HXT.out
            rw [List.length_map] at this
            unfold sltL at this
            exact this
          generalize slotRight s ⟨xc, xt, xh⟩ b2 = rB at *
          generalize heldB ⟨xc, xt, xh⟩ (l.map (·.slot)) = hB at *
          generalize stowBad s boxes l k = bad at *
          have hy2 := Lib.hid hy
          go_cut [66] (fun v wx => v = .bool bad ∧ Hid (Below W5.heap.size W5 wx))
          case first =>
            have e0 : ∀ p : Gr W5, p.W.cell? ⟨w.heap.size, 0, none⟩ = some (.slice h.A1 s.cols.length h.c1) := Gr.cell (HSV.out.bk.cell 0)
            have e1 : ∀ p : Gr W5, p.W.cell? ⟨w.heap.size, 1, none⟩ = some (.slice h.A2 s.covs.length h.c2) := Gr.cell (HSV.out.bk.cell 1)
            have e2 : ∀ p : Gr W5, p.W.cell? ⟨w.heap.size, 2, none⟩ = some (.int .i64 s.l0) := Gr.cell (HSV.out.bk.cell 2)
            have e3 : ∀ p : Gr W5, p.W.cell? ⟨w.heap.size, 3, none⟩ = some (.int .i64 s.l1) := Gr.cell (HSV.out.bk.cell 3)
            have e4 : ∀ p : Gr W5, p.W.cell? ⟨w.heap.size, 4, none⟩ = some (.int .i64 s.l2) := Gr.cell (HSV.out.bk.cell 4)
            have e5 : ∀ p : Gr W5, p.W.cell? ⟨w.heap.size, 5, none⟩ = some (.int .i64 s.l3) := Gr.cell (HSV.out.bk.cell 5)
            have e6 : ∀ p : Gr W5, p.W.cell? ⟨w.heap.size, 6, none⟩ = some (.slice h.A3 s.rows.length h.c3) := Gr.cell (HSV.out.bk.cell 6)
            have e7 : ∀ p : Gr W5, p.W.cell? ⟨w.heap.size, 7, none⟩ = some (.slice h.A4 s.frames.length h.c4) := Gr.cell (HSV.out.bk.cell 7)
            have e8 : ∀ p : Gr W5, p.W.cell? ⟨w.heap.size, 8, none⟩ = some (.slice h.A5 s.tanks.length h.c5) := Gr.cell (HSV.out.bk.cell 8)
            have e9 : ∀ p : Gr W5, p.W.cell? ⟨w.heap.size, 9, none⟩ = some (.int .i64 s.m0) := Gr.cell (HSV.out.bk.cell 9)
            have e10 : ∀ p : Gr W5, p.W.cell? ⟨w.heap.size, 10, none⟩ = some (.int .i64 s.m1) := Gr.cell (HSV.out.bk.cell 10)
            have e11 : ∀ p : Gr W5, p.W.cell? ⟨w.heap.size, 11, none⟩ = some (.int .i64 s.m2) := Gr.cell (HSV.out.bk.cell 11)
            have e12 : ∀ p : Gr W5, p.W.cell? ⟨w.heap.size, 12, none⟩ = some (.int .i64 s.m3) := Gr.cell (HSV.out.bk.cell 12)
            have x0 : ∀ p : Gr W5, p.W.cell? ⟨gx, 0, none⟩ = some (.int .i64 xb) := Gr.cell (HX4.out.cell 0)
            have x1 : ∀ p : Gr W5, p.W.cell? ⟨gx, 1, none⟩ = some (.int .i64 xc) := Gr.cell (HX4.out.cell 1)
            have x2 : ∀ p : Gr W5, p.W.cell? ⟨gx, 2, none⟩ = some (.int .i64 xt) := Gr.cell (HX4.out.cell 2)
            have x3 : ∀ p : Gr W5, p.W.cell? ⟨gx, 3, none⟩ = some (.int .u8 (xh : Nat)) := Gr.cell (HX4.out.cell 3)
            have y2 : ∀ p : Gr W5, p.W.cell? ⟨gy, 2, none⟩ = some (.int .u8 (b2 : Nat)) := Gr.cell (hy.cell 2)
            clear hy
            cases ok with
            | false =>
              have hbad : Hid (bad = true) := Lib.hid (by rw [HBAD.out]; rfl)
              refine wp_region_gr (by kernel_rfl) (by kernel_rfl) ?_
              repeat (go_big_quiet_step ((first | (with_reducible exact Gr.call _ (fun V hV => KR.out V hV)) | (with_reducible exact Gr.call _ (fun V hV => KH.out V hV)))))
              refine wpQuiet_nil ?_
              rintro Y ⟨⟨_, hbY⟩, rfl⟩
              go_wp2_with fail
              go_meet
              exact ⟨by rw [hbad.out], Lib.hid hbY⟩
            | true =>
              rcases Nat.eq_zero_or_pos k with hz | hz
              · have z1 : ¬ (0 : Int) < (k : Int) := by rw [hz]; decide
                have z2 : (k : Int) ≤ 0 := Int.not_lt.1 z1
                have z3 : decide (0 < k) = false := by rw [hz]; rfl
                have z4 : decide ((0 : Int) < (k : Int)) = false := decide_eq_false z1
                have z5 : ¬ 0 < k := by rw [hz]; decide
                have HB2 : Hid (bad = !(rB && hB)) := Lib.hid (by rw [HBAD.out, decide_eq_true hz]; simp)
                clear HBAD hz
                cases rB with
                | false =>
                  have hbad : Hid (bad = true) := Lib.hid (by rw [HB2.out]; rfl)
                  refine wp_region_gr (by kernel_rfl) (by kernel_rfl) ?_
                  repeat (go_big_quiet_step ((first | (with_reducible exact Gr.call _ (fun V hV => KR.out V hV)) | (with_reducible exact Gr.call _ (fun V hV => KH.out V hV)))))
                  refine wpQuiet_nil ?_
                  rintro Y ⟨⟨_, hbY⟩, rfl⟩
                  go_wp2_with fail
                  go_meet
                  exact ⟨by rw [hbad.out], Lib.hid hbY⟩
                | true =>
                  have hbad : Hid (bad = !hB) := Lib.hid (by rw [HB2.out]; rfl)
                  refine wp_region_gr (by kernel_rfl) (by kernel_rfl) ?_
                  repeat (go_big_quiet_step ((first | (with_reducible exact Gr.call _ (fun V hV => KR.out V hV)) | (with_reducible exact Gr.call _ (fun V hV => KH.out V hV)))))
                  refine wpQuiet_nil ?_
                  rintro Y ⟨⟨_, hbY⟩, rfl⟩
                  go_wp2_with fail
                  go_meet
                  exact ⟨by rw [hbad.out], Lib.hid hbY⟩
              · have hkm : k - 1 < l.length := Nat.lt_of_le_of_lt (Nat.sub_le _ _) hlt
                have p0 : ∀ p : Gr W5, p.W.cell? ⟨b, off + (k - 1) * 4, none⟩ = some (.int .i64 (l.getD (k - 1) default).box) := Gr.cell (HP4.out hkm)
                have hke : (k : Int) - 1 = ((k - 1 : Nat) : Int) := (Int.ofNat_sub hz).symm
                have z1 : (0 : Int) < (k : Int) := Int.ofNat_lt.2 hz
                have z3 : decide (0 < k) = true := decide_eq_true hz
                have z4 : decide ((0 : Int) < (k : Int)) = true := decide_eq_true z1
                have HB2 : Hid (bad = !(decide ((l.getD (k - 1) default).box < xb) && rB && hB)) := Lib.hid (by rw [HBAD.out, decide_eq_false (Nat.pos_iff_ne_zero.1 hz)]; simp)
                clear HBAD
                generalize (l.getD (k - 1) default).box = pb at *
                clear HP4
                generalize k - 1 = km at *
                have s1 : IntKind.i64.wrap ((k : Int) - 1) = (km : Int) := by rw [hke]; exact IntWalk.i64_in _ ⟨by omega, by omega⟩
                have i0 : (0 : Int) ≤ (km : Int) := Int.natCast_nonneg _
                have i1 : (km : Int) < (l.length : Int) := Int.ofNat_lt.2 hkm
                by_cases hp : xb ≤ pb
                · have hbad : Hid (bad = true) := Lib.hid (by rw [HB2.out, decide_eq_false (Int.not_lt.2 hp)]; rfl)
                  refine wp_region_gr (by kernel_rfl) (by kernel_rfl) ?_
                  repeat (go_big_quiet_step ((first | (with_reducible exact Gr.call _ (fun V hV => KR.out V hV)) | (with_reducible exact Gr.call _ (fun V hV => KH.out V hV)))))
                  refine wpQuiet_nil ?_
                  rintro Y ⟨⟨_, hbY⟩, rfl⟩
                  go_wp2_with fail
                  go_meet
                  exact ⟨by rw [hbad.out], Lib.hid hbY⟩
                · have HB3 : Hid (bad = !(rB && hB)) := Lib.hid (by rw [HB2.out, decide_eq_true (Int.not_le.1 hp)]; simp)
                  cases rB with
                  | false =>
                    have hbad : Hid (bad = true) := Lib.hid (by rw [HB3.out]; rfl)
                    refine wp_region_gr (by kernel_rfl) (by kernel_rfl) ?_
                    repeat (go_big_quiet_step ((first | (with_reducible exact Gr.call _ (fun V hV => KR.out V hV)) | (with_reducible exact Gr.call _ (fun V hV => KH.out V hV)))))
                    refine wpQuiet_nil ?_
                    rintro Y ⟨⟨_, hbY⟩, rfl⟩
                    go_wp2_with fail
                    go_meet
                    exact ⟨by rw [hbad.out], Lib.hid hbY⟩
                  | true =>
                    have hbad : Hid (bad = !hB) := Lib.hid (by rw [HB3.out]; rfl)
                    refine wp_region_gr (by kernel_rfl) (by kernel_rfl) ?_
                    repeat (go_big_quiet_step ((first | (with_reducible exact Gr.call _ (fun V hV => KR.out V hV)) | (with_reducible exact Gr.call _ (fun V hV => KH.out V hV)))))
                    refine wpQuiet_nil ?_
                    rintro Y ⟨⟨_, hbY⟩, rfl⟩
                    go_wp2_with fail
                    go_meet
                    exact ⟨by rw [hbad.out], Lib.hid hbY⟩
          case rest =>
            obtain ⟨rfl, HBY⟩ := hcut
            obtain ⟨V1, rfl⟩ : ∃ V, V = wc := ⟨_, rfl⟩
            have HX5 := Lib.hid (HX4.out.below HBY.out HX4.out.lt)
            have HB5 : Hid (Below w2.heap.size w2 V1) := Lib.hid (HB4.out.trans (HBY.out.mono HB4.out.size))
            have HSW := Lib.hid (HSON.out V1 HB5.out).be
            clear HX4 HB4 HBY HSV hy hy2 HP4 KR KH HBAD
            have HG2 : Hid (stowAt s boxes l k = true → ∀ j, j < k + 1 → stowAt s boxes l j = true) := Lib.hid fun hq j hj => by
              rcases Nat.lt_succ_iff_lt_or_eq.1 hj with h' | h'
              · exact HG.out j h'
              · rw [h']; exact hq
            clear HG
            cases bad with
            | true =>
              have HF : Hid (stowRight s boxes l = false) := Lib.hid (by first | exact HFB.out rfl | exact HFB.out trivial)
              clear HFB HFM HGD HG2
              go_wp2_with fail
              go_ret
              exact ⟨by rw [HF.out]; rfl, HSW.out⟩
            | false =>
              have HG3 : Hid ((∀ i, i < k → meetB ⟨xc, xt, xh⟩ (l.getD i default).slot = false) → stowAt s boxes l k = true) := Lib.hid fun h2 => by first | exact HGD.out rfl h2 | exact HGD.out trivial h2
              clear HFB HGD
              have hk2 : (k : Int) ≤ (c7 : Int) := Int.ofNat_le.2 (Nat.le_trans (Nat.le_of_lt hlt) hc7)
              have hk3 : k ≤ c7 := Nat.le_trans (Nat.le_of_lt hlt) hc7
              have hk4 : k ≤ l.length := Nat.le_of_lt hlt
              go_wp2_with fail
              go_loopw [71] (fun jv wx => ∃ j : Nat, j ≤ k ∧ jv = .int .i64 j ∧ Hid (∀ i, i < j → meetB ⟨xc, xt, xh⟩ (l.getD i default).slot = false) ∧ Hid (Below V1.heap.size V1 wx)) (fun jv _ => k - (intOf jv).toNat)
              case atStart => exact ⟨0, Nat.zero_le _, rfl, Lib.hid (fun j h => absurd h (Nat.not_lt_zero _)), Lib.hid (Below.refl _ _)⟩
              case round =>
                obtain ⟨j, hj, rfl, HM, HBj⟩ := hrel
                obtain ⟨Wj, rfl⟩ : ∃ W, W = wr := ⟨_, rfl⟩
                by_cases hjk : j < k
                · have HBz : Hid (Below w2.heap.size w2 Wj) := Lib.hid (HB5.out.trans (HBj.out.mono HB5.out.size))
                  have hjl : j < (l.map (·.slot)).length := by rw [List.length_map]; exact Nat.lt_trans hjk hlt
                  obtain ⟨b', o', hA7, hbB', d0, d1, d2⟩ := ((HSL.out.below HBz.out).up HBz.out.size).slt hjl
                  have hgd : (l.map (·.slot)).getD j default = (l.getD j default).slot := by
                    have hjl' : j < l.length := Nat.lt_trans hjk hlt
                    simp [List.getD_eq_getElem?_getD, hjl']
                  rw [hgd] at d0 d1 d2
                  subst hA7
                  have hj0 : (0 : Int) ≤ (j : Int) := Int.natCast_nonneg _
                  have hj1 : (j : Int) < (k : Int) := Int.ofNat_lt.2 hjk
                  have a2 : j + 1 ≤ k := hjk
                  have HF1 := Lib.hid (HFM.out j hjk)
                  have HMS : Hid (meetB ⟨xc, xt, xh⟩ (l.getD j default).slot = false → ∀ i, i < j + 1 → meetB ⟨xc, xt, xh⟩ (l.getD i default).slot = false) := Lib.hid fun hq i hi => by
                    rcases Nat.lt_succ_iff_lt_or_eq.1 hi with h' | h'
                    · exact HM.out i h'
                    · rw [h']; exact hq
                  clear HM hgd hjl HFM HG2 HG3
                  have HXj := Lib.hid (HX5.out.below HBj.out HX5.out.lt)
                  generalize (l.getD j default).slot = y at *
                  obtain ⟨yc, yt, yh⟩ := y
                  simp only at d0 d1 d2
                  have KM := Lib.hid (fun V => meet_any ⟨xc, xt, xh⟩ ⟨yc, yt, yh⟩ V)
                  unfold sltL at KM
                  simp only at KM
                  generalize meetB ⟨xc, xt, xh⟩ ⟨yc, yt, yh⟩ = mb at *
                  have x1 : Wj.cell? ⟨gx, 1, none⟩ = some (.int .i64 xc) := HXj.out.cell 1
                  have x2 : Wj.cell? ⟨gx, 2, none⟩ = some (.int .i64 xt) := HXj.out.cell 2
                  have x3 : Wj.cell? ⟨gx, 3, none⟩ = some (.int .u8 (xh : Nat)) := HXj.out.cell 3
                  have hgx := HXj.out.lt
                  clear HXj
                  go_wp2_with fail
                  refine (KM.out _).mono ?_
                  rintro e W6 ⟨rfl, hb6⟩
                  simp only
                  have HB6 : Hid (Below V1.heap.size V1 W6) := Lib.hid ((HBj.out.trans ((ba1 Wj _).mono HBj.out.size)).trans (hb6.mono (Nat.le_trans HBj.out.size (ba1 Wj _).size)))
                  have hbe := HSW.out.trans (HB6.out.mono HSW.out.size)
                  clear hb6 KM d0 d1 d2 x1 x2 x3 hgx
                  cases mb with
                  | true =>
                    have HF : Hid (stowRight s boxes l = false) := Lib.hid (by first | exact HF1.out rfl | exact HF1.out trivial)
                    go_wp2_with fail
                    go_ret
                    exact ⟨by rw [HF.out]; rfl, hbe⟩
                  | false =>
                    have HM2 : Hid (∀ i, i < j + 1 → meetB ⟨xc, xt, xh⟩ (l.getD i default).slot = false) := Lib.hid (by first | exact HMS.out rfl | exact HMS.out trivial)
                    clear HF1 HMS
                    go_wp2_with fail
                    go_roundw
                    case rel => (repeat apply Exists.intro); (first | exact ⟨⟨j + 1, a2, by go_num, HM2, HB6⟩, rfl⟩ | exact ⟨a2, by go_num, HM2, HB6⟩)
                    case measure => simp [intOf]; omega
                · have HF : Hid (∀ i, i < k + 1 → stowAt s boxes l i = true) := Lib.hid (HG2.out (HG3.out fun i hi => HM.out i (Nat.lt_of_lt_of_le hi (Nat.not_lt.1 hjk))))
                  have HBz : Hid (Below w2.heap.size w2 Wj) := Lib.hid (HB5.out.trans (HBj.out.mono HB5.out.size))
                  clear HG2 HG3 HM HFM
                  go_wp2_with fail
                  go_roundw
                  case rel => (repeat apply Exists.intro); (first | exact ⟨⟨k + 1, a1, by go_num, HF, HBz⟩, rfl⟩ | exact ⟨a1, by go_num, HF, HBz⟩)
                  case measure => simp [intOf]; omega
        · have HGA : Hid (∀ j, j < l.length → stowAt s boxes l j = true) := Lib.hid fun j hj => HG.out j (Nat.lt_of_lt_of_le hj (Nat.not_lt.1 hlt))
          go_wp2_with fail
          go_meet
          exact ⟨HGA, HB⟩
    case rest =>
      obtain ⟨HG, HB⟩ := hcut
      obtain ⟨V0, rfl⟩ : ∃ V, V = wc := ⟨_, rfl⟩
      have HSV := Lib.hid (HSON.out V0 HB.out)
      have e0 : V0.cell? ⟨w.heap.size, 0, none⟩ = some (.slice h.A1 s.cols.length h.c1) := HSV.out.bk.cell 0
      go_wp2_with fail
      clear e0
      go_loopw [84] (fun i wr => ∃ k : Nat, k ≤ s.cols.length ∧ i = .int .i64 k ∧ Hid (∀ j, j < k → fitsF s boxes l j = true) ∧ Hid (Below w2.heap.size w2 wr)) (fun i _ => s.cols.length - (intOf i).toNat)
      case atStart => exact ⟨0, Nat.zero_le _, rfl, Lib.hid (fun j h => absurd h (Nat.not_lt_zero _)), HB⟩
      case round =>
        clear HB HSV
        obtain ⟨k, hk, rfl, HFT, HB⟩ := hrel
        have HSV := Lib.hid (HSON.out wr HB.out)
        by_cases hlt : k < s.cols.length
        · have HNF := Lib.hid (fun hfl => stowRight_falseFit (s := s) (boxes := boxes) (l := l) hlt hfl)
          have KF := Lib.hid (HFITS.out k wr hlt HB.out)
          have a1 : k + 1 ≤ s.cols.length := hlt
          have HSU : Hid (fitsF s boxes l k = true → ∀ j, j < k + 1 → fitsF s boxes l j = true) := Lib.hid fun hq j hj => by
            rcases Nat.lt_succ_iff_lt_or_eq.1 hj with h' | h'
            · exact HFT.out j h'
            · rw [h']; exact hq
          clear HFT
          have e0 : wr.cell? ⟨w.heap.size, 0, none⟩ = some (.slice h.A1 s.cols.length h.c1) := HSV.out.bk.cell 0
          have e1 : wr.cell? ⟨w.heap.size, 1, none⟩ = some (.slice h.A2 s.covs.length h.c2) := HSV.out.bk.cell 1
          have e2 : wr.cell? ⟨w.heap.size, 2, none⟩ = some (.int .i64 s.l0) := HSV.out.bk.cell 2
          have e3 : wr.cell? ⟨w.heap.size, 3, none⟩ = some (.int .i64 s.l1) := HSV.out.bk.cell 3
          have e4 : wr.cell? ⟨w.heap.size, 4, none⟩ = some (.int .i64 s.l2) := HSV.out.bk.cell 4
          have e5 : wr.cell? ⟨w.heap.size, 5, none⟩ = some (.int .i64 s.l3) := HSV.out.bk.cell 5
          have e6 : wr.cell? ⟨w.heap.size, 6, none⟩ = some (.slice h.A3 s.rows.length h.c3) := HSV.out.bk.cell 6
          have e7 : wr.cell? ⟨w.heap.size, 7, none⟩ = some (.slice h.A4 s.frames.length h.c4) := HSV.out.bk.cell 7
          have e8 : wr.cell? ⟨w.heap.size, 8, none⟩ = some (.slice h.A5 s.tanks.length h.c5) := HSV.out.bk.cell 8
          have e9 : wr.cell? ⟨w.heap.size, 9, none⟩ = some (.int .i64 s.m0) := HSV.out.bk.cell 9
          have e10 : wr.cell? ⟨w.heap.size, 10, none⟩ = some (.int .i64 s.m1) := HSV.out.bk.cell 10
          have e11 : wr.cell? ⟨w.heap.size, 11, none⟩ = some (.int .i64 s.m2) := HSV.out.bk.cell 11
          have e12 : wr.cell? ⟨w.heap.size, 12, none⟩ = some (.int .i64 s.m3) := HSV.out.bk.cell 12
          generalize fitsF s boxes l k = fk at *
          go_wp2_with fail
          refine KF.out.mono ?_
          rintro e w4 ⟨rfl, hb4⟩
          simp only
          clear KF e0 e1 e2 e3 e4 e5 e6 e7 e8 e9 e10 e11 e12
          have HB4 : Hid (Below w2.heap.size w2 w4) := Lib.hid (HB.out.trans (hb4.mono HB.out.size))
          have hbe := HSV.out.be.trans (hb4.mono HSV.out.be.size)
          cases fk with
          | false =>
            have HF : Hid (stowRight s boxes l = false) := Lib.hid (by first | exact HNF.out rfl | exact HNF.out trivial)
            clear HNF HSU
            go_wp2_with fail
            go_ret
            exact ⟨by rw [HF.out]; rfl, hbe⟩
          | true =>
            have HF2 : Hid (∀ j, j < k + 1 → fitsF s boxes l j = true) := Lib.hid (by first | exact HSU.out rfl | exact HSU.out trivial)
            clear HNF HSU
            go_wp2_with fail
            go_roundw
            case rel => (repeat apply Exists.intro); (first | exact ⟨⟨k + 1, a1, by go_num, HF2, HB4⟩, rfl⟩ | exact ⟨a1, by go_num, HF2, HB4⟩)
            case measure => simp [intOf]; omega
        · have HF : Hid (stowRight s boxes l = true) := Lib.hid (stowRight_parts.2 ⟨HRT.out, HG.out, fun j hj => HFT.out j (Nat.lt_of_lt_of_le hj (Nat.not_lt.1 hlt))⟩)
          go_wp2_with fail
          go_ret
          exact ⟨by rw [HF.out]; rfl, HSV.out.be⟩
end Go.Proofs.YtmhikcleekfbpaaDoor
