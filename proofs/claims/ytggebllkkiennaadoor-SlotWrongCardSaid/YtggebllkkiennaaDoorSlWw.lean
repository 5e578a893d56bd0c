/-
  The walk of the statement SlotWrong.
-/
import Derived.Test.YtggebllkkiennaaDoorSlWb
import Derived.Test.YtggebllkkiennaaDoorSlAll
import Derived.Test.YtggebllkkiennaaDoorShV
namespace Go.Proofs.YtggebllkkiennaaDoor
open Go.RowKit

set_option maxRecDepth 100000 in
set_option maxHeartbeats 20000000 in
theorem slotWrong_any (A : Option Addr) (c : Nat) (pl : List (Nat × Nat × Nat × Bool)) (covers : Nat) (x : Slt) (n : Int) (nb : Nat) (w : World) (hs : SlT tPl w (Lt w.heap.size) A pl) (hl : ∀ p ∈ pl, p.1 < 256 ∧ p.2.1 < 256 ∧ p.2.2.1 < 256) (hc : pl.length ≤ c) (hcm : c ≤ maxLen) (hx : x.half < 256) (hxi : I64 x.col ∧ I64 x.tier) (hn : I64 n) (hcb : nb < 256) (hq : QuarOK w) :
    Calls Tryd.prog 7 #[.slice A pl.length c, .int .u32 (covers : Nat), .agg (sltL x).toArray, .int .i64 n, .int .u8 (nb : Nat)] w (TrueRet w) := by
  have HQ := Lib.hid hq
  have hbx := ba1 w (.cells (sltL x).toArray 34)
  have kx := Bk.new w 34 (sltL x).toArray
  have HBU := Lib.hid (built_s (covers := covers) (hs.on hbx) hl hc hcm)
  clear hq hs hl hc hcm
  obtain ⟨xc, xt, xh⟩ := x
  unfold sltL at kx hbx HBU ⊢
  simp only at kx hbx HBU hx hxi ⊢
  go_enter Tryd.func7, Tryd.ntmps7
  go_wp2_with fail
  refine HBU.out.mono ?_
  rintro e w1 ⟨s, h, gs, rfl, hbu, _, _, hrd, hb1⟩
  have HS0 : Hid (SA w (w1.alloc (.cells (shpA s h) 32)) w1.heap.size w.heap.size s h ⟨xc, xt, xh⟩) := Lib.hid ⟨⟨hrd.on (ba1 w1 _), Bk.new w1 _ _, (hbx.trans (hb1.mono hbx.size)).trans ((ba1 w1 _).mono (hbx.trans (hb1.mono hbx.size)).size)⟩, (kx.below hb1 kx.lt).alloc _⟩
  have HU := Lib.hid hbu
  have hn12 := hbu.few
  have hn1 := hbu.one
  clear hbu hrd hb1 HBU kx hbx
  have HP : Hid (∀ c, c < s.cols.length → 0 ≤ (s.cols.getD c default).tiers) := Lib.hid fun c hc => by have := (HU.out.col hc).tiers; omega
  have HTN : Hid (∀ c, tiersN s c ≤ 1000000) := Lib.hid fun c => by
    unfold tiersN
    by_cases hc : c < s.cols.length
    · have := (HU.out.col hc).tiers; omega
    · rw [show s.cols.getD c default = default from by rw [List.getD_eq_getElem?_getD, List.getElem?_eq_none (by omega)]; rfl]
      show (0 : Int).toNat ≤ _
      simp
  have HBD := tiersTo_bd (l := s.cols) (fun c hc => (HU.out.col hc).tiers) s.cols.length (Nat.le_refl _)
  have hl40 : ((allF s 40).length : Int) = tiersTo s.cols s.cols.length := by rw [all_len HP.out]; simp [halvesL]
  have hmem0 : (⟨0, 0, 0⟩ : Slt) ∈ allF s 40 := mem_all.2 ⟨0, 0, by omega, by unfold tiersN; have := (HU.out.col (i := 0) (by omega)).tiers; omega, rfl, rfl, by simp [halvesL]⟩
  have hpos : 0 < (allF s 40).length := List.length_pos_of_mem hmem0
  have hle : (allF s 40).length ≤ 100 := by omega
  clear HBD hl40 hmem0
  unfold shpA at HS0 ⊢
  go_upto_region 2 with fail
  generalize w1.heap.size = g at *
  generalize (w1.alloc _) = W at *
  have KN : Hid (∀ (y : Slt) (V : World), Below W.heap.size W V → Calls Tryd.prog 13 #[.agg #[.slice h.A1 s.cols.length h.c1, .slice h.A2 s.covs.length h.c2, .int .i64 s.l0, .int .i64 s.l1, .int .i64 s.l2, .int .i64 s.l3, .slice h.A3 s.rows.length h.c3, .slice h.A4 s.frames.length h.c4, .slice h.A5 s.tanks.length h.c5, .int .i64 s.m0, .int .i64 s.m1, .int .i64 s.m2, .int .i64 s.m3], .agg (sltL y).toArray] V (NameRet V (nameF s y))) := Lib.hid fun y V hV => name_any s h y V (HS0.out.on hV).sh.rd HU.out.Few HU.out.ints (HQ.out.below (HS0.out.on hV).sh.be)
  have KF : Hid (∀ (nm : ByteArray) (V : World), Below W.heap.size W V → Calls Tryd.prog 15 #[.agg #[.slice h.A1 s.cols.length h.c1, .slice h.A2 s.covs.length h.c2, .int .i64 s.l0, .int .i64 s.l1, .int .i64 s.l2, .int .i64 s.l3, .slice h.A3 s.rows.length h.c3, .slice h.A4 s.frames.length h.c4, .slice h.A5 s.tanks.length h.c5, .int .i64 s.m0, .int .i64 s.m1, .int .i64 s.m2, .int .i64 s.m3], .string nm] V (FindRet V (findSF s nm))) := Lib.hid fun nm V hV => findS_any s h nm V (HS0.out.on hV).sh.rd HU.out.Few HU.out.ints (HQ.out.below (HS0.out.on hV).sh.be)
  have KALL := Lib.hid (all_any s h 40 W HS0.out.sh.rd (by omega) HTN.out (by omega))
  have HR := Lib.hid HU.out.right
  have hsr : slotRight s ((allF s 40).getD 0 default) 40 = true := right_mem.2 (getD_memD hpos default)
  have HNM := Lib.hid (name_ok HR.out hsr (Or.inr rfl))
  have HRT := Lib.hid hsr
  clear hsr
  generalize allF s 40 = L at *
  have e0 : W.cell? ⟨g, 0, none⟩ = some (.slice h.A1 s.cols.length h.c1) := HS0.out.sh.bk.cell 0
  have e1 : W.cell? ⟨g, 1, none⟩ = some (.slice h.A2 s.covs.length h.c2) := HS0.out.sh.bk.cell 1
  have e2 : W.cell? ⟨g, 2, none⟩ = some (.int .i64 s.l0) := HS0.out.sh.bk.cell 2
  have e3 : W.cell? ⟨g, 3, none⟩ = some (.int .i64 s.l1) := HS0.out.sh.bk.cell 3
  have e4 : W.cell? ⟨g, 4, none⟩ = some (.int .i64 s.l2) := HS0.out.sh.bk.cell 4
  have e5 : W.cell? ⟨g, 5, none⟩ = some (.int .i64 s.l3) := HS0.out.sh.bk.cell 5
  have e6 : W.cell? ⟨g, 6, none⟩ = some (.slice h.A3 s.rows.length h.c3) := HS0.out.sh.bk.cell 6
  have e7 : W.cell? ⟨g, 7, none⟩ = some (.slice h.A4 s.frames.length h.c4) := HS0.out.sh.bk.cell 7
  have e8 : W.cell? ⟨g, 8, none⟩ = some (.slice h.A5 s.tanks.length h.c5) := HS0.out.sh.bk.cell 8
  have e9 : W.cell? ⟨g, 9, none⟩ = some (.int .i64 s.m0) := HS0.out.sh.bk.cell 9
  have e10 : W.cell? ⟨g, 10, none⟩ = some (.int .i64 s.m1) := HS0.out.sh.bk.cell 10
  have e11 : W.cell? ⟨g, 11, none⟩ = some (.int .i64 s.m2) := HS0.out.sh.bk.cell 11
  have e12 : W.cell? ⟨g, 12, none⟩ = some (.int .i64 s.m3) := HS0.out.sh.bk.cell 12
  go_wp2_with fail
  refine KALL.out.mono ?_
  rintro e W1 ⟨v, rfl, hv, hb1⟩
  obtain ⟨A', c7, rfl, _, _, hsl⟩ := hv.sl
  have HB1 := Lib.hid hb1
  have HS1 := Lib.hid (HS0.out.on hb1)
  obtain ⟨b, off, rfl, hbb, z0, z1, z2⟩ := hsl.slt hpos
  clear hv hb1 hsl e0 e1 e2 e3 e4 e5 e6 e7 e8 e9 e10 e11 e12 KALL
  have hl0 : ((L.length : Int) == 0) = false := beq_false_of_ne (by omega)
  have hl1 : (0 : Int) < (L.length : Int) := by omega
  generalize L.getD 0 default = y at *
  obtain ⟨yc, yt, yh⟩ := y
  simp only [Nat.zero_mul, Nat.add_zero] at z0 z1 z2
  have KN1 : Hid (∀ V : World, Below W1.heap.size W1 V → Calls Tryd.prog 13 #[.agg #[.slice h.A1 s.cols.length h.c1, .slice h.A2 s.covs.length h.c2, .int .i64 s.l0, .int .i64 s.l1, .int .i64 s.l2, .int .i64 s.l3, .slice h.A3 s.rows.length h.c3, .slice h.A4 s.frames.length h.c4, .slice h.A5 s.tanks.length h.c5, .int .i64 s.m0, .int .i64 s.m1, .int .i64 s.m2, .int .i64 s.m3], .agg #[.int .i64 yc, .int .i64 yt, .int .u8 (yh : Nat)]] V (Ret V (.tuple #[.string (strN (nameL s ⟨yc, yt, yh⟩)), .int .i64 0]))) := Lib.hid fun V hV => by
    have := KN.out ⟨yc, yt, yh⟩ V (HB1.out.trans (hV.mono HB1.out.size))
    rw [HNM.out] at this
    exact this
  go_upto_region 5 with fail
  have e0 : ∀ p : Gr W1, p.W.cell? ⟨g, 0, none⟩ = some (.slice h.A1 s.cols.length h.c1) := Gr.cell (HS1.out.sh.bk.cell 0)
  have e1 : ∀ p : Gr W1, p.W.cell? ⟨g, 1, none⟩ = some (.slice h.A2 s.covs.length h.c2) := Gr.cell (HS1.out.sh.bk.cell 1)
  have e2 : ∀ p : Gr W1, p.W.cell? ⟨g, 2, none⟩ = some (.int .i64 s.l0) := Gr.cell (HS1.out.sh.bk.cell 2)
  have e3 : ∀ p : Gr W1, p.W.cell? ⟨g, 3, none⟩ = some (.int .i64 s.l1) := Gr.cell (HS1.out.sh.bk.cell 3)
  have e4 : ∀ p : Gr W1, p.W.cell? ⟨g, 4, none⟩ = some (.int .i64 s.l2) := Gr.cell (HS1.out.sh.bk.cell 4)
  have e5 : ∀ p : Gr W1, p.W.cell? ⟨g, 5, none⟩ = some (.int .i64 s.l3) := Gr.cell (HS1.out.sh.bk.cell 5)
  have e6 : ∀ p : Gr W1, p.W.cell? ⟨g, 6, none⟩ = some (.slice h.A3 s.rows.length h.c3) := Gr.cell (HS1.out.sh.bk.cell 6)
  have e7 : ∀ p : Gr W1, p.W.cell? ⟨g, 7, none⟩ = some (.slice h.A4 s.frames.length h.c4) := Gr.cell (HS1.out.sh.bk.cell 7)
  have e8 : ∀ p : Gr W1, p.W.cell? ⟨g, 8, none⟩ = some (.slice h.A5 s.tanks.length h.c5) := Gr.cell (HS1.out.sh.bk.cell 8)
  have e9 : ∀ p : Gr W1, p.W.cell? ⟨g, 9, none⟩ = some (.int .i64 s.m0) := Gr.cell (HS1.out.sh.bk.cell 9)
  have e10 : ∀ p : Gr W1, p.W.cell? ⟨g, 10, none⟩ = some (.int .i64 s.m1) := Gr.cell (HS1.out.sh.bk.cell 10)
  have e11 : ∀ p : Gr W1, p.W.cell? ⟨g, 11, none⟩ = some (.int .i64 s.m2) := Gr.cell (HS1.out.sh.bk.cell 11)
  have e12 : ∀ p : Gr W1, p.W.cell? ⟨g, 12, none⟩ = some (.int .i64 s.m3) := Gr.cell (HS1.out.sh.bk.cell 12)
  have y0 : ∀ p : Gr W1, p.W.cell? ⟨b, off, none⟩ = some (.int .i64 yc) := Gr.cell z0
  have y1 : ∀ p : Gr W1, p.W.cell? ⟨b, off + 1, none⟩ = some (.int .i64 yt) := Gr.cell z1
  have y2 : ∀ p : Gr W1, p.W.cell? ⟨b, off + 2, none⟩ = some (.int .u8 (yh : Nat)) := Gr.cell z2
  refine wp_region_gr (by kernel_rfl) (by kernel_rfl) ?_
  repeat (go_big_quiet_step ((with_reducible exact Gr.call _ (fun V hV => KN1.out V hV))))
  refine wpQuiet_nil ?_
  rintro W2 ⟨⟨_, hb⟩, rfl⟩
  clear e0 e1 e2 e3 e4 e5 e6 e7 e8 e9 e10 e11 e12 y0 y1 y2 z0 z1 z2 KN1
  have HS2 := Lib.hid (HS1.out.on hb)
  have HB2 := Lib.hid (HB1.out.trans (hb.mono HB1.out.size))
  clear hb HS1 HB1 hbb
  have hnl := name_len s ⟨yc, yt, yh⟩
  have hns : (strN (nameL s ⟨yc, yt, yh⟩)).size = 7 := by rw [strN_size]; exact hnl
  have HSM := Lib.hid (name_small (s := s) (x := ⟨yc, yt, yh⟩))
  have HDG := Lib.hid (name_dig (s := s) (x := ⟨yc, yt, yh⟩))
  have HFN := Lib.hid (find_of_name HR.out HRT.out)
  clear HNM HRT
  generalize nameL s ⟨yc, yt, yh⟩ = T at *
  go_upto_region 8 with fail
  have e0 : W2.cell? ⟨g, 0, none⟩ = some (.slice h.A1 s.cols.length h.c1) := HS2.out.sh.bk.cell 0
  have e1 : W2.cell? ⟨g, 1, none⟩ = some (.slice h.A2 s.covs.length h.c2) := HS2.out.sh.bk.cell 1
  have e2 : W2.cell? ⟨g, 2, none⟩ = some (.int .i64 s.l0) := HS2.out.sh.bk.cell 2
  have e3 : W2.cell? ⟨g, 3, none⟩ = some (.int .i64 s.l1) := HS2.out.sh.bk.cell 3
  have e4 : W2.cell? ⟨g, 4, none⟩ = some (.int .i64 s.l2) := HS2.out.sh.bk.cell 4
  have e5 : W2.cell? ⟨g, 5, none⟩ = some (.int .i64 s.l3) := HS2.out.sh.bk.cell 5
  have e6 : W2.cell? ⟨g, 6, none⟩ = some (.slice h.A3 s.rows.length h.c3) := HS2.out.sh.bk.cell 6
  have e7 : W2.cell? ⟨g, 7, none⟩ = some (.slice h.A4 s.frames.length h.c4) := HS2.out.sh.bk.cell 7
  have e8 : W2.cell? ⟨g, 8, none⟩ = some (.slice h.A5 s.tanks.length h.c5) := HS2.out.sh.bk.cell 8
  have e9 : W2.cell? ⟨g, 9, none⟩ = some (.int .i64 s.m0) := HS2.out.sh.bk.cell 9
  have e10 : W2.cell? ⟨g, 10, none⟩ = some (.int .i64 s.m1) := HS2.out.sh.bk.cell 10
  have e11 : W2.cell? ⟨g, 11, none⟩ = some (.int .i64 s.m2) := HS2.out.sh.bk.cell 11
  have e12 : W2.cell? ⟨g, 12, none⟩ = some (.int .i64 s.m3) := HS2.out.sh.bk.cell 12
  go_upto_region 9 with fail
  have HK15 := Lib.hid (Bk.new W2 32 #[.slice h.A1 s.cols.length h.c1, .slice h.A2 s.covs.length h.c2, .int .i64 s.l0, .int .i64 s.l1, .int .i64 s.l2, .int .i64 s.l3, .slice h.A3 s.rows.length h.c3, .slice h.A4 s.frames.length h.c4, .slice h.A5 s.tanks.length h.c5, .int .i64 s.m0, .int .i64 s.m1, .int .i64 s.m2, .int .i64 s.m3])
  have HS3 := Lib.hid (HS2.out.on (ba1 W2 (.cells #[.slice h.A1 s.cols.length h.c1, .slice h.A2 s.covs.length h.c2, .int .i64 s.l0, .int .i64 s.l1, .int .i64 s.l2, .int .i64 s.l3, .slice h.A3 s.rows.length h.c3, .slice h.A4 s.frames.length h.c4, .slice h.A5 s.tanks.length h.c5, .int .i64 s.m0, .int .i64 s.m1, .int .i64 s.m2, .int .i64 s.m3] 32)))
  have HB3 := Lib.hid (HB2.out.trans ((ba1 W2 (.cells #[.slice h.A1 s.cols.length h.c1, .slice h.A2 s.covs.length h.c2, .int .i64 s.l0, .int .i64 s.l1, .int .i64 s.l2, .int .i64 s.l3, .slice h.A3 s.rows.length h.c3, .slice h.A4 s.frames.length h.c4, .slice h.A5 s.tanks.length h.c5, .int .i64 s.m0, .int .i64 s.m1, .int .i64 s.m2, .int .i64 s.m3] 32)).mono HB2.out.size))
  have hgo := HS2.out.sh.bk.lt
  have hgx := HS2.out.x.lt
  have HT : Hid (ShB w (W2.alloc (.cells (shpA s h) 32)) W2.heap.size W2.heap.size s h) := Lib.hid ⟨HS2.out.sh.rd.below (ba1 W2 _), Bk.new W2 _ _, HS2.out.sh.be.trans ((ba1 W2 _).mono HS2.out.sh.be.size), by simp⟩
  have hwgb := HS2.out.sh.be.size
  have hWgb := HB2.out.size
  unfold shpA at HT
  clear e0 e1 e2 e3 e4 e5 e6 e7 e8 e9 e10 e11 e12 HS2 HB2
  generalize W2.heap.size = gb at *
  generalize (W2.alloc _) = W3 at *
  obtain ⟨cb, coff, Ap, q, hA1, hgb, hpq, hpl, c0, c1, c2, c3, c4, c5, c6, c7', c8, c9, c10, c11⟩ := HT.out.rd.cols.col (i := 0) (by omega)
  have hgb : cb < gb := hgb
  have e0 : W3.cell? ⟨g, 0, none⟩ = some (.slice h.A1 s.cols.length h.c1) := HS3.out.sh.bk.cell 0
  have hSR := HT.out.rd.cols
  have hn1c := HS3.out.sh.rd.n1
  rw [hA1] at e0 hSR
  have HA1 := Lib.hid hA1
  have hcol : s.cols.getD 0 default = s.cols.getD 0 default := rfl
  simp only [Nat.zero_mul, Nat.add_zero] at c0 c1 c2 c3 c4 c5 c6 c7' c8 c9 c10 c11
  generalize hcd : s.cols.getD 0 default = col at *
  have HCD := Lib.hid hcd
  have HPL := Lib.hid hpl
  obtain ⟨xb, xr, xd, xti, xhe, xk2, xk4, xl, xp, xx, xy, xz⟩ := col
  simp only at c0 c1 c2 c3 c4 c5 c6 c7' c8 c9 c10 c11 hpq
  have hgl := hgo
  have hgbo := hgb
  have HSR := Lib.hid hSR
  have HKW : Hid (∀ V : World, Below gb W3 V → V.cell? ⟨g, 0, none⟩ = some (.slice (some ⟨cb, coff, none⟩) s.cols.length h.c1) ∧ V.cell? ⟨cb, coff, none⟩ = some (.int .i64 xb) ∧ V.cell? ⟨cb, coff + 1, none⟩ = some (.int .i64 xr) ∧ V.cell? ⟨cb, coff + 2, none⟩ = some (.bool xd) ∧ V.cell? ⟨cb, coff + 3, none⟩ = some (.int .i64 xti) ∧ V.cell? ⟨cb, coff + 4, none⟩ = some (.int .i64 xhe) ∧ V.cell? ⟨cb, coff + 5, none⟩ = some (.int .i64 xk2) ∧ V.cell? ⟨cb, coff + 6, none⟩ = some (.int .i64 xk4) ∧ V.cell? ⟨cb, coff + 7, none⟩ = some (.int .i64 xl) ∧ V.cell? ⟨cb, coff + 8, none⟩ = some (.slice Ap xp.length q) ∧ V.cell? ⟨cb, coff + 9, none⟩ = some (.int .i64 xx) ∧ V.cell? ⟨cb, coff + 10, none⟩ = some (.int .i64 xy) ∧ V.cell? ⟨cb, coff + 11, none⟩ = some (.int .i64 xz)) := Lib.hid fun V hV => ⟨(hV.cell (p := ⟨g, 0, none⟩) hgl).trans e0, (hV.cell (p := ⟨cb, coff, none⟩) hgbo).trans c0, (hV.cell (p := ⟨cb, coff + 1, none⟩) hgbo).trans c1, (hV.cell (p := ⟨cb, coff + 2, none⟩) hgbo).trans c2, (hV.cell (p := ⟨cb, coff + 3, none⟩) hgbo).trans c3, (hV.cell (p := ⟨cb, coff + 4, none⟩) hgbo).trans c4, (hV.cell (p := ⟨cb, coff + 5, none⟩) hgbo).trans c5, (hV.cell (p := ⟨cb, coff + 6, none⟩) hgbo).trans c6, (hV.cell (p := ⟨cb, coff + 7, none⟩) hgbo).trans c7', (hV.cell (p := ⟨cb, coff + 8, none⟩) hgbo).trans c8, (hV.cell (p := ⟨cb, coff + 9, none⟩) hgbo).trans c9, (hV.cell (p := ⟨cb, coff + 10, none⟩) hgbo).trans c10, (hV.cell (p := ⟨cb, coff + 11, none⟩) hgbo).trans c11⟩
  clear hcd hA1 hSR hcol hpl
  have hi1 : (0 : Int) < (s.cols.length : Int) := by omega
  have hi2 : 0 < s.cols.length := by omega
  have hi3 : ¬ s.cols = [] := List.ne_nil_of_length_pos hi2
  have hgb15 := HK15.out.lt
  have hle15 := Nat.le_of_lt hgb15
  have HSRB : Hid (∀ V : World, Below W3.heap.size W3 V → SlT tCol V (Lt gb) (some ⟨cb, coff, none⟩) s.cols) := Lib.hid fun V hV => HSR.out.below (hV.mono hle15)
  have HFL : Hid (∀ V : World, Below W3.heap.size W3 V → Flat tCol V (Lt gb) (#[.int .i64 xb, .int .i64 xr, .bool xd, .int .i64 xti, .int .i64 xhe, .int .i64 xk2, .int .i64 xk4, .int .i64 xl, .slice Ap xp.length q, .int .i64 xx, .int .i64 xy, .int .i64 xz]).toList [⟨xb, xr, xd, xti, xhe, xk2, xk4, xl, xp, xx, xy, xz⟩]) := Lib.hid fun V hV => Flat.single ⟨Ap, q, rfl, hpq, HPL.out.below (hV.mono hle15)⟩
  have f0 : W3.cell? ⟨gb, 0, none⟩ = some (.slice h.A1 s.cols.length h.c1) := HK15.out.cell 0
  have f1 := HK15.out.frozen 0
  go_cut [77] (fun _ wx => (∃ h', Hid (Sh w wx gb (twice s) h')) ∧ Hid (SA w wx g w.heap.size s h ⟨xc, xt, xh⟩) ∧ Hid (Below W.heap.size W wx))
  case first =>
    go_region_held3 (fun V => V.cell? ⟨g, 0, none⟩ = some (.slice (some ⟨cb, coff, none⟩) s.cols.length h.c1) ∧ V.cell? ⟨cb, coff, none⟩ = some (.int .i64 xb) ∧ V.cell? ⟨cb, coff + 1, none⟩ = some (.int .i64 xr) ∧ V.cell? ⟨cb, coff + 2, none⟩ = some (.bool xd) ∧ V.cell? ⟨cb, coff + 3, none⟩ = some (.int .i64 xti) ∧ V.cell? ⟨cb, coff + 4, none⟩ = some (.int .i64 xhe) ∧ V.cell? ⟨cb, coff + 5, none⟩ = some (.int .i64 xk2) ∧ V.cell? ⟨cb, coff + 6, none⟩ = some (.int .i64 xk4) ∧ V.cell? ⟨cb, coff + 7, none⟩ = some (.int .i64 xl) ∧ V.cell? ⟨cb, coff + 8, none⟩ = some (.slice Ap xp.length q) ∧ V.cell? ⟨cb, coff + 9, none⟩ = some (.int .i64 xx) ∧ V.cell? ⟨cb, coff + 10, none⟩ = some (.int .i64 xy) ∧ V.cell? ⟨cb, coff + 11, none⟩ = some (.int .i64 xz)) ((first | exact HKW.out _ (Below.setCell (HBE.out.mono hle15) (Nat.le_refl _) _) | (refine HKW.out _ ?_; first | exact HBE.out.mono hle15 | (repeat (first | exact HBD.out.mono hle15 | exact HBE.out.mono hle15 | exact Below.refl _ _ | refine Below.drew ?_ | refine Below.setCell ?_ (Nat.le_refl _) _ | refine Below.alloc ?_ (by first | exact hle15 | exact Nat.le_trans hle15 HBD.out.size | (simp only [World.size_alloc]; omega) | (simp <;> omega)) _)))))
      (first
        | (refine step_append_S el_col rfl (.tmp 69) (.tmp 71) rfl W3.heap.size (Lt gb) (.slice (some ⟨W3.heap.size, 0, none⟩) 0 0) [] (by simp [Act.eval]) ((OwnS.empty tCol _ W3 W3.heap.size (Lt gb) (Nat.le_refl _) (fun _ hb => Nat.lt_trans hb hgb15)).drew) (some ⟨cb, coff, none⟩) s.cols.length h.c1 s.cols rfl (by simp [Act.eval]) (HSRB.out _ (Below.drew (ba1 W3 (.cells #[] 54)))) (by unfold maxLen; simp; omega) (by simp; omega) (Below.drew (ba1 W3 (.cells #[] 54))).size ?_; intro v1 w4 hO1 hg1 hb1; rw [List.nil_append] at hO1; have HBD := Lib.hid (Below.trans (Below.drew (ba1 W3 (.cells #[] 54))) hb1); obtain ⟨A1, k1, rfl, _, _, _⟩ := hO1.sl; have HO1 := Lib.hid hO1; clear hO1 hg1 hb1)
        | (refine step_append_S el_col rfl (.tmp 69) (.tmp 71) rfl W3.heap.size (Lt gb) (.slice (some ⟨W3.heap.size, 0, none⟩) 0 0) [] (by simp [Act.eval]) (((OwnS.empty tCol _ W3 W3.heap.size (Lt gb) (Nat.le_refl _) (fun _ hb => Nat.lt_trans hb hgb15)).below (ba1 _ (.cells #[.int .i64 xb, .int .i64 xr, .bool xd, .int .i64 xti, .int .i64 xhe, .int .i64 xk2, .int .i64 xk4, .int .i64 xl, .slice Ap xp.length q, .int .i64 xx, .int .i64 xy, .int .i64 xz] 54))).drew) (some ⟨cb, coff, none⟩) s.cols.length h.c1 s.cols rfl (by simp [Act.eval]) (HSRB.out _ (Below.drew (ba2 W3 (.cells #[] 54) (.cells #[.int .i64 xb, .int .i64 xr, .bool xd, .int .i64 xti, .int .i64 xhe, .int .i64 xk2, .int .i64 xk4, .int .i64 xl, .slice Ap xp.length q, .int .i64 xx, .int .i64 xy, .int .i64 xz] 54)))) (by unfold maxLen; simp; omega) (by simp; omega) (Below.drew (ba2 W3 (.cells #[] 54) (.cells #[.int .i64 xb, .int .i64 xr, .bool xd, .int .i64 xti, .int .i64 xhe, .int .i64 xk2, .int .i64 xk4, .int .i64 xl, .slice Ap xp.length q, .int .i64 xx, .int .i64 xy, .int .i64 xz] 54))).size ?_; intro v1 w4 hO1 hg1 hb1; rw [List.nil_append] at hO1; have HBD := Lib.hid (Below.trans (Below.drew (ba2 W3 (.cells #[] 54) (.cells #[.int .i64 xb, .int .i64 xr, .bool xd, .int .i64 xti, .int .i64 xhe, .int .i64 xk2, .int .i64 xk4, .int .i64 xl, .slice Ap xp.length q, .int .i64 xx, .int .i64 xy, .int .i64 xz] 54))) hb1); obtain ⟨A1, k1, rfl, _, _, _⟩ := hO1.sl; have HO1 := Lib.hid hO1; have HEL := Lib.hid (Bk.grown (show Bk ((W3.alloc (.cells #[] 54)).alloc (.cells #[.int .i64 xb, .int .i64 xr, .bool xd, .int .i64 xti, .int .i64 xhe, .int .i64 xk2, .int .i64 xk4, .int .i64 xl, .slice Ap xp.length q, .int .i64 xx, .int .i64 xy, .int .i64 xz] 54)).drew (W3.heap.size + 1) 54 #[.int .i64 xb, .int .i64 xr, .bool xd, .int .i64 xti, .int .i64 xhe, .int .i64 xk2, .int .i64 xk4, .int .i64 xl, .slice Ap xp.length q, .int .i64 xx, .int .i64 xy, .int .i64 xz] from by have := Bk.new (W3.alloc (.cells #[] 54)) 54 #[.int .i64 xb, .int .i64 xr, .bool xd, .int .i64 xti, .int .i64 xhe, .int .i64 xk2, .int .i64 xk4, .int .i64 xl, .slice Ap xp.length q, .int .i64 xx, .int .i64 xy, .int .i64 xz]; rw [World.size_alloc] at this; exact this) hg1 (by simp [Value.ownBlock])); clear hO1 hg1 hb1)
        | (refine step_append_S el_col rfl (.tmp 69) (.tmp 71) rfl W3.heap.size (Lt gb) (.slice (some ⟨W3.heap.size + 1, 0, none⟩) 0 0) [] (by simp [Act.eval]) ((show OwnS tCol _ ((W3.alloc (.cells #[.int .i64 xb, .int .i64 xr, .bool xd, .int .i64 xti, .int .i64 xhe, .int .i64 xk2, .int .i64 xk4, .int .i64 xl, .slice Ap xp.length q, .int .i64 xx, .int .i64 xy, .int .i64 xz] 54)).alloc (.cells #[] 54)).drew W3.heap.size (Lt gb) (.slice (some ⟨W3.heap.size + 1, 0, none⟩) 0 0) [] from by have := OwnS.empty tCol 54 (W3.alloc (.cells #[.int .i64 xb, .int .i64 xr, .bool xd, .int .i64 xti, .int .i64 xhe, .int .i64 xk2, .int .i64 xk4, .int .i64 xl, .slice Ap xp.length q, .int .i64 xx, .int .i64 xy, .int .i64 xz] 54)) W3.heap.size (Lt gb) (by simp) (fun b hb => by simp; exact Nat.lt_succ_of_lt (Nat.lt_trans hb hgb15)); rw [World.size_alloc] at this; exact this.drew)) (some ⟨cb, coff, none⟩) s.cols.length h.c1 s.cols rfl (by simp [Act.eval]) (HSRB.out _ (Below.drew (ba2 W3 (.cells #[.int .i64 xb, .int .i64 xr, .bool xd, .int .i64 xti, .int .i64 xhe, .int .i64 xk2, .int .i64 xk4, .int .i64 xl, .slice Ap xp.length q, .int .i64 xx, .int .i64 xy, .int .i64 xz] 54) (.cells #[] 54)))) (by unfold maxLen; simp; omega) (by simp; omega) (Below.drew (ba2 W3 (.cells #[.int .i64 xb, .int .i64 xr, .bool xd, .int .i64 xti, .int .i64 xhe, .int .i64 xk2, .int .i64 xk4, .int .i64 xl, .slice Ap xp.length q, .int .i64 xx, .int .i64 xy, .int .i64 xz] 54) (.cells #[] 54))).size ?_; intro v1 w4 hO1 hg1 hb1; rw [List.nil_append] at hO1; have HBD := Lib.hid (Below.trans (Below.drew (ba2 W3 (.cells #[.int .i64 xb, .int .i64 xr, .bool xd, .int .i64 xti, .int .i64 xhe, .int .i64 xk2, .int .i64 xk4, .int .i64 xl, .slice Ap xp.length q, .int .i64 xx, .int .i64 xy, .int .i64 xz] 54) (.cells #[] 54))) hb1); obtain ⟨A1, k1, rfl, _, _, _⟩ := hO1.sl; have HO1 := Lib.hid hO1; have HEL := Lib.hid (Bk.grown (show Bk ((W3.alloc (.cells #[.int .i64 xb, .int .i64 xr, .bool xd, .int .i64 xti, .int .i64 xhe, .int .i64 xk2, .int .i64 xk4, .int .i64 xl, .slice Ap xp.length q, .int .i64 xx, .int .i64 xy, .int .i64 xz] 54)).alloc (.cells #[] 54)).drew W3.heap.size 54 #[.int .i64 xb, .int .i64 xr, .bool xd, .int .i64 xti, .int .i64 xhe, .int .i64 xk2, .int .i64 xk4, .int .i64 xl, .slice Ap xp.length q, .int .i64 xx, .int .i64 xy, .int .i64 xz] from (Bk.new W3 _ _).alloc _) hg1 (by simp [Value.ownBlock])); clear hO1 hg1 hb1)
        | (refine step_append_R (T := tCol) el_col rfl (.tmp 72) (.tmp 77) rfl W3.heap.size (Lt gb) (.slice A1 s.cols.length k1) s.cols (by simp [Act.eval]) (HO1.out.below (ba1 w4 _)) (some ⟨w4.heap.size, 0, none⟩) 1 1 [⟨xb, xr, xd, xti, xhe, xk2, xk4, xl, xp, xx, xy, xz⟩] rfl (by simp [Act.eval]) (Src.new (HFL.out _ (HBD.out.alloc HBD.out.size _)) rfl) (by unfold maxLen; first | omega | (simp; omega)) (by first | omega | (simp; omega)) (HBD.out.alloc HBD.out.size (.cells #[.int .i64 xb, .int .i64 xr, .bool xd, .int .i64 xti, .int .i64 xhe, .int .i64 xk2, .int .i64 xk4, .int .i64 xl, .slice Ap xp.length q, .int .i64 xx, .int .i64 xy, .int .i64 xz] 54)).size ?_; intro v2 w5 hO2 hg2 hb2; have HBE := Lib.hid (Below.trans (HBD.out.alloc HBD.out.size (.cells #[.int .i64 xb, .int .i64 xr, .bool xd, .int .i64 xti, .int .i64 xhe, .int .i64 xk2, .int .i64 xk4, .int .i64 xl, .slice Ap xp.length q, .int .i64 xx, .int .i64 xy, .int .i64 xz] 54)) hb2); obtain ⟨A2, k2, rfl, _, _, _⟩ := hO2.sl; have HO2 := Lib.hid hO2; have y1 := (HBE.out.cell (p := ⟨gb, 0, none⟩) hgb15).trans f0; have y2 := (HBE.out.frozen (p := ⟨gb, 0, none⟩) hgb15).trans f1; clear hO2 hg2 hb2)
        | (refine step_append_R (T := tCol) el_col rfl (.tmp 72) (.tmp 77) rfl W3.heap.size (Lt gb) (.slice A1 s.cols.length k1) s.cols (by simp [Act.eval]) (HO1.out) (some ⟨W3.heap.size + 1, 0, none⟩) 1 1 [⟨xb, xr, xd, xti, xhe, xk2, xk4, xl, xp, xx, xy, xz⟩] rfl (by simp [Act.eval]) (Src.blk HEL.out (HFL.out _ HBD.out) rfl) (by unfold maxLen; first | omega | (simp; omega)) (by first | omega | (simp; omega)) (HBD.out).size ?_; intro v2 w5 hO2 hg2 hb2; have HBE := Lib.hid (Below.trans (HBD.out) hb2); obtain ⟨A2, k2, rfl, _, _, _⟩ := hO2.sl; have HO2 := Lib.hid hO2; have y1 := (HBE.out.cell (p := ⟨gb, 0, none⟩) hgb15).trans f0; have y2 := (HBE.out.frozen (p := ⟨gb, 0, none⟩) hgb15).trans f1; clear hO2 hg2 hb2)
        | (refine step_append_R (T := tCol) el_col rfl (.tmp 72) (.tmp 77) rfl W3.heap.size (Lt gb) (.slice A1 s.cols.length k1) s.cols (by simp [Act.eval]) (HO1.out) (some ⟨W3.heap.size, 0, none⟩) 1 1 [⟨xb, xr, xd, xti, xhe, xk2, xk4, xl, xp, xx, xy, xz⟩] rfl (by simp [Act.eval]) (Src.blk HEL.out (HFL.out _ HBD.out) rfl) (by unfold maxLen; first | omega | (simp; omega)) (by first | omega | (simp; omega)) (HBD.out).size ?_; intro v2 w5 hO2 hg2 hb2; have HBE := Lib.hid (Below.trans (HBD.out) hb2); obtain ⟨A2, k2, rfl, _, _, _⟩ := hO2.sl; have HO2 := Lib.hid hO2; have y1 := (HBE.out.cell (p := ⟨gb, 0, none⟩) hgb15).trans f0; have y2 := (HBE.out.frozen (p := ⟨gb, 0, none⟩) hgb15).trans f1; clear hO2 hg2 hb2))
    all_goals
      have hO2 := HO2.out
      simp only [List.length_append, List.length_cons, List.length_nil, Nat.zero_add] at hO2
      obtain ⟨h', hL⟩ := sh_cols HT.out (Nat.le_refl _) hwgb HBE.out hO2
      have hSV := (⟨((⟨HT.out.rd, HS3.out.sh.bk, HS3.out.sh.be, hle15⟩ : ShB w W3 gb g s h).far (v := .slice A2 (s.cols.length + 1) k2) HBE.out hle15 (Nat.lt_trans hgo hgb15) (Nat.le_refl _) (Nat.ne_of_lt hgo) hwgb (Nat.le_trans hwgb hle15) 0).sh, (HS3.out.x.below HBE.out HS3.out.x.lt).far (by simpa using Nat.ne_of_lt hgx) _⟩ : SA w (w5.setCell ⟨gb, 0, none⟩ (.slice A2 (s.cols.length + 1) k2)) g w.heap.size s h ⟨xc, xt, xh⟩)
      have hL : Sh w (w5.setCell ⟨gb, 0, none⟩ (.slice A2 (s.cols.length + 1) k2)) gb (twice s) h' := by unfold twice; rw [HCD.out]; exact hL
      have hBW := (HB3.out.trans (HBE.out.mono HB3.out.size)).setCell (p := ⟨gb, 0, none⟩) hWgb (.slice A2 (s.cols.length + 1) k2)
      go_wp2_with fail
      go_meet
      exact ⟨⟨h', Lib.hid hL⟩, Lib.hid hSV, Lib.hid hBW⟩
  case rest =>
    obtain ⟨⟨h', HL⟩, HSV, HBV⟩ := hcut
    clear HKW HSRB HFL HSR HPL HT HS3 HCD HB3 HA1 HK15
    clear hpq hgb hgl hgbo hgb15 hle15 hgo hgx hwgb c0 c1 c2 c3 c4 c5 c6 c7' c8 c9 c10 c11 e0 f0 f1
    clear W3
    obtain ⟨V, rfl⟩ : ∃ V, V = wc := ⟨_, rfl⟩
    have hx' : rightF (twice s) = false := twice_wrong (by omega)
    have HFW : Hid (Few (twice s)) := Lib.hid (twice_few hn12 HU.out.Few)
    have HIW : Hid (Ints (twice s)) := Lib.hid (twice_ints (by omega) HU.out.ints)
    generalize twice s = s' at *
    have KN2 : Hid (∀ V' : World, Below V.heap.size V V' → Calls Tryd.prog 13 #[.agg #[.slice h'.A1 s'.cols.length h'.c1, .slice h'.A2 s'.covs.length h'.c2, .int .i64 s'.l0, .int .i64 s'.l1, .int .i64 s'.l2, .int .i64 s'.l3, .slice h'.A3 s'.rows.length h'.c3, .slice h'.A4 s'.frames.length h'.c4, .slice h'.A5 s'.tanks.length h'.c5, .int .i64 s'.m0, .int .i64 s'.m1, .int .i64 s'.m2, .int .i64 s'.m3], .agg #[.int .i64 xc, .int .i64 xt, .int .u8 (xh : Nat)]] V' (Ret V' (.tuple #[.string (strN []), .int .i64 2]))) := Lib.hid fun V' hV => by
      have := name_any s' h' ⟨xc, xt, xh⟩ V' (HL.out.rd.on hV) HFW.out HIW.out (HQ.out.below (HL.out.be.trans (hV.mono HL.out.be.size)))
      rw [name_wrongShip hx'] at this
      exact this
    have KF2 : Hid (∀ V' : World, Below V.heap.size V V' → Calls Tryd.prog 15 #[.agg #[.slice h'.A1 s'.cols.length h'.c1, .slice h'.A2 s'.covs.length h'.c2, .int .i64 s'.l0, .int .i64 s'.l1, .int .i64 s'.l2, .int .i64 s'.l3, .slice h'.A3 s'.rows.length h'.c3, .slice h'.A4 s'.frames.length h'.c4, .slice h'.A5 s'.tanks.length h'.c5, .int .i64 s'.m0, .int .i64 s'.m1, .int .i64 s'.m2, .int .i64 s'.m3], .string (strN T)] V' (Ret V' (.tuple #[.agg (sltL zS).toArray, .int .i64 2]))) := Lib.hid fun V' hV => by
      have := findS_any s' h' (strN T) V' (HL.out.rd.on hV) HFW.out HIW.out (HQ.out.below (HL.out.be.trans (hV.mono HL.out.be.size)))
      rw [find_wrongShip hx'] at this
      exact this
    unfold sltL zS at KF2
    clear HFW HIW hx'
    go_upto_region 10 with fail
    have q0 : ∀ p : Gr V, p.W.cell? ⟨gb, 0, none⟩ = some (.slice h'.A1 s'.cols.length h'.c1) := Gr.cell (HL.out.bk.cell 0)
    have q1 : ∀ p : Gr V, p.W.cell? ⟨gb, 1, none⟩ = some (.slice h'.A2 s'.covs.length h'.c2) := Gr.cell (HL.out.bk.cell 1)
    have q2 : ∀ p : Gr V, p.W.cell? ⟨gb, 2, none⟩ = some (.int .i64 s'.l0) := Gr.cell (HL.out.bk.cell 2)
    have q3 : ∀ p : Gr V, p.W.cell? ⟨gb, 3, none⟩ = some (.int .i64 s'.l1) := Gr.cell (HL.out.bk.cell 3)
    have q4 : ∀ p : Gr V, p.W.cell? ⟨gb, 4, none⟩ = some (.int .i64 s'.l2) := Gr.cell (HL.out.bk.cell 4)
    have q5 : ∀ p : Gr V, p.W.cell? ⟨gb, 5, none⟩ = some (.int .i64 s'.l3) := Gr.cell (HL.out.bk.cell 5)
    have q6 : ∀ p : Gr V, p.W.cell? ⟨gb, 6, none⟩ = some (.slice h'.A3 s'.rows.length h'.c3) := Gr.cell (HL.out.bk.cell 6)
    have q7 : ∀ p : Gr V, p.W.cell? ⟨gb, 7, none⟩ = some (.slice h'.A4 s'.frames.length h'.c4) := Gr.cell (HL.out.bk.cell 7)
    have q8 : ∀ p : Gr V, p.W.cell? ⟨gb, 8, none⟩ = some (.slice h'.A5 s'.tanks.length h'.c5) := Gr.cell (HL.out.bk.cell 8)
    have q9 : ∀ p : Gr V, p.W.cell? ⟨gb, 9, none⟩ = some (.int .i64 s'.m0) := Gr.cell (HL.out.bk.cell 9)
    have q10 : ∀ p : Gr V, p.W.cell? ⟨gb, 10, none⟩ = some (.int .i64 s'.m1) := Gr.cell (HL.out.bk.cell 10)
    have q11 : ∀ p : Gr V, p.W.cell? ⟨gb, 11, none⟩ = some (.int .i64 s'.m2) := Gr.cell (HL.out.bk.cell 11)
    have q12 : ∀ p : Gr V, p.W.cell? ⟨gb, 12, none⟩ = some (.int .i64 s'.m3) := Gr.cell (HL.out.bk.cell 12)
    have z0 : ∀ p : Gr V, p.W.cell? ⟨w.heap.size, 0, none⟩ = some (.int .i64 xc) := Gr.cell (HSV.out.x.cell 0)
    have z1 : ∀ p : Gr V, p.W.cell? ⟨w.heap.size, 1, none⟩ = some (.int .i64 xt) := Gr.cell (HSV.out.x.cell 1)
    have z2 : ∀ p : Gr V, p.W.cell? ⟨w.heap.size, 2, none⟩ = some (.int .u8 (xh : Nat)) := Gr.cell (HSV.out.x.cell 2)
    refine wp_region_grs ?_
    repeat (go_big_quiet_step ((with_reducible exact Gr.call _ (fun V hV => KN2.out V hV))))
    refine wpQuiet_nil ?_
    rintro V1 ⟨⟨_, hb1⟩, rfl⟩
    clear q0 q1 q2 q3 q4 q5 q6 q7 q8 q9 q10 q11 q12 z0 z1 z2 KN2
    go_upto_region 11 with fail
    have q0 : ∀ p : Gr V1, p.W.cell? ⟨gb, 0, none⟩ = some (.slice h'.A1 s'.cols.length h'.c1) := Gr.cell ((HL.out.on hb1).bk.cell 0)
    have q1 : ∀ p : Gr V1, p.W.cell? ⟨gb, 1, none⟩ = some (.slice h'.A2 s'.covs.length h'.c2) := Gr.cell ((HL.out.on hb1).bk.cell 1)
    have q2 : ∀ p : Gr V1, p.W.cell? ⟨gb, 2, none⟩ = some (.int .i64 s'.l0) := Gr.cell ((HL.out.on hb1).bk.cell 2)
    have q3 : ∀ p : Gr V1, p.W.cell? ⟨gb, 3, none⟩ = some (.int .i64 s'.l1) := Gr.cell ((HL.out.on hb1).bk.cell 3)
    have q4 : ∀ p : Gr V1, p.W.cell? ⟨gb, 4, none⟩ = some (.int .i64 s'.l2) := Gr.cell ((HL.out.on hb1).bk.cell 4)
    have q5 : ∀ p : Gr V1, p.W.cell? ⟨gb, 5, none⟩ = some (.int .i64 s'.l3) := Gr.cell ((HL.out.on hb1).bk.cell 5)
    have q6 : ∀ p : Gr V1, p.W.cell? ⟨gb, 6, none⟩ = some (.slice h'.A3 s'.rows.length h'.c3) := Gr.cell ((HL.out.on hb1).bk.cell 6)
    have q7 : ∀ p : Gr V1, p.W.cell? ⟨gb, 7, none⟩ = some (.slice h'.A4 s'.frames.length h'.c4) := Gr.cell ((HL.out.on hb1).bk.cell 7)
    have q8 : ∀ p : Gr V1, p.W.cell? ⟨gb, 8, none⟩ = some (.slice h'.A5 s'.tanks.length h'.c5) := Gr.cell ((HL.out.on hb1).bk.cell 8)
    have q9 : ∀ p : Gr V1, p.W.cell? ⟨gb, 9, none⟩ = some (.int .i64 s'.m0) := Gr.cell ((HL.out.on hb1).bk.cell 9)
    have q10 : ∀ p : Gr V1, p.W.cell? ⟨gb, 10, none⟩ = some (.int .i64 s'.m1) := Gr.cell ((HL.out.on hb1).bk.cell 10)
    have q11 : ∀ p : Gr V1, p.W.cell? ⟨gb, 11, none⟩ = some (.int .i64 s'.m2) := Gr.cell ((HL.out.on hb1).bk.cell 11)
    have q12 : ∀ p : Gr V1, p.W.cell? ⟨gb, 12, none⟩ = some (.int .i64 s'.m3) := Gr.cell ((HL.out.on hb1).bk.cell 12)
    refine wp_region_lit ?_
    refine wpList_grs 6 ?_
    simp only [List.take_succ_cons, List.take_zero, List.drop_succ_cons, List.drop_zero]
    repeat (go_big_quiet_step ((with_reducible exact Gr.call _ (fun V hV => KF2.out V (hb1.trans (hV.mono hb1.size))))))
    refine wpQuiet_nil ?_
    rintro V2 ⟨⟨_, hb2⟩, rfl⟩
    clear q0 q1 q2 q3 q4 q5 q6 q7 q8 q9 q10 q11 q12
    have HS2 := Lib.hid ((HSV.out.on hb1).on hb2)
    have HB2 := Lib.hid ((HBV.out.trans (hb1.mono HBV.out.size)).trans (hb2.mono (Nat.le_trans HBV.out.size hb1.size)))
    clear HL HSV HBV hb1 hb2 KF2
    clear V1 V
    go_upto_region 12 with fail
    generalize hV : V2.alloc _ = V3
    have HS3 : Hid (SA w V3 g w.heap.size s h ⟨xc, xt, xh⟩) := Lib.hid (by rw [← hV]; exact HS2.out.on (ba1 V2 _))
    have HB3 : Hid (Below W.heap.size W V3) := Lib.hid (by rw [← hV]; exact HB2.out.trans ((ba1 V2 _).mono HB2.out.size))
    clear hV HS2 HB2
    have KC : Hid (∀ (z : Int) (V : World), (z < 0 ∨ (s.cols.length : Int) ≤ z) → Below W.heap.size W V → Calls Tryd.prog 13 #[.agg #[.slice h.A1 s.cols.length h.c1, .slice h.A2 s.covs.length h.c2, .int .i64 s.l0, .int .i64 s.l1, .int .i64 s.l2, .int .i64 s.l3, .slice h.A3 s.rows.length h.c3, .slice h.A4 s.frames.length h.c4, .slice h.A5 s.tanks.length h.c5, .int .i64 s.m0, .int .i64 s.m1, .int .i64 s.m2, .int .i64 s.m3], .agg #[.int .i64 z, .int .i64 0, .int .u8 0]] V (Ret V (.tuple #[.string (strN []), .int .i64 6]))) := Lib.hid fun z V hz hV => by
      have := KN.out ⟨z, 0, 0⟩ V hV
      rw [name_none HR.out (right_colOut hz) (right_colOut hz)] at this
      exact this
    have KT : Hid (∀ (z : Int) (V : World), 10 ≤ z → Below W.heap.size W V → Calls Tryd.prog 13 #[.agg #[.slice h.A1 s.cols.length h.c1, .slice h.A2 s.covs.length h.c2, .int .i64 s.l0, .int .i64 s.l1, .int .i64 s.l2, .int .i64 s.l3, .slice h.A3 s.rows.length h.c3, .slice h.A4 s.frames.length h.c4, .slice h.A5 s.tanks.length h.c5, .int .i64 s.m0, .int .i64 s.m1, .int .i64 s.m2, .int .i64 s.m3], .agg #[.int .i64 0, .int .i64 z, .int .u8 0]] V (Ret V (.tuple #[.string (strN []), .int .i64 6]))) := Lib.hid fun z V hz hV => by
      have := KN.out ⟨0, z, 0⟩ V hV
      rw [name_none HR.out (right_tierOut (Int.le_trans (HU.out.col (i := 0) (by omega)).tiers.2 (Int.le_trans (by decide) hz))) (right_tierOut (Int.le_trans (HU.out.col (i := 0) (by omega)).tiers.2 (Int.le_trans (by decide) hz)))] at this
      exact this
    have KH : Hid (∀ (z : Nat) (V : World), 3 ≤ z → Below W.heap.size W V → Calls Tryd.prog 13 #[.agg #[.slice h.A1 s.cols.length h.c1, .slice h.A2 s.covs.length h.c2, .int .i64 s.l0, .int .i64 s.l1, .int .i64 s.l2, .int .i64 s.l3, .slice h.A3 s.rows.length h.c3, .slice h.A4 s.frames.length h.c4, .slice h.A5 s.tanks.length h.c5, .int .i64 s.m0, .int .i64 s.m1, .int .i64 s.m2, .int .i64 s.m3], .agg #[.int .i64 0, .int .i64 0, .int .u8 (z : Nat)]] V (Ret V (.tuple #[.string (strN []), .int .i64 6]))) := Lib.hid fun z V hz hV => by
      have := KN.out ⟨0, 0, z⟩ V hV
      rw [name_none HR.out (right_halfOut hz) (right_halfOut hz)] at this
      exact this
    have KI : Hid (∀ (z : Int) (V : World), (∃ m : Nat, z = (m : Int) ∧ 3 ≤ m) → Below W.heap.size W V → Calls Tryd.prog 13 #[.agg #[.slice h.A1 s.cols.length h.c1, .slice h.A2 s.covs.length h.c2, .int .i64 s.l0, .int .i64 s.l1, .int .i64 s.l2, .int .i64 s.l3, .slice h.A3 s.rows.length h.c3, .slice h.A4 s.frames.length h.c4, .slice h.A5 s.tanks.length h.c5, .int .i64 s.m0, .int .i64 s.m1, .int .i64 s.m2, .int .i64 s.m3], .agg #[.int .i64 0, .int .i64 0, .int .u8 z]] V (Ret V (.tuple #[.string (strN []), .int .i64 6]))) := Lib.hid fun z V hz hV => by
      obtain ⟨m, rfl, hm⟩ := hz
      exact KH.out m V hm hV
    have e0 : ∀ p : Gr V3, p.W.cell? ⟨g, 0, none⟩ = some (.slice h.A1 s.cols.length h.c1) := Gr.cell (HS3.out.sh.bk.cell 0)
    have e1 : ∀ p : Gr V3, p.W.cell? ⟨g, 1, none⟩ = some (.slice h.A2 s.covs.length h.c2) := Gr.cell (HS3.out.sh.bk.cell 1)
    have e2 : ∀ p : Gr V3, p.W.cell? ⟨g, 2, none⟩ = some (.int .i64 s.l0) := Gr.cell (HS3.out.sh.bk.cell 2)
    have e3 : ∀ p : Gr V3, p.W.cell? ⟨g, 3, none⟩ = some (.int .i64 s.l1) := Gr.cell (HS3.out.sh.bk.cell 3)
    have e4 : ∀ p : Gr V3, p.W.cell? ⟨g, 4, none⟩ = some (.int .i64 s.l2) := Gr.cell (HS3.out.sh.bk.cell 4)
    have e5 : ∀ p : Gr V3, p.W.cell? ⟨g, 5, none⟩ = some (.int .i64 s.l3) := Gr.cell (HS3.out.sh.bk.cell 5)
    have e6 : ∀ p : Gr V3, p.W.cell? ⟨g, 6, none⟩ = some (.slice h.A3 s.rows.length h.c3) := Gr.cell (HS3.out.sh.bk.cell 6)
    have e7 : ∀ p : Gr V3, p.W.cell? ⟨g, 7, none⟩ = some (.slice h.A4 s.frames.length h.c4) := Gr.cell (HS3.out.sh.bk.cell 7)
    have e8 : ∀ p : Gr V3, p.W.cell? ⟨g, 8, none⟩ = some (.slice h.A5 s.tanks.length h.c5) := Gr.cell (HS3.out.sh.bk.cell 8)
    have e9 : ∀ p : Gr V3, p.W.cell? ⟨g, 9, none⟩ = some (.int .i64 s.m0) := Gr.cell (HS3.out.sh.bk.cell 9)
    have e10 : ∀ p : Gr V3, p.W.cell? ⟨g, 10, none⟩ = some (.int .i64 s.m1) := Gr.cell (HS3.out.sh.bk.cell 10)
    have e11 : ∀ p : Gr V3, p.W.cell? ⟨g, 11, none⟩ = some (.int .i64 s.m2) := Gr.cell (HS3.out.sh.bk.cell 11)
    have e12 : ∀ p : Gr V3, p.W.cell? ⟨g, 12, none⟩ = some (.int .i64 s.m3) := Gr.cell (HS3.out.sh.bk.cell 12)
    refine wp_region_grs ?_
    repeat (go_big_quiet_step ((with_reducible exact Gr.call _ (fun V hV => KC.out _ V (Or.inr (by first | omega | (split <;> omega) | (simp; split <;> omega))) (HB3.out.trans (hV.mono HB3.out.size))))))
    refine wpQuiet_nil ?_
    rintro V4 ⟨⟨_, hb⟩, rfl⟩
    clear e0 e1 e2 e3 e4 e5 e6 e7 e8 e9 e10 e11 e12
    have HS4 : Hid (SA w V4 g w.heap.size s h ⟨xc, xt, xh⟩) := Lib.hid (HS3.out.on hb)
    have HB4 : Hid (Below W.heap.size W V4) := Lib.hid (HB3.out.trans (hb.mono HB3.out.size))
    clear hb HS3 HB3
    try clear V3
    generalize (if n < (s.cols.length : Int) then (s.cols.length : Int) else n) = mx0
    go_upto_region 13 with fail
    have e0 : ∀ p : Gr V4, p.W.cell? ⟨g, 0, none⟩ = some (.slice h.A1 s.cols.length h.c1) := Gr.cell (HS4.out.sh.bk.cell 0)
    have e1 : ∀ p : Gr V4, p.W.cell? ⟨g, 1, none⟩ = some (.slice h.A2 s.covs.length h.c2) := Gr.cell (HS4.out.sh.bk.cell 1)
    have e2 : ∀ p : Gr V4, p.W.cell? ⟨g, 2, none⟩ = some (.int .i64 s.l0) := Gr.cell (HS4.out.sh.bk.cell 2)
    have e3 : ∀ p : Gr V4, p.W.cell? ⟨g, 3, none⟩ = some (.int .i64 s.l1) := Gr.cell (HS4.out.sh.bk.cell 3)
    have e4 : ∀ p : Gr V4, p.W.cell? ⟨g, 4, none⟩ = some (.int .i64 s.l2) := Gr.cell (HS4.out.sh.bk.cell 4)
    have e5 : ∀ p : Gr V4, p.W.cell? ⟨g, 5, none⟩ = some (.int .i64 s.l3) := Gr.cell (HS4.out.sh.bk.cell 5)
    have e6 : ∀ p : Gr V4, p.W.cell? ⟨g, 6, none⟩ = some (.slice h.A3 s.rows.length h.c3) := Gr.cell (HS4.out.sh.bk.cell 6)
    have e7 : ∀ p : Gr V4, p.W.cell? ⟨g, 7, none⟩ = some (.slice h.A4 s.frames.length h.c4) := Gr.cell (HS4.out.sh.bk.cell 7)
    have e8 : ∀ p : Gr V4, p.W.cell? ⟨g, 8, none⟩ = some (.slice h.A5 s.tanks.length h.c5) := Gr.cell (HS4.out.sh.bk.cell 8)
    have e9 : ∀ p : Gr V4, p.W.cell? ⟨g, 9, none⟩ = some (.int .i64 s.m0) := Gr.cell (HS4.out.sh.bk.cell 9)
    have e10 : ∀ p : Gr V4, p.W.cell? ⟨g, 10, none⟩ = some (.int .i64 s.m1) := Gr.cell (HS4.out.sh.bk.cell 10)
    have e11 : ∀ p : Gr V4, p.W.cell? ⟨g, 11, none⟩ = some (.int .i64 s.m2) := Gr.cell (HS4.out.sh.bk.cell 11)
    have e12 : ∀ p : Gr V4, p.W.cell? ⟨g, 12, none⟩ = some (.int .i64 s.m3) := Gr.cell (HS4.out.sh.bk.cell 12)
    refine wp_region_grs ?_
    repeat (go_big_quiet_step ((with_reducible exact Gr.call _ (fun V hV => KC.out _ V (Or.inl (by first | omega | (split <;> omega) | (simp; split <;> omega))) (HB4.out.trans (hV.mono HB4.out.size))))))
    refine wpQuiet_nil ?_
    rintro V5 ⟨⟨_, hb⟩, rfl⟩
    clear e0 e1 e2 e3 e4 e5 e6 e7 e8 e9 e10 e11 e12
    have HS5 : Hid (SA w V5 g w.heap.size s h ⟨xc, xt, xh⟩) := Lib.hid (HS4.out.on hb)
    have HB5 : Hid (Below W.heap.size W V5) := Lib.hid (HB4.out.trans (hb.mono HB4.out.size))
    clear hb HS4 HB4
    try clear V4
    generalize (if (-1 : Int) < n then (-1 : Int) else n) = mx1
    go_upto_region 14 with fail
    have e0 : ∀ p : Gr V5, p.W.cell? ⟨g, 0, none⟩ = some (.slice h.A1 s.cols.length h.c1) := Gr.cell (HS5.out.sh.bk.cell 0)
    have e1 : ∀ p : Gr V5, p.W.cell? ⟨g, 1, none⟩ = some (.slice h.A2 s.covs.length h.c2) := Gr.cell (HS5.out.sh.bk.cell 1)
    have e2 : ∀ p : Gr V5, p.W.cell? ⟨g, 2, none⟩ = some (.int .i64 s.l0) := Gr.cell (HS5.out.sh.bk.cell 2)
    have e3 : ∀ p : Gr V5, p.W.cell? ⟨g, 3, none⟩ = some (.int .i64 s.l1) := Gr.cell (HS5.out.sh.bk.cell 3)
    have e4 : ∀ p : Gr V5, p.W.cell? ⟨g, 4, none⟩ = some (.int .i64 s.l2) := Gr.cell (HS5.out.sh.bk.cell 4)
    have e5 : ∀ p : Gr V5, p.W.cell? ⟨g, 5, none⟩ = some (.int .i64 s.l3) := Gr.cell (HS5.out.sh.bk.cell 5)
    have e6 : ∀ p : Gr V5, p.W.cell? ⟨g, 6, none⟩ = some (.slice h.A3 s.rows.length h.c3) := Gr.cell (HS5.out.sh.bk.cell 6)
    have e7 : ∀ p : Gr V5, p.W.cell? ⟨g, 7, none⟩ = some (.slice h.A4 s.frames.length h.c4) := Gr.cell (HS5.out.sh.bk.cell 7)
    have e8 : ∀ p : Gr V5, p.W.cell? ⟨g, 8, none⟩ = some (.slice h.A5 s.tanks.length h.c5) := Gr.cell (HS5.out.sh.bk.cell 8)
    have e9 : ∀ p : Gr V5, p.W.cell? ⟨g, 9, none⟩ = some (.int .i64 s.m0) := Gr.cell (HS5.out.sh.bk.cell 9)
    have e10 : ∀ p : Gr V5, p.W.cell? ⟨g, 10, none⟩ = some (.int .i64 s.m1) := Gr.cell (HS5.out.sh.bk.cell 10)
    have e11 : ∀ p : Gr V5, p.W.cell? ⟨g, 11, none⟩ = some (.int .i64 s.m2) := Gr.cell (HS5.out.sh.bk.cell 11)
    have e12 : ∀ p : Gr V5, p.W.cell? ⟨g, 12, none⟩ = some (.int .i64 s.m3) := Gr.cell (HS5.out.sh.bk.cell 12)
    refine wp_region_grs ?_
    repeat (go_big_quiet_step ((with_reducible exact Gr.call _ (fun V hV => KT.out _ V (by first | omega | (split <;> omega) | (simp; split <;> omega)) (HB5.out.trans (hV.mono HB5.out.size))))))
    refine wpQuiet_nil ?_
    rintro V6 ⟨⟨_, hb⟩, rfl⟩
    clear e0 e1 e2 e3 e4 e5 e6 e7 e8 e9 e10 e11 e12
    have HS6 : Hid (SA w V6 g w.heap.size s h ⟨xc, xt, xh⟩) := Lib.hid (HS5.out.on hb)
    have HB6 : Hid (Below W.heap.size W V6) := Lib.hid (HB5.out.trans (hb.mono HB5.out.size))
    clear hb HS5 HB5
    try clear V5
    generalize (if n < (10 : Int) then (10 : Int) else n) = mx2
    go_upto_region 15 with fail
    have e0 : ∀ p : Gr V6, p.W.cell? ⟨g, 0, none⟩ = some (.slice h.A1 s.cols.length h.c1) := Gr.cell (HS6.out.sh.bk.cell 0)
    have e1 : ∀ p : Gr V6, p.W.cell? ⟨g, 1, none⟩ = some (.slice h.A2 s.covs.length h.c2) := Gr.cell (HS6.out.sh.bk.cell 1)
    have e2 : ∀ p : Gr V6, p.W.cell? ⟨g, 2, none⟩ = some (.int .i64 s.l0) := Gr.cell (HS6.out.sh.bk.cell 2)
    have e3 : ∀ p : Gr V6, p.W.cell? ⟨g, 3, none⟩ = some (.int .i64 s.l1) := Gr.cell (HS6.out.sh.bk.cell 3)
    have e4 : ∀ p : Gr V6, p.W.cell? ⟨g, 4, none⟩ = some (.int .i64 s.l2) := Gr.cell (HS6.out.sh.bk.cell 4)
    have e5 : ∀ p : Gr V6, p.W.cell? ⟨g, 5, none⟩ = some (.int .i64 s.l3) := Gr.cell (HS6.out.sh.bk.cell 5)
    have e6 : ∀ p : Gr V6, p.W.cell? ⟨g, 6, none⟩ = some (.slice h.A3 s.rows.length h.c3) := Gr.cell (HS6.out.sh.bk.cell 6)
    have e7 : ∀ p : Gr V6, p.W.cell? ⟨g, 7, none⟩ = some (.slice h.A4 s.frames.length h.c4) := Gr.cell (HS6.out.sh.bk.cell 7)
    have e8 : ∀ p : Gr V6, p.W.cell? ⟨g, 8, none⟩ = some (.slice h.A5 s.tanks.length h.c5) := Gr.cell (HS6.out.sh.bk.cell 8)
    have e9 : ∀ p : Gr V6, p.W.cell? ⟨g, 9, none⟩ = some (.int .i64 s.m0) := Gr.cell (HS6.out.sh.bk.cell 9)
    have e10 : ∀ p : Gr V6, p.W.cell? ⟨g, 10, none⟩ = some (.int .i64 s.m1) := Gr.cell (HS6.out.sh.bk.cell 10)
    have e11 : ∀ p : Gr V6, p.W.cell? ⟨g, 11, none⟩ = some (.int .i64 s.m2) := Gr.cell (HS6.out.sh.bk.cell 11)
    have e12 : ∀ p : Gr V6, p.W.cell? ⟨g, 12, none⟩ = some (.int .i64 s.m3) := Gr.cell (HS6.out.sh.bk.cell 12)
    have z0 : ∀ p : Gr V6, p.W.cell? ⟨w.heap.size, 0, none⟩ = some (.int .i64 xc) := Gr.cell (HS6.out.x.cell 0)
    have z1 : ∀ p : Gr V6, p.W.cell? ⟨w.heap.size, 1, none⟩ = some (.int .i64 xt) := Gr.cell (HS6.out.x.cell 1)
    have z2 : ∀ p : Gr V6, p.W.cell? ⟨w.heap.size, 2, none⟩ = some (.int .u8 (xh : Nat)) := Gr.cell (HS6.out.x.cell 2)
    refine wp_region_grs ?_
    repeat (go_big_quiet_step ((with_reducible exact Gr.call _ (fun V hV => KI.out _ V ⟨3 + xh % 253, (by first | omega | (simp; omega)), by omega⟩ (HB6.out.trans (hV.mono HB6.out.size))))))
    refine wpQuiet_nil ?_
    rintro V7 ⟨⟨_, hb⟩, rfl⟩
    clear e0 e1 e2 e3 e4 e5 e6 e7 e8 e9 e10 e11 e12 z0 z1 z2
    have HS7 : Hid (SA w V7 g w.heap.size s h ⟨xc, xt, xh⟩) := Lib.hid (HS6.out.on hb)
    have HB7 : Hid (Below W.heap.size W V7) := Lib.hid (HB6.out.trans (hb.mono HB6.out.size))
    clear hb HS6 HB6 KC KT KH KI
    clear V6
    have hgr := HS7.out.sh.bk.lt
    have hWr := HB7.out.size
    have HIT : Hid ((V7.iter (strN T) 0).heap[V7.heap.size]? = some (.stringIter (strN T) 0)) := Lib.hid (World.iter_heap V7 (strN T) 0)
    have HBT : Hid (Below V7.heap.size V7 (V7.iter (strN T) 0)) := Lib.hid (ba1 V7 _)
    go_wp2_with fail
    have HSON : Hid (∀ V, Below V7.heap.size V7 V → SA w V g w.heap.size s h ⟨xc, xt, xh⟩) := Lib.hid fun V hV => HS7.out.on hV
    have HBON : Hid (∀ V, Below V7.heap.size V7 V → Below W.heap.size W V) := Lib.hid fun V hV => HB7.out.trans (hV.mono HB7.out.size)
    clear HS7 HB7
    have HRT' := HR
    generalize V7.heap.size = r at *
    generalize (V7.iter _ _) = V8 at *
    go_loopw [28] (fun _ wr => ∃ pos : Nat, pos ≤ 7 ∧ Hid (wr.heap[r]? = some (.stringIter (strN T) pos)) ∧ Hid (Below r V7 wr)) (fun _ wr => 7 - wr.iterPos r)
    case atStart => exact ⟨0, Nat.zero_le _, HIT, HBT⟩
    case round =>
      clear HIT HBT
      clear V8
      obtain ⟨pos, hp7, HI, HB⟩ := hrel
      obtain ⟨Wa, rfl⟩ : ∃ Wa, Wa = wr := ⟨_, rfl⟩
      by_cases hlt : pos < 7
      · have hsz : pos < (strN T).size := by rw [hns]; exact hlt
        have hnx : ∀ ty, (Instr.next (.pointer (some ⟨r, 0, none⟩)) true ty).run Tryd.prog Wa = _ := fun ty => Lib.run_next_ascii_at (P := Tryd.prog) Wa r (strN T) pos ty HI.out hsz (strN_ascii HDG.out hsz)
        have HIa : Hid ((Wa.iterAt r (strN T) (pos + 1)).heap[r]? = some (.stringIter (strN T) (pos + 1))) := Lib.hid (Lib.iterAt_heap Wa r _ pos (pos + 1) HI.out)
        have HBa : Hid (Below r V7 (Wa.iterAt r (strN T) (pos + 1))) := Lib.hid (Lib.below_iterAt HB.out (Nat.le_refl _) _ _)
        have HM : Hid (Wa.iterPos r = pos) := Lib.hid (iterPos_of HI.out)
        go_upto_region 21 with fail
        clear hnx HI HB
        generalize (Wa.iterAt _ _ _) = Wb at *
        have HFT := Lib.hid (find_text (s := s) HR.out hnl HSM.out hcb hlt)
        obtain ⟨cap, Wc, hcv, hcap, hbb, hblt, hcl, hfz⟩ := bytes_made T HSM.out Wb
        rw [hnl] at hcv hcap
        have hrb : r < Wb.heap.size := (Array.getElem?_eq_some_iff.1 HIa.out).1
        have y0 := hcl pos (by rw [hnl]; exact hlt)
        have y1 := hfz pos (by rw [hnl]; exact hlt)
        have HCV := Lib.hid (str_of_set (cb := nb) (cap := cap) hnl hlt hcl hblt)
        have HBd : Hid (Below r V7 (Wc.setCell ⟨Wb.heap.size, pos, none⟩ (.int .u8 (nb : Nat)))) := Lib.hid (HBa.out.trans ((hbb.setCell (Nat.le_refl _) _).mono (Nat.le_of_lt hrb)))
        have HId : Hid ((Wc.setCell ⟨Wb.heap.size, pos, none⟩ (.int .u8 (nb : Nat))).heap[r]? = some (.stringIter (strN T) (pos + 1))) := Lib.hid ((((hbb.setCell (Nat.le_refl _) _).block r hrb)).trans HIa.out)
        have HRd : Hid (r < (Wc.setCell ⟨Wb.heap.size, pos, none⟩ (.int .u8 (nb : Nat))).heap.size) := Lib.hid (by have := hbb.size; simp [World.setCell]; omega)
        clear hcl hfz hbb hblt HIa HBa hrb
        generalize T.getD pos 0 = old at *
        have hi0 : (0 : Int) ≤ (pos : Int) := Int.natCast_nonneg _
        have hi1 : (pos : Int) < 7 := by exact_mod_cast hlt
        have hi2 : (pos : Int).toNat = pos := Int.toNat_natCast _
        go_upto_region 22 with fail
        clear hcv
        generalize Wb.heap.size = gt at *
        go_upto_region 23 with fail
        clear y0 y1 hi0 hi1 hi2
        generalize (Wc.setCell _ _) = Wd at *
        generalize T.set pos nb = T' at *
        have hcv := HCV.out Wd (Below.refl _ _)
        have e0 : Wd.cell? ⟨g, 0, none⟩ = some (.slice h.A1 s.cols.length h.c1) := (HSON.out _ HBd.out).sh.bk.cell 0
        have e1 : Wd.cell? ⟨g, 1, none⟩ = some (.slice h.A2 s.covs.length h.c2) := (HSON.out _ HBd.out).sh.bk.cell 1
        have e2 : Wd.cell? ⟨g, 2, none⟩ = some (.int .i64 s.l0) := (HSON.out _ HBd.out).sh.bk.cell 2
        have e3 : Wd.cell? ⟨g, 3, none⟩ = some (.int .i64 s.l1) := (HSON.out _ HBd.out).sh.bk.cell 3
        have e4 : Wd.cell? ⟨g, 4, none⟩ = some (.int .i64 s.l2) := (HSON.out _ HBd.out).sh.bk.cell 4
        have e5 : Wd.cell? ⟨g, 5, none⟩ = some (.int .i64 s.l3) := (HSON.out _ HBd.out).sh.bk.cell 5
        have e6 : Wd.cell? ⟨g, 6, none⟩ = some (.slice h.A3 s.rows.length h.c3) := (HSON.out _ HBd.out).sh.bk.cell 6
        have e7 : Wd.cell? ⟨g, 7, none⟩ = some (.slice h.A4 s.frames.length h.c4) := (HSON.out _ HBd.out).sh.bk.cell 7
        have e8 : Wd.cell? ⟨g, 8, none⟩ = some (.slice h.A5 s.tanks.length h.c5) := (HSON.out _ HBd.out).sh.bk.cell 8
        have e9 : Wd.cell? ⟨g, 9, none⟩ = some (.int .i64 s.m0) := (HSON.out _ HBd.out).sh.bk.cell 9
        have e10 : Wd.cell? ⟨g, 10, none⟩ = some (.int .i64 s.m1) := (HSON.out _ HBd.out).sh.bk.cell 10
        have e11 : Wd.cell? ⟨g, 11, none⟩ = some (.int .i64 s.m2) := (HSON.out _ HBd.out).sh.bk.cell 11
        have e12 : Wd.cell? ⟨g, 12, none⟩ = some (.int .i64 s.m3) := (HSON.out _ HBd.out).sh.bk.cell 12
        go_wp2_with fail
        refine (KF.out _ _ (HBON.out _ HBd.out)).mono ?_
        generalize findSF s (strN T') = fr at *
        obtain ⟨⟨fc, ft, fh⟩, fz⟩ := fr
        rintro e We ⟨rfl, hbe⟩
        simp only [sltL] at HFT ⊢
        clear hcv
        clear e0 e1 e2 e3 e4 e5 e6 e7 e8 e9 e10 e11 e12
        have HIe : Hid (We.heap[r]? = some (.stringIter (strN T) (pos + 1))) := Lib.hid ((hbe.block r HRd.out).trans HId.out)
        have HBe : Hid (Below r V7 We) := Lib.hid (HBd.out.trans (hbe.mono (Nat.le_of_lt HRd.out)))
        have HCe : Hid (∀ V : World, Below We.heap.size We V → (convert 67 9 (.slice (some ⟨gt, 0, none⟩) 7 cap)).run Tryd.prog V = .ok (.string (strN T')) V) := Lib.hid fun V hV => HCV.out V (hbe.trans (hV.mono hbe.size))
        have HRe : Hid (r < We.heap.size) := Lib.hid (Nat.lt_of_lt_of_le HRd.out hbe.size)
        clear HCV HBd HId HRd hbe
        clear Wd
        go_upto_region 24 with fail
        generalize hV : We.alloc _ = Wf
        have HKf : Hid (Bk Wf We.heap.size 34 #[.int .i64 fc, .int .i64 ft, .int .u8 (fh : Nat)]) := Lib.hid (by rw [← hV]; exact Bk.new We _ _)
        have HIf : Hid (Wf.heap[r]? = some (.stringIter (strN T) (pos + 1))) := Lib.hid (by rw [← hV]; exact ((ba1 We _).block r HRe.out).trans HIe.out)
        have HBf : Hid (Below r V7 Wf) := Lib.hid (by rw [← hV]; exact HBe.out.trans ((ba1 We _).mono (Nat.le_of_lt HRe.out)))
        have HCf : Hid (∀ V : World, Below Wf.heap.size Wf V → (convert 67 9 (.slice (some ⟨gt, 0, none⟩) 7 cap)).run Tryd.prog V = .ok (.string (strN T')) V) := Lib.hid (by rw [← hV]; exact fun V hV => HCe.out V ((ba1 We _).trans (hV.mono (ba1 We _).size)))
        have HRf : Hid (r < Wf.heap.size) := Lib.hid (by rw [← hV]; exact Nat.lt_of_lt_of_le HRe.out (ba1 We _).size)
        clear hV HIe HBe HCe HRe
        generalize We.heap.size = gy at *
        clear We
        rcases Nat.lt_or_ge nb 48 with hd | hd
        · have hz : fz = 80 := HFT.out.1 (fun h => absurd h.1 (Nat.not_le.2 hd))
          have hd1 : ¬ (48 : Int) ≤ (nb : Int) := fun h => absurd (Int.ofNat_le.1 h) (Nat.not_le.2 hd)
          have hd2 : (nb : Int) < 48 := Int.not_le.1 hd1
          have hzz := HFT.out.2.1 (by rw [hz]; decide)
          unfold zS at hzz
          injection hzz with q1 q2 q3
          subst q1 q2 q3
          subst hz
          clear HFT
          go_upto_region 25 with fail
          have k0 : ∀ p : Gr Wf, p.W.cell? ⟨gy, 0, none⟩ = some (.int .i64 0) := Gr.cell (HKf.out.cell 0)
          have k1 : ∀ p : Gr Wf, p.W.cell? ⟨gy, 1, none⟩ = some (.int .i64 0) := Gr.cell (HKf.out.cell 1)
          have k2 : ∀ p : Gr Wf, p.W.cell? ⟨gy, 2, none⟩ = some (.int .u8 0) := Gr.cell (HKf.out.cell 2)
          have HNE : ∀ W : World, (binOp .neq 34 (.agg #[.int .i64 0, .int .i64 0, .int .u8 0]) (.agg #[.int .i64 0, .int .i64 0, .int .u8 0])).run Tryd.prog W = .ok (.bool false) W := run_neq_zero
          refine wp_region_grs ?_
          repeat (go_big_quiet_step ((fail)))
          refine wpQuiet_nil ?_
          rintro Wh ⟨⟨_, hbh⟩, rfl⟩
          clear k0 k1 k2 HNE
          have HKh := Lib.hid (HKf.out.below hbh HKf.out.lt)
          have HIh : Hid (Wh.heap[r]? = some (.stringIter (strN T) (pos + 1))) := Lib.hid ((hbh.block r HRf.out).trans HIf.out)
          have HBh : Hid (Below r V7 Wh) := Lib.hid (HBf.out.trans (hbh.mono (Nat.le_of_lt HRf.out)))
          have HCh : Hid (∀ V : World, Below Wh.heap.size Wh V → (convert 67 9 (.slice (some ⟨gt, 0, none⟩) 7 cap)).run Tryd.prog V = .ok (.string (strN T')) V) := Lib.hid fun V hV => HCf.out V (hbh.trans (hV.mono hbh.size))
          have HRh : Hid (r < Wh.heap.size) := Lib.hid (Nat.lt_of_lt_of_le HRf.out hbh.size)
          clear HKf HIf HBf HCf HRf hbh
          clear Wf
          have KNf : Hid (Calls Tryd.prog 13 #[.agg #[.slice h.A1 s.cols.length h.c1, .slice h.A2 s.covs.length h.c2, .int .i64 s.l0, .int .i64 s.l1, .int .i64 s.l2, .int .i64 s.l3, .slice h.A3 s.rows.length h.c3, .slice h.A4 s.frames.length h.c4, .slice h.A5 s.tanks.length h.c5, .int .i64 s.m0, .int .i64 s.m1, .int .i64 s.m2, .int .i64 s.m3], .agg #[.int .i64 0, .int .i64 0, .int .u8 0]] Wh (NameRet Wh (nameF s ⟨0, 0, 0⟩))) := Lib.hid (KN.out ⟨0, 0, 0⟩ Wh (HBON.out _ HBh.out))
          generalize nameF s ⟨0, 0, 0⟩ = nr at *
          obtain ⟨bk, e2⟩ := nr
          as_aux_lemma =>
            go_upto_region 27 with fail
            have k0 : Wh.cell? ⟨gy, 0, none⟩ = some (.int .i64 0) := HKh.out.cell 0
            have k1 : Wh.cell? ⟨gy, 1, none⟩ = some (.int .i64 0) := HKh.out.cell 1
            have k2 : Wh.cell? ⟨gy, 2, none⟩ = some (.int .u8 0) := HKh.out.cell 2
            have e0 : Wh.cell? ⟨g, 0, none⟩ = some (.slice h.A1 s.cols.length h.c1) := (HSON.out _ HBh.out).sh.bk.cell 0
            have e1 : Wh.cell? ⟨g, 1, none⟩ = some (.slice h.A2 s.covs.length h.c2) := (HSON.out _ HBh.out).sh.bk.cell 1
            have e2 : Wh.cell? ⟨g, 2, none⟩ = some (.int .i64 s.l0) := (HSON.out _ HBh.out).sh.bk.cell 2
            have e3 : Wh.cell? ⟨g, 3, none⟩ = some (.int .i64 s.l1) := (HSON.out _ HBh.out).sh.bk.cell 3
            have e4 : Wh.cell? ⟨g, 4, none⟩ = some (.int .i64 s.l2) := (HSON.out _ HBh.out).sh.bk.cell 4
            have e5 : Wh.cell? ⟨g, 5, none⟩ = some (.int .i64 s.l3) := (HSON.out _ HBh.out).sh.bk.cell 5
            have e6 : Wh.cell? ⟨g, 6, none⟩ = some (.slice h.A3 s.rows.length h.c3) := (HSON.out _ HBh.out).sh.bk.cell 6
            have e7 : Wh.cell? ⟨g, 7, none⟩ = some (.slice h.A4 s.frames.length h.c4) := (HSON.out _ HBh.out).sh.bk.cell 7
            have e8 : Wh.cell? ⟨g, 8, none⟩ = some (.slice h.A5 s.tanks.length h.c5) := (HSON.out _ HBh.out).sh.bk.cell 8
            have e9 : Wh.cell? ⟨g, 9, none⟩ = some (.int .i64 s.m0) := (HSON.out _ HBh.out).sh.bk.cell 9
            have e10 : Wh.cell? ⟨g, 10, none⟩ = some (.int .i64 s.m1) := (HSON.out _ HBh.out).sh.bk.cell 10
            have e11 : Wh.cell? ⟨g, 11, none⟩ = some (.int .i64 s.m2) := (HSON.out _ HBh.out).sh.bk.cell 11
            have e12 : Wh.cell? ⟨g, 12, none⟩ = some (.int .i64 s.m3) := (HSON.out _ HBh.out).sh.bk.cell 12
            go_wp2_with fail
            refine KNf.out.mono ?_
            rintro e Wg ⟨rfl, hbg⟩
            simp only
            clear e0 e1 e2 e3 e4 e5 e6 e7 e8 e9 e10 e11 e12 k0 k1 k2
            have HIg : Hid (Wg.heap[r]? = some (.stringIter (strN T) (pos + 1))) := Lib.hid ((hbg.block r HRh.out).trans HIh.out)
            have HBg : Hid (Below r V7 Wg) := Lib.hid (HBh.out.trans (hbg.mono (Nat.le_of_lt HRh.out)))
            have hcv := HCh.out Wg hbg
            clear HIh HBh HCh HRh HKh KNf hbg
            clear Wh
            go_wp2_with fail
            go_roundw
            case rel => (repeat apply Exists.intro); (first | exact ⟨⟨pos + 1, hlt, HIg, HBg⟩, rfl⟩ | exact ⟨Nat.succ_le_of_lt hlt, HIg, HBg⟩)
            case measure => rw [HM.out, iterPos_of HIg.out]; exact Nat.sub_lt_sub_left hlt (Nat.lt_succ_self pos)
        · rcases Nat.lt_or_ge 57 nb with hd' | hd'
          · have hz : fz = 80 := HFT.out.1 (fun h => absurd h.2 (Nat.not_le.2 hd'))
            have hd1 : (48 : Int) ≤ (nb : Int) := Int.ofNat_le.2 hd
            have hd2 : ¬ (nb : Int) ≤ 57 := fun h => absurd (Int.ofNat_le.1 h) (Nat.not_le.2 hd')
            have hd3 : (57 : Int) < nb := Int.not_le.1 hd2
            have hzz := HFT.out.2.1 (by rw [hz]; decide)
            unfold zS at hzz
            injection hzz with q1 q2 q3
            subst q1 q2 q3
            subst hz
            clear HFT
            go_upto_region 25 with fail
            have k0 : ∀ p : Gr Wf, p.W.cell? ⟨gy, 0, none⟩ = some (.int .i64 0) := Gr.cell (HKf.out.cell 0)
            have k1 : ∀ p : Gr Wf, p.W.cell? ⟨gy, 1, none⟩ = some (.int .i64 0) := Gr.cell (HKf.out.cell 1)
            have k2 : ∀ p : Gr Wf, p.W.cell? ⟨gy, 2, none⟩ = some (.int .u8 0) := Gr.cell (HKf.out.cell 2)
            have HNE : ∀ W : World, (binOp .neq 34 (.agg #[.int .i64 0, .int .i64 0, .int .u8 0]) (.agg #[.int .i64 0, .int .i64 0, .int .u8 0])).run Tryd.prog W = .ok (.bool false) W := run_neq_zero
            refine wp_region_grs ?_
            repeat (go_big_quiet_step ((fail)))
            refine wpQuiet_nil ?_
            rintro Wh ⟨⟨_, hbh⟩, rfl⟩
            clear k0 k1 k2 HNE
            have HKh := Lib.hid (HKf.out.below hbh HKf.out.lt)
            have HIh : Hid (Wh.heap[r]? = some (.stringIter (strN T) (pos + 1))) := Lib.hid ((hbh.block r HRf.out).trans HIf.out)
            have HBh : Hid (Below r V7 Wh) := Lib.hid (HBf.out.trans (hbh.mono (Nat.le_of_lt HRf.out)))
            have HCh : Hid (∀ V : World, Below Wh.heap.size Wh V → (convert 67 9 (.slice (some ⟨gt, 0, none⟩) 7 cap)).run Tryd.prog V = .ok (.string (strN T')) V) := Lib.hid fun V hV => HCf.out V (hbh.trans (hV.mono hbh.size))
            have HRh : Hid (r < Wh.heap.size) := Lib.hid (Nat.lt_of_lt_of_le HRf.out hbh.size)
            clear HKf HIf HBf HCf HRf hbh
            clear Wf
            have KNf : Hid (Calls Tryd.prog 13 #[.agg #[.slice h.A1 s.cols.length h.c1, .slice h.A2 s.covs.length h.c2, .int .i64 s.l0, .int .i64 s.l1, .int .i64 s.l2, .int .i64 s.l3, .slice h.A3 s.rows.length h.c3, .slice h.A4 s.frames.length h.c4, .slice h.A5 s.tanks.length h.c5, .int .i64 s.m0, .int .i64 s.m1, .int .i64 s.m2, .int .i64 s.m3], .agg #[.int .i64 0, .int .i64 0, .int .u8 0]] Wh (NameRet Wh (nameF s ⟨0, 0, 0⟩))) := Lib.hid (KN.out ⟨0, 0, 0⟩ Wh (HBON.out _ HBh.out))
            generalize nameF s ⟨0, 0, 0⟩ = nr at *
            obtain ⟨bk, e2⟩ := nr
            as_aux_lemma =>
              go_upto_region 27 with fail
              have k0 : Wh.cell? ⟨gy, 0, none⟩ = some (.int .i64 0) := HKh.out.cell 0
              have k1 : Wh.cell? ⟨gy, 1, none⟩ = some (.int .i64 0) := HKh.out.cell 1
              have k2 : Wh.cell? ⟨gy, 2, none⟩ = some (.int .u8 0) := HKh.out.cell 2
              have e0 : Wh.cell? ⟨g, 0, none⟩ = some (.slice h.A1 s.cols.length h.c1) := (HSON.out _ HBh.out).sh.bk.cell 0
              have e1 : Wh.cell? ⟨g, 1, none⟩ = some (.slice h.A2 s.covs.length h.c2) := (HSON.out _ HBh.out).sh.bk.cell 1
              have e2 : Wh.cell? ⟨g, 2, none⟩ = some (.int .i64 s.l0) := (HSON.out _ HBh.out).sh.bk.cell 2
              have e3 : Wh.cell? ⟨g, 3, none⟩ = some (.int .i64 s.l1) := (HSON.out _ HBh.out).sh.bk.cell 3
              have e4 : Wh.cell? ⟨g, 4, none⟩ = some (.int .i64 s.l2) := (HSON.out _ HBh.out).sh.bk.cell 4
              have e5 : Wh.cell? ⟨g, 5, none⟩ = some (.int .i64 s.l3) := (HSON.out _ HBh.out).sh.bk.cell 5
              have e6 : Wh.cell? ⟨g, 6, none⟩ = some (.slice h.A3 s.rows.length h.c3) := (HSON.out _ HBh.out).sh.bk.cell 6
              have e7 : Wh.cell? ⟨g, 7, none⟩ = some (.slice h.A4 s.frames.length h.c4) := (HSON.out _ HBh.out).sh.bk.cell 7
              have e8 : Wh.cell? ⟨g, 8, none⟩ = some (.slice h.A5 s.tanks.length h.c5) := (HSON.out _ HBh.out).sh.bk.cell 8
              have e9 : Wh.cell? ⟨g, 9, none⟩ = some (.int .i64 s.m0) := (HSON.out _ HBh.out).sh.bk.cell 9
              have e10 : Wh.cell? ⟨g, 10, none⟩ = some (.int .i64 s.m1) := (HSON.out _ HBh.out).sh.bk.cell 10
              have e11 : Wh.cell? ⟨g, 11, none⟩ = some (.int .i64 s.m2) := (HSON.out _ HBh.out).sh.bk.cell 11
              have e12 : Wh.cell? ⟨g, 12, none⟩ = some (.int .i64 s.m3) := (HSON.out _ HBh.out).sh.bk.cell 12
              go_wp2_with fail
              refine KNf.out.mono ?_
              rintro e Wg ⟨rfl, hbg⟩
              simp only
              clear e0 e1 e2 e3 e4 e5 e6 e7 e8 e9 e10 e11 e12 k0 k1 k2
              have HIg : Hid (Wg.heap[r]? = some (.stringIter (strN T) (pos + 1))) := Lib.hid ((hbg.block r HRh.out).trans HIh.out)
              have HBg : Hid (Below r V7 Wg) := Lib.hid (HBh.out.trans (hbg.mono (Nat.le_of_lt HRh.out)))
              have hcv := HCh.out Wg hbg
              clear HIh HBh HCh HRh HKh KNf hbg
              clear Wh
              go_wp2_with fail
              go_roundw
              case rel => (repeat apply Exists.intro); (first | exact ⟨⟨pos + 1, hlt, HIg, HBg⟩, rfl⟩ | exact ⟨Nat.succ_le_of_lt hlt, HIg, HBg⟩)
              case measure => rw [HM.out, iterPos_of HIg.out]; exact Nat.sub_lt_sub_left hlt (Nat.lt_succ_self pos)
          · have hd1 : (48 : Int) ≤ (nb : Int) := Int.ofNat_le.2 hd
            have hd2 : (nb : Int) ≤ 57 := Int.ofNat_le.2 hd'
            by_cases hz : fz = 0
            · subst hz
              obtain ⟨hbk, he2⟩ := HFT.out.2.2 rfl
              go_upto_region 25 with fail
              have k0 : ∀ p : Gr Wf, p.W.cell? ⟨gy, 0, none⟩ = some (.int .i64 fc) := Gr.cell (HKf.out.cell 0)
              have k1 : ∀ p : Gr Wf, p.W.cell? ⟨gy, 1, none⟩ = some (.int .i64 ft) := Gr.cell (HKf.out.cell 1)
              have k2 : ∀ p : Gr Wf, p.W.cell? ⟨gy, 2, none⟩ = some (.int .u8 (fh : Nat)) := Gr.cell (HKf.out.cell 2)
              refine wp_region_grs ?_
              repeat (go_big_quiet_step ((fail)))
              refine wpQuiet_nil ?_
              rintro Wh ⟨⟨_, hbh⟩, rfl⟩
              clear k0 k1 k2
              have HKh := Lib.hid (HKf.out.below hbh HKf.out.lt)
              have HIh : Hid (Wh.heap[r]? = some (.stringIter (strN T) (pos + 1))) := Lib.hid ((hbh.block r HRf.out).trans HIf.out)
              have HBh : Hid (Below r V7 Wh) := Lib.hid (HBf.out.trans (hbh.mono (Nat.le_of_lt HRf.out)))
              have HCh : Hid (∀ V : World, Below Wh.heap.size Wh V → (convert 67 9 (.slice (some ⟨gt, 0, none⟩) 7 cap)).run Tryd.prog V = .ok (.string (strN T')) V) := Lib.hid fun V hV => HCf.out V (hbh.trans (hV.mono hbh.size))
              have HRh : Hid (r < Wh.heap.size) := Lib.hid (Nat.lt_of_lt_of_le HRf.out hbh.size)
              clear HKf HIf HBf HCf HRf hbh
              clear Wf
              have KNf : Hid (Calls Tryd.prog 13 #[.agg #[.slice h.A1 s.cols.length h.c1, .slice h.A2 s.covs.length h.c2, .int .i64 s.l0, .int .i64 s.l1, .int .i64 s.l2, .int .i64 s.l3, .slice h.A3 s.rows.length h.c3, .slice h.A4 s.frames.length h.c4, .slice h.A5 s.tanks.length h.c5, .int .i64 s.m0, .int .i64 s.m1, .int .i64 s.m2, .int .i64 s.m3], .agg #[.int .i64 fc, .int .i64 ft, .int .u8 (fh : Nat)]] Wh (NameRet Wh (nameF s ⟨fc, ft, fh⟩))) := Lib.hid (KN.out ⟨fc, ft, fh⟩ Wh (HBON.out _ HBh.out))
              clear HFT
              generalize nameF s ⟨fc, ft, fh⟩ = nr at *
              obtain ⟨bk, e2⟩ := nr
              simp only at hbk he2
              subst he2
              as_aux_lemma =>
                go_upto_region 27 with fail
                have k0 : Wh.cell? ⟨gy, 0, none⟩ = some (.int .i64 fc) := HKh.out.cell 0
                have k1 : Wh.cell? ⟨gy, 1, none⟩ = some (.int .i64 ft) := HKh.out.cell 1
                have k2 : Wh.cell? ⟨gy, 2, none⟩ = some (.int .u8 (fh : Nat)) := HKh.out.cell 2
                have e0 : Wh.cell? ⟨g, 0, none⟩ = some (.slice h.A1 s.cols.length h.c1) := (HSON.out _ HBh.out).sh.bk.cell 0
                have e1 : Wh.cell? ⟨g, 1, none⟩ = some (.slice h.A2 s.covs.length h.c2) := (HSON.out _ HBh.out).sh.bk.cell 1
                have e2 : Wh.cell? ⟨g, 2, none⟩ = some (.int .i64 s.l0) := (HSON.out _ HBh.out).sh.bk.cell 2
                have e3 : Wh.cell? ⟨g, 3, none⟩ = some (.int .i64 s.l1) := (HSON.out _ HBh.out).sh.bk.cell 3
                have e4 : Wh.cell? ⟨g, 4, none⟩ = some (.int .i64 s.l2) := (HSON.out _ HBh.out).sh.bk.cell 4
                have e5 : Wh.cell? ⟨g, 5, none⟩ = some (.int .i64 s.l3) := (HSON.out _ HBh.out).sh.bk.cell 5
                have e6 : Wh.cell? ⟨g, 6, none⟩ = some (.slice h.A3 s.rows.length h.c3) := (HSON.out _ HBh.out).sh.bk.cell 6
                have e7 : Wh.cell? ⟨g, 7, none⟩ = some (.slice h.A4 s.frames.length h.c4) := (HSON.out _ HBh.out).sh.bk.cell 7
                have e8 : Wh.cell? ⟨g, 8, none⟩ = some (.slice h.A5 s.tanks.length h.c5) := (HSON.out _ HBh.out).sh.bk.cell 8
                have e9 : Wh.cell? ⟨g, 9, none⟩ = some (.int .i64 s.m0) := (HSON.out _ HBh.out).sh.bk.cell 9
                have e10 : Wh.cell? ⟨g, 10, none⟩ = some (.int .i64 s.m1) := (HSON.out _ HBh.out).sh.bk.cell 10
                have e11 : Wh.cell? ⟨g, 11, none⟩ = some (.int .i64 s.m2) := (HSON.out _ HBh.out).sh.bk.cell 11
                have e12 : Wh.cell? ⟨g, 12, none⟩ = some (.int .i64 s.m3) := (HSON.out _ HBh.out).sh.bk.cell 12
                go_wp2_with fail
                refine KNf.out.mono ?_
                rintro e Wg ⟨rfl, hbg⟩
                simp only
                clear e0 e1 e2 e3 e4 e5 e6 e7 e8 e9 e10 e11 e12 k0 k1 k2
                rw [hbk]
                clear hbk
                have HIg : Hid (Wg.heap[r]? = some (.stringIter (strN T) (pos + 1))) := Lib.hid ((hbg.block r HRh.out).trans HIh.out)
                have HBg : Hid (Below r V7 Wg) := Lib.hid (HBh.out.trans (hbg.mono (Nat.le_of_lt HRh.out)))
                have hcv := HCh.out Wg hbg
                clear HIh HBh HCh HRh HKh KNf hbg
                clear Wh
                go_wp2_with fail
                go_roundw
                case rel => (repeat apply Exists.intro); (first | exact ⟨⟨pos + 1, hlt, HIg, HBg⟩, rfl⟩ | exact ⟨Nat.succ_le_of_lt hlt, HIg, HBg⟩)
                case measure => rw [HM.out, iterPos_of HIg.out]; exact Nat.sub_lt_sub_left hlt (Nat.lt_succ_self pos)
            · have hzz := HFT.out.2.1 hz
              unfold zS at hzz
              injection hzz with q1 q2 q3
              subst q1 q2 q3
              have hzb : (fz == 0) = false := beq_false_of_ne hz
              have hzc : (fz != 0) = true := bne_iff_ne.2 hz
              clear HFT
              go_upto_region 25 with fail
              have k0 : ∀ p : Gr Wf, p.W.cell? ⟨gy, 0, none⟩ = some (.int .i64 0) := Gr.cell (HKf.out.cell 0)
              have k1 : ∀ p : Gr Wf, p.W.cell? ⟨gy, 1, none⟩ = some (.int .i64 0) := Gr.cell (HKf.out.cell 1)
              have k2 : ∀ p : Gr Wf, p.W.cell? ⟨gy, 2, none⟩ = some (.int .u8 0) := Gr.cell (HKf.out.cell 2)
              have HNE : ∀ W : World, (binOp .neq 34 (.agg #[.int .i64 0, .int .i64 0, .int .u8 0]) (.agg #[.int .i64 0, .int .i64 0, .int .u8 0])).run Tryd.prog W = .ok (.bool false) W := run_neq_zero
              refine wp_region_grs ?_
              repeat (go_big_quiet_step ((fail)))
              refine wpQuiet_nil ?_
              rintro Wh ⟨⟨_, hbh⟩, rfl⟩
              clear k0 k1 k2 HNE
              have HKh := Lib.hid (HKf.out.below hbh HKf.out.lt)
              have HIh : Hid (Wh.heap[r]? = some (.stringIter (strN T) (pos + 1))) := Lib.hid ((hbh.block r HRf.out).trans HIf.out)
              have HBh : Hid (Below r V7 Wh) := Lib.hid (HBf.out.trans (hbh.mono (Nat.le_of_lt HRf.out)))
              have HCh : Hid (∀ V : World, Below Wh.heap.size Wh V → (convert 67 9 (.slice (some ⟨gt, 0, none⟩) 7 cap)).run Tryd.prog V = .ok (.string (strN T')) V) := Lib.hid fun V hV => HCf.out V (hbh.trans (hV.mono hbh.size))
              have HRh : Hid (r < Wh.heap.size) := Lib.hid (Nat.lt_of_lt_of_le HRf.out hbh.size)
              clear HKf HIf HBf HCf HRf hbh
              clear Wf
              have KNf : Hid (Calls Tryd.prog 13 #[.agg #[.slice h.A1 s.cols.length h.c1, .slice h.A2 s.covs.length h.c2, .int .i64 s.l0, .int .i64 s.l1, .int .i64 s.l2, .int .i64 s.l3, .slice h.A3 s.rows.length h.c3, .slice h.A4 s.frames.length h.c4, .slice h.A5 s.tanks.length h.c5, .int .i64 s.m0, .int .i64 s.m1, .int .i64 s.m2, .int .i64 s.m3], .agg #[.int .i64 0, .int .i64 0, .int .u8 0]] Wh (NameRet Wh (nameF s ⟨0, 0, 0⟩))) := Lib.hid (KN.out ⟨0, 0, 0⟩ Wh (HBON.out _ HBh.out))
              generalize nameF s ⟨0, 0, 0⟩ = nr at *
              obtain ⟨bk, e2⟩ := nr
              as_aux_lemma =>
                go_upto_region 27 with fail
                have k0 : Wh.cell? ⟨gy, 0, none⟩ = some (.int .i64 0) := HKh.out.cell 0
                have k1 : Wh.cell? ⟨gy, 1, none⟩ = some (.int .i64 0) := HKh.out.cell 1
                have k2 : Wh.cell? ⟨gy, 2, none⟩ = some (.int .u8 0) := HKh.out.cell 2
                have e0 : Wh.cell? ⟨g, 0, none⟩ = some (.slice h.A1 s.cols.length h.c1) := (HSON.out _ HBh.out).sh.bk.cell 0
                have e1 : Wh.cell? ⟨g, 1, none⟩ = some (.slice h.A2 s.covs.length h.c2) := (HSON.out _ HBh.out).sh.bk.cell 1
                have e2 : Wh.cell? ⟨g, 2, none⟩ = some (.int .i64 s.l0) := (HSON.out _ HBh.out).sh.bk.cell 2
                have e3 : Wh.cell? ⟨g, 3, none⟩ = some (.int .i64 s.l1) := (HSON.out _ HBh.out).sh.bk.cell 3
                have e4 : Wh.cell? ⟨g, 4, none⟩ = some (.int .i64 s.l2) := (HSON.out _ HBh.out).sh.bk.cell 4
                have e5 : Wh.cell? ⟨g, 5, none⟩ = some (.int .i64 s.l3) := (HSON.out _ HBh.out).sh.bk.cell 5
                have e6 : Wh.cell? ⟨g, 6, none⟩ = some (.slice h.A3 s.rows.length h.c3) := (HSON.out _ HBh.out).sh.bk.cell 6
                have e7 : Wh.cell? ⟨g, 7, none⟩ = some (.slice h.A4 s.frames.length h.c4) := (HSON.out _ HBh.out).sh.bk.cell 7
                have e8 : Wh.cell? ⟨g, 8, none⟩ = some (.slice h.A5 s.tanks.length h.c5) := (HSON.out _ HBh.out).sh.bk.cell 8
                have e9 : Wh.cell? ⟨g, 9, none⟩ = some (.int .i64 s.m0) := (HSON.out _ HBh.out).sh.bk.cell 9
                have e10 : Wh.cell? ⟨g, 10, none⟩ = some (.int .i64 s.m1) := (HSON.out _ HBh.out).sh.bk.cell 10
                have e11 : Wh.cell? ⟨g, 11, none⟩ = some (.int .i64 s.m2) := (HSON.out _ HBh.out).sh.bk.cell 11
                have e12 : Wh.cell? ⟨g, 12, none⟩ = some (.int .i64 s.m3) := (HSON.out _ HBh.out).sh.bk.cell 12
                go_wp2_with fail
                refine KNf.out.mono ?_
                rintro e Wg ⟨rfl, hbg⟩
                simp only
                clear e0 e1 e2 e3 e4 e5 e6 e7 e8 e9 e10 e11 e12 k0 k1 k2
                have HIg : Hid (Wg.heap[r]? = some (.stringIter (strN T) (pos + 1))) := Lib.hid ((hbg.block r HRh.out).trans HIh.out)
                have HBg : Hid (Below r V7 Wg) := Lib.hid (HBh.out.trans (hbg.mono (Nat.le_of_lt HRh.out)))
                have hcv := HCh.out Wg hbg
                clear HIh HBh HCh HRh HKh KNf hbg
                clear Wh
                go_wp2_with fail
                go_roundw
                case rel => (repeat apply Exists.intro); (first | exact ⟨⟨pos + 1, hlt, HIg, HBg⟩, rfl⟩ | exact ⟨Nat.succ_le_of_lt hlt, HIg, HBg⟩)
                case measure => rw [HM.out, iterPos_of HIg.out]; exact Nat.sub_lt_sub_left hlt (Nat.lt_succ_self pos)
      · as_aux_lemma =>
          have hnx : ∀ ty, (Instr.next (.pointer (some ⟨r, 0, none⟩)) true ty).run Tryd.prog Wa = _ := fun ty => Lib.run_next_end_at (P := Tryd.prog) Wa r (strN T) pos ty HI.out (by rw [hns]; exact hlt)
          have hf0 : findSF s (strN T ++ ⟨#[48]⟩) = (zS, 80) := find_short HR.out (by rw [ByteArray.size_append, hns]; decide)
          have hf1 : findSF s ((strN T).extract 0 6) = (zS, 80) := find_short HR.out (by rw [ByteArray.size_extract, hns]; decide)
          have hf2 : findSF s ⟨#[48, 48, 48, 48, 48, 48, 50]⟩ = (zS, 80) := find_bad HR.out bad1
          have hf3 : findSF s ⟨#[48, 48, 49, 48, 48, 50, 50]⟩ = (zS, 80) := find_bad HR.out bad2
          have hf4 : findSF s ⟨#[48, 48, 49, 48, 48, 56, 48]⟩ = (zS, 80) := find_bad HR.out bad3
          have KF80 : Hid (∀ (nm : ByteArray) (V : World), findSF s nm = (zS, 80) → Below W.heap.size W V → Calls Tryd.prog 15 #[.agg #[.slice h.A1 s.cols.length h.c1, .slice h.A2 s.covs.length h.c2, .int .i64 s.l0, .int .i64 s.l1, .int .i64 s.l2, .int .i64 s.l3, .slice h.A3 s.rows.length h.c3, .slice h.A4 s.frames.length h.c4, .slice h.A5 s.tanks.length h.c5, .int .i64 s.m0, .int .i64 s.m1, .int .i64 s.m2, .int .i64 s.m3], .string nm] V (Ret V (.tuple #[.agg #[.int .i64 0, .int .i64 0, .int .u8 0], .int .i64 80]))) := Lib.hid fun nm V he hV => by
            have := KF.out nm V hV
            rw [he] at this
            exact this
          have HF0 := Lib.hid hf0
          have HF1 := Lib.hid hf1
          have HF2 := Lib.hid hf2
          have HF3 := Lib.hid hf3
          have HF4 := Lib.hid hf4
          clear hf0 hf1 hf2 hf3 hf4
          have HS8 : Hid (SA w Wa g w.heap.size s h ⟨xc, xt, xh⟩) := Lib.hid (HSON.out _ HB.out)
          have HB8 : Hid (Below W.heap.size W Wa) := Lib.hid (HBON.out _ HB.out)
          have hn0 : ((strN T).size : Int) = 7 := by rw [hns]; rfl
          go_upto_region 30 with fail
          clear hnx HI HB KF KN HSON HBON
          have e0 : ∀ p : Gr Wa, p.W.cell? ⟨g, 0, none⟩ = some (.slice h.A1 s.cols.length h.c1) := Gr.cell (HS8.out.sh.bk.cell 0)
          have e1 : ∀ p : Gr Wa, p.W.cell? ⟨g, 1, none⟩ = some (.slice h.A2 s.covs.length h.c2) := Gr.cell (HS8.out.sh.bk.cell 1)
          have e2 : ∀ p : Gr Wa, p.W.cell? ⟨g, 2, none⟩ = some (.int .i64 s.l0) := Gr.cell (HS8.out.sh.bk.cell 2)
          have e3 : ∀ p : Gr Wa, p.W.cell? ⟨g, 3, none⟩ = some (.int .i64 s.l1) := Gr.cell (HS8.out.sh.bk.cell 3)
          have e4 : ∀ p : Gr Wa, p.W.cell? ⟨g, 4, none⟩ = some (.int .i64 s.l2) := Gr.cell (HS8.out.sh.bk.cell 4)
          have e5 : ∀ p : Gr Wa, p.W.cell? ⟨g, 5, none⟩ = some (.int .i64 s.l3) := Gr.cell (HS8.out.sh.bk.cell 5)
          have e6 : ∀ p : Gr Wa, p.W.cell? ⟨g, 6, none⟩ = some (.slice h.A3 s.rows.length h.c3) := Gr.cell (HS8.out.sh.bk.cell 6)
          have e7 : ∀ p : Gr Wa, p.W.cell? ⟨g, 7, none⟩ = some (.slice h.A4 s.frames.length h.c4) := Gr.cell (HS8.out.sh.bk.cell 7)
          have e8 : ∀ p : Gr Wa, p.W.cell? ⟨g, 8, none⟩ = some (.slice h.A5 s.tanks.length h.c5) := Gr.cell (HS8.out.sh.bk.cell 8)
          have e9 : ∀ p : Gr Wa, p.W.cell? ⟨g, 9, none⟩ = some (.int .i64 s.m0) := Gr.cell (HS8.out.sh.bk.cell 9)
          have e10 : ∀ p : Gr Wa, p.W.cell? ⟨g, 10, none⟩ = some (.int .i64 s.m1) := Gr.cell (HS8.out.sh.bk.cell 10)
          have e11 : ∀ p : Gr Wa, p.W.cell? ⟨g, 11, none⟩ = some (.int .i64 s.m2) := Gr.cell (HS8.out.sh.bk.cell 11)
          have e12 : ∀ p : Gr Wa, p.W.cell? ⟨g, 12, none⟩ = some (.int .i64 s.m3) := Gr.cell (HS8.out.sh.bk.cell 12)
          refine wp_region_lit ?_
          refine wpList_grs 7 ?_
          simp only [List.take_succ_cons, List.take_zero, List.drop_succ_cons, List.drop_zero]
          repeat (go_big_quiet_step ((with_reducible exact Gr.call _ (fun V hV => KF80.out _ V HF0.out (HB8.out.trans (hV.mono HB8.out.size))))))
          refine wpQuiet_nil ?_
          rintro W9 ⟨⟨_, hb⟩, rfl⟩
          clear e0 e1 e2 e3 e4 e5 e6 e7 e8 e9 e10 e11 e12
          have HS9 : Hid (SA w W9 g w.heap.size s h ⟨xc, xt, xh⟩) := Lib.hid (HS8.out.on hb)
          have HB9 : Hid (Below W.heap.size W W9) := Lib.hid (HB8.out.trans (hb.mono HB8.out.size))
          clear hb HS8 HB8
          try clear Wa
          go_upto_region 31 with fail
          generalize hV : W9.alloc _ = W10
          have HS10 : Hid (SA w W10 g w.heap.size s h ⟨xc, xt, xh⟩) := Lib.hid (by rw [← hV]; exact HS9.out.on (ba1 W9 _))
          have HB10 : Hid (Below W.heap.size W W10) := Lib.hid (by rw [← hV]; exact HB9.out.trans ((ba1 W9 _).mono HB9.out.size))
          clear hV HS9 HB9
          have HKS : Hid (∀ V : World, Below W10.heap.size W10 V → V.cell? ⟨g, 0, none⟩ = some (.slice h.A1 s.cols.length h.c1) ∧ V.cell? ⟨g, 1, none⟩ = some (.slice h.A2 s.covs.length h.c2) ∧ V.cell? ⟨g, 2, none⟩ = some (.int .i64 s.l0) ∧ V.cell? ⟨g, 3, none⟩ = some (.int .i64 s.l1) ∧ V.cell? ⟨g, 4, none⟩ = some (.int .i64 s.l2) ∧ V.cell? ⟨g, 5, none⟩ = some (.int .i64 s.l3) ∧ V.cell? ⟨g, 6, none⟩ = some (.slice h.A3 s.rows.length h.c3) ∧ V.cell? ⟨g, 7, none⟩ = some (.slice h.A4 s.frames.length h.c4) ∧ V.cell? ⟨g, 8, none⟩ = some (.slice h.A5 s.tanks.length h.c5) ∧ V.cell? ⟨g, 9, none⟩ = some (.int .i64 s.m0) ∧ V.cell? ⟨g, 10, none⟩ = some (.int .i64 s.m1) ∧ V.cell? ⟨g, 11, none⟩ = some (.int .i64 s.m2) ∧ V.cell? ⟨g, 12, none⟩ = some (.int .i64 s.m3)) := Lib.hid fun V hV => by
            have q := (HS10.out.on hV).sh.bk
            exact ⟨q.cell 0, q.cell 1, q.cell 2, q.cell 3, q.cell 4, q.cell 5, q.cell 6, q.cell 7, q.cell 8, q.cell 9, q.cell 10, q.cell 11, q.cell 12⟩
          have HBB : Hid (Below W10.heap.size W10 W10) := Lib.hid (Below.refl _ _)
          have hs6 : ((strN T).extract 0 6).size = 6 := by rw [ByteArray.size_extract, hns]; rfl
          go_cut [38] (fun x wx => x = .int .i64 80 ∧ Hid (Below W10.heap.size W10 wx))
          case first =>
            as_aux_lemma =>
              have e0 : W10.cell? ⟨g, 0, none⟩ = some (.slice h.A1 s.cols.length h.c1) := HS10.out.sh.bk.cell 0
              have e1 : W10.cell? ⟨g, 1, none⟩ = some (.slice h.A2 s.covs.length h.c2) := HS10.out.sh.bk.cell 1
              have e2 : W10.cell? ⟨g, 2, none⟩ = some (.int .i64 s.l0) := HS10.out.sh.bk.cell 2
              have e3 : W10.cell? ⟨g, 3, none⟩ = some (.int .i64 s.l1) := HS10.out.sh.bk.cell 3
              have e4 : W10.cell? ⟨g, 4, none⟩ = some (.int .i64 s.l2) := HS10.out.sh.bk.cell 4
              have e5 : W10.cell? ⟨g, 5, none⟩ = some (.int .i64 s.l3) := HS10.out.sh.bk.cell 5
              have e6 : W10.cell? ⟨g, 6, none⟩ = some (.slice h.A3 s.rows.length h.c3) := HS10.out.sh.bk.cell 6
              have e7 : W10.cell? ⟨g, 7, none⟩ = some (.slice h.A4 s.frames.length h.c4) := HS10.out.sh.bk.cell 7
              have e8 : W10.cell? ⟨g, 8, none⟩ = some (.slice h.A5 s.tanks.length h.c5) := HS10.out.sh.bk.cell 8
              have e9 : W10.cell? ⟨g, 9, none⟩ = some (.int .i64 s.m0) := HS10.out.sh.bk.cell 9
              have e10 : W10.cell? ⟨g, 10, none⟩ = some (.int .i64 s.m1) := HS10.out.sh.bk.cell 10
              have e11 : W10.cell? ⟨g, 11, none⟩ = some (.int .i64 s.m2) := HS10.out.sh.bk.cell 11
              have e12 : W10.cell? ⟨g, 12, none⟩ = some (.int .i64 s.m3) := HS10.out.sh.bk.cell 12
              go_region_held3 (fun V' => V'.cell? ⟨g, 0, none⟩ = some (.slice h.A1 s.cols.length h.c1) ∧ V'.cell? ⟨g, 1, none⟩ = some (.slice h.A2 s.covs.length h.c2) ∧ V'.cell? ⟨g, 2, none⟩ = some (.int .i64 s.l0) ∧ V'.cell? ⟨g, 3, none⟩ = some (.int .i64 s.l1) ∧ V'.cell? ⟨g, 4, none⟩ = some (.int .i64 s.l2) ∧ V'.cell? ⟨g, 5, none⟩ = some (.int .i64 s.l3) ∧ V'.cell? ⟨g, 6, none⟩ = some (.slice h.A3 s.rows.length h.c3) ∧ V'.cell? ⟨g, 7, none⟩ = some (.slice h.A4 s.frames.length h.c4) ∧ V'.cell? ⟨g, 8, none⟩ = some (.slice h.A5 s.tanks.length h.c5) ∧ V'.cell? ⟨g, 9, none⟩ = some (.int .i64 s.m0) ∧ V'.cell? ⟨g, 10, none⟩ = some (.int .i64 s.m1) ∧ V'.cell? ⟨g, 11, none⟩ = some (.int .i64 s.m2) ∧ V'.cell? ⟨g, 12, none⟩ = some (.int .i64 s.m3)) ((first | go_keep | exact HKS.out _ (Below.setCell (Below.setCell (Below.setCell HBC.out (Nat.le_refl _) _) (Nat.le_refl _) _) (Nat.le_refl _) _) | exact HKS.out _ (HBC.out.alloc HBC.out.size _) | exact HKS.out _ (ba1 W10 _) | exact HKS.out _ (Below.drew (ba1 W10 _)) | exact HKS.out _ HBC.out | exact HKS.out _ HBB.out | (refine HKS.out _ ?_; repeat (first | exact Below.refl _ _ | exact HBC.out | exact HBB.out | refine Below.drew ?_ | refine Below.alloc ?_ (by first | exact HBC.out.size | exact HBB.out.size | (simp)) _ | refine Below.setCell ?_ (Nat.le_refl _) _))))
                (first
                  | (go_at_call 15; refine (KF80.out _ _ HF1.out (HB10.out.trans (Below.mono (B := W10.heap.size) (w := W10) ?hb HB10.out.size))).mono ?_; (case hb => (repeat (first | exact Below.refl _ _ | refine Below.drew ?_ | refine Below.alloc ?_ (by first | exact Nat.le_refl _ | simp) _))); rintro e w5 ⟨rfl, hq⟩; have HBC : Hid (Below W10.heap.size W10 w5) := Lib.hid (Below.trans (by (repeat (first | exact Below.refl _ _ | refine Below.drew ?_ | refine Below.alloc ?_ (by first | exact Nat.le_refl _ | simp) _))) (hq.mono (by first | exact Nat.le_refl _ | simp))); first | (have hkk : Bk w5 W10.heap.size 34 #[.int .i64 0, .int .i64 0, .int .u8 0] := Bk.below (w := (W10.alloc (.cells #[.int .i64 0, .int .i64 0, .int .u8 0] 34)).drew) (Bk.new W10 _ _) hq (by first | exact Nat.lt_succ_self _ | simp); have y0 : w5.cell? ⟨W10.heap.size, 0, none⟩ = some (.int .i64 0) := hkk.cell 0; have y1 : w5.cell? ⟨W10.heap.size, 1, none⟩ = some (.int .i64 0) := hkk.cell 1; have y2 : w5.cell? ⟨W10.heap.size, 2, none⟩ = some (.int .u8 0) := hkk.cell 2; have y3 := hkk.frozen 0; have y4 := hkk.frozen 1; have y5 := hkk.frozen 2; clear hkk) | skip; clear hq))
              all_goals
                go_wp2_with fail
                go_meet
                exact ⟨rfl, Lib.hid (by first | exact (Below.setCell (Below.setCell (Below.setCell HBC.out (Nat.le_refl _) _) (Nat.le_refl _) _) (Nat.le_refl _) _) | exact (HBC.out.alloc HBC.out.size _))⟩
          case rest =>
            obtain ⟨rfl, HBM⟩ := hcut
            obtain ⟨V0, rfl⟩ : ∃ V, V = wc := ⟨_, rfl⟩
            have HSa : Hid (SA w V0 g w.heap.size s h ⟨xc, xt, xh⟩) := Lib.hid (HS10.out.on HBM.out)
            have HBa : Hid (Below W.heap.size W V0) := Lib.hid (HB10.out.trans (HBM.out.mono HB10.out.size))
            clear HBM HS10 HB10 HKS HBB hs6
            try clear W10
            go_upto_region 32 with fail
            have e0 : ∀ p : Gr V0, p.W.cell? ⟨g, 0, none⟩ = some (.slice h.A1 s.cols.length h.c1) := Gr.cell (HSa.out.sh.bk.cell 0)
            have e1 : ∀ p : Gr V0, p.W.cell? ⟨g, 1, none⟩ = some (.slice h.A2 s.covs.length h.c2) := Gr.cell (HSa.out.sh.bk.cell 1)
            have e2 : ∀ p : Gr V0, p.W.cell? ⟨g, 2, none⟩ = some (.int .i64 s.l0) := Gr.cell (HSa.out.sh.bk.cell 2)
            have e3 : ∀ p : Gr V0, p.W.cell? ⟨g, 3, none⟩ = some (.int .i64 s.l1) := Gr.cell (HSa.out.sh.bk.cell 3)
            have e4 : ∀ p : Gr V0, p.W.cell? ⟨g, 4, none⟩ = some (.int .i64 s.l2) := Gr.cell (HSa.out.sh.bk.cell 4)
            have e5 : ∀ p : Gr V0, p.W.cell? ⟨g, 5, none⟩ = some (.int .i64 s.l3) := Gr.cell (HSa.out.sh.bk.cell 5)
            have e6 : ∀ p : Gr V0, p.W.cell? ⟨g, 6, none⟩ = some (.slice h.A3 s.rows.length h.c3) := Gr.cell (HSa.out.sh.bk.cell 6)
            have e7 : ∀ p : Gr V0, p.W.cell? ⟨g, 7, none⟩ = some (.slice h.A4 s.frames.length h.c4) := Gr.cell (HSa.out.sh.bk.cell 7)
            have e8 : ∀ p : Gr V0, p.W.cell? ⟨g, 8, none⟩ = some (.slice h.A5 s.tanks.length h.c5) := Gr.cell (HSa.out.sh.bk.cell 8)
            have e9 : ∀ p : Gr V0, p.W.cell? ⟨g, 9, none⟩ = some (.int .i64 s.m0) := Gr.cell (HSa.out.sh.bk.cell 9)
            have e10 : ∀ p : Gr V0, p.W.cell? ⟨g, 10, none⟩ = some (.int .i64 s.m1) := Gr.cell (HSa.out.sh.bk.cell 10)
            have e11 : ∀ p : Gr V0, p.W.cell? ⟨g, 11, none⟩ = some (.int .i64 s.m2) := Gr.cell (HSa.out.sh.bk.cell 11)
            have e12 : ∀ p : Gr V0, p.W.cell? ⟨g, 12, none⟩ = some (.int .i64 s.m3) := Gr.cell (HSa.out.sh.bk.cell 12)
            refine wp_region_lit ?_
            refine wpList_grs 5 ?_
            simp only [List.take_succ_cons, List.take_zero, List.drop_succ_cons, List.drop_zero]
            repeat (go_big_quiet_step ((with_reducible exact Gr.call _ (fun V hV => KF80.out _ V HF2.out (HBa.out.trans (hV.mono HBa.out.size))))))
            refine wpQuiet_nil ?_
            rintro V1 ⟨⟨_, hb⟩, rfl⟩
            clear e0 e1 e2 e3 e4 e5 e6 e7 e8 e9 e10 e11 e12
            have HSb : Hid (SA w V1 g w.heap.size s h ⟨xc, xt, xh⟩) := Lib.hid (HSa.out.on hb)
            have HBb : Hid (Below W.heap.size W V1) := Lib.hid (HBa.out.trans (hb.mono HBa.out.size))
            clear hb HSa HBa
            try clear V0
            go_upto_region 33 with fail
            generalize hV : V1.alloc _ = V2'
            have HSc : Hid (SA w V2' g w.heap.size s h ⟨xc, xt, xh⟩) := Lib.hid (by rw [← hV]; exact HSb.out.on (ba1 V1 _))
            have HBc : Hid (Below W.heap.size W V2') := Lib.hid (by rw [← hV]; exact HBb.out.trans ((ba1 V1 _).mono HBb.out.size))
            clear hV HSb HBb
            have e0 : ∀ p : Gr V2', p.W.cell? ⟨g, 0, none⟩ = some (.slice h.A1 s.cols.length h.c1) := Gr.cell (HSc.out.sh.bk.cell 0)
            have e1 : ∀ p : Gr V2', p.W.cell? ⟨g, 1, none⟩ = some (.slice h.A2 s.covs.length h.c2) := Gr.cell (HSc.out.sh.bk.cell 1)
            have e2 : ∀ p : Gr V2', p.W.cell? ⟨g, 2, none⟩ = some (.int .i64 s.l0) := Gr.cell (HSc.out.sh.bk.cell 2)
            have e3 : ∀ p : Gr V2', p.W.cell? ⟨g, 3, none⟩ = some (.int .i64 s.l1) := Gr.cell (HSc.out.sh.bk.cell 3)
            have e4 : ∀ p : Gr V2', p.W.cell? ⟨g, 4, none⟩ = some (.int .i64 s.l2) := Gr.cell (HSc.out.sh.bk.cell 4)
            have e5 : ∀ p : Gr V2', p.W.cell? ⟨g, 5, none⟩ = some (.int .i64 s.l3) := Gr.cell (HSc.out.sh.bk.cell 5)
            have e6 : ∀ p : Gr V2', p.W.cell? ⟨g, 6, none⟩ = some (.slice h.A3 s.rows.length h.c3) := Gr.cell (HSc.out.sh.bk.cell 6)
            have e7 : ∀ p : Gr V2', p.W.cell? ⟨g, 7, none⟩ = some (.slice h.A4 s.frames.length h.c4) := Gr.cell (HSc.out.sh.bk.cell 7)
            have e8 : ∀ p : Gr V2', p.W.cell? ⟨g, 8, none⟩ = some (.slice h.A5 s.tanks.length h.c5) := Gr.cell (HSc.out.sh.bk.cell 8)
            have e9 : ∀ p : Gr V2', p.W.cell? ⟨g, 9, none⟩ = some (.int .i64 s.m0) := Gr.cell (HSc.out.sh.bk.cell 9)
            have e10 : ∀ p : Gr V2', p.W.cell? ⟨g, 10, none⟩ = some (.int .i64 s.m1) := Gr.cell (HSc.out.sh.bk.cell 10)
            have e11 : ∀ p : Gr V2', p.W.cell? ⟨g, 11, none⟩ = some (.int .i64 s.m2) := Gr.cell (HSc.out.sh.bk.cell 11)
            have e12 : ∀ p : Gr V2', p.W.cell? ⟨g, 12, none⟩ = some (.int .i64 s.m3) := Gr.cell (HSc.out.sh.bk.cell 12)
            refine wp_region_lit ?_
            refine wpList_grs 5 ?_
            simp only [List.take_succ_cons, List.take_zero, List.drop_succ_cons, List.drop_zero]
            repeat (go_big_quiet_step ((with_reducible exact Gr.call _ (fun V hV => KF80.out _ V HF3.out (HBc.out.trans (hV.mono HBc.out.size))))))
            refine wpQuiet_nil ?_
            rintro V3 ⟨⟨_, hb⟩, rfl⟩
            clear e0 e1 e2 e3 e4 e5 e6 e7 e8 e9 e10 e11 e12
            have HSd : Hid (SA w V3 g w.heap.size s h ⟨xc, xt, xh⟩) := Lib.hid (HSc.out.on hb)
            have HBd : Hid (Below W.heap.size W V3) := Lib.hid (HBc.out.trans (hb.mono HBc.out.size))
            clear hb HSc HBc
            try clear V2'
            go_upto_region 34 with fail
            generalize hV : V3.alloc _ = V4
            have HSe : Hid (SA w V4 g w.heap.size s h ⟨xc, xt, xh⟩) := Lib.hid (by rw [← hV]; exact HSd.out.on (ba1 V3 _))
            have HBe : Hid (Below W.heap.size W V4) := Lib.hid (by rw [← hV]; exact HBd.out.trans ((ba1 V3 _).mono HBd.out.size))
            clear hV HSd HBd
            have e0 : ∀ p : Gr V4, p.W.cell? ⟨g, 0, none⟩ = some (.slice h.A1 s.cols.length h.c1) := Gr.cell (HSe.out.sh.bk.cell 0)
            have e1 : ∀ p : Gr V4, p.W.cell? ⟨g, 1, none⟩ = some (.slice h.A2 s.covs.length h.c2) := Gr.cell (HSe.out.sh.bk.cell 1)
            have e2 : ∀ p : Gr V4, p.W.cell? ⟨g, 2, none⟩ = some (.int .i64 s.l0) := Gr.cell (HSe.out.sh.bk.cell 2)
            have e3 : ∀ p : Gr V4, p.W.cell? ⟨g, 3, none⟩ = some (.int .i64 s.l1) := Gr.cell (HSe.out.sh.bk.cell 3)
            have e4 : ∀ p : Gr V4, p.W.cell? ⟨g, 4, none⟩ = some (.int .i64 s.l2) := Gr.cell (HSe.out.sh.bk.cell 4)
            have e5 : ∀ p : Gr V4, p.W.cell? ⟨g, 5, none⟩ = some (.int .i64 s.l3) := Gr.cell (HSe.out.sh.bk.cell 5)
            have e6 : ∀ p : Gr V4, p.W.cell? ⟨g, 6, none⟩ = some (.slice h.A3 s.rows.length h.c3) := Gr.cell (HSe.out.sh.bk.cell 6)
            have e7 : ∀ p : Gr V4, p.W.cell? ⟨g, 7, none⟩ = some (.slice h.A4 s.frames.length h.c4) := Gr.cell (HSe.out.sh.bk.cell 7)
            have e8 : ∀ p : Gr V4, p.W.cell? ⟨g, 8, none⟩ = some (.slice h.A5 s.tanks.length h.c5) := Gr.cell (HSe.out.sh.bk.cell 8)
            have e9 : ∀ p : Gr V4, p.W.cell? ⟨g, 9, none⟩ = some (.int .i64 s.m0) := Gr.cell (HSe.out.sh.bk.cell 9)
            have e10 : ∀ p : Gr V4, p.W.cell? ⟨g, 10, none⟩ = some (.int .i64 s.m1) := Gr.cell (HSe.out.sh.bk.cell 10)
            have e11 : ∀ p : Gr V4, p.W.cell? ⟨g, 11, none⟩ = some (.int .i64 s.m2) := Gr.cell (HSe.out.sh.bk.cell 11)
            have e12 : ∀ p : Gr V4, p.W.cell? ⟨g, 12, none⟩ = some (.int .i64 s.m3) := Gr.cell (HSe.out.sh.bk.cell 12)
            refine wp_region_lit ?_
            refine wpList_grs 5 ?_
            simp only [List.take_succ_cons, List.take_zero, List.drop_succ_cons, List.drop_zero]
            repeat (go_big_quiet_step ((with_reducible exact Gr.call _ (fun V hV => KF80.out _ V HF4.out (HBe.out.trans (hV.mono HBe.out.size))))))
            refine wpQuiet_nil ?_
            rintro V5 ⟨⟨_, hb⟩, rfl⟩
            clear e0 e1 e2 e3 e4 e5 e6 e7 e8 e9 e10 e11 e12
            have HSf : Hid (SA w V5 g w.heap.size s h ⟨xc, xt, xh⟩) := Lib.hid (HSe.out.on hb)
            have HBf : Hid (Below W.heap.size W V5) := Lib.hid (HBe.out.trans (hb.mono HBe.out.size))
            clear hb HSe HBe
            try clear V4
            go_upto_region 35 with fail
            generalize hV : V5.alloc _ = V6
            have HSg : Hid (SA w V6 g w.heap.size s h ⟨xc, xt, xh⟩) := Lib.hid (by rw [← hV]; exact HSf.out.on (ba1 V5 _))
            have HBg : Hid (Below W.heap.size W V6) := Lib.hid (by rw [← hV]; exact HBf.out.trans ((ba1 V5 _).mono HBf.out.size))
            clear hV HSf HBf
            have hBw := HSg.out.sh.be
            have HAW := Lib.hid (awake08_true V6 (HQ.out.below hBw))
            have HBw := Lib.hid hBw
            clear hBw HSg HBg HF0 HF1 HF2 HF3 HF4 KF80
            go_wp2_with fail
            refine HAW.out.mono ?_
            rintro e Vn ⟨rfl, hbn⟩
            simp only
            go_wp2_with fail
            go_ret
            exact ⟨rfl, HBw.out.trans (hbn.mono HBw.out.size)⟩
end Go.Proofs.YtggebllkkiennaaDoor
