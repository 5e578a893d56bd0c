/-
  Walks of package segregate: against, other.
-/
import Derived.Test.YtmhikcleekfbpaaDoorSgE
import Derived.Test.YtmhikcleekfbpaaDoorSgD
namespace Go.Proofs.YtmhikcleekfbpaaDoor
open Go.RowKit

/-- A list of the call's own. -/
def OwnG {α : Type} (T : Ty α) (t : TypeId) (w : World) (l : List α) (e : Ending) (w' : World) : Prop := ∃ v, e = .returned v ∧ OwnT T t w' w.heap.size v l ∧ Below w.heap.size w w'
set_option maxRecDepth 100000 in
set_option maxHeartbeats 8000000 in
theorem against_any (s : Shp) (h : Hd) (Ag : Option Addr) (cg : Nat) (gs : List Gd) (x : Stw) (cls : Nat) (w : World) (hsh : ShpR w (Lt w.heap.size) s h) (hcl : s.cols.length ≤ 1000000) (hr : ∀ c ∈ s.cols, I64 c.row)
    (hg : SlT tGd w (Lt w.heap.size) Ag gs) (hgl : gs.length ≤ 1000000) (hgc : ∀ g ∈ gs, g.cls < 10) (hc : cls < 10) (ht : TabOK w) :
    Calls Tryd.prog 31 #[.agg (shpA s h), .slice Ag gs.length cg, .agg (stwL x).toArray, .int .u8 (cls : Nat)] w (OwnG tInt 3 w (againstF s gs x cls)) := by
  obtain ⟨xb, xc, xt, xh⟩ := x
  have hb0 := ba2 w (.cells (shpA s h) 32) (.cells #[.int .i64 xb, .int .i64 xc, .int .i64 xt, .int .u8 (xh : Nat)] 44)
  have HB0 := Lib.hid hb0
  have KE := Lib.hid ((Bk.new w 32 (shpA s h)).alloc (.cells #[.int .i64 xb, .int .i64 xc, .int .i64 xt, .int .u8 (xh : Nat)] 44))
  have KX := Lib.hid (Bk.nxt14 (w := w) (.cells (shpA s h) 32) 44 #[.int .i64 xb, .int .i64 xc, .int .i64 xt, .int .u8 (xh : Nat)])
  have HG := Lib.hid (hg.on hb0)
  have HT := Lib.hid (ht.below hb0 ht.lt)
  have KN := Lib.hid (fun (V : World) (hV : Below w.heap.size w V) (a b : Slt) (code : Nat) (hcode : code < 256) => near_any s h a b code V (hsh.on hV) hcl hr hcode)
  have HCG := Lib.hid hgc
  have HV : Hid (againstF s gs ⟨xb, ⟨xc, xt, xh⟩⟩ cls = (gs.filter (agB s ⟨xb, ⟨xc, xt, xh⟩⟩ cls)).map (·.st.box)) := Lib.hid rfl
  have HAG : Hid (∀ g : Gd, agB s ⟨xb, ⟨xc, xt, xh⟩⟩ cls g = (g.st.box != xb && nearF s g.st.slot ⟨xc, xt, xh⟩ (Dg.tab g.cls cls))) := Lib.hid fun _ => rfl
  clear hsh hg ht hb0 hr hgc
  generalize againstF s gs ⟨xb, ⟨xc, xt, xh⟩⟩ cls = R at *
  generalize agB s ⟨xb, ⟨xc, xt, xh⟩⟩ cls = ag at *
  unfold shpA at *
  unfold stwL
  simp only
  go_enter Tryd.func31, Tryd.ntmps31
  go_wp2_with fail
  generalize (w.alloc _).alloc _ = W at *
  go_loopw [9, 16] (fun v i wr => ∃ (k : Nat) (m : List Int), k ≤ gs.length ∧ i = .int .i64 k ∧ m.length ≤ k ∧ Hid (m = ((gs.take k).filter ag).map (·.st.box)) ∧ Hid (OwnT tInt 3 wr W.heap.size v m) ∧ Hid (Below W.heap.size W wr)) (fun _ i _ => gs.length - (intOf i).toNat)
  case atStart => exact ⟨0, [], Nat.zero_le _, rfl, by simp, Lib.hid rfl, Lib.hid OwnT.nil, Lib.hid (Below.refl _ _)⟩
  case round =>
    obtain ⟨k, m, hk, rfl, hm, HM, HO, HB⟩ := hrel
    obtain ⟨V, rfl⟩ : ∃ V, V = wr := ⟨_, rfl⟩
    by_cases hlt : k < gs.length
    · obtain ⟨b, off, rfl, hbB, c0, c1, c2, c3, c4⟩ := (HG.out.on HB.out).gd hlt
      have HFT := Lib.hid (filter_takeG ag gs hlt default)
      have HC := Lib.hid (HCG.out _ (getD_memD hlt default))
      have i0 : (0 : Int) ≤ (k : Int) := by omega
      have i1 : (k : Int) < (gs.length : Int) := by omega
      generalize gs.getD k default = g at *
      obtain ⟨⟨g0, ⟨g1, g2, g3⟩⟩, g4⟩ := g
      simp only at c0 c1 c2 c3 c4 HC
      have HP := Lib.hid (HAG.out ⟨⟨g0, ⟨g1, g2, g3⟩⟩, g4⟩)
      simp only at HP
      have HB1 := Lib.hid (HB.out.trans ((ba1 V (.cells #[.int .i64 g0, .int .i64 g1, .int .i64 g2, .int .u8 (g3 : Nat), .int .u8 (g4 : Nat)] 85)).mono HB.out.size))
      have HX := Lib.hid (Bk.new V 85 #[.int .i64 g0, .int .i64 g1, .int .i64 g2, .int .u8 (g3 : Nat), .int .u8 (g4 : Nat)])
      have HO1 := Lib.hid (HO.out.below (ba1 V (.cells #[.int .i64 g0, .int .i64 g1, .int .i64 g2, .int .u8 (g3 : Nat), .int .u8 (g4 : Nat)] 85)))
      clear HO HB
      go_upto_region 5 with fail
      clear c0 c1 c2 c3 c4
      generalize V.heap.size = gx at *
      generalize (V.alloc _) = U at *
      try clear V
      have y4 : U.cell? ⟨gx, 4, none⟩ = some (.int .u8 (g4 : Nat)) := HX.out.cell 4
      have KC := Lib.hid (code_ok g4 cls U HC.out hc (HT.out.below HB1.out HT.out.lt))
      have htab : Dg.tab g4 cls < 256 := Nat.lt_of_le_of_lt (Dg.tab_le g4 cls HC.out hc) (by decide)
      generalize Dg.tab g4 cls = code at *
      go_wp2_with fail
      refine KC.out.mono ?_
      rintro e U' ⟨rfl, rfl⟩
      simp only
      clear KC y4
      go_upto_region 6 with fail
      have y0 : U.cell? ⟨gx, 0, none⟩ = some (.int .i64 g0) := HX.out.cell 0
      have y1 : U.cell? ⟨gx, 1, none⟩ = some (.int .i64 g1) := HX.out.cell 1
      have y2 : U.cell? ⟨gx, 2, none⟩ = some (.int .i64 g2) := HX.out.cell 2
      have y3 : U.cell? ⟨gx, 3, none⟩ = some (.int .u8 (g3 : Nat)) := HX.out.cell 3
      have y4 : U.cell? ⟨gx, 4, none⟩ = some (.int .u8 (g4 : Nat)) := HX.out.cell 4
      have KXU := Lib.hid (KX.out.below HB1.out KX.out.lt)
      have KEU := Lib.hid (KE.out.below HB1.out KE.out.lt)
      have z0 : U.cell? ⟨w.heap.size + 1, 0, none⟩ = some (.int .i64 xb) := KXU.out.cell 0
      have z1 : U.cell? ⟨w.heap.size + 1, 1, none⟩ = some (.int .i64 xc) := KXU.out.cell 1
      have z2 : U.cell? ⟨w.heap.size + 1, 2, none⟩ = some (.int .i64 xt) := KXU.out.cell 2
      have z3 : U.cell? ⟨w.heap.size + 1, 3, none⟩ = some (.int .u8 (xh : Nat)) := KXU.out.cell 3
      have e0 : U.cell? ⟨w.heap.size, 0, none⟩ = some (Value.slice h.A1 s.cols.length h.c1) := KEU.out.cell 0
      have e1 : U.cell? ⟨w.heap.size, 1, none⟩ = some (Value.slice h.A2 s.covs.length h.c2) := KEU.out.cell 1
      have e2 : U.cell? ⟨w.heap.size, 2, none⟩ = some (.int .i64 s.l0) := KEU.out.cell 2
      have e3 : U.cell? ⟨w.heap.size, 3, none⟩ = some (.int .i64 s.l1) := KEU.out.cell 3
      have e4 : U.cell? ⟨w.heap.size, 4, none⟩ = some (.int .i64 s.l2) := KEU.out.cell 4
      have e5 : U.cell? ⟨w.heap.size, 5, none⟩ = some (.int .i64 s.l3) := KEU.out.cell 5
      have e6 : U.cell? ⟨w.heap.size, 6, none⟩ = some (Value.slice h.A3 s.rows.length h.c3) := KEU.out.cell 6
      have e7 : U.cell? ⟨w.heap.size, 7, none⟩ = some (Value.slice h.A4 s.frames.length h.c4) := KEU.out.cell 7
      have e8 : U.cell? ⟨w.heap.size, 8, none⟩ = some (Value.slice h.A5 s.tanks.length h.c5) := KEU.out.cell 8
      have e9 : U.cell? ⟨w.heap.size, 9, none⟩ = some (.int .i64 s.m0) := KEU.out.cell 9
      have e10 : U.cell? ⟨w.heap.size, 10, none⟩ = some (.int .i64 s.m1) := KEU.out.cell 10
      have e11 : U.cell? ⟨w.heap.size, 11, none⟩ = some (.int .i64 s.m2) := KEU.out.cell 11
      have e12 : U.cell? ⟨w.heap.size, 12, none⟩ = some (.int .i64 s.m3) := KEU.out.cell 12
      cases hne : (g0 != xb) with
      | false =>
        rw [hne] at HP
        have HM2 : Hid (m = ((gs.take (k + 1)).filter ag).map (·.st.box)) := Lib.hid (by rw [HFT.out, HP.out, HM.out]; simp)
        clear HP HFT HM HX
        go_wp2_with fail
        go_roundw
        case rel => (first | exact ⟨k + 1, m, by omega, by go_num, by first | (simp; omega) | omega, HM2, HO1, HB1⟩ | ((repeat apply Exists.intro); (first | exact ⟨⟨k + 1, m, by omega, by go_num, by first | (simp; omega) | omega, HM2, HO1, HB1⟩, rfl⟩ | exact ⟨by omega, by go_num, by first | (simp; omega) | omega, HM2, HO1, HB1⟩)))
        case measure => simp [intOf]; omega
      | true =>
        rw [hne] at HP
        have KN1 := Lib.hid (KN.out U (HB0.out.trans (HB1.out.mono HB0.out.size)) ⟨g1, g2, g3⟩ ⟨xc, xt, xh⟩ code htab)
        unfold sltL at KN1
        simp only at KN1
        generalize nearF s ⟨g1, g2, g3⟩ ⟨xc, xt, xh⟩ code = nr at *
        go_wp2_with fail
        refine KN1.out.mono ?_
        rintro e Z ⟨rfl, hb⟩
        simp only
        have HB2 := Lib.hid (HB1.out.trans (hb.mono HB1.out.size))
        have HO2 := Lib.hid (HO1.out.below hb)
        have HX2 := Lib.hid (HX.out.below hb HX.out.lt)
        clear hb HB1 HO1 KN1 HX y0 y1 y2 y3 y4 z0 z1 z2 z3 e0 e1 e2 e3 e4 e5 e6 e7 e8 e9 e10 e11 e12
        try clear U
        cases nr with
        | false =>
          have HM2 : Hid (m = ((gs.take (k + 1)).filter ag).map (·.st.box)) := Lib.hid (by rw [HFT.out, HP.out, HM.out]; simp)
          clear HP HFT HM HX2
          go_wp2_with fail
          go_roundw
          case rel => (first | exact ⟨k + 1, m, by omega, by go_num, by first | (simp; omega) | omega, HM2, HO2, HB2⟩ | ((repeat apply Exists.intro); (first | exact ⟨⟨k + 1, m, by omega, by go_num, by first | (simp; omega) | omega, HM2, HO2, HB2⟩, rfl⟩ | exact ⟨by omega, by go_num, by first | (simp; omega) | omega, HM2, HO2, HB2⟩)))
          case measure => simp [intOf]; omega
        | true =>
          have HM2 : Hid (m ++ [g0] = ((gs.take (k + 1)).filter ag).map (·.st.box)) := Lib.hid (by rw [HFT.out, HP.out, HM.out]; simp)
          have y0 : Z.cell? ⟨gx, 0, none⟩ = some (.int .i64 g0) := HX2.out.cell 0
          obtain ⟨xs, ho, hfl⟩ := HO2.out
          have hb2s := HB2.out.size
          clear HP HFT HM HX2
          go_wp2_with (at_builtin; (refine wpList_append1 el_int rfl (.tmp 43) (.tmp 47) rfl W.heap.size _ m.length xs rfl ho #[.int .i64 g0] _ rfl rfl rfl ?c1 ?c2 ?c3 ?_))
          case c1 => unfold maxLen; omega
          case c2 => omega
          case c3 => omega
          intro v' w3 hown' hgr hd3 hbel
          have HBF := Lib.hid (HB2.out.trans hbel)
          have HOF := Lib.hid (OwnT.int1 hfl hown' hgr hd3)
          clear hown' hgr hd3 hbel hfl ho
          go_wp2
          go_roundw
          case rel => (first | exact ⟨k + 1, m ++ [g0], by omega, by go_num, by first | (simp; omega) | omega, HM2, HOF, HBF⟩ | ((repeat apply Exists.intro); (first | exact ⟨⟨k + 1, m ++ [g0], by omega, by go_num, by first | (simp; omega) | omega, HM2, HOF, HBF⟩, rfl⟩ | exact ⟨by omega, by go_num, by first | (simp; omega) | omega, HM2, HOF, HBF⟩)))
          case measure => simp [intOf]; omega
    · obtain rfl : k = gs.length := by omega
      have hR : m = R := by rw [HM.out, HV.out, List.take_length]
      subst hR
      go_wp2_with fail
      go_ret
      exact ⟨_, rfl, HO.out.down HB0.out.size, HB0.out.trans (HB.out.mono HB0.out.size)⟩
end Go.Proofs.YtmhikcleekfbpaaDoor
