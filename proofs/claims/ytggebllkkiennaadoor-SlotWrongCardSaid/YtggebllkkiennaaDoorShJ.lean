/-
  The walk of ship.Right: the columns.
-/
import Derived.Test.YtggebllkkiennaaDoorShI
namespace Go.Proofs.YtggebllkkiennaaDoor
open Go.RowKit

def keyC (c : Col) : Int × Int × Int := (c.bay, c.row, if c.deck then 1 else 0)
def keysX (x : Cov) : List (Int × Int × Int) := x.rows.map fun r => (x.bay, r, 2)
def keysOf (s : Shp) : List (Int × Int × Int) := s.cols.map keyC ++ s.covs.flatMap keysX
def rowOK (x : Cov) (i : Nat) : Bool := !(decide (x.rows.getD i 0 < 0) || decide (30 < x.rows.getD i 0) || (decide (0 < i) && decide (x.rows.getD i 0 ≤ x.rows.getD (i - 1) 0)))
def covOK (x : Cov) : Bool := !(decide (x.bay < 0) || decide (40 ≤ x.bay) || decide (x.rows.length = 0)) && (List.range x.rows.length).all (rowOK x)
def once (L : List (Int × Int × Int)) : Bool := L.all fun k => decide (L.count k ≤ 1)
def rightF (s : Shp) : Bool := decide (1 ≤ s.cols.length ∧ s.cols.length ≤ 200 ∧ s.covs.length ≤ 40) && (s.cols.all colOK && (s.covs.all covOK && once (keysOf s)))
/-- The numbers of a ship are ints. -/
structure Ints (s : Shp) : Prop where
  cols : ∀ c ∈ s.cols, I64 c.bay ∧ I64 c.row ∧ I64 c.tiers
theorem cells_keep {w w' : World} {b : Nat} (hg : w.grownBy w' (some b)) {g : Nat} {t : TypeId} {cs : Array Value} (hk : Bk w g t cs) (hne : g ≠ b) : Bk w' g t cs := hk.grown hg (by intro e; injection e with e; exact hne e)
theorem below_inc {B b : Nat} {a w w' : World} (h : Below B a w) (hg : w.grownBy w' (some b)) (hB : B ≤ b) (hs : B ≤ w.heap.size) : Below B a w' := h.trans (below_of_grown hg hB hs)

set_option maxRecDepth 100000 in
set_option maxHeartbeats 4000000 in
theorem shipRight_small (s : Shp) (h : Hd) (w : World) (hbad : ¬ (1 ≤ s.cols.length ∧ s.cols.length ≤ 200 ∧ s.covs.length ≤ 40)) :
    Calls Tryd.prog 44 #[.agg (shpA s h)] w (Ret w (.bool (rightF s))) := by
  have HV : Hid (rightF s = false) := Lib.hid (by unfold rightF; simp [hbad])
  unfold shpA
  have hc : (s.cols.length < 1) ∨ (1 ≤ s.cols.length ∧ 200 < s.cols.length) ∨ (1 ≤ s.cols.length ∧ s.cols.length ≤ 200 ∧ 40 < s.covs.length) := by omega
  clear hbad
  rcases hc with h1 | ⟨h1, h2⟩ | ⟨h1, h2, h3⟩
  · have d1 : decide ((s.cols.length : Int) < 1) = true := by simp only [decide_eq_true_eq]; omega
    go_enter Tryd.func44, Tryd.ntmps44
    go_wp2
    go_ret
    exact ⟨by rw [HV.out]; rfl, ba1 w _⟩
  · have d1 : decide ((s.cols.length : Int) < 1) = false := by simp only [decide_eq_false_iff_not]; omega
    have d2 : decide ((200 : Int) < (s.cols.length : Int)) = true := by simp only [decide_eq_true_eq]; omega
    go_enter Tryd.func44, Tryd.ntmps44
    go_wp2
    go_ret
    exact ⟨by rw [HV.out]; rfl, ba1 w _⟩
  · have d1 : decide ((s.cols.length : Int) < 1) = false := by simp only [decide_eq_false_iff_not]; omega
    have d2 : decide ((200 : Int) < (s.cols.length : Int)) = false := by simp only [decide_eq_false_iff_not]; omega
    have d3 : decide ((40 : Int) < (s.covs.length : Int)) = true := by simp only [decide_eq_true_eq]; omega
    go_enter Tryd.func44, Tryd.ntmps44
    go_wp2
    go_ret
    exact ⟨by rw [HV.out]; rfl, ba1 w _⟩

set_option maxRecDepth 100000 in
set_option maxHeartbeats 8000000 in
theorem shipRight_main (s : Shp) (h : Hd) (w : World) (hs : ShpR w (Lt w.heap.size) s h) (hf : Few s) (hi : Ints s) (h1 : 1 ≤ s.cols.length) (h2 : s.cols.length ≤ 200) (h3 : s.covs.length ≤ 40) :
    Calls Tryd.prog 44 #[.agg (shpA s h)] w (Ret w (.bool (rightF s))) := by
  have HV : Hid (rightF s = (s.cols.all colOK && (s.covs.all covOK && once (keysOf s)))) := Lib.hid (by unfold rightF; simp [h1, h2, h3])
  have hb0 := ba1 w (.cells (shpA s h) 32)
  have HS := Lib.hid (hs.below hb0); clear hs
  have k0 := Bk.new w 32 (shpA s h)
  have HF := Lib.hid hf; clear hf
  have HI := Lib.hid hi; clear hi
  generalize rightF s = r at *
  unfold shpA at *
  have d1 : decide ((s.cols.length : Int) < 1) = false := by simp only [decide_eq_false_iff_not]; omega
  have d2 : decide ((200 : Int) < (s.cols.length : Int)) = false := by simp only [decide_eq_false_iff_not]; omega
  have d3 : decide ((40 : Int) < (s.covs.length : Int)) = false := by simp only [decide_eq_false_iff_not]; omega
  have hcm := Cnt.made (P := Tryd.prog) (kt := 89) (et := 3) (w.alloc (Obj.cells #[.slice h.A1 s.cols.length h.c1, .slice h.A2 s.covs.length h.c2, .int .i64 s.l0, .int .i64 s.l1, .int .i64 s.l2, .int .i64 s.l3, .slice h.A3 s.rows.length h.c3, .slice h.A4 s.frames.length h.c4, .slice h.A5 s.tanks.length h.c5, .int .i64 s.m0, .int .i64 s.m1, .int .i64 s.m2, .int .i64 s.m3] 32))
  rw [show (w.alloc (Obj.cells #[.slice h.A1 s.cols.length h.c1, .slice h.A2 s.covs.length h.c2, .int .i64 s.l0, .int .i64 s.l1, .int .i64 s.l2, .int .i64 s.l3, .slice h.A3 s.rows.length h.c3, .slice h.A4 s.frames.length h.c4, .slice h.A5 s.tanks.length h.c5, .int .i64 s.m0, .int .i64 s.m1, .int .i64 s.m2, .int .i64 s.m3] 32)).heap.size = w.heap.size + 1 by simp] at hcm
  have HCM := Lib.hid hcm; clear hcm
  have HZE := Lib.hid (show (w.alloc (Obj.cells #[.slice h.A1 s.cols.length h.c1, .slice h.A2 s.covs.length h.c2, .int .i64 s.l0, .int .i64 s.l1, .int .i64 s.l2, .int .i64 s.l3, .slice h.A3 s.rows.length h.c3, .slice h.A4 s.frames.length h.c4, .slice h.A5 s.tanks.length h.c5, .int .i64 s.m0, .int .i64 s.m1, .int .i64 s.m2, .int .i64 s.m3] 32)).heap.size = w.heap.size + 1 by simp)
  have hmm := @run_makeMap Tryd.prog
  have HB0 := Lib.hid hb0; clear hb0
  have HK0 := Lib.hid k0; clear k0
  go_enter Tryd.func44, Tryd.ntmps44
  go_wp2
  clear hmm d1 d2 d3
  generalize (w.alloc _) = w0 at *
  have hz0 := HB0.out.size
  have hk0l := HK0.out.lt
  have hwz : w.heap.size + 1 ≤ w0.heap.size := by omega
  have hwz2 : w0.heap.size ≤ w.heap.size + 1 := by have := HZE.out; omega
  have hbm := ba1 w0 (.map #[] 0)
  go_loopw [33] (fun i wr => ∃ k : Nat, k ≤ s.cols.length ∧ i = .int .i64 k ∧ Hid ((s.cols.take k).all colOK = true) ∧ Cnt Tryd.prog 89 3 wr (w.heap.size + 1) k ((s.cols.take k).map keyC) ∧ Below w0.heap.size w0 wr) (fun i _ => s.cols.length - (intOf i).toNat)
  case atStart => exact ⟨0, Nat.zero_le _, rfl, Lib.hid rfl, HCM.out, hbm⟩
  case round =>
    obtain ⟨k, hk, rfl, HA, hcnt, hb⟩ := hrel
    have hzr := hb.size
    have hml := hcnt.lt
    by_cases hlt : k < s.cols.length
    · obtain ⟨b, off, Ap, q, hA, hbB, hq, hpl, c0, c1, c2, c3, c4, c5, c6, c7, c8, c9, c10, c11⟩ := (HS.out.cols.below (hb.mono hz0)).col hlt
      have HT := Lib.hid (all_take colOK hlt default)
      have HN := Lib.hid (all_getD_false colOK hlt default)
      have HM : Hid ((s.cols.take (k + 1)).map keyC = (s.cols.take k).map keyC ++ [keyC (s.cols.getD k default)]) := Lib.hid (by
        rw [List.take_succ_eq_append_getElem hlt, List.map_append]; simp [hlt])
      have HIx := Lib.hid (HI.out.cols _ (getD_memD hlt default))
      have hpll := HF.out.plugs _ (getD_memD hlt default)
      have HPL := Lib.hid hpl; clear hpl
      rw [hA]
      clear hA
      have hbl : b < w.heap.size := hbB
      generalize s.cols.getD k default = x at *
      have hLl : ((s.cols.take k).map keyC).length ≤ 1000000000 := by simp; omega
      generalize (s.cols.take k).map keyC = L at *
      obtain ⟨xb, xr, xd, xt, xh, x2, x4, xl, xp, xx, xy, xz⟩ := x
      simp only at c0 c1 c2 c3 c4 c5 c6 c7 c8 c9 c10 c11 hq hpll HPL HIx
      have hcw : Cnt Tryd.prog 89 3 (wr.alloc (.cells #[.int .i64 xb, .int .i64 xr, .bool xd, .int .i64 xt, .int .i64 xh, .int .i64 x2, .int .i64 x4, .int .i64 xl, .slice Ap xp.length q, .int .i64 xx, .int .i64 xy, .int .i64 xz] 54)).drew (w.heap.size + 1) k L := (hcnt.alloc _).drew
      obtain ⟨kl, hkl⟩ := key3 (keyC ⟨xb, xr, xd, xt, xh, x2, x4, xl, xp, xx, xy, xz⟩) HIx.out.1 HIx.out.2.1 (by unfold keyC I64; simp only; split <;> omega)
      obtain ⟨cn, v0, st, w1, w2, hcn, r1, r2, r3, r4, hcnt2, g1, g2, z1, z2⟩ := hcw.inc key3_law Tryd.underlying128 Tryd.underlying3 zeroInt (by unfold maxLen; omega) hLl _ hkl
      have kb : Bk (wr.alloc (.cells #[.int .i64 xb, .int .i64 xr, .bool xd, .int .i64 xt, .int .i64 xh, .int .i64 x2, .int .i64 x4, .int .i64 xl, .slice Ap xp.length q, .int .i64 xx, .int .i64 xy, .int .i64 xz] 54)).drew wr.heap.size 54 #[.int .i64 xb, .int .i64 xr, .bool xd, .int .i64 xt, .int .i64 xh, .int .i64 x2, .int .i64 x4, .int .i64 xl, .slice Ap xp.length q, .int .i64 xx, .int .i64 xy, .int .i64 xz] := Bk.new _ _ _
      have HKB := Lib.hid (cells_keep g2 kb (by omega)); clear kb
      have HCN := Lib.hid hcnt2; clear hcnt2 hcw hkl
      have HG2 := Lib.hid g2; clear g2 g1
      have HZ2 := Lib.hid z2; clear z2 z1
      cases xd with
      | true =>
        simp only [mkKey, keyC, if_true] at r1 r2 r3 r4
        go_upto_region 10 with fail
        go_cut [5, 6] (fun p d wx => p = .pointer (some ⟨wr.heap.size, 0, none⟩) ∧ wx = w2)
        case first =>
          go_region
          all_goals
            go_wp2_with fail
            go_meet
            exact ⟨rfl, rfl⟩
        case rest =>
          obtain ⟨rfl, rfl⟩ := hcut
          clear r1 r2 r3 r4 c0 c1 c2 c3 c4 c5 c6 c7 c8 c9 c10 c11 hcnt
          have hzz := HZ2.out
          simp at hzz
          have hzw : wr.heap.size < wc.heap.size := by omega
          have hb2 := below_inc (hb.alloc hzr (.cells #[.int .i64 xb, .int .i64 xr, .bool true, .int .i64 xt, .int .i64 xh, .int .i64 x2, .int .i64 x4, .int .i64 xl, .slice Ap xp.length q, .int .i64 xx, .int .i64 xy, .int .i64 xz] 54)).drew HG2.out hwz2 (by simp; omega)
          have hbr := below_inc ((Below.refl w.heap.size wr).alloc (by omega) (.cells #[.int .i64 xb, .int .i64 xr, .bool true, .int .i64 xt, .int .i64 xh, .int .i64 x2, .int .i64 x4, .int .i64 xl, .slice Ap xp.length q, .int .i64 xx, .int .i64 xy, .int .i64 xz] 54)).drew HG2.out (by omega) (by simp; omega)
          have e0 := HKB.out.cell 0; have e1 := HKB.out.cell 1; have e2 := HKB.out.cell 2; have e3 := HKB.out.cell 3; have e4 := HKB.out.cell 4; have e5 := HKB.out.cell 5; have e6 := HKB.out.cell 6; have e7 := HKB.out.cell 7; have e8 := HKB.out.cell 8; have e9 := HKB.out.cell 9; have e10 := HKB.out.cell 10; have e11 := HKB.out.cell 11
          simp at e0 e1 e2 e3 e4 e5 e6 e7 e8 e9 e10 e11
          have HRC := Lib.hid (right_any ⟨xb, xr, true, xt, xh, x2, x4, xl, xp, xx, xy, xz⟩ Ap q wc ((HPL.out.below hbr).up (by omega)) hpll)
          clear hzz
          generalize colOK ⟨xb, xr, true, xt, xh, x2, x4, xl, xp, xx, xy, xz⟩ = ok at *
          go_wp2_with fail
          refine HRC.out.mono ?_
          rintro e w4 ⟨rfl, hb4⟩
          clear HRC e0 e1 e2 e3 e4 e5 e6 e7 e8 e9 e10 e11
          have hb24 := hb2.trans (hb4.mono (by omega))
          cases ok with
          | true =>
            have HVV : Hid ((s.cols.take (k + 1)).all colOK = true) := Lib.hid (by rw [HT.out, HA.out]; rfl)
            go_wp2
            go_roundw
            case rel => exact ⟨k + 1, by omega, by go_num, HVV, by rw [HM.out]; exact HCN.out.below hb4 (Nat.le_refl _), hb24⟩
            case measure => simp [intOf]; omega
          | false =>
            have HVV : Hid (r = false) := Lib.hid (by rw [HV.out, HN.out rfl]; rfl)
            go_wp2
            go_ret
            exact ⟨by rw [HVV.out]; rfl, HB0.out.trans (hb24.mono hz0)⟩
      | false =>
        simp only [mkKey, keyC, if_false, Bool.false_eq_true] at r1 r2 r3 r4
        go_upto_region 10 with fail
        go_cut [5, 6] (fun p d wx => p = .pointer (some ⟨wr.heap.size, 0, none⟩) ∧ wx = w2)
        case first =>
          go_region
          all_goals
            go_wp2_with fail
            go_meet
            exact ⟨rfl, rfl⟩
        case rest =>
          obtain ⟨rfl, rfl⟩ := hcut
          clear r1 r2 r3 r4 c0 c1 c2 c3 c4 c5 c6 c7 c8 c9 c10 c11 hcnt
          have hzz := HZ2.out
          simp at hzz
          have hzw : wr.heap.size < wc.heap.size := by omega
          have hb2 := below_inc (hb.alloc hzr (.cells #[.int .i64 xb, .int .i64 xr, .bool false, .int .i64 xt, .int .i64 xh, .int .i64 x2, .int .i64 x4, .int .i64 xl, .slice Ap xp.length q, .int .i64 xx, .int .i64 xy, .int .i64 xz] 54)).drew HG2.out hwz2 (by simp; omega)
          have hbr := below_inc ((Below.refl w.heap.size wr).alloc (by omega) (.cells #[.int .i64 xb, .int .i64 xr, .bool false, .int .i64 xt, .int .i64 xh, .int .i64 x2, .int .i64 x4, .int .i64 xl, .slice Ap xp.length q, .int .i64 xx, .int .i64 xy, .int .i64 xz] 54)).drew HG2.out (by omega) (by simp; omega)
          have e0 := HKB.out.cell 0; have e1 := HKB.out.cell 1; have e2 := HKB.out.cell 2; have e3 := HKB.out.cell 3; have e4 := HKB.out.cell 4; have e5 := HKB.out.cell 5; have e6 := HKB.out.cell 6; have e7 := HKB.out.cell 7; have e8 := HKB.out.cell 8; have e9 := HKB.out.cell 9; have e10 := HKB.out.cell 10; have e11 := HKB.out.cell 11
          simp at e0 e1 e2 e3 e4 e5 e6 e7 e8 e9 e10 e11
          have HRC := Lib.hid (right_any ⟨xb, xr, false, xt, xh, x2, x4, xl, xp, xx, xy, xz⟩ Ap q wc ((HPL.out.below hbr).up (by omega)) hpll)
          clear hzz
          generalize colOK ⟨xb, xr, false, xt, xh, x2, x4, xl, xp, xx, xy, xz⟩ = ok at *
          go_wp2_with fail
          refine HRC.out.mono ?_
          rintro e w4 ⟨rfl, hb4⟩
          clear HRC e0 e1 e2 e3 e4 e5 e6 e7 e8 e9 e10 e11
          have hb24 := hb2.trans (hb4.mono (by omega))
          cases ok with
          | true =>
            have HVV : Hid ((s.cols.take (k + 1)).all colOK = true) := Lib.hid (by rw [HT.out, HA.out]; rfl)
            go_wp2
            go_roundw
            case rel => exact ⟨k + 1, by omega, by go_num, HVV, by rw [HM.out]; exact HCN.out.below hb4 (Nat.le_refl _), hb24⟩
            case measure => simp [intOf]; omega
          | false =>
            have HVV : Hid (r = false) := Lib.hid (by rw [HV.out, HN.out rfl]; rfl)
            go_wp2
            go_ret
            exact ⟨by rw [HVV.out]; rfl, HB0.out.trans (hb24.mono hz0)⟩
    · obtain rfl : k = s.cols.length := by omega
      rw [List.take_length] at HA hcnt
      have HV2 : Hid (r = (s.covs.all covOK && once (keysOf s))) := Lib.hid (by rw [HV.out, HA.out]; rfl)
      have HKE : Hid (keysOf s = s.cols.map keyC ++ s.covs.flatMap keysX) := Lib.hid rfl
      have hKl : (s.cols.map keyC).length ≤ 200 := by simp; omega
      have hKn : s.cols.length = (s.cols.map keyC).length := by simp
      rw [hKn] at hcnt
      clear hKn HV HA HI HCM hbm
      generalize s.cols.map keyC = K1 at *
      obtain ⟨wo, rfl⟩ : ∃ wo : World, wo = wr := ⟨_, rfl⟩
      have kk := HK0.out.below hb hk0l
      have m1 := kk.cell 1
      simp at m1
      clear kk
      go_wp2
      go_loopw [57] (fun i wr => ∃ k : Nat, k ≤ s.covs.length ∧ i = .int .i64 k ∧ Hid ((s.covs.take k).all covOK = true) ∧ (K1 ++ (s.covs.take k).flatMap keysX).length ≤ 200 + 1000000 * k ∧ Cnt Tryd.prog 89 3 wr (w.heap.size + 1) (K1 ++ (s.covs.take k).flatMap keysX).length (K1 ++ (s.covs.take k).flatMap keysX) ∧ Below w0.heap.size w0 wr) (fun i _ => s.covs.length - (intOf i).toNat)
      case atStart => exact ⟨0, Nat.zero_le _, rfl, Lib.hid rfl, by simpa using hKl, by simpa using hcnt, hb⟩
      case round =>
        clear hb hcnt hzr hml m1
        obtain ⟨k, hk, rfl, HA, hLl, hcnt, hb⟩ := hrel
        have hzr := hb.size
        have hml := hcnt.lt
        by_cases hlt : k < s.covs.length
        · obtain ⟨b, off, Ap, q, hA, hbB, hq, hpl, c0, c1⟩ := (HS.out.covs.below (hb.mono hz0)).cov hlt
          have HT := Lib.hid (all_take covOK hlt default)
          have HN := Lib.hid (all_getD_false covOK hlt default)
          have HM : Hid (K1 ++ (s.covs.take (k + 1)).flatMap keysX = (K1 ++ (s.covs.take k).flatMap keysX) ++ keysX (s.covs.getD k default)) := Lib.hid (by
            rw [List.take_succ_eq_append_getElem hlt, List.flatMap_append, List.append_assoc]; simp [hlt])
          have hrl := HF.out.rows _ (getD_memD hlt default)
          have HC : Hid (covOK (s.covs.getD k default) = (!(decide ((s.covs.getD k default).bay < 0) || decide (40 ≤ (s.covs.getD k default).bay) || decide ((s.covs.getD k default).rows.length = 0)) && (List.range (s.covs.getD k default).rows.length).all (rowOK (s.covs.getD k default)))) := Lib.hid rfl
          have HRO : Hid (∀ i, rowOK (s.covs.getD k default) i = !(decide ((s.covs.getD k default).rows.getD i 0 < 0) || decide (30 < (s.covs.getD k default).rows.getD i 0) || (decide (0 < i) && decide ((s.covs.getD k default).rows.getD i 0 ≤ (s.covs.getD k default).rows.getD (i - 1) 0)))) := Lib.hid fun _ => rfl
          have HKX : Hid (keysX (s.covs.getD k default) = (s.covs.getD k default).rows.map fun r => ((s.covs.getD k default).bay, r, 2)) := Lib.hid rfl
          have HPL := Lib.hid hpl; clear hpl
          rw [hA]
          clear hA
          have hbl : b < w.heap.size := hbB
          generalize rowOK (s.covs.getD k default) = ro at *
          generalize keysX (s.covs.getD k default) = kx at *
          generalize covOK (s.covs.getD k default) = co at *
          generalize s.covs.getD k default = x at *
          generalize K1 ++ (s.covs.take k).flatMap keysX = L at *
          obtain ⟨xb, xr⟩ := x
          simp only at c0 c1 hq hrl HC HRO HKX HPL
          have hbx := hb.alloc hzr (.cells #[.int .i64 xb, .slice Ap xr.length q] 56)
          have hbig : (xb < 0) ∨ (0 ≤ xb ∧ 40 ≤ xb) ∨ (0 ≤ xb ∧ xb < 40 ∧ xr.length = 0) ∨ (0 ≤ xb ∧ xb < 40 ∧ 0 < xr.length) := by omega
          rcases hbig with q1 | ⟨q1, q2⟩ | ⟨q1, q2, q3⟩ | ⟨q1, q2, q3⟩
          · have HVV : Hid (r = false) := Lib.hid (by rw [HV2.out, HN.out (by rw [HC.out]; simp [q1])]; rfl)
            have t1 : decide (xb < 0) = true := by simpa using q1
            go_wp2
            go_ret
            exact ⟨by rw [HVV.out]; rfl, HB0.out.trans (hbx.mono hz0)⟩
          · have HVV : Hid (r = false) := Lib.hid (by rw [HV2.out, HN.out (by rw [HC.out]; simp [q2])]; rfl)
            have t1 : decide (xb < 0) = false := by simp; omega
            have t2 : decide (40 ≤ xb) = true := by simpa using q2
            go_wp2
            go_ret
            exact ⟨by rw [HVV.out]; rfl, HB0.out.trans (hbx.mono hz0)⟩
          · have HVV : Hid (r = false) := Lib.hid (by rw [HV2.out, HN.out (by rw [HC.out]; simp [q3])]; rfl)
            have t1 : decide (xb < 0) = false := by simp; omega
            have t2 : decide (40 ≤ xb) = false := by simp; omega
            have t3 : ((xr.length : Int) == 0) = true := by simp; exact List.eq_nil_of_length_eq_zero q3
            clear q3
            go_wp2
            go_ret
            exact ⟨by rw [HVV.out]; rfl, HB0.out.trans (hbx.mono hz0)⟩
          · have HC2 : Hid (co = (List.range xr.length).all ro) := Lib.hid (by
              rw [HC.out, show decide (xb < 0) = false by simp; omega, show decide (40 ≤ xb) = false by simp; omega, show decide (xr.length = 0) = false by simp only [decide_eq_false_iff_not]; omega]; rfl)
            have t1 : decide (xb < 0) = false := by simp; omega
            have t2 : decide (40 ≤ xb) = false := by simp; omega
            have t3 : ((xr.length : Int) == 0) = false := by simp; intro e; rw [e] at q3; simp at q3
            have kb := Bk.new wr 56 #[.int .i64 xb, .slice Ap xr.length q]
            have hcw := hcnt.alloc (.cells #[.int .i64 xb, .slice Ap xr.length q] 56)
            have HPW := Lib.hid (HPL.out.below ((Below.refl w.heap.size wr).alloc (by omega) (.cells #[.int .i64 xb, .slice Ap xr.length q] 56)))
            have HKB := Lib.hid kb; clear kb
            have HCW := Lib.hid hcw; clear hcw
            have HBX := Lib.hid hbx; clear hbx
            have hxw : w0.heap.size ≤ (wr.alloc (.cells #[.int .i64 xb, .slice Ap xr.length q] 56)).heap.size := by simp; omega
            have hgx : wr.heap.size < (wr.alloc (.cells #[.int .i64 xb, .slice Ap xr.length q] 56)).heap.size := by simp
            go_wp2
            generalize (wr.alloc _) = wx at *
            clear HPL
            obtain ⟨wq, rfl⟩ : ∃ wq : World, wq = wr := ⟨_, rfl⟩
            go_loopw [78] (fun i wi => ∃ j : Nat, j ≤ xr.length ∧ i = .int .i64 j ∧ Hid ((List.range j).all ro = true) ∧ Cnt Tryd.prog 89 3 wi (w.heap.size + 1) (L.length + j) (L ++ (xr.take j).map fun r => (xb, r, 2)) ∧ Bk wi wq.heap.size 56 #[.int .i64 xb, .slice Ap xr.length q] ∧ Below w0.heap.size w0 wi) (fun i _ => xr.length - (intOf i).toNat)
            case atStart => exact ⟨0, Nat.zero_le _, rfl, Lib.hid rfl, by simpa using HCW.out, HKB.out, HBX.out⟩
            case round =>
              obtain ⟨j, hj, rfl, HJ, hcj, kbj, hbj⟩ := hrel
              have hzj := hbj.size
              have hkj := kbj.lt
              have b0 := kbj.cell 0
              have b1 := kbj.cell 1
              simp at b0 b1
              by_cases hjl : j < xr.length
              · obtain ⟨pb, po, rfl, hpb, hpc⟩ := (HPW.out.keep (w' := wr) (fun b o hb' => (hbj.cell (p := ⟨b, o, none⟩) (by have hq' : b < w.heap.size := hb'; show b < w0.heap.size; omega)).trans (HBX.out.cell (p := ⟨b, o, none⟩) (by have hq' : b < w.heap.size := hb'; show b < w0.heap.size; omega)).symm)).int hjl
                have hpb' : pb < w.heap.size := hpb
                have HPR : Hid (0 < j → wr.cell? ⟨pb, po + (j - 1), none⟩ = some (.int .i64 (xr.getD (j - 1) 0))) := Lib.hid fun h0 => by
                  obtain ⟨b', off', hA', _, hc'⟩ := (HPW.out.keep (w' := wr) (fun b o hb' => (hbj.cell (p := ⟨b, o, none⟩) (by have hq' : b < w.heap.size := hb'; show b < w0.heap.size; omega)).trans (HBX.out.cell (p := ⟨b, o, none⟩) (by have hq' : b < w.heap.size := hb'; show b < w0.heap.size; omega)).symm)).int (j := j - 1) (by omega)
                  injection hA' with hA'; injection hA' with q1 q2; subst q1 q2; exact hc'
                have HRJ := Lib.hid (HRO.out j)
                have HTJ : Hid ((xr.take (j + 1)).map (fun r => (xb, r, (2 : Int))) = (xr.take j).map (fun r => (xb, r, (2 : Int))) ++ [(xb, xr.getD j 0, 2)]) := Lib.hid (by
                  rw [List.take_succ_eq_append_getElem hjl, List.map_append]; simp [hjl])
                generalize xr.getD j 0 = p at *
                generalize xr.getD (j - 1) 0 = p' at *
                have HBAD : Hid (ro j = false → r = false) := Lib.hid fun hh => by rw [HV2.out, HN.out (by rw [HC2.out]; exact range_all_false hjl hh)]; rfl
                have hpc3 : (p < 0) ∨ (0 ≤ p ∧ 30 < p) ∨ (0 ≤ p ∧ p ≤ 30 ∧ 0 < j ∧ p ≤ p') ∨ (0 ≤ p ∧ p ≤ 30 ∧ (j = 0 ∨ p' < p)) := by omega
                rcases hpc3 with u1 | ⟨u1, u2⟩ | ⟨u1, u2, u3, u4⟩ | ⟨u1, u2, u3⟩
                · obtain rfl := HBAD.out (by rw [HRJ.out]; simp [u1])
                  have t4 : decide (p < 0) = true := by simpa using u1
                  clear HPR
                  go_wp2
                  go_ret
                  exact ⟨rfl, HB0.out.trans (hbj.mono hz0)⟩
                · obtain rfl := HBAD.out (by rw [HRJ.out]; simp [u2])
                  have t4 : decide (p < 0) = false := by simp; omega
                  have t5 : decide (30 < p) = true := by simpa using u2
                  clear HPR
                  go_wp2
                  go_ret
                  exact ⟨rfl, HB0.out.trans (hbj.mono hz0)⟩
                · obtain rfl := HBAD.out (by rw [HRJ.out]; simp [u3, u4])
                  have t4 : decide (p < 0) = false := by simp; omega
                  have t5 : decide (30 < p) = false := by simp; omega
                  have t6 : decide ((0 : Int) < (j : Int)) = true := by simp; omega
                  have t7 : decide (p ≤ p') = true := by simpa using u4
                  have hpr := HPR.out u3
                  have i1 : (0 : Int) ≤ (j : Int) - 1 := by omega
                  have i2 : (j : Int) - 1 < (xr.length : Int) := by omega
                  have i5 : ((j : Int) - 1).toNat = j - 1 := by omega
                  clear HPR
                  go_wp2
                  go_ret
                  exact ⟨rfl, HB0.out.trans (hbj.mono hz0)⟩
                · have HOK : Hid ((List.range (j + 1)).all ro = true) := Lib.hid (by
                    rw [range_all_succ, HJ.out, HRJ.out]
                    simp
                    omega)
                  obtain ⟨kl, hkl⟩ := key3 (xb, p, 2) ⟨by simp only; omega, by simp only; omega⟩ ⟨by simp only; omega, by simp only; omega⟩ ⟨by simp only; omega, by simp only; omega⟩
                  obtain ⟨cn, v0, st, w1, w2, hcn, r1, r2, r3, r4, hcnt2, g1, g2, z1, z2⟩ := (hcj.drew).inc key3_law Tryd.underlying128 Tryd.underlying3 zeroInt (by unfold maxLen; omega) (by simp; omega) _ hkl
                  simp only [mkKey] at r1 r2 r3 r4
                  have HRES := Lib.hid (And.intro hcnt2 (And.intro (cells_keep g2 (show Bk wr.drew wq.heap.size 56 #[.int .i64 xb, .slice (some ⟨pb, po, none⟩) xr.length q] from kbj) (by omega)) (below_inc hbj.drew g2 hwz2 (by simp; omega))))
                  clear hcnt2 g1 g2 z1 z2 hkl
                  have t4 : decide (p < 0) = false := by simp; omega
                  have t5 : decide (30 < p) = false := by simp; omega
                  by_cases hj0 : 0 < j
                  · have t6 : decide ((0 : Int) < (j : Int)) = true := by simp; omega
                    have t7 : decide (p ≤ p') = false := by simp; omega
                    have hpr := HPR.out hj0
                    have i1 : (0 : Int) ≤ (j : Int) - 1 := by omega
                    have i2 : (j : Int) - 1 < (xr.length : Int) := by omega
                    have i5 : ((j : Int) - 1).toNat = j - 1 := by omega
                    clear HPR
                    go_wp2_with fail
                    go_region
                    go_wp2
                    go_roundw
                    case rel => exact ⟨j + 1, by omega, by go_num, HOK, by rw [HTJ.out, ← List.append_assoc]; exact HRES.out.1, HRES.out.2⟩
                    case measure => simp [intOf]; omega
                  · have t6 : decide ((0 : Int) < (j : Int)) = false := by simp; omega
                    clear HPR
                    go_wp2_with fail
                    go_region
                    go_wp2
                    go_roundw
                    case rel => exact ⟨j + 1, by omega, by go_num, HOK, by rw [HTJ.out, ← List.append_assoc]; exact HRES.out.1, HRES.out.2⟩
                    case measure => simp [intOf]; omega
              · obtain rfl : j = xr.length := by omega
                rw [List.take_length, ← HKX.out] at hcj
                have HOK : Hid ((s.covs.take (k + 1)).all covOK = true) := Lib.hid (by rw [HT.out, HA.out, HC2.out, HJ.out]; rfl)
                have hkxl : kx.length = xr.length := by rw [HKX.out]; simp
                rw [← hkxl, ← List.length_append] at hcj
                clear hkxl
                have hlen : (L ++ kx).length ≤ 200 + 1000000 * (k + 1) := by rw [List.length_append, HKX.out, List.length_map]; omega
                have HLEN := Lib.hid hlen; clear hlen
                have HCJ := Lib.hid hcj; clear hcj
                go_wp2
                go_roundw
                case rel => exact ⟨k + 1, by omega, by go_num, HOK, by rw [HM.out]; exact HLEN.out, by rw [HM.out]; exact HCJ.out, hbj⟩
                case measure => simp [intOf]; omega
        · obtain rfl : k = s.covs.length := by omega
          rw [List.take_length] at HA hcnt
          have HV3 : Hid (r = once (keysOf s)) := Lib.hid (by rw [HV2.out, HA.out]; rfl)
          rw [← HKE.out] at hcnt
          obtain ⟨D, hown, hat, hhas, hkeys⟩ := hcnt
          have HON : Hid ((∀ k ∈ keysOf s, (keysOf s).count k ≤ 1) → r = true) := Lib.hid fun hh => by
            rw [HV3.out]; unfold once; rw [List.all_eq_true]; intro k hk; simpa using hh k hk
          have HOFF : Hid (∀ k ∈ keysOf s, 1 < (keysOf s).count k → r = false) := Lib.hid fun k hk hh => by
            rw [HV3.out]; unfold once; rw [List.all_eq_false]; exact ⟨k, hk, by simp; omega⟩
          have HAT := Lib.hid hat; clear hat
          have HHAS := Lib.hid hhas; clear hhas
          have HKEYS := Lib.hid hkeys; clear hkeys
          generalize (keysOf s).length = n at *
          clear HF HS HA HKE HV3 HV2 hLl
          generalize keysOf s = L at *
          have KK := Maps.Keyed.of_law key3_law
          have hbB : w0.heap.size ≤ wr.heap.size := hzr
          go_wp2_with (first
            | (at_range; refine wpList_range_own _ rfl _ 128 rfl 89 3 KK Tryd.underlying128 _ (w.heap.size + 1) n D rfl hown ?_; intro w5 hrg5 hg5 hs5)
            | go_in)
          go_frame
          obtain ⟨wq, rfl⟩ : ∃ wq : World, wq = wr := ⟨_, rfl⟩
          have hb5 : Below w0.heap.size w0 w5 := hb.trans ⟨hg5.os, hg5.tape, hg5.output, hg5.size, fun i hi => hg5.block i (by omega) (by simp)⟩
          go_loopw [12] (fun _ wr => ∃ (left : Lit → Bool) (cnt : Nat), wr.ranges (H := Unit) Tryd.prog 89 (plainElem Tryd.prog 3) (w.heap.size + 1) wq.heap.size n D left cnt ∧ Hid (∀ kl, Maps.has D kl = true → left kl = false → ∀ c : Int, D.atKey kl (.lit (.int .i64 0)) = .lit (.int .i64 c) → c ≤ 1) ∧ Below w0.heap.size w0 wr) (fun _ wr => wr.rangeLeft (w.heap.size + 1) wq.heap.size)
          case atStart => exact ⟨_, _, hrg5, Lib.hid (fun kl h1 h2 => by rw [h1] at h2; cases h2), hb5⟩
          case round =>
            obtain ⟨left, cnt, hrg, HLE, hbr⟩ := hrel
            go_wp2_with (first
              | (at_next; refine wpList_next_ranges _ rfl _ rfl 89 KK (plainElem Tryd.prog 3) (fun v : Value => v) (Value.int .i64) (fun key kl _ => ⟨key, rfl⟩) (fun v y hv => (plainElem_int_inv Tryd.underlying3 hv).elim fun c h => ⟨c, h.1⟩) (w.heap.size + 1) wq.heap.size n D left cnt rfl hrg ?_ ?_)
              | go_in)
            · intro _ hl0
              have hr := HON.out fun k hk => by
                obtain ⟨kl, e1, e2⟩ := HKEYS.out k hk
                have := HLE.out kl e2 (hl0 kl) _ (HAT.out k kl e1)
                omega
              subst hr
              go_wp2
              go_ret
              exact ⟨rfl, HB0.out.trans (hbr.mono hz0)⟩
            · intro x c kl y y2 w6 cnt6 hkx hlx hRy haty hrg6 hlt6 hg6 hs6 hen
              obtain ⟨c', hc', hy, _⟩ := plainElem_int_inv Tryd.underlying3 hRy
              have hcc : c' = c := by injection hc' with _ h2; exact h2.symm
              subst hcc
              have hyy : y = .lit (.int .i64 c') := by injection hy
              have hhk := Maps.has_true_of_atKey haty
              have hb6 : Below w0.heap.size w0 w6 := below_inc hbr hg6 (by omega) hbr.size
              obtain ⟨kk, hkm, hkk⟩ := HHAS.out kl hhk
              have hcnt : c' = (L.count kk : Nat) := by
                have h1 := HAT.out kk kl hkk
                rw [haty, hyy] at h1
                injection h1 with h1
                injection h1 with _ h1
              by_cases hc1 : 1 < c'
              · have hr := HOFF.out kk hkm (by omega)
                subst hr
                have t9 : decide (1 < c') = true := by simpa using hc1
                clear hcnt hyy hy haty
                go_wp2
                go_ret
                exact ⟨rfl, HB0.out.trans (hb6.mono hz0)⟩
              · have t9 : decide (1 < c') = false := by simpa using hc1
                have HLE2 : Hid (∀ kl', Maps.has D kl' = true → (left kl' && !kl'.sameKey kl) = false → ∀ c : Int, D.atKey kl' (.lit (.int .i64 0)) = .lit (.int .i64 c) → c ≤ 1) := Lib.hid fun kl' h1 h2 c h3 => by
                  cases hl : left kl' with
                  | false => exact HLE.out kl' h1 hl c h3
                  | true =>
                    rw [hl] at h2
                    have h4 : kl'.sameKey kl = true := by simpa using h2
                    have := WideAt.sameKey_eq h4
                    subst this
                    rw [haty, hyy] at h3
                    injection h3 with h3
                    injection h3 with _ h3
                    omega
                clear hcnt hyy hy haty
                go_wp2
                go_roundw
                case rel => exact ⟨_, cnt6, hrg6, HLE2, hb6⟩
                case measure => rw [hrg6.left_eq, hrg.left_eq]; exact hlt6
theorem shipRight_any (s : Shp) (h : Hd) (w : World) (hs : ShpR w (Lt w.heap.size) s h) (hf : Few s) (hi : Ints s) : Calls Tryd.prog 44 #[.agg (shpA s h)] w (Ret w (.bool (rightF s))) := by
  by_cases hc : 1 ≤ s.cols.length ∧ s.cols.length ≤ 200 ∧ s.covs.length ≤ 40
  · exact shipRight_main s h w hs hf hi hc.1 hc.2.1 hc.2.2
  · exact shipRight_small s h w hc
end Go.Proofs.YtggebllkkiennaaDoor
