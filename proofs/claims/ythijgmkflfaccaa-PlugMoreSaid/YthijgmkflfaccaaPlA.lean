/-
  The walk of plug.plugs.
-/
import Derived.Test.YthijgmkflfaccaaPlM
namespace Go.Proofs.Ythijgmkflfaccaa
open Go.RowKit

theorem colP_take (i : Nat) (T : Int) (ps : List Int) (L : List (Int × Int)) {j : Nat} (h : j < ps.length) : colP i T (ps.take (j + 1)) L = stepP i T (colP i T (ps.take j) L) (ps.getD j 0) := by
  unfold colP
  rw [List.take_succ_eq_append_getElem h, List.foldl_append]
  simp [h]
/-- What plug.plugs returns. -/
def PairsRet (w : World) (L : List (Int × Int)) (e : Ending) (w' : World) : Prop := ∃ b n, e = .returned (.map (some b)) ∧ Pairs w' b n L ∧ Below w.heap.size w w'
set_option maxRecDepth 100000 in
set_option maxHeartbeats 4000000 in
theorem plugs_any (s : Shp) (h : Hd) (w : World) (hs : ShpR w (Lt w.heap.size) s h) (hf : Few s) (hi : Ints s) :
    Calls Try.prog 30 #[.agg (shpA s h)] w (PairsRet w (pairsF s)) := by
  have hb0 := ba2 w (.cells (shpA s h) 37) (.map #[] 0)
  have HS := Lib.hid hs; clear hs
  have HF := Lib.hid hf; clear hf
  have HI := Lib.hid hi; clear hi
  have hcl := HF.out.cols
  have hmm := @run_makeMap Try.prog
  have hms := MS.made (P := Try.prog) (kt := 84) (et := 3) (w.alloc (.cells (shpA s h) 37))
  have hz1 : (w.alloc (.cells (shpA s h) 37)).heap.size = w.heap.size + 1 := by simp
  rw [hz1] at hms
  unfold shpA at *
  have HMS := Lib.hid hms; clear hms
  have HB0 := Lib.hid hb0; clear hb0
  go_enter Try.func30, Try.ntmps30
  go_wp2_with fail
  clear hmm
  generalize ((w.alloc _).alloc _) = w0 at *
  clear hz1
  have hz0 := HB0.out.size
  have hbl := HMS.out.lt
  go_loopw [12] (fun i wr => ∃ k n : Nat, k ≤ s.cols.length ∧ i = .int .i64 k ∧ n ≤ 1000000 * k ∧ Hid (Pairs wr (w.heap.size + 1) n (pairsTo s.cols k)) ∧ Below w.heap.size w wr) (fun i _ => s.cols.length - (intOf i).toNat)
  case atStart => exact ⟨0, 0, Nat.zero_le _, rfl, by omega, HMS, HB0.out⟩
  case round =>
    obtain ⟨k, n, hk, rfl, hn, HM, hb⟩ := hrel
    obtain ⟨V, rfl⟩ : ∃ V, V = wr := ⟨_, rfl⟩
    have hzr := hb.size
    by_cases hlt : k < s.cols.length
    · obtain ⟨b, off, Ap, q, hA, hbB, hq, hpl, c0, c1, c2, c3, c4, c5, c6, c7, c8, c9, c10, c11⟩ := (HS.out.cols.below hb).col hlt
      have HIx := Lib.hid (HI.out.cols _ (getD_memD hlt default)).2.2
      have HST : Hid (pairsTo s.cols (k + 1) = colP k (s.cols.getD k default).tiers (s.cols.getD k default).plugs (pairsTo s.cols k)) := Lib.hid rfl
      have hpll := HF.out.plugs _ (getD_memD hlt default)
      have HPL := Lib.hid hpl; clear hpl
      rw [hA]
      clear hA
      have hk0 : (0 : Int) ≤ (k : Int) := by omega
      have hk1 : (k : Int) < (s.cols.length : Int) := by omega
      generalize s.cols.getD k default = x at *
      generalize pairsTo s.cols k = L at *
      obtain ⟨xb, xr, xd, xt, xh, x2, x4, xl, xp, xx, xy, xz⟩ := x
      simp only at c0 c1 c2 c3 c4 c5 c6 c7 c8 c9 c10 c11 hq hpll HPL HIx HST
      have hbx := hb.alloc hzr (.cells #[.int .i64 xb, .int .i64 xr, .bool xd, .int .i64 xt, .int .i64 xh, .int .i64 x2, .int .i64 x4, .int .i64 xl, .slice Ap xp.length q, .int .i64 xx, .int .i64 xy, .int .i64 xz] 66)
      have HKB := Lib.hid (Bk.new V 66 #[.int .i64 xb, .int .i64 xr, .bool xd, .int .i64 xt, .int .i64 xh, .int .i64 x2, .int .i64 x4, .int .i64 xl, .slice Ap xp.length q, .int .i64 xx, .int .i64 xy, .int .i64 xz])
      have HM1 := Lib.hid (HM.out.on (ba1 V (.cells #[.int .i64 xb, .int .i64 xr, .bool xd, .int .i64 xt, .int .i64 xh, .int .i64 x2, .int .i64 x4, .int .i64 xl, .slice Ap xp.length q, .int .i64 xx, .int .i64 xy, .int .i64 xz] 66)))
      have HPW := Lib.hid (HPL.out.below ((Below.refl w.heap.size V).alloc hzr (.cells #[.int .i64 xb, .int .i64 xr, .bool xd, .int .i64 xt, .int .i64 xh, .int .i64 x2, .int .i64 x4, .int .i64 xl, .slice Ap xp.length q, .int .i64 xx, .int .i64 xy, .int .i64 xz] 66)))
      go_upto_region 5 with fail
      clear c0 c1 c2 c3 c4 c5 c6 c7 c8 c9 c10 c11 hb HPL
      have hgc : w.heap.size + 1 < V.heap.size := HM.out.lt
      clear HM
      generalize V.heap.size = gc at *
      generalize (V.alloc _) = W at *
      try clear V
      have c8 : W.cell? ⟨gc, 8, none⟩ = some (.slice Ap xp.length q) := HKB.out.cell 8
      go_wp2_with fail
      clear c8
      go_loopw [20] (fun i wr => ∃ j m : Nat, j ≤ xp.length ∧ i = .int .i64 j ∧ m ≤ 1000000 * k + j ∧ Hid (Pairs wr (w.heap.size + 1) m (colP k xt (xp.take j) L)) ∧ Hid (Bk wr gc 66 #[.int .i64 xb, .int .i64 xr, .bool xd, .int .i64 xt, .int .i64 xh, .int .i64 x2, .int .i64 x4, .int .i64 xl, .slice Ap xp.length q, .int .i64 xx, .int .i64 xy, .int .i64 xz]) ∧ Below w.heap.size w wr) (fun i _ => xp.length - (intOf i).toNat)
      case atStart => exact ⟨0, n, Nat.zero_le _, rfl, by omega, HM1, HKB, hbx⟩
      case round =>
        have HBX := Lib.hid hbx
        clear HM1 HKB hbx
        obtain ⟨j, m, hj, rfl, hm, HM, HKB, hb⟩ := hrel
        obtain ⟨V, rfl⟩ : ∃ V, V = wr := ⟨_, rfl⟩
        have hzr := hb.size
        by_cases hjl : j < xp.length
        · obtain ⟨pb, po, rfl, hpb, hpc⟩ := (HPW.out.keep (w' := V) (fun b o hb' => (hb.cell (p := ⟨b, o, none⟩) hb').trans (HBX.out.cell (p := ⟨b, o, none⟩) hb').symm)).int hjl
          have HT := Lib.hid (colP_take k xt xp L hjl)
          have hj0 : (0 : Int) ≤ (j : Int) := by omega
          have hj1 : (j : Int) < (xp.length : Int) := by omega
          generalize xp.getD j 0 = p at *
          generalize colP k xt (xp.take j) L = L1 at *
          have d3 : V.cell? ⟨gc, 3, none⟩ = some (.int .i64 xt) := HKB.out.cell 3
          have hcs : (p < 0) ∨ (0 ≤ p ∧ xt ≤ p) ∨ (0 ≤ p ∧ p < xt) := by omega
          rcases hcs with u1 | ⟨u1, u2⟩ | ⟨u1, u2⟩
          · have t1 : decide (0 ≤ p) = false := by simp; omega
            have HM2 : Hid (Pairs V (w.heap.size + 1) m (colP k xt (xp.take (j + 1)) L)) := Lib.hid (by rw [HT.out]; unfold stepP; rw [if_neg (by omega)]; exact HM.out)
            go_wp2_with fail
            go_roundw
            case rel => exact ⟨j + 1, m, by omega, by go_num, by omega, HM2, HKB, hb⟩
            case measure => simp [intOf]; omega
          · have t1 : decide (0 ≤ p) = true := by simp; omega
            have t2 : decide (p < xt) = false := by simp; omega
            have HM2 : Hid (Pairs V (w.heap.size + 1) m (colP k xt (xp.take (j + 1)) L)) := Lib.hid (by rw [HT.out]; unfold stepP; rw [if_neg (by omega)]; exact HM.out)
            go_wp2_with fail
            go_roundw
            case rel => exact ⟨j + 1, m, by omega, by go_num, by omega, HM2, HKB, hb⟩
            case measure => simp [intOf]; omega
          · have t1 : decide (0 ≤ p) = true := by simp; omega
            have t2 : decide (p < xt) = true := by simp; omega
            obtain ⟨kl, hkl⟩ := key2 ((k : Int), p) ⟨by simp only; omega, by simp only; omega⟩ ⟨by simp only; omega, by have := HIx.out.2; simp only; omega⟩
            have HKL := Lib.hid hkl; clear hkl
            go_upto_region 9 with fail
            go_wp2_with (refine wpList_ms rfl (.tmp 32) (.tmp 35) (.const (.int .i64 1)) rfl key2_law Try.underlying82 Try.underlying3 rfl HM.out (by unfold maxLen; omega) ((k : Int), p) rfl rfl HKL.out ?_; intro W2 hms2 hg2 hsz2)
            have HM2 : Hid (Pairs W2 (w.heap.size + 1) (m + 1) (colP k xt (xp.take (j + 1)) L)) := Lib.hid (by rw [HT.out]; unfold stepP; rw [if_pos ⟨u1, u2⟩]; exact hms2)
            have HK2 := Lib.hid (HKB.out.grown hg2 (by simp; omega))
            have hb2 : Below w.heap.size w W2 := below_inc hb hg2 (by omega) hzr
            go_wp2_with fail
            go_roundw
            case rel => exact ⟨j + 1, m + 1, by omega, by go_num, by omega, HM2, HK2, hb2⟩
            case measure => simp [intOf]; omega
        · have HM2 : Hid (Pairs V (w.heap.size + 1) m (pairsTo s.cols (k + 1))) := Lib.hid (by rw [HST.out]; rw [List.take_of_length_le (by omega)] at HM; exact HM.out)
          go_wp2_with fail
          go_roundw
          case rel => exact ⟨k + 1, m, by omega, by go_num, by omega, HM2, hb⟩
          case measure => simp [intOf]; omega
    · have hkn : k = s.cols.length := by omega
      subst hkn
      go_wp2
      go_ret
      exact ⟨_, _, rfl, HM.out, hb⟩
end Go.Proofs.Ythijgmkflfaccaa
