/-
  Walk of the reference of chapter 08: Find.
-/
import Derived.Test.YtpmhchbkhohmjaaDoorRnA
import Derived.Test.YtpmhchbkhohmjaaDoorSlNm5
namespace Go.Proofs.YtpmhchbkhohmjaaDoor
open Go.RowKit

theorem mem_allR {s : Shp} {size : Nat} {x : Slt} : x ∈ allF s size ↔ slotRight s x size = true := by
  rw [mem_all]
  constructor
  · rintro ⟨c, t, hc, ht, e1, e2, e3⟩
    unfold tiersN at ht
    unfold slotRight
    rw [e1, e2]
    simp only [Int.toNat_natCast]
    rw [decide_eq_true (show (0 : Int) ≤ (c : Int) by omega), decide_eq_true (show (c : Int) < (s.cols.length : Int) by omega), decide_eq_true (show (0 : Int) ≤ (t : Int) by omega), decide_eq_true (show (t : Int) < (s.cols.getD c default).tiers by omega)]
    simp only [Bool.true_and]
    exact List.any_eq_true.2 ⟨x.half, e3, by simp⟩
  · intro h
    unfold slotRight at h
    simp only [Bool.and_eq_true, decide_eq_true_eq] at h
    obtain ⟨h1, h2, h3, h4, h5⟩ := h
    obtain ⟨y, hy, he⟩ := List.any_eq_true.1 h5
    obtain ⟨xc, xt, xh⟩ := x
    simp only at h1 h2 h3 h4 he
    obtain ⟨c, rfl⟩ := Int.eq_ofNat_of_zero_le h1
    obtain ⟨t, rfl⟩ := Int.eq_ofNat_of_zero_le h3
    rw [Int.toNat_natCast] at h4
    have he' : xh = y := by simpa using he
    exact ⟨c, t, by omega, by unfold tiersN; omega, rfl, rfl, by rw [he']; exact hy⟩
theorem name_right {s : Shp} {x : Slt} {size : Nat} (hs : size = 20 ∨ size = 40) (hr : rightF s = true) (h : slotRight s x size = true) : nameF s x = (nameL s x, 0) := by
  unfold nameF
  rw [if_neg (by rw [hr]; decide), if_neg]
  rintro ⟨h1, h2⟩
  rcases hs with rfl | rfl
  · rw [h] at h1; cases h1
  · rw [h] at h2; cases h2
theorem find_noneR {s : Shp} {nm : ByteArray} (hr : rightF s = true) (hv : findSF s nm = findGood s nm) (h20 : ∀ x ∈ allF s 20, strN (nameL s x) ≠ nm) (h40 : ∀ x ∈ allF s 40, strN (nameL s x) ≠ nm) : findSF s nm = (zS, 6) := by
  have hg : findGood s nm = (zS, 6) ∨ ∃ y, findGood s nm = (y, 0) := by
    unfold findGood
    simp only
    split
    · exact .inl rfl
    · exact .inr ⟨_, rfl⟩
  rcases hg with hg | ⟨y, hg⟩
  · rw [hv, hg]
  · exfalso
    have h := name_of_find (hv.trans hg)
    obtain ⟨h1, h2⟩ := h
    unfold nameF at h1
    rw [if_neg (by rw [hr]; decide)] at h1
    split at h1
    · injection h1 with _ h3
      exact absurd h3 (by decide)
    · rename_i hn
      by_cases g : slotRight s y 20 = true
      · exact h20 y (mem_allR.2 g) h2
      · have g2 : slotRight s y 40 = true := by
          cases hh : slotRight s y 40 with
          | true => rfl
          | false => exact absurd ⟨by simpa using g, hh⟩ hn
        exact h40 y (mem_allR.2 g2) h2
theorem b_eq {x y : ByteArray} (h : x = y) : (x.toList == y.toList) = true := by rw [h]; simp
theorem b_ne {x y : ByteArray} (h : x ≠ y) : (x.toList == y.toList) = false := by
  rw [← Bool.not_eq_true, beq_iff_eq, ByteArray.toList_eq, ByteArray.toList_eq]
  exact fun e => h (ByteArray.ext (Array.toList_inj.mp e))
theorem bad_iff (nm : ByteArray) : badN nm ↔ placeN nm % 4 = 0 ∨ lastN nm % 2 = 1 ∨ (20 < lastN nm ∧ lastN nm < 82) := by
  unfold badN tierN
  split
  · rename_i h; rw [h]; omega
  · exact Iff.rfl
set_option maxRecDepth 100000 in
set_option maxHeartbeats 8000000 in
theorem refFindS_any (s : Shp) (h : Hd) (nm : ByteArray) (w : World) (hs : ShpR w (Lt w.heap.size) s h) (hf : Few s) (hl : s.cols.length ≤ 60) (hT : ∀ c, tiersN s c ≤ 12) (hnl : nm.size ≤ 9223372036854775807) :
    Calls Tryd.prog 11 #[.agg (shpA s h), .string nm] w (FindRet w (findSF s nm)) := by
  have hb0 := ba2 w (.cells (shpA s h) 32) (.cells #[.int .i64 0, .int .i64 0, .int .u8 0] 34)
  have KE := Lib.hid ((Bk.new w 32 (shpA s h)).alloc (.cells #[.int .i64 0, .int .i64 0, .int .u8 0] 34))
  have KX := Lib.hid (Bk.nxt8 (w := w) (.cells (shpA s h) 32) 34 #[.int .i64 0, .int .i64 0, .int .u8 0])
  have HS := Lib.hid (hs.on hb0)
  have HB0 := Lib.hid hb0
  have HF := Lib.hid hf
  have HTT := Lib.hid hT
  clear hs hb0 hf hT
  unfold shpA at *
  go_enter Tryd.func11, Tryd.ntmps11
  go_upto_region 1 with fail
  generalize ((w.alloc _).alloc _) = W at *
  have HB := Lib.hid (Below.refl W.heap.size W)
  have KR := Lib.hid (refRight_any s h W HS.out HF.out)
  unfold shpA at KR
  have e0 : W.cell? ⟨w.heap.size, 0, none⟩ = some (Value.slice h.A1 s.cols.length h.c1) := (KE.out.below HB.out KE.out.lt).cell 0
  have e1 : W.cell? ⟨w.heap.size, 1, none⟩ = some (Value.slice h.A2 s.covs.length h.c2) := (KE.out.below HB.out KE.out.lt).cell 1
  have e2 : W.cell? ⟨w.heap.size, 2, none⟩ = some (.int .i64 s.l0) := (KE.out.below HB.out KE.out.lt).cell 2
  have e3 : W.cell? ⟨w.heap.size, 3, none⟩ = some (.int .i64 s.l1) := (KE.out.below HB.out KE.out.lt).cell 3
  have e4 : W.cell? ⟨w.heap.size, 4, none⟩ = some (.int .i64 s.l2) := (KE.out.below HB.out KE.out.lt).cell 4
  have e5 : W.cell? ⟨w.heap.size, 5, none⟩ = some (.int .i64 s.l3) := (KE.out.below HB.out KE.out.lt).cell 5
  have e6 : W.cell? ⟨w.heap.size, 6, none⟩ = some (.slice h.A3 s.rows.length h.c3) := (KE.out.below HB.out KE.out.lt).cell 6
  have e7 : W.cell? ⟨w.heap.size, 7, none⟩ = some (.slice h.A4 s.frames.length h.c4) := (KE.out.below HB.out KE.out.lt).cell 7
  have e8 : W.cell? ⟨w.heap.size, 8, none⟩ = some (.slice h.A5 s.tanks.length h.c5) := (KE.out.below HB.out KE.out.lt).cell 8
  have e9 : W.cell? ⟨w.heap.size, 9, none⟩ = some (.int .i64 s.m0) := (KE.out.below HB.out KE.out.lt).cell 9
  have e10 : W.cell? ⟨w.heap.size, 10, none⟩ = some (.int .i64 s.m1) := (KE.out.below HB.out KE.out.lt).cell 10
  have e11 : W.cell? ⟨w.heap.size, 11, none⟩ = some (.int .i64 s.m2) := (KE.out.below HB.out KE.out.lt).cell 11
  have e12 : W.cell? ⟨w.heap.size, 12, none⟩ = some (.int .i64 s.m3) := (KE.out.below HB.out KE.out.lt).cell 12
  go_wp2_with fail
  refine KR.out.mono ?_
  rintro e V ⟨rfl, hb⟩
  simp only
  clear KR HB e0 e1 e2 e3 e4 e5 e6 e7 e8 e9 e10 e11 e12
  have HB := Lib.hid hb
  clear hb
  cases hr : rightF s with
  | false =>
    have HV : Hid (findSF s nm = (zS, 2)) := Lib.hid (by unfold findSF; rw [if_pos hr])
    have KXV := KX.out.below HB.out KX.out.lt
    have x0 : V.cell? ⟨w.heap.size + 1, 0, none⟩ = some (.int .i64 0) := KXV.cell 0
    have x1 : V.cell? ⟨w.heap.size + 1, 1, none⟩ = some (.int .i64 0) := KXV.cell 1
    have x2 : V.cell? ⟨w.heap.size + 1, 2, none⟩ = some (.int .u8 0) := KXV.cell 2
    have y0 := KXV.frozen 0
    have y1 := KXV.frozen 1
    have y2 := KXV.frozen 2
    have HE := Lib.hid (HB0.out.trans (HB.out.mono HB0.out.size))
    go_wp2
    refine bodyPost_ret (results_row_tmp rfl _ _ (w.heap.size + 1) 34 (sltL ⟨0, 0, 0⟩).toArray _ rfl (slt_set (y := ⟨0, 0, 0⟩) KXV ⟨0, 0, 0⟩) Tryd.underlying34 rfl info_slt) rfl ?_
    exact ⟨by rw [HV.out]; rfl, be_set HE.out (by omega) _ _ _⟩
  | true =>
    by_cases hsz : nm.size = 7
    · have d7 : ((nm.size : Int) != 7) = false := by simp; omega
      have HV80 : Hid (∀ i, i < 7 → digOK nm i = false → findSF s nm = (zS, 80)) := Lib.hid fun i hi hd => by
        unfold findSF
        rw [if_neg (by rw [hr]; simp), if_neg (by omega), if_pos]
        rw [List.all_eq_false]
        exact ⟨i, by simpa using hi, by simp [hd]⟩
      have HVB : Hid ((∀ i, i < 7 → digOK nm i = true) → findSF s nm = if badN nm then (zS, 80) else findGood s nm) := Lib.hid fun hd => by
        unfold findSF
        rw [if_neg (by rw [hr]; simp), if_neg (by omega), if_neg]
        have : (List.range 7).all (digOK nm) = true := by rw [List.all_eq_true]; intro i hi; exact hd i (by simpa using hi)
        rw [this]; simp
      have HR1 := Lib.hid hr
      clear hr
      go_upto_region 5 with fail
      clear d7
      go_wp2_with fail
      go_loopw [6] (fun i wr => ∃ k : Nat, k ≤ 7 ∧ i = .int .i64 k ∧ Hid ((∀ j, j < k → digOK nm j = true) ∧ Below W.heap.size W wr)) (fun i _ => 7 - (intOf i).toNat)
      case atStart => exact ⟨0, by omega, rfl, Lib.hid (And.intro (fun i h => absurd h (by omega)) HB.out)⟩
      case round =>
        clear HB
        try clear V
        obtain ⟨k, hk, rfl, HJ⟩ := hrel
        obtain ⟨V, rfl⟩ : ∃ W, W = wr := ⟨_, rfl⟩
        have HB := Lib.hid HJ.out.2
        by_cases hk7 : k < 7
        · have hks : k < nm.size := by omega
          have hby : nm[k].toNat = byteAt nm k := by
            unfold byteAt Array.getD
            rw [dif_pos (show k < nm.data.size from hks)]
            rfl
          have hc256 : byteAt nm k < 256 := by unfold byteAt; exact (nm.data.getD k 0).toBitVec.isLt
          have hk0 : (0 : Int) ≤ (k : Int) := by omega
          have hk1 : (k : Int) < 7 := by omega
          have HOK : Hid (digOK nm k = (decide (48 ≤ byteAt nm k) && decide (byteAt nm k ≤ 57))) := Lib.hid rfl
          have HVK := Lib.hid (HV80.out k hk7)
          generalize byteAt nm k = c at *
          by_cases hA : c < 48
          · have d1 : decide ((c : Int) < 48) = true := by simp; omega
            have HV : Hid (findSF s nm = (zS, 80)) := Lib.hid (HVK.out (by rw [HOK.out]; simp; omega))
            have KXV := KX.out.below HB.out KX.out.lt
            have x0 : V.cell? ⟨w.heap.size + 1, 0, none⟩ = some (.int .i64 0) := KXV.cell 0
            have x1 : V.cell? ⟨w.heap.size + 1, 1, none⟩ = some (.int .i64 0) := KXV.cell 1
            have x2 : V.cell? ⟨w.heap.size + 1, 2, none⟩ = some (.int .u8 0) := KXV.cell 2
            have y0 := KXV.frozen 0
            have y1 := KXV.frozen 1
            have y2 := KXV.frozen 2
            have HE := Lib.hid (HB0.out.trans (HB.out.mono HB0.out.size))
            go_wp2
            refine bodyPost_ret (results_row_tmp rfl _ _ (w.heap.size + 1) 34 (sltL ⟨0, 0, 0⟩).toArray _ rfl (slt_set (y := ⟨0, 0, 0⟩) KXV ⟨0, 0, 0⟩) Tryd.underlying34 rfl info_slt) rfl ?_
            exact ⟨by rw [HV.out]; rfl, be_set HE.out (by omega) _ _ _⟩
          · by_cases hB : 57 < c
            · have d1 : decide ((c : Int) < 48) = false := by simp; omega
              have d2 : decide (57 < (c : Int)) = true := by simp; omega
              have HV : Hid (findSF s nm = (zS, 80)) := Lib.hid (HVK.out (by rw [HOK.out]; simp; omega))
              have KXV := KX.out.below HB.out KX.out.lt
              have x0 : V.cell? ⟨w.heap.size + 1, 0, none⟩ = some (.int .i64 0) := KXV.cell 0
              have x1 : V.cell? ⟨w.heap.size + 1, 1, none⟩ = some (.int .i64 0) := KXV.cell 1
              have x2 : V.cell? ⟨w.heap.size + 1, 2, none⟩ = some (.int .u8 0) := KXV.cell 2
              have y0 := KXV.frozen 0
              have y1 := KXV.frozen 1
              have y2 := KXV.frozen 2
              have HE := Lib.hid (HB0.out.trans (HB.out.mono HB0.out.size))
              go_wp2
              refine bodyPost_ret (results_row_tmp rfl _ _ (w.heap.size + 1) 34 (sltL ⟨0, 0, 0⟩).toArray _ rfl (slt_set (y := ⟨0, 0, 0⟩) KXV ⟨0, 0, 0⟩) Tryd.underlying34 rfl info_slt) rfl ?_
              exact ⟨by rw [HV.out]; rfl, be_set HE.out (by omega) _ _ _⟩
            · have d1 : decide ((c : Int) < 48) = false := by simp; omega
              have d2 : decide (57 < (c : Int)) = false := by simp; omega
              have HN : Hid ((∀ j, j < k + 1 → digOK nm j = true) ∧ Below W.heap.size W V) := Lib.hid ⟨fun i hi => by
                rcases Nat.lt_succ_iff_lt_or_eq.1 hi with h' | h'
                · exact HJ.out.1 i h'
                · rw [h', HOK.out]; simp; omega, HB.out⟩
              clear HJ
              go_wp2_with fail
              go_roundw
              case rel => first | exact ⟨k + 1, by omega, by go_num, HN⟩ | ((repeat apply Exists.intro); (first | exact ⟨⟨k + 1, by omega, by go_num, HN⟩, rfl⟩ | exact ⟨by omega, by go_num, HN⟩))
              case measure => simp [intOf]; omega
        · obtain rfl : k = 7 := by omega
          have HV2 := Lib.hid (HVB.out HJ.out.1)
          have hdig : ∀ i, i < 7 → ∃ c : Nat, byteAt nm i = 48 + c ∧ c ≤ 9 ∧ dN nm i = c := fun i hi => by
            have := HJ.out.1 i hi
            unfold digOK at this
            simp only [Bool.and_eq_true, decide_eq_true_eq] at this
            exact ⟨byteAt nm i - 48, by omega, by omega, rfl⟩
          obtain ⟨c0, b0, l0, n0⟩ := hdig 0 (by omega)
          obtain ⟨c1, b1, l1, n1⟩ := hdig 1 (by omega)
          obtain ⟨c2, b2, l2, n2⟩ := hdig 2 (by omega)
          obtain ⟨c5, b5, l5, n5⟩ := hdig 5 (by omega)
          obtain ⟨c6, b6, l6, n6⟩ := hdig 6 (by omega)
          have hby : ∀ i (hi : i < 7), (nm[i]'(by omega)).toNat = byteAt nm i := fun i hi => by
            unfold byteAt Array.getD
            have hq : i < nm.data.size := (show i < nm.size by omega)
            rw [dif_pos hq]
            rfl
          have g0 := (hby 0 (by omega)).trans b0
          have g1 := (hby 1 (by omega)).trans b1
          have g2 := (hby 2 (by omega)).trans b2
          have g5 := (hby 5 (by omega)).trans b5
          have g6 := (hby 6 (by omega)).trans b6
          have HPL : Hid (placeN nm = 100 * c0 + 10 * c1 + c2) := Lib.hid (by unfold placeN; rw [n0, n1, n2])
          have HLA : Hid (lastN nm = 10 * c5 + c6) := Lib.hid (by unfold lastN; rw [n5, n6])
          obtain ⟨L, hL⟩ : ∃ L, L = (100 * c0 + 10 * c1 + c2) % 4 := ⟨_, rfl⟩
          obtain ⟨M, hM⟩ : ∃ M, M = 10 * c5 + c6 := ⟨_, rfl⟩
          have HBI : Hid (badN nm ↔ L = 0 ∨ M % 2 = 1 ∨ (20 < M ∧ M < 82)) := Lib.hid (by rw [bad_iff, HPL.out, HLA.out, ← hL, ← hM])
          obtain ⟨S, hS⟩ : ∃ S, S = 100 * c0 + 10 * c1 + c2 := ⟨_, rfl⟩
          have r1 : (48 + (c0 : Int) - 48) * 100 + (48 + (c1 : Int) - 48) * 10 + (48 + (c2 : Int) - 48) = (S : Int) := by omega
          have r1' : (S : Int) % 4 = (L : Int) := by omega
          have hS9 : S ≤ 999 := by omega
          have r2 : (48 + (c5 : Int) - 48) * 10 + (48 + (c6 : Int) - 48) = (M : Int) := by omega
          have hL4 : L < 4 := by omega
          have hM99 : M ≤ 99 := by omega
          clear HJ hby hdig b0 b1 b2 b5 b6 n0 n1 n2 n5 n6 HPL HLA hL hM hS HV80 HVB
          go_upto_region 10 with fail
          refine wp_region_gr (by kernel_rfl) (by kernel_rfl) ?_
          repeat (go_big_quiet_step (fail))
          refine wpQuiet_nil ?_
          rintro V1 ⟨⟨_, hb1⟩, rfl⟩
          replace HB := Lib.hid (HB.out.trans (hb1.mono HB.out.size))
          clear hb1
          go_upto_region 11 with fail
          refine wp_region_gr (by kernel_rfl) (by kernel_rfl) ?_
          repeat (go_big_quiet_step (fail))
          refine wpQuiet_nil ?_
          rintro V2 ⟨⟨_, hb2⟩, rfl⟩
          replace HB := Lib.hid (HB.out.trans (hb2.mono HB.out.size))
          clear hb2 r1 r2 g0 g1 g2 g5 g6
          by_cases hbad : badN nm
          · have HV : Hid (findSF s nm = (zS, 80)) := Lib.hid (by rw [HV2.out, if_pos hbad])
            have hb3 := HBI.out.1 hbad
            by_cases k1 : L = 0
            · skip
              have z1 : ((S : Int) % 4 == 0) = true := beq_iff_eq.2 (by omega)
              have z1' : ((L : Int) == 0) = true := beq_iff_eq.2 (by omega)
              clear r1'
              clear hb3 k1 hbad
              have KXV := KX.out.below HB.out KX.out.lt
              have x0 : V2.cell? ⟨w.heap.size + 1, 0, none⟩ = some (.int .i64 0) := KXV.cell 0
              have x1 : V2.cell? ⟨w.heap.size + 1, 1, none⟩ = some (.int .i64 0) := KXV.cell 1
              have x2 : V2.cell? ⟨w.heap.size + 1, 2, none⟩ = some (.int .u8 0) := KXV.cell 2
              have y0 := KXV.frozen 0
              have y1 := KXV.frozen 1
              have y2 := KXV.frozen 2
              have HE := Lib.hid (HB0.out.trans (HB.out.mono HB0.out.size))
              go_wp2
              refine bodyPost_ret (results_row_tmp rfl _ _ (w.heap.size + 1) 34 (sltL ⟨0, 0, 0⟩).toArray _ rfl (slt_set (y := ⟨0, 0, 0⟩) KXV ⟨0, 0, 0⟩) Tryd.underlying34 rfl info_slt) rfl ?_
              exact ⟨by rw [HV.out]; rfl, be_set HE.out (by omega) _ _ _⟩
            · by_cases k2 : M % 2 = 1
              · skip
                have z1 : ((S : Int) % 4 == 0) = false := beq_eq_false_iff_ne.2 (by omega)
                have z1' : ((L : Int) == 0) = false := beq_eq_false_iff_ne.2 (by omega)
                clear r1'
                have z2 : ((M : Int) % 2 == 1) = true := beq_iff_eq.2 (by omega)
                have z2' : (M % 2 == 1) = true := beq_iff_eq.2 (by omega)
                clear hb3 k1 k2 hbad
                have KXV := KX.out.below HB.out KX.out.lt
                have x0 : V2.cell? ⟨w.heap.size + 1, 0, none⟩ = some (.int .i64 0) := KXV.cell 0
                have x1 : V2.cell? ⟨w.heap.size + 1, 1, none⟩ = some (.int .i64 0) := KXV.cell 1
                have x2 : V2.cell? ⟨w.heap.size + 1, 2, none⟩ = some (.int .u8 0) := KXV.cell 2
                have y0 := KXV.frozen 0
                have y1 := KXV.frozen 1
                have y2 := KXV.frozen 2
                have HE := Lib.hid (HB0.out.trans (HB.out.mono HB0.out.size))
                go_wp2
                refine bodyPost_ret (results_row_tmp rfl _ _ (w.heap.size + 1) 34 (sltL ⟨0, 0, 0⟩).toArray _ rfl (slt_set (y := ⟨0, 0, 0⟩) KXV ⟨0, 0, 0⟩) Tryd.underlying34 rfl info_slt) rfl ?_
                exact ⟨by rw [HV.out]; rfl, be_set HE.out (by omega) _ _ _⟩
              · have k3 : 20 < M ∧ M < 82 := by omega
                have z1 : ((S : Int) % 4 == 0) = false := beq_eq_false_iff_ne.2 (by omega)
                have z1' : ((L : Int) == 0) = false := beq_eq_false_iff_ne.2 (by omega)
                clear r1'
                have z2 : ((M : Int) % 2 == 1) = false := beq_eq_false_iff_ne.2 (by omega)
                have z2' : (M % 2 == 1) = false := beq_eq_false_iff_ne.2 (by omega)
                have z3 : decide ((20 : Int) < (M : Int)) = true := decide_eq_true (by omega)
                have z3' : decide (20 < M) = true := decide_eq_true (by omega)
                have z4 : decide ((M : Int) < 82) = true := decide_eq_true (by omega)
                have z4' : decide (M < 82) = true := decide_eq_true (by omega)
                clear hb3 k1 k2 k3 hbad
                have KXV := KX.out.below HB.out KX.out.lt
                have x0 : V2.cell? ⟨w.heap.size + 1, 0, none⟩ = some (.int .i64 0) := KXV.cell 0
                have x1 : V2.cell? ⟨w.heap.size + 1, 1, none⟩ = some (.int .i64 0) := KXV.cell 1
                have x2 : V2.cell? ⟨w.heap.size + 1, 2, none⟩ = some (.int .u8 0) := KXV.cell 2
                have y0 := KXV.frozen 0
                have y1 := KXV.frozen 1
                have y2 := KXV.frozen 2
                have HE := Lib.hid (HB0.out.trans (HB.out.mono HB0.out.size))
                go_wp2
                refine bodyPost_ret (results_row_tmp rfl _ _ (w.heap.size + 1) 34 (sltL ⟨0, 0, 0⟩).toArray _ rfl (slt_set (y := ⟨0, 0, 0⟩) KXV ⟨0, 0, 0⟩) Tryd.underlying34 rfl info_slt) rfl ?_
                exact ⟨by rw [HV.out]; rfl, be_set HE.out (by omega) _ _ _⟩
          · have k1 : ¬ (L = 0 ∨ M % 2 = 1 ∨ (20 < M ∧ M < 82)) := fun h => hbad (HBI.out.2 h)
            by_cases k2 : 20 < M
            · skip
              have z1 : ((S : Int) % 4 == 0) = false := beq_eq_false_iff_ne.2 (by omega)
              have z1' : ((L : Int) == 0) = false := beq_eq_false_iff_ne.2 (by omega)
              clear r1'
              have z2 : ((M : Int) % 2 == 1) = false := beq_eq_false_iff_ne.2 (by omega)
              have z2' : (M % 2 == 1) = false := beq_eq_false_iff_ne.2 (by omega)
              have z3 : decide ((20 : Int) < (M : Int)) = true := decide_eq_true (by omega)
              have z3' : decide (20 < M) = true := decide_eq_true (by omega)
              have z4 : decide ((M : Int) < 82) = false := decide_eq_false (by omega)
              have z4' : decide (M < 82) = false := decide_eq_false (by omega)
              clear k1 k2
              have HVG : Hid (findSF s nm = findGood s nm) := Lib.hid (by rw [HV2.out, if_neg hbad])
              clear hbad HV2 HBI
              go_upto_region 14 with fail
              clear z1 z1' z2 z2' z3 z3' z4 z4'
              go_wp2_with fail
              go_loopw [9] (fun i wr => ∃ z : Nat, (z = 20 ∨ z = 40 ∨ z = 60) ∧ i = .int .i64 z ∧ Hid ((40 ≤ z → ∀ x ∈ allF s 20, strN (nameL s x) ≠ nm) ∧ (60 ≤ z → ∀ x ∈ allF s 40, strN (nameL s x) ≠ nm) ∧ Below W.heap.size W wr)) (fun i _ => 60 - (intOf i).toNat)
              case atStart => exact ⟨20, .inl rfl, rfl, Lib.hid ⟨fun h => absurd h (by decide), fun h => absurd h (by decide), HB.out⟩⟩
              case round =>
                clear HB
                try clear V2
                obtain ⟨z, hz, rfl, HZ⟩ := hrel
                obtain ⟨V5, rfl⟩ : ∃ W, W = wr := ⟨_, rfl⟩
                rcases hz with rfl | rfl | rfl
                · skip
                  have HB := Lib.hid HZ.out.2.2
                  have KA : Hid (Calls Tryd.prog 18 #[.agg (shpA s h), .int .i64 20] V5 (OwnSlt V5 (allF s 20))) := Lib.hid (refAll_any s h 20 V5 (HS.out.on HB.out) hl HTT.out (by decide))
                  unfold shpA at KA
                  have e0 : V5.cell? ⟨w.heap.size, 0, none⟩ = some (Value.slice h.A1 s.cols.length h.c1) := (KE.out.below HB.out KE.out.lt).cell 0
                  have e1 : V5.cell? ⟨w.heap.size, 1, none⟩ = some (Value.slice h.A2 s.covs.length h.c2) := (KE.out.below HB.out KE.out.lt).cell 1
                  have e2 : V5.cell? ⟨w.heap.size, 2, none⟩ = some (.int .i64 s.l0) := (KE.out.below HB.out KE.out.lt).cell 2
                  have e3 : V5.cell? ⟨w.heap.size, 3, none⟩ = some (.int .i64 s.l1) := (KE.out.below HB.out KE.out.lt).cell 3
                  have e4 : V5.cell? ⟨w.heap.size, 4, none⟩ = some (.int .i64 s.l2) := (KE.out.below HB.out KE.out.lt).cell 4
                  have e5 : V5.cell? ⟨w.heap.size, 5, none⟩ = some (.int .i64 s.l3) := (KE.out.below HB.out KE.out.lt).cell 5
                  have e6 : V5.cell? ⟨w.heap.size, 6, none⟩ = some (.slice h.A3 s.rows.length h.c3) := (KE.out.below HB.out KE.out.lt).cell 6
                  have e7 : V5.cell? ⟨w.heap.size, 7, none⟩ = some (.slice h.A4 s.frames.length h.c4) := (KE.out.below HB.out KE.out.lt).cell 7
                  have e8 : V5.cell? ⟨w.heap.size, 8, none⟩ = some (.slice h.A5 s.tanks.length h.c5) := (KE.out.below HB.out KE.out.lt).cell 8
                  have e9 : V5.cell? ⟨w.heap.size, 9, none⟩ = some (.int .i64 s.m0) := (KE.out.below HB.out KE.out.lt).cell 9
                  have e10 : V5.cell? ⟨w.heap.size, 10, none⟩ = some (.int .i64 s.m1) := (KE.out.below HB.out KE.out.lt).cell 10
                  have e11 : V5.cell? ⟨w.heap.size, 11, none⟩ = some (.int .i64 s.m2) := (KE.out.below HB.out KE.out.lt).cell 11
                  have e12 : V5.cell? ⟨w.heap.size, 12, none⟩ = some (.int .i64 s.m3) := (KE.out.below HB.out KE.out.lt).cell 12
                  go_wp2_with fail
                  refine KA.out.mono ?_
                  rintro e V6 ⟨v, rfl, ho, hb⟩
                  obtain ⟨A1, c1', rfl, hc1', hcm, hsl⟩ := ho.sl
                  unfold maxLen at hcm
                  simp only
                  clear KA ho e0 e1 e2 e3 e4 e5 e6 e7 e8 e9 e10 e11 e12
                  replace HB := Lib.hid (HB.out.trans (hb.mono HB.out.size))
                  have HSL := Lib.hid hsl
                  clear hb hsl
                  try clear V5
                  obtain ⟨V0, hV0⟩ : ∃ V, V = V6 := ⟨_, rfl⟩
                  subst hV0
                  have HMEM : Hid (∀ x ∈ allF s 20, nameF s x = (nameL s x, 0) ∧ findSF s (strN (nameL s x)) = (x, 0)) := Lib.hid fun x hx => ⟨name_right (.inl rfl) HR1.out (mem_allR.1 hx), find_of_name HR1.out (mem_allR.1 hx)⟩
                  have HLE : Hid (∀ P : Slt → Prop, (∀ x ∈ allF s 20, P x) → ∀ x ∈ allF s 20, P x) := Lib.hid fun _ h => h
                  have HALL : Hid (∀ LA : List Slt, LA = allF s 20 → (∀ j, j < LA.length → strN (nameL s (LA.getD j default)) ≠ nm) → ∀ x ∈ allF s 20, strN (nameL s x) ≠ nm) := Lib.hid fun LA hLA hh x hx => by
                    rw [← hLA] at hx
                    obtain ⟨j, hj, rfl⟩ := List.getElem_of_mem hx
                    have := hh j hj
                    simpa [hj] using this
                  obtain ⟨LA, hLA⟩ : ∃ LA, LA = allF s 20 := ⟨_, rfl⟩
                  have HFIN := Lib.hid (HALL.out LA hLA)
                  rw [← hLA] at HMEM HSL hc1' ⊢
                  have hLn : LA.length ≤ 9223372036854775807 := by omega
                  clear hcm
                  clear HLE HALL hLA
                  go_wp2_with fail
                  go_loopw [11] (fun i wr => ∃ i0 : Nat, i0 ≤ LA.length ∧ i = .int .i64 i0 ∧ Hid ((∀ j, j < i0 → strN (nameL s (LA.getD j default)) ≠ nm) ∧ Below V0.heap.size V0 wr)) (fun i _ => LA.length - (intOf i).toNat)
                  case atStart => exact ⟨0, Nat.zero_le _, rfl, Lib.hid (And.intro (fun j hj => absurd hj (by omega)) (Below.refl _ _))⟩
                  case round =>
                    obtain ⟨i, hi, rfl, HJ⟩ := hrel
                    obtain ⟨V6, rfl⟩ : ∃ W, W = wr := ⟨_, rfl⟩
                    have HBV := Lib.hid (HB.out.trans (HJ.out.2.mono HB.out.size))
                    by_cases hil : i < LA.length
                    · obtain ⟨b1, o1, rfl, _, a0, a1, a2⟩ := (HSL.out.on HJ.out.2).slt hil
                      have i0 : (0 : Int) ≤ (i : Int) := by omega
                      have i1 : (i : Int) < (LA.length : Int) := by omega
                      have hm := HMEM.out _ (getD_memD hil default)
                      have HM2 := Lib.hid hm.2
                      have HNX : Hid (strN (nameL s (LA.getD i default)) ≠ nm → ∀ j, j < i + 1 → strN (nameL s (LA.getD j default)) ≠ nm) := Lib.hid fun hq j hj => by
                        rcases Nat.lt_succ_iff_lt_or_eq.1 hj with h1 | h1
                        · exact HJ.out.1 j h1
                        · rw [h1]; exact hq
                      have KN : Hid (∀ U, Below V6.heap.size V6 U → Calls Tryd.prog 9 #[.agg (shpA s h), .agg (sltL (LA.getD i default)).toArray] U (Ret U (.tuple #[.string (strN (nameL s (LA.getD i default))), .int .i64 0]))) := Lib.hid fun U hU => by
                        have k1 := refName_any s h (LA.getD i default) U ((HS.out.on HBV.out).on hU) HF.out
                        rw [hm.1] at k1
                        exact k1
                      have HJ2 := Lib.hid HJ.out.2
                      clear hm HJ
                      generalize hstr : strN (nameL s (LA.getD i default)) = str at *
                      clear hstr
                      generalize LA.getD i default = x at *
                      obtain ⟨xc, xt, xh⟩ := x
                      unfold shpA sltL at KN
                      simp only at KN a0 a1 a2
                      have e0 : V6.cell? ⟨w.heap.size, 0, none⟩ = some (Value.slice h.A1 s.cols.length h.c1) := (KE.out.below HBV.out KE.out.lt).cell 0
                      have e1 : V6.cell? ⟨w.heap.size, 1, none⟩ = some (Value.slice h.A2 s.covs.length h.c2) := (KE.out.below HBV.out KE.out.lt).cell 1
                      have e2 : V6.cell? ⟨w.heap.size, 2, none⟩ = some (.int .i64 s.l0) := (KE.out.below HBV.out KE.out.lt).cell 2
                      have e3 : V6.cell? ⟨w.heap.size, 3, none⟩ = some (.int .i64 s.l1) := (KE.out.below HBV.out KE.out.lt).cell 3
                      have e4 : V6.cell? ⟨w.heap.size, 4, none⟩ = some (.int .i64 s.l2) := (KE.out.below HBV.out KE.out.lt).cell 4
                      have e5 : V6.cell? ⟨w.heap.size, 5, none⟩ = some (.int .i64 s.l3) := (KE.out.below HBV.out KE.out.lt).cell 5
                      have e6 : V6.cell? ⟨w.heap.size, 6, none⟩ = some (.slice h.A3 s.rows.length h.c3) := (KE.out.below HBV.out KE.out.lt).cell 6
                      have e7 : V6.cell? ⟨w.heap.size, 7, none⟩ = some (.slice h.A4 s.frames.length h.c4) := (KE.out.below HBV.out KE.out.lt).cell 7
                      have e8 : V6.cell? ⟨w.heap.size, 8, none⟩ = some (.slice h.A5 s.tanks.length h.c5) := (KE.out.below HBV.out KE.out.lt).cell 8
                      have e9 : V6.cell? ⟨w.heap.size, 9, none⟩ = some (.int .i64 s.m0) := (KE.out.below HBV.out KE.out.lt).cell 9
                      have e10 : V6.cell? ⟨w.heap.size, 10, none⟩ = some (.int .i64 s.m1) := (KE.out.below HBV.out KE.out.lt).cell 10
                      have e11 : V6.cell? ⟨w.heap.size, 11, none⟩ = some (.int .i64 s.m2) := (KE.out.below HBV.out KE.out.lt).cell 11
                      have e12 : V6.cell? ⟨w.heap.size, 12, none⟩ = some (.int .i64 s.m3) := (KE.out.below HBV.out KE.out.lt).cell 12
                      go_upto_region 21 with fail
                      have e0 : ∀ p : Gr V6, p.W.cell? ⟨w.heap.size, 0, none⟩ = some (Value.slice h.A1 s.cols.length h.c1) := Gr.cell e0
                      have e1 : ∀ p : Gr V6, p.W.cell? ⟨w.heap.size, 1, none⟩ = some (Value.slice h.A2 s.covs.length h.c2) := Gr.cell e1
                      have e2 : ∀ p : Gr V6, p.W.cell? ⟨w.heap.size, 2, none⟩ = some (.int .i64 s.l0) := Gr.cell e2
                      have e3 : ∀ p : Gr V6, p.W.cell? ⟨w.heap.size, 3, none⟩ = some (.int .i64 s.l1) := Gr.cell e3
                      have e4 : ∀ p : Gr V6, p.W.cell? ⟨w.heap.size, 4, none⟩ = some (.int .i64 s.l2) := Gr.cell e4
                      have e5 : ∀ p : Gr V6, p.W.cell? ⟨w.heap.size, 5, none⟩ = some (.int .i64 s.l3) := Gr.cell e5
                      have e6 : ∀ p : Gr V6, p.W.cell? ⟨w.heap.size, 6, none⟩ = some (.slice h.A3 s.rows.length h.c3) := Gr.cell e6
                      have e7 : ∀ p : Gr V6, p.W.cell? ⟨w.heap.size, 7, none⟩ = some (.slice h.A4 s.frames.length h.c4) := Gr.cell e7
                      have e8 : ∀ p : Gr V6, p.W.cell? ⟨w.heap.size, 8, none⟩ = some (.slice h.A5 s.tanks.length h.c5) := Gr.cell e8
                      have e9 : ∀ p : Gr V6, p.W.cell? ⟨w.heap.size, 9, none⟩ = some (.int .i64 s.m0) := Gr.cell e9
                      have e10 : ∀ p : Gr V6, p.W.cell? ⟨w.heap.size, 10, none⟩ = some (.int .i64 s.m1) := Gr.cell e10
                      have e11 : ∀ p : Gr V6, p.W.cell? ⟨w.heap.size, 11, none⟩ = some (.int .i64 s.m2) := Gr.cell e11
                      have e12 : ∀ p : Gr V6, p.W.cell? ⟨w.heap.size, 12, none⟩ = some (.int .i64 s.m3) := Gr.cell e12
                      have a0 : ∀ p : Gr V6, p.W.cell? ⟨b1, o1 + i * 3, none⟩ = some (.int .i64 xc) := Gr.cell a0
                      have a1 : ∀ p : Gr V6, p.W.cell? ⟨b1, o1 + i * 3 + 1, none⟩ = some (.int .i64 xt) := Gr.cell a1
                      have a2 : ∀ p : Gr V6, p.W.cell? ⟨b1, o1 + i * 3 + 2, none⟩ = some (.int .u8 (xh : Nat)) := Gr.cell a2
                      refine wp_region_gr (by kernel_rfl) (by kernel_rfl) ?_
                      repeat (go_big_quiet_step ((with_reducible exact Gr.call _ (fun V hV => KN.out V hV))))
                      refine wpQuiet_nil ?_
                      rintro V7 ⟨⟨_, hb7⟩, rfl⟩
                      have HBW := Lib.hid (HBV.out.trans (hb7.mono HBV.out.size))
                      have HB7 := Lib.hid (HJ2.out.trans (hb7.mono HJ2.out.size))
                      by_cases hq : str = nm
                      · have c1 : (str.toList == nm.toList) = true := b_eq hq
                        have c2 : decide (str = nm) = true := decide_eq_true hq
                        have HV : Hid (findSF s nm = (⟨xc, xt, xh⟩, 0)) := Lib.hid (by rw [← hq]; exact HM2.out)
                        have a0 : V7.cell? ⟨b1, o1 + i * 3, none⟩ = some (.int .i64 xc) := a0 ⟨V7, hb7⟩
                        have a1 : V7.cell? ⟨b1, o1 + i * 3 + 1, none⟩ = some (.int .i64 xt) := a1 ⟨V7, hb7⟩
                        have a2 : V7.cell? ⟨b1, o1 + i * 3 + 2, none⟩ = some (.int .u8 (xh : Nat)) := a2 ⟨V7, hb7⟩
                        clear e0 e1 e2 e3 e4 e5 e6 e7 e8 e9 e10 e11 e12 KN hb7
                        have KXV := KX.out.below HBW.out KX.out.lt
                        have x0 : V7.cell? ⟨w.heap.size + 1, 0, none⟩ = some (.int .i64 0) := KXV.cell 0
                        have x1 : V7.cell? ⟨w.heap.size + 1, 1, none⟩ = some (.int .i64 0) := KXV.cell 1
                        have x2 : V7.cell? ⟨w.heap.size + 1, 2, none⟩ = some (.int .u8 0) := KXV.cell 2
                        have y0 := KXV.frozen 0
                        have y1 := KXV.frozen 1
                        have y2 := KXV.frozen 2
                        have HE := Lib.hid (HB0.out.trans (HBW.out.mono HB0.out.size))
                        go_wp2
                        refine bodyPost_ret (results_row_tmp rfl _ _ (w.heap.size + 1) 34 (sltL ⟨xc, xt, xh⟩).toArray _ rfl (slt_set (y := ⟨0, 0, 0⟩) KXV ⟨xc, xt, xh⟩) Tryd.underlying34 rfl info_slt) rfl ?_
                        exact ⟨by rw [HV.out]; rfl, be_set HE.out (by omega) _ _ _⟩
                      · have c1 : (str.toList == nm.toList) = false := b_ne hq
                        have c2 : decide (str = nm) = false := decide_eq_false hq
                        have HN := Lib.hid (And.intro (HNX.out hq) HB7.out)
                        clear e0 e1 e2 e3 e4 e5 e6 e7 e8 e9 e10 e11 e12 KN hb7 a0 a1 a2 hq HNX
                        go_wp2_with fail
                        go_roundw
                        case rel => first | exact ⟨i + 1, by omega, by go_num, HN⟩ | ((repeat apply Exists.intro); (first | exact ⟨⟨i + 1, by omega, by go_num, HN⟩, rfl⟩ | exact ⟨by omega, by go_num, HN⟩))
                        case measure => simp [intOf]; omega
                    · obtain rfl : i = LA.length := by omega
                      have HN : Hid ((40 ≤ 40 → ∀ x ∈ allF s 20, strN (nameL s x) ≠ nm) ∧ (60 ≤ 40 → ∀ x ∈ allF s 40, strN (nameL s x) ≠ nm) ∧ Below W.heap.size W V6) := Lib.hid ⟨fun _ => HFIN.out HJ.out.1, fun h => absurd h (by decide), HBV.out⟩
                      clear HJ
                      go_wp2_with fail
                      go_roundw
                      case rel => first | exact ⟨40, by decide, by go_num, HN⟩ | ((repeat apply Exists.intro); (first | exact ⟨⟨40, by decide, by go_num, HN⟩, rfl⟩ | exact ⟨by decide, by go_num, HN⟩))
                      case measure => simp [intOf]
                · skip
                  have HB := Lib.hid HZ.out.2.2
                  have KA : Hid (Calls Tryd.prog 18 #[.agg (shpA s h), .int .i64 40] V5 (OwnSlt V5 (allF s 40))) := Lib.hid (refAll_any s h 40 V5 (HS.out.on HB.out) hl HTT.out (by decide))
                  unfold shpA at KA
                  have e0 : V5.cell? ⟨w.heap.size, 0, none⟩ = some (Value.slice h.A1 s.cols.length h.c1) := (KE.out.below HB.out KE.out.lt).cell 0
                  have e1 : V5.cell? ⟨w.heap.size, 1, none⟩ = some (Value.slice h.A2 s.covs.length h.c2) := (KE.out.below HB.out KE.out.lt).cell 1
                  have e2 : V5.cell? ⟨w.heap.size, 2, none⟩ = some (.int .i64 s.l0) := (KE.out.below HB.out KE.out.lt).cell 2
                  have e3 : V5.cell? ⟨w.heap.size, 3, none⟩ = some (.int .i64 s.l1) := (KE.out.below HB.out KE.out.lt).cell 3
                  have e4 : V5.cell? ⟨w.heap.size, 4, none⟩ = some (.int .i64 s.l2) := (KE.out.below HB.out KE.out.lt).cell 4
                  have e5 : V5.cell? ⟨w.heap.size, 5, none⟩ = some (.int .i64 s.l3) := (KE.out.below HB.out KE.out.lt).cell 5
                  have e6 : V5.cell? ⟨w.heap.size, 6, none⟩ = some (.slice h.A3 s.rows.length h.c3) := (KE.out.below HB.out KE.out.lt).cell 6
                  have e7 : V5.cell? ⟨w.heap.size, 7, none⟩ = some (.slice h.A4 s.frames.length h.c4) := (KE.out.below HB.out KE.out.lt).cell 7
                  have e8 : V5.cell? ⟨w.heap.size, 8, none⟩ = some (.slice h.A5 s.tanks.length h.c5) := (KE.out.below HB.out KE.out.lt).cell 8
                  have e9 : V5.cell? ⟨w.heap.size, 9, none⟩ = some (.int .i64 s.m0) := (KE.out.below HB.out KE.out.lt).cell 9
                  have e10 : V5.cell? ⟨w.heap.size, 10, none⟩ = some (.int .i64 s.m1) := (KE.out.below HB.out KE.out.lt).cell 10
                  have e11 : V5.cell? ⟨w.heap.size, 11, none⟩ = some (.int .i64 s.m2) := (KE.out.below HB.out KE.out.lt).cell 11
                  have e12 : V5.cell? ⟨w.heap.size, 12, none⟩ = some (.int .i64 s.m3) := (KE.out.below HB.out KE.out.lt).cell 12
                  go_wp2_with fail
                  refine KA.out.mono ?_
                  rintro e V6 ⟨v, rfl, ho, hb⟩
                  obtain ⟨A1, c1', rfl, hc1', hcm, hsl⟩ := ho.sl
                  unfold maxLen at hcm
                  simp only
                  clear KA ho e0 e1 e2 e3 e4 e5 e6 e7 e8 e9 e10 e11 e12
                  replace HB := Lib.hid (HB.out.trans (hb.mono HB.out.size))
                  have HSL := Lib.hid hsl
                  clear hb hsl
                  try clear V5
                  obtain ⟨V0, hV0⟩ : ∃ V, V = V6 := ⟨_, rfl⟩
                  subst hV0
                  have HMEM : Hid (∀ x ∈ allF s 40, nameF s x = (nameL s x, 0) ∧ findSF s (strN (nameL s x)) = (x, 0)) := Lib.hid fun x hx => ⟨name_right (.inr rfl) HR1.out (mem_allR.1 hx), find_of_name HR1.out (mem_allR.1 hx)⟩
                  have HLE : Hid (∀ P : Slt → Prop, (∀ x ∈ allF s 40, P x) → ∀ x ∈ allF s 40, P x) := Lib.hid fun _ h => h
                  have HALL : Hid (∀ LA : List Slt, LA = allF s 40 → (∀ j, j < LA.length → strN (nameL s (LA.getD j default)) ≠ nm) → ∀ x ∈ allF s 40, strN (nameL s x) ≠ nm) := Lib.hid fun LA hLA hh x hx => by
                    rw [← hLA] at hx
                    obtain ⟨j, hj, rfl⟩ := List.getElem_of_mem hx
                    have := hh j hj
                    simpa [hj] using this
                  obtain ⟨LA, hLA⟩ : ∃ LA, LA = allF s 40 := ⟨_, rfl⟩
                  have HFIN := Lib.hid (HALL.out LA hLA)
                  rw [← hLA] at HMEM HSL hc1' ⊢
                  have hLn : LA.length ≤ 9223372036854775807 := by omega
                  clear hcm
                  clear HLE HALL hLA
                  go_wp2_with fail
                  go_loopw [11] (fun i wr => ∃ i0 : Nat, i0 ≤ LA.length ∧ i = .int .i64 i0 ∧ Hid ((∀ j, j < i0 → strN (nameL s (LA.getD j default)) ≠ nm) ∧ Below V0.heap.size V0 wr)) (fun i _ => LA.length - (intOf i).toNat)
                  case atStart => exact ⟨0, Nat.zero_le _, rfl, Lib.hid (And.intro (fun j hj => absurd hj (by omega)) (Below.refl _ _))⟩
                  case round =>
                    obtain ⟨i, hi, rfl, HJ⟩ := hrel
                    obtain ⟨V6, rfl⟩ : ∃ W, W = wr := ⟨_, rfl⟩
                    have HBV := Lib.hid (HB.out.trans (HJ.out.2.mono HB.out.size))
                    by_cases hil : i < LA.length
                    · obtain ⟨b1, o1, rfl, _, a0, a1, a2⟩ := (HSL.out.on HJ.out.2).slt hil
                      have i0 : (0 : Int) ≤ (i : Int) := by omega
                      have i1 : (i : Int) < (LA.length : Int) := by omega
                      have hm := HMEM.out _ (getD_memD hil default)
                      have HM2 := Lib.hid hm.2
                      have HNX : Hid (strN (nameL s (LA.getD i default)) ≠ nm → ∀ j, j < i + 1 → strN (nameL s (LA.getD j default)) ≠ nm) := Lib.hid fun hq j hj => by
                        rcases Nat.lt_succ_iff_lt_or_eq.1 hj with h1 | h1
                        · exact HJ.out.1 j h1
                        · rw [h1]; exact hq
                      have KN : Hid (∀ U, Below V6.heap.size V6 U → Calls Tryd.prog 9 #[.agg (shpA s h), .agg (sltL (LA.getD i default)).toArray] U (Ret U (.tuple #[.string (strN (nameL s (LA.getD i default))), .int .i64 0]))) := Lib.hid fun U hU => by
                        have k1 := refName_any s h (LA.getD i default) U ((HS.out.on HBV.out).on hU) HF.out
                        rw [hm.1] at k1
                        exact k1
                      have HJ2 := Lib.hid HJ.out.2
                      clear hm HJ
                      generalize hstr : strN (nameL s (LA.getD i default)) = str at *
                      clear hstr
                      generalize LA.getD i default = x at *
                      obtain ⟨xc, xt, xh⟩ := x
                      unfold shpA sltL at KN
                      simp only at KN a0 a1 a2
                      have e0 : V6.cell? ⟨w.heap.size, 0, none⟩ = some (Value.slice h.A1 s.cols.length h.c1) := (KE.out.below HBV.out KE.out.lt).cell 0
                      have e1 : V6.cell? ⟨w.heap.size, 1, none⟩ = some (Value.slice h.A2 s.covs.length h.c2) := (KE.out.below HBV.out KE.out.lt).cell 1
                      have e2 : V6.cell? ⟨w.heap.size, 2, none⟩ = some (.int .i64 s.l0) := (KE.out.below HBV.out KE.out.lt).cell 2
                      have e3 : V6.cell? ⟨w.heap.size, 3, none⟩ = some (.int .i64 s.l1) := (KE.out.below HBV.out KE.out.lt).cell 3
                      have e4 : V6.cell? ⟨w.heap.size, 4, none⟩ = some (.int .i64 s.l2) := (KE.out.below HBV.out KE.out.lt).cell 4
                      have e5 : V6.cell? ⟨w.heap.size, 5, none⟩ = some (.int .i64 s.l3) := (KE.out.below HBV.out KE.out.lt).cell 5
                      have e6 : V6.cell? ⟨w.heap.size, 6, none⟩ = some (.slice h.A3 s.rows.length h.c3) := (KE.out.below HBV.out KE.out.lt).cell 6
                      have e7 : V6.cell? ⟨w.heap.size, 7, none⟩ = some (.slice h.A4 s.frames.length h.c4) := (KE.out.below HBV.out KE.out.lt).cell 7
                      have e8 : V6.cell? ⟨w.heap.size, 8, none⟩ = some (.slice h.A5 s.tanks.length h.c5) := (KE.out.below HBV.out KE.out.lt).cell 8
                      have e9 : V6.cell? ⟨w.heap.size, 9, none⟩ = some (.int .i64 s.m0) := (KE.out.below HBV.out KE.out.lt).cell 9
                      have e10 : V6.cell? ⟨w.heap.size, 10, none⟩ = some (.int .i64 s.m1) := (KE.out.below HBV.out KE.out.lt).cell 10
                      have e11 : V6.cell? ⟨w.heap.size, 11, none⟩ = some (.int .i64 s.m2) := (KE.out.below HBV.out KE.out.lt).cell 11
                      have e12 : V6.cell? ⟨w.heap.size, 12, none⟩ = some (.int .i64 s.m3) := (KE.out.below HBV.out KE.out.lt).cell 12
                      go_upto_region 21 with fail
                      have e0 : ∀ p : Gr V6, p.W.cell? ⟨w.heap.size, 0, none⟩ = some (Value.slice h.A1 s.cols.length h.c1) := Gr.cell e0
                      have e1 : ∀ p : Gr V6, p.W.cell? ⟨w.heap.size, 1, none⟩ = some (Value.slice h.A2 s.covs.length h.c2) := Gr.cell e1
                      have e2 : ∀ p : Gr V6, p.W.cell? ⟨w.heap.size, 2, none⟩ = some (.int .i64 s.l0) := Gr.cell e2
                      have e3 : ∀ p : Gr V6, p.W.cell? ⟨w.heap.size, 3, none⟩ = some (.int .i64 s.l1) := Gr.cell e3
                      have e4 : ∀ p : Gr V6, p.W.cell? ⟨w.heap.size, 4, none⟩ = some (.int .i64 s.l2) := Gr.cell e4
                      have e5 : ∀ p : Gr V6, p.W.cell? ⟨w.heap.size, 5, none⟩ = some (.int .i64 s.l3) := Gr.cell e5
                      have e6 : ∀ p : Gr V6, p.W.cell? ⟨w.heap.size, 6, none⟩ = some (.slice h.A3 s.rows.length h.c3) := Gr.cell e6
                      have e7 : ∀ p : Gr V6, p.W.cell? ⟨w.heap.size, 7, none⟩ = some (.slice h.A4 s.frames.length h.c4) := Gr.cell e7
                      have e8 : ∀ p : Gr V6, p.W.cell? ⟨w.heap.size, 8, none⟩ = some (.slice h.A5 s.tanks.length h.c5) := Gr.cell e8
                      have e9 : ∀ p : Gr V6, p.W.cell? ⟨w.heap.size, 9, none⟩ = some (.int .i64 s.m0) := Gr.cell e9
                      have e10 : ∀ p : Gr V6, p.W.cell? ⟨w.heap.size, 10, none⟩ = some (.int .i64 s.m1) := Gr.cell e10
                      have e11 : ∀ p : Gr V6, p.W.cell? ⟨w.heap.size, 11, none⟩ = some (.int .i64 s.m2) := Gr.cell e11
                      have e12 : ∀ p : Gr V6, p.W.cell? ⟨w.heap.size, 12, none⟩ = some (.int .i64 s.m3) := Gr.cell e12
                      have a0 : ∀ p : Gr V6, p.W.cell? ⟨b1, o1 + i * 3, none⟩ = some (.int .i64 xc) := Gr.cell a0
                      have a1 : ∀ p : Gr V6, p.W.cell? ⟨b1, o1 + i * 3 + 1, none⟩ = some (.int .i64 xt) := Gr.cell a1
                      have a2 : ∀ p : Gr V6, p.W.cell? ⟨b1, o1 + i * 3 + 2, none⟩ = some (.int .u8 (xh : Nat)) := Gr.cell a2
                      refine wp_region_gr (by kernel_rfl) (by kernel_rfl) ?_
                      repeat (go_big_quiet_step ((with_reducible exact Gr.call _ (fun V hV => KN.out V hV))))
                      refine wpQuiet_nil ?_
                      rintro V7 ⟨⟨_, hb7⟩, rfl⟩
                      have HBW := Lib.hid (HBV.out.trans (hb7.mono HBV.out.size))
                      have HB7 := Lib.hid (HJ2.out.trans (hb7.mono HJ2.out.size))
                      by_cases hq : str = nm
                      · have c1 : (str.toList == nm.toList) = true := b_eq hq
                        have c2 : decide (str = nm) = true := decide_eq_true hq
                        have HV : Hid (findSF s nm = (⟨xc, xt, xh⟩, 0)) := Lib.hid (by rw [← hq]; exact HM2.out)
                        have a0 : V7.cell? ⟨b1, o1 + i * 3, none⟩ = some (.int .i64 xc) := a0 ⟨V7, hb7⟩
                        have a1 : V7.cell? ⟨b1, o1 + i * 3 + 1, none⟩ = some (.int .i64 xt) := a1 ⟨V7, hb7⟩
                        have a2 : V7.cell? ⟨b1, o1 + i * 3 + 2, none⟩ = some (.int .u8 (xh : Nat)) := a2 ⟨V7, hb7⟩
                        clear e0 e1 e2 e3 e4 e5 e6 e7 e8 e9 e10 e11 e12 KN hb7
                        have KXV := KX.out.below HBW.out KX.out.lt
                        have x0 : V7.cell? ⟨w.heap.size + 1, 0, none⟩ = some (.int .i64 0) := KXV.cell 0
                        have x1 : V7.cell? ⟨w.heap.size + 1, 1, none⟩ = some (.int .i64 0) := KXV.cell 1
                        have x2 : V7.cell? ⟨w.heap.size + 1, 2, none⟩ = some (.int .u8 0) := KXV.cell 2
                        have y0 := KXV.frozen 0
                        have y1 := KXV.frozen 1
                        have y2 := KXV.frozen 2
                        have HE := Lib.hid (HB0.out.trans (HBW.out.mono HB0.out.size))
                        go_wp2
                        refine bodyPost_ret (results_row_tmp rfl _ _ (w.heap.size + 1) 34 (sltL ⟨xc, xt, xh⟩).toArray _ rfl (slt_set (y := ⟨0, 0, 0⟩) KXV ⟨xc, xt, xh⟩) Tryd.underlying34 rfl info_slt) rfl ?_
                        exact ⟨by rw [HV.out]; rfl, be_set HE.out (by omega) _ _ _⟩
                      · have c1 : (str.toList == nm.toList) = false := b_ne hq
                        have c2 : decide (str = nm) = false := decide_eq_false hq
                        have HN := Lib.hid (And.intro (HNX.out hq) HB7.out)
                        clear e0 e1 e2 e3 e4 e5 e6 e7 e8 e9 e10 e11 e12 KN hb7 a0 a1 a2 hq HNX
                        go_wp2_with fail
                        go_roundw
                        case rel => first | exact ⟨i + 1, by omega, by go_num, HN⟩ | ((repeat apply Exists.intro); (first | exact ⟨⟨i + 1, by omega, by go_num, HN⟩, rfl⟩ | exact ⟨by omega, by go_num, HN⟩))
                        case measure => simp [intOf]; omega
                    · obtain rfl : i = LA.length := by omega
                      have HN : Hid ((40 ≤ 60 → ∀ x ∈ allF s 20, strN (nameL s x) ≠ nm) ∧ (60 ≤ 60 → ∀ x ∈ allF s 40, strN (nameL s x) ≠ nm) ∧ Below W.heap.size W V6) := Lib.hid ⟨fun _ => HZ.out.1 (by decide), fun _ => HFIN.out HJ.out.1, HBV.out⟩
                      clear HJ
                      go_wp2_with fail
                      go_roundw
                      case rel => first | exact ⟨60, by decide, by go_num, HN⟩ | ((repeat apply Exists.intro); (first | exact ⟨⟨60, by decide, by go_num, HN⟩, rfl⟩ | exact ⟨by decide, by go_num, HN⟩))
                      case measure => simp [intOf]
                · have HB := Lib.hid HZ.out.2.2
                  have HV : Hid (findSF s nm = (zS, 6)) := Lib.hid (find_noneR HR1.out HVG.out (HZ.out.1 (by decide)) (HZ.out.2.1 (by decide)))
                  have KXV := KX.out.below HB.out KX.out.lt
                  have x0 : V5.cell? ⟨w.heap.size + 1, 0, none⟩ = some (.int .i64 0) := KXV.cell 0
                  have x1 : V5.cell? ⟨w.heap.size + 1, 1, none⟩ = some (.int .i64 0) := KXV.cell 1
                  have x2 : V5.cell? ⟨w.heap.size + 1, 2, none⟩ = some (.int .u8 0) := KXV.cell 2
                  have y0 := KXV.frozen 0
                  have y1 := KXV.frozen 1
                  have y2 := KXV.frozen 2
                  have HE := Lib.hid (HB0.out.trans (HB.out.mono HB0.out.size))
                  go_wp2
                  refine bodyPost_ret (results_row_tmp rfl _ _ (w.heap.size + 1) 34 (sltL ⟨0, 0, 0⟩).toArray _ rfl (slt_set (y := ⟨0, 0, 0⟩) KXV ⟨0, 0, 0⟩) Tryd.underlying34 rfl info_slt) rfl ?_
                  exact ⟨by rw [HV.out]; rfl, be_set HE.out (by omega) _ _ _⟩
            · skip
              have z1 : ((S : Int) % 4 == 0) = false := beq_eq_false_iff_ne.2 (by omega)
              have z1' : ((L : Int) == 0) = false := beq_eq_false_iff_ne.2 (by omega)
              clear r1'
              have z2 : ((M : Int) % 2 == 1) = false := beq_eq_false_iff_ne.2 (by omega)
              have z2' : (M % 2 == 1) = false := beq_eq_false_iff_ne.2 (by omega)
              have z3 : decide ((20 : Int) < (M : Int)) = false := decide_eq_false (by omega)
              have z3' : decide (20 < M) = false := decide_eq_false (by omega)
              clear k1 k2
              have HVG : Hid (findSF s nm = findGood s nm) := Lib.hid (by rw [HV2.out, if_neg hbad])
              clear hbad HV2 HBI
              go_upto_region 14 with fail
              clear z1 z1' z2 z2' z3 z3'
              go_wp2_with fail
              go_loopw [9] (fun i wr => ∃ z : Nat, (z = 20 ∨ z = 40 ∨ z = 60) ∧ i = .int .i64 z ∧ Hid ((40 ≤ z → ∀ x ∈ allF s 20, strN (nameL s x) ≠ nm) ∧ (60 ≤ z → ∀ x ∈ allF s 40, strN (nameL s x) ≠ nm) ∧ Below W.heap.size W wr)) (fun i _ => 60 - (intOf i).toNat)
              case atStart => exact ⟨20, .inl rfl, rfl, Lib.hid ⟨fun h => absurd h (by decide), fun h => absurd h (by decide), HB.out⟩⟩
              case round =>
                clear HB
                try clear V2
                obtain ⟨z, hz, rfl, HZ⟩ := hrel
                obtain ⟨V5, rfl⟩ : ∃ W, W = wr := ⟨_, rfl⟩
                rcases hz with rfl | rfl | rfl
                · skip
                  have HB := Lib.hid HZ.out.2.2
                  have KA : Hid (Calls Tryd.prog 18 #[.agg (shpA s h), .int .i64 20] V5 (OwnSlt V5 (allF s 20))) := Lib.hid (refAll_any s h 20 V5 (HS.out.on HB.out) hl HTT.out (by decide))
                  unfold shpA at KA
                  have e0 : V5.cell? ⟨w.heap.size, 0, none⟩ = some (Value.slice h.A1 s.cols.length h.c1) := (KE.out.below HB.out KE.out.lt).cell 0
                  have e1 : V5.cell? ⟨w.heap.size, 1, none⟩ = some (Value.slice h.A2 s.covs.length h.c2) := (KE.out.below HB.out KE.out.lt).cell 1
                  have e2 : V5.cell? ⟨w.heap.size, 2, none⟩ = some (.int .i64 s.l0) := (KE.out.below HB.out KE.out.lt).cell 2
                  have e3 : V5.cell? ⟨w.heap.size, 3, none⟩ = some (.int .i64 s.l1) := (KE.out.below HB.out KE.out.lt).cell 3
                  have e4 : V5.cell? ⟨w.heap.size, 4, none⟩ = some (.int .i64 s.l2) := (KE.out.below HB.out KE.out.lt).cell 4
                  have e5 : V5.cell? ⟨w.heap.size, 5, none⟩ = some (.int .i64 s.l3) := (KE.out.below HB.out KE.out.lt).cell 5
                  have e6 : V5.cell? ⟨w.heap.size, 6, none⟩ = some (.slice h.A3 s.rows.length h.c3) := (KE.out.below HB.out KE.out.lt).cell 6
                  have e7 : V5.cell? ⟨w.heap.size, 7, none⟩ = some (.slice h.A4 s.frames.length h.c4) := (KE.out.below HB.out KE.out.lt).cell 7
                  have e8 : V5.cell? ⟨w.heap.size, 8, none⟩ = some (.slice h.A5 s.tanks.length h.c5) := (KE.out.below HB.out KE.out.lt).cell 8
                  have e9 : V5.cell? ⟨w.heap.size, 9, none⟩ = some (.int .i64 s.m0) := (KE.out.below HB.out KE.out.lt).cell 9
                  have e10 : V5.cell? ⟨w.heap.size, 10, none⟩ = some (.int .i64 s.m1) := (KE.out.below HB.out KE.out.lt).cell 10
                  have e11 : V5.cell? ⟨w.heap.size, 11, none⟩ = some (.int .i64 s.m2) := (KE.out.below HB.out KE.out.lt).cell 11
                  have e12 : V5.cell? ⟨w.heap.size, 12, none⟩ = some (.int .i64 s.m3) := (KE.out.below HB.out KE.out.lt).cell 12
                  go_wp2_with fail
                  refine KA.out.mono ?_
                  rintro e V6 ⟨v, rfl, ho, hb⟩
                  obtain ⟨A1, c1', rfl, hc1', hcm, hsl⟩ := ho.sl
                  unfold maxLen at hcm
                  simp only
                  clear KA ho e0 e1 e2 e3 e4 e5 e6 e7 e8 e9 e10 e11 e12
                  replace HB := Lib.hid (HB.out.trans (hb.mono HB.out.size))
                  have HSL := Lib.hid hsl
                  clear hb hsl
                  try clear V5
                  obtain ⟨V0, hV0⟩ : ∃ V, V = V6 := ⟨_, rfl⟩
                  subst hV0
                  have HMEM : Hid (∀ x ∈ allF s 20, nameF s x = (nameL s x, 0) ∧ findSF s (strN (nameL s x)) = (x, 0)) := Lib.hid fun x hx => ⟨name_right (.inl rfl) HR1.out (mem_allR.1 hx), find_of_name HR1.out (mem_allR.1 hx)⟩
                  have HLE : Hid (∀ P : Slt → Prop, (∀ x ∈ allF s 20, P x) → ∀ x ∈ allF s 20, P x) := Lib.hid fun _ h => h
                  have HALL : Hid (∀ LA : List Slt, LA = allF s 20 → (∀ j, j < LA.length → strN (nameL s (LA.getD j default)) ≠ nm) → ∀ x ∈ allF s 20, strN (nameL s x) ≠ nm) := Lib.hid fun LA hLA hh x hx => by
                    rw [← hLA] at hx
                    obtain ⟨j, hj, rfl⟩ := List.getElem_of_mem hx
                    have := hh j hj
                    simpa [hj] using this
                  obtain ⟨LA, hLA⟩ : ∃ LA, LA = allF s 20 := ⟨_, rfl⟩
                  have HFIN := Lib.hid (HALL.out LA hLA)
                  rw [← hLA] at HMEM HSL hc1' ⊢
                  have hLn : LA.length ≤ 9223372036854775807 := by omega
                  clear hcm
                  clear HLE HALL hLA
                  go_wp2_with fail
                  go_loopw [11] (fun i wr => ∃ i0 : Nat, i0 ≤ LA.length ∧ i = .int .i64 i0 ∧ Hid ((∀ j, j < i0 → strN (nameL s (LA.getD j default)) ≠ nm) ∧ Below V0.heap.size V0 wr)) (fun i _ => LA.length - (intOf i).toNat)
                  case atStart => exact ⟨0, Nat.zero_le _, rfl, Lib.hid (And.intro (fun j hj => absurd hj (by omega)) (Below.refl _ _))⟩
                  case round =>
                    obtain ⟨i, hi, rfl, HJ⟩ := hrel
                    obtain ⟨V6, rfl⟩ : ∃ W, W = wr := ⟨_, rfl⟩
                    have HBV := Lib.hid (HB.out.trans (HJ.out.2.mono HB.out.size))
                    by_cases hil : i < LA.length
                    · obtain ⟨b1, o1, rfl, _, a0, a1, a2⟩ := (HSL.out.on HJ.out.2).slt hil
                      have i0 : (0 : Int) ≤ (i : Int) := by omega
                      have i1 : (i : Int) < (LA.length : Int) := by omega
                      have hm := HMEM.out _ (getD_memD hil default)
                      have HM2 := Lib.hid hm.2
                      have HNX : Hid (strN (nameL s (LA.getD i default)) ≠ nm → ∀ j, j < i + 1 → strN (nameL s (LA.getD j default)) ≠ nm) := Lib.hid fun hq j hj => by
                        rcases Nat.lt_succ_iff_lt_or_eq.1 hj with h1 | h1
                        · exact HJ.out.1 j h1
                        · rw [h1]; exact hq
                      have KN : Hid (∀ U, Below V6.heap.size V6 U → Calls Tryd.prog 9 #[.agg (shpA s h), .agg (sltL (LA.getD i default)).toArray] U (Ret U (.tuple #[.string (strN (nameL s (LA.getD i default))), .int .i64 0]))) := Lib.hid fun U hU => by
                        have k1 := refName_any s h (LA.getD i default) U ((HS.out.on HBV.out).on hU) HF.out
                        rw [hm.1] at k1
                        exact k1
                      have HJ2 := Lib.hid HJ.out.2
                      clear hm HJ
                      generalize hstr : strN (nameL s (LA.getD i default)) = str at *
                      clear hstr
                      generalize LA.getD i default = x at *
                      obtain ⟨xc, xt, xh⟩ := x
                      unfold shpA sltL at KN
                      simp only at KN a0 a1 a2
                      have e0 : V6.cell? ⟨w.heap.size, 0, none⟩ = some (Value.slice h.A1 s.cols.length h.c1) := (KE.out.below HBV.out KE.out.lt).cell 0
                      have e1 : V6.cell? ⟨w.heap.size, 1, none⟩ = some (Value.slice h.A2 s.covs.length h.c2) := (KE.out.below HBV.out KE.out.lt).cell 1
                      have e2 : V6.cell? ⟨w.heap.size, 2, none⟩ = some (.int .i64 s.l0) := (KE.out.below HBV.out KE.out.lt).cell 2
                      have e3 : V6.cell? ⟨w.heap.size, 3, none⟩ = some (.int .i64 s.l1) := (KE.out.below HBV.out KE.out.lt).cell 3
                      have e4 : V6.cell? ⟨w.heap.size, 4, none⟩ = some (.int .i64 s.l2) := (KE.out.below HBV.out KE.out.lt).cell 4
                      have e5 : V6.cell? ⟨w.heap.size, 5, none⟩ = some (.int .i64 s.l3) := (KE.out.below HBV.out KE.out.lt).cell 5
                      have e6 : V6.cell? ⟨w.heap.size, 6, none⟩ = some (.slice h.A3 s.rows.length h.c3) := (KE.out.below HBV.out KE.out.lt).cell 6
                      have e7 : V6.cell? ⟨w.heap.size, 7, none⟩ = some (.slice h.A4 s.frames.length h.c4) := (KE.out.below HBV.out KE.out.lt).cell 7
                      have e8 : V6.cell? ⟨w.heap.size, 8, none⟩ = some (.slice h.A5 s.tanks.length h.c5) := (KE.out.below HBV.out KE.out.lt).cell 8
                      have e9 : V6.cell? ⟨w.heap.size, 9, none⟩ = some (.int .i64 s.m0) := (KE.out.below HBV.out KE.out.lt).cell 9
                      have e10 : V6.cell? ⟨w.heap.size, 10, none⟩ = some (.int .i64 s.m1) := (KE.out.below HBV.out KE.out.lt).cell 10
                      have e11 : V6.cell? ⟨w.heap.size, 11, none⟩ = some (.int .i64 s.m2) := (KE.out.below HBV.out KE.out.lt).cell 11
                      have e12 : V6.cell? ⟨w.heap.size, 12, none⟩ = some (.int .i64 s.m3) := (KE.out.below HBV.out KE.out.lt).cell 12
                      go_upto_region 21 with fail
                      have e0 : ∀ p : Gr V6, p.W.cell? ⟨w.heap.size, 0, none⟩ = some (Value.slice h.A1 s.cols.length h.c1) := Gr.cell e0
                      have e1 : ∀ p : Gr V6, p.W.cell? ⟨w.heap.size, 1, none⟩ = some (Value.slice h.A2 s.covs.length h.c2) := Gr.cell e1
                      have e2 : ∀ p : Gr V6, p.W.cell? ⟨w.heap.size, 2, none⟩ = some (.int .i64 s.l0) := Gr.cell e2
                      have e3 : ∀ p : Gr V6, p.W.cell? ⟨w.heap.size, 3, none⟩ = some (.int .i64 s.l1) := Gr.cell e3
                      have e4 : ∀ p : Gr V6, p.W.cell? ⟨w.heap.size, 4, none⟩ = some (.int .i64 s.l2) := Gr.cell e4
                      have e5 : ∀ p : Gr V6, p.W.cell? ⟨w.heap.size, 5, none⟩ = some (.int .i64 s.l3) := Gr.cell e5
                      have e6 : ∀ p : Gr V6, p.W.cell? ⟨w.heap.size, 6, none⟩ = some (.slice h.A3 s.rows.length h.c3) := Gr.cell e6
                      have e7 : ∀ p : Gr V6, p.W.cell? ⟨w.heap.size, 7, none⟩ = some (.slice h.A4 s.frames.length h.c4) := Gr.cell e7
                      have e8 : ∀ p : Gr V6, p.W.cell? ⟨w.heap.size, 8, none⟩ = some (.slice h.A5 s.tanks.length h.c5) := Gr.cell e8
                      have e9 : ∀ p : Gr V6, p.W.cell? ⟨w.heap.size, 9, none⟩ = some (.int .i64 s.m0) := Gr.cell e9
                      have e10 : ∀ p : Gr V6, p.W.cell? ⟨w.heap.size, 10, none⟩ = some (.int .i64 s.m1) := Gr.cell e10
                      have e11 : ∀ p : Gr V6, p.W.cell? ⟨w.heap.size, 11, none⟩ = some (.int .i64 s.m2) := Gr.cell e11
                      have e12 : ∀ p : Gr V6, p.W.cell? ⟨w.heap.size, 12, none⟩ = some (.int .i64 s.m3) := Gr.cell e12
                      have a0 : ∀ p : Gr V6, p.W.cell? ⟨b1, o1 + i * 3, none⟩ = some (.int .i64 xc) := Gr.cell a0
                      have a1 : ∀ p : Gr V6, p.W.cell? ⟨b1, o1 + i * 3 + 1, none⟩ = some (.int .i64 xt) := Gr.cell a1
                      have a2 : ∀ p : Gr V6, p.W.cell? ⟨b1, o1 + i * 3 + 2, none⟩ = some (.int .u8 (xh : Nat)) := Gr.cell a2
                      refine wp_region_gr (by kernel_rfl) (by kernel_rfl) ?_
                      repeat (go_big_quiet_step ((with_reducible exact Gr.call _ (fun V hV => KN.out V hV))))
                      refine wpQuiet_nil ?_
                      rintro V7 ⟨⟨_, hb7⟩, rfl⟩
                      have HBW := Lib.hid (HBV.out.trans (hb7.mono HBV.out.size))
                      have HB7 := Lib.hid (HJ2.out.trans (hb7.mono HJ2.out.size))
                      by_cases hq : str = nm
                      · have c1 : (str.toList == nm.toList) = true := b_eq hq
                        have c2 : decide (str = nm) = true := decide_eq_true hq
                        have HV : Hid (findSF s nm = (⟨xc, xt, xh⟩, 0)) := Lib.hid (by rw [← hq]; exact HM2.out)
                        have a0 : V7.cell? ⟨b1, o1 + i * 3, none⟩ = some (.int .i64 xc) := a0 ⟨V7, hb7⟩
                        have a1 : V7.cell? ⟨b1, o1 + i * 3 + 1, none⟩ = some (.int .i64 xt) := a1 ⟨V7, hb7⟩
                        have a2 : V7.cell? ⟨b1, o1 + i * 3 + 2, none⟩ = some (.int .u8 (xh : Nat)) := a2 ⟨V7, hb7⟩
                        clear e0 e1 e2 e3 e4 e5 e6 e7 e8 e9 e10 e11 e12 KN hb7
                        have KXV := KX.out.below HBW.out KX.out.lt
                        have x0 : V7.cell? ⟨w.heap.size + 1, 0, none⟩ = some (.int .i64 0) := KXV.cell 0
                        have x1 : V7.cell? ⟨w.heap.size + 1, 1, none⟩ = some (.int .i64 0) := KXV.cell 1
                        have x2 : V7.cell? ⟨w.heap.size + 1, 2, none⟩ = some (.int .u8 0) := KXV.cell 2
                        have y0 := KXV.frozen 0
                        have y1 := KXV.frozen 1
                        have y2 := KXV.frozen 2
                        have HE := Lib.hid (HB0.out.trans (HBW.out.mono HB0.out.size))
                        go_wp2
                        refine bodyPost_ret (results_row_tmp rfl _ _ (w.heap.size + 1) 34 (sltL ⟨xc, xt, xh⟩).toArray _ rfl (slt_set (y := ⟨0, 0, 0⟩) KXV ⟨xc, xt, xh⟩) Tryd.underlying34 rfl info_slt) rfl ?_
                        exact ⟨by rw [HV.out]; rfl, be_set HE.out (by omega) _ _ _⟩
                      · have c1 : (str.toList == nm.toList) = false := b_ne hq
                        have c2 : decide (str = nm) = false := decide_eq_false hq
                        have HN := Lib.hid (And.intro (HNX.out hq) HB7.out)
                        clear e0 e1 e2 e3 e4 e5 e6 e7 e8 e9 e10 e11 e12 KN hb7 a0 a1 a2 hq HNX
                        go_wp2_with fail
                        go_roundw
                        case rel => first | exact ⟨i + 1, by omega, by go_num, HN⟩ | ((repeat apply Exists.intro); (first | exact ⟨⟨i + 1, by omega, by go_num, HN⟩, rfl⟩ | exact ⟨by omega, by go_num, HN⟩))
                        case measure => simp [intOf]; omega
                    · obtain rfl : i = LA.length := by omega
                      have HN : Hid ((40 ≤ 40 → ∀ x ∈ allF s 20, strN (nameL s x) ≠ nm) ∧ (60 ≤ 40 → ∀ x ∈ allF s 40, strN (nameL s x) ≠ nm) ∧ Below W.heap.size W V6) := Lib.hid ⟨fun _ => HFIN.out HJ.out.1, fun h => absurd h (by decide), HBV.out⟩
                      clear HJ
                      go_wp2_with fail
                      go_roundw
                      case rel => first | exact ⟨40, by decide, by go_num, HN⟩ | ((repeat apply Exists.intro); (first | exact ⟨⟨40, by decide, by go_num, HN⟩, rfl⟩ | exact ⟨by decide, by go_num, HN⟩))
                      case measure => simp [intOf]
                · skip
                  have HB := Lib.hid HZ.out.2.2
                  have KA : Hid (Calls Tryd.prog 18 #[.agg (shpA s h), .int .i64 40] V5 (OwnSlt V5 (allF s 40))) := Lib.hid (refAll_any s h 40 V5 (HS.out.on HB.out) hl HTT.out (by decide))
                  unfold shpA at KA
                  have e0 : V5.cell? ⟨w.heap.size, 0, none⟩ = some (Value.slice h.A1 s.cols.length h.c1) := (KE.out.below HB.out KE.out.lt).cell 0
                  have e1 : V5.cell? ⟨w.heap.size, 1, none⟩ = some (Value.slice h.A2 s.covs.length h.c2) := (KE.out.below HB.out KE.out.lt).cell 1
                  have e2 : V5.cell? ⟨w.heap.size, 2, none⟩ = some (.int .i64 s.l0) := (KE.out.below HB.out KE.out.lt).cell 2
                  have e3 : V5.cell? ⟨w.heap.size, 3, none⟩ = some (.int .i64 s.l1) := (KE.out.below HB.out KE.out.lt).cell 3
                  have e4 : V5.cell? ⟨w.heap.size, 4, none⟩ = some (.int .i64 s.l2) := (KE.out.below HB.out KE.out.lt).cell 4
                  have e5 : V5.cell? ⟨w.heap.size, 5, none⟩ = some (.int .i64 s.l3) := (KE.out.below HB.out KE.out.lt).cell 5
                  have e6 : V5.cell? ⟨w.heap.size, 6, none⟩ = some (.slice h.A3 s.rows.length h.c3) := (KE.out.below HB.out KE.out.lt).cell 6
                  have e7 : V5.cell? ⟨w.heap.size, 7, none⟩ = some (.slice h.A4 s.frames.length h.c4) := (KE.out.below HB.out KE.out.lt).cell 7
                  have e8 : V5.cell? ⟨w.heap.size, 8, none⟩ = some (.slice h.A5 s.tanks.length h.c5) := (KE.out.below HB.out KE.out.lt).cell 8
                  have e9 : V5.cell? ⟨w.heap.size, 9, none⟩ = some (.int .i64 s.m0) := (KE.out.below HB.out KE.out.lt).cell 9
                  have e10 : V5.cell? ⟨w.heap.size, 10, none⟩ = some (.int .i64 s.m1) := (KE.out.below HB.out KE.out.lt).cell 10
                  have e11 : V5.cell? ⟨w.heap.size, 11, none⟩ = some (.int .i64 s.m2) := (KE.out.below HB.out KE.out.lt).cell 11
                  have e12 : V5.cell? ⟨w.heap.size, 12, none⟩ = some (.int .i64 s.m3) := (KE.out.below HB.out KE.out.lt).cell 12
                  go_wp2_with fail
                  refine KA.out.mono ?_
                  rintro e V6 ⟨v, rfl, ho, hb⟩
                  obtain ⟨A1, c1', rfl, hc1', hcm, hsl⟩ := ho.sl
                  unfold maxLen at hcm
                  simp only
                  clear KA ho e0 e1 e2 e3 e4 e5 e6 e7 e8 e9 e10 e11 e12
                  replace HB := Lib.hid (HB.out.trans (hb.mono HB.out.size))
                  have HSL := Lib.hid hsl
                  clear hb hsl
                  try clear V5
                  obtain ⟨V0, hV0⟩ : ∃ V, V = V6 := ⟨_, rfl⟩
                  subst hV0
                  have HMEM : Hid (∀ x ∈ allF s 40, nameF s x = (nameL s x, 0) ∧ findSF s (strN (nameL s x)) = (x, 0)) := Lib.hid fun x hx => ⟨name_right (.inr rfl) HR1.out (mem_allR.1 hx), find_of_name HR1.out (mem_allR.1 hx)⟩
                  have HLE : Hid (∀ P : Slt → Prop, (∀ x ∈ allF s 40, P x) → ∀ x ∈ allF s 40, P x) := Lib.hid fun _ h => h
                  have HALL : Hid (∀ LA : List Slt, LA = allF s 40 → (∀ j, j < LA.length → strN (nameL s (LA.getD j default)) ≠ nm) → ∀ x ∈ allF s 40, strN (nameL s x) ≠ nm) := Lib.hid fun LA hLA hh x hx => by
                    rw [← hLA] at hx
                    obtain ⟨j, hj, rfl⟩ := List.getElem_of_mem hx
                    have := hh j hj
                    simpa [hj] using this
                  obtain ⟨LA, hLA⟩ : ∃ LA, LA = allF s 40 := ⟨_, rfl⟩
                  have HFIN := Lib.hid (HALL.out LA hLA)
                  rw [← hLA] at HMEM HSL hc1' ⊢
                  have hLn : LA.length ≤ 9223372036854775807 := by omega
                  clear hcm
                  clear HLE HALL hLA
                  go_wp2_with fail
                  go_loopw [11] (fun i wr => ∃ i0 : Nat, i0 ≤ LA.length ∧ i = .int .i64 i0 ∧ Hid ((∀ j, j < i0 → strN (nameL s (LA.getD j default)) ≠ nm) ∧ Below V0.heap.size V0 wr)) (fun i _ => LA.length - (intOf i).toNat)
                  case atStart => exact ⟨0, Nat.zero_le _, rfl, Lib.hid (And.intro (fun j hj => absurd hj (by omega)) (Below.refl _ _))⟩
                  case round =>
                    obtain ⟨i, hi, rfl, HJ⟩ := hrel
                    obtain ⟨V6, rfl⟩ : ∃ W, W = wr := ⟨_, rfl⟩
                    have HBV := Lib.hid (HB.out.trans (HJ.out.2.mono HB.out.size))
                    by_cases hil : i < LA.length
                    · obtain ⟨b1, o1, rfl, _, a0, a1, a2⟩ := (HSL.out.on HJ.out.2).slt hil
                      have i0 : (0 : Int) ≤ (i : Int) := by omega
                      have i1 : (i : Int) < (LA.length : Int) := by omega
                      have hm := HMEM.out _ (getD_memD hil default)
                      have HM2 := Lib.hid hm.2
                      have HNX : Hid (strN (nameL s (LA.getD i default)) ≠ nm → ∀ j, j < i + 1 → strN (nameL s (LA.getD j default)) ≠ nm) := Lib.hid fun hq j hj => by
                        rcases Nat.lt_succ_iff_lt_or_eq.1 hj with h1 | h1
                        · exact HJ.out.1 j h1
                        · rw [h1]; exact hq
                      have KN : Hid (∀ U, Below V6.heap.size V6 U → Calls Tryd.prog 9 #[.agg (shpA s h), .agg (sltL (LA.getD i default)).toArray] U (Ret U (.tuple #[.string (strN (nameL s (LA.getD i default))), .int .i64 0]))) := Lib.hid fun U hU => by
                        have k1 := refName_any s h (LA.getD i default) U ((HS.out.on HBV.out).on hU) HF.out
                        rw [hm.1] at k1
                        exact k1
                      have HJ2 := Lib.hid HJ.out.2
                      clear hm HJ
                      generalize hstr : strN (nameL s (LA.getD i default)) = str at *
                      clear hstr
                      generalize LA.getD i default = x at *
                      obtain ⟨xc, xt, xh⟩ := x
                      unfold shpA sltL at KN
                      simp only at KN a0 a1 a2
                      have e0 : V6.cell? ⟨w.heap.size, 0, none⟩ = some (Value.slice h.A1 s.cols.length h.c1) := (KE.out.below HBV.out KE.out.lt).cell 0
                      have e1 : V6.cell? ⟨w.heap.size, 1, none⟩ = some (Value.slice h.A2 s.covs.length h.c2) := (KE.out.below HBV.out KE.out.lt).cell 1
                      have e2 : V6.cell? ⟨w.heap.size, 2, none⟩ = some (.int .i64 s.l0) := (KE.out.below HBV.out KE.out.lt).cell 2
                      have e3 : V6.cell? ⟨w.heap.size, 3, none⟩ = some (.int .i64 s.l1) := (KE.out.below HBV.out KE.out.lt).cell 3
                      have e4 : V6.cell? ⟨w.heap.size, 4, none⟩ = some (.int .i64 s.l2) := (KE.out.below HBV.out KE.out.lt).cell 4
                      have e5 : V6.cell? ⟨w.heap.size, 5, none⟩ = some (.int .i64 s.l3) := (KE.out.below HBV.out KE.out.lt).cell 5
                      have e6 : V6.cell? ⟨w.heap.size, 6, none⟩ = some (.slice h.A3 s.rows.length h.c3) := (KE.out.below HBV.out KE.out.lt).cell 6
                      have e7 : V6.cell? ⟨w.heap.size, 7, none⟩ = some (.slice h.A4 s.frames.length h.c4) := (KE.out.below HBV.out KE.out.lt).cell 7
                      have e8 : V6.cell? ⟨w.heap.size, 8, none⟩ = some (.slice h.A5 s.tanks.length h.c5) := (KE.out.below HBV.out KE.out.lt).cell 8
                      have e9 : V6.cell? ⟨w.heap.size, 9, none⟩ = some (.int .i64 s.m0) := (KE.out.below HBV.out KE.out.lt).cell 9
                      have e10 : V6.cell? ⟨w.heap.size, 10, none⟩ = some (.int .i64 s.m1) := (KE.out.below HBV.out KE.out.lt).cell 10
                      have e11 : V6.cell? ⟨w.heap.size, 11, none⟩ = some (.int .i64 s.m2) := (KE.out.below HBV.out KE.out.lt).cell 11
                      have e12 : V6.cell? ⟨w.heap.size, 12, none⟩ = some (.int .i64 s.m3) := (KE.out.below HBV.out KE.out.lt).cell 12
                      go_upto_region 21 with fail
                      have e0 : ∀ p : Gr V6, p.W.cell? ⟨w.heap.size, 0, none⟩ = some (Value.slice h.A1 s.cols.length h.c1) := Gr.cell e0
                      have e1 : ∀ p : Gr V6, p.W.cell? ⟨w.heap.size, 1, none⟩ = some (Value.slice h.A2 s.covs.length h.c2) := Gr.cell e1
                      have e2 : ∀ p : Gr V6, p.W.cell? ⟨w.heap.size, 2, none⟩ = some (.int .i64 s.l0) := Gr.cell e2
                      have e3 : ∀ p : Gr V6, p.W.cell? ⟨w.heap.size, 3, none⟩ = some (.int .i64 s.l1) := Gr.cell e3
                      have e4 : ∀ p : Gr V6, p.W.cell? ⟨w.heap.size, 4, none⟩ = some (.int .i64 s.l2) := Gr.cell e4
                      have e5 : ∀ p : Gr V6, p.W.cell? ⟨w.heap.size, 5, none⟩ = some (.int .i64 s.l3) := Gr.cell e5
                      have e6 : ∀ p : Gr V6, p.W.cell? ⟨w.heap.size, 6, none⟩ = some (.slice h.A3 s.rows.length h.c3) := Gr.cell e6
                      have e7 : ∀ p : Gr V6, p.W.cell? ⟨w.heap.size, 7, none⟩ = some (.slice h.A4 s.frames.length h.c4) := Gr.cell e7
                      have e8 : ∀ p : Gr V6, p.W.cell? ⟨w.heap.size, 8, none⟩ = some (.slice h.A5 s.tanks.length h.c5) := Gr.cell e8
                      have e9 : ∀ p : Gr V6, p.W.cell? ⟨w.heap.size, 9, none⟩ = some (.int .i64 s.m0) := Gr.cell e9
                      have e10 : ∀ p : Gr V6, p.W.cell? ⟨w.heap.size, 10, none⟩ = some (.int .i64 s.m1) := Gr.cell e10
                      have e11 : ∀ p : Gr V6, p.W.cell? ⟨w.heap.size, 11, none⟩ = some (.int .i64 s.m2) := Gr.cell e11
                      have e12 : ∀ p : Gr V6, p.W.cell? ⟨w.heap.size, 12, none⟩ = some (.int .i64 s.m3) := Gr.cell e12
                      have a0 : ∀ p : Gr V6, p.W.cell? ⟨b1, o1 + i * 3, none⟩ = some (.int .i64 xc) := Gr.cell a0
                      have a1 : ∀ p : Gr V6, p.W.cell? ⟨b1, o1 + i * 3 + 1, none⟩ = some (.int .i64 xt) := Gr.cell a1
                      have a2 : ∀ p : Gr V6, p.W.cell? ⟨b1, o1 + i * 3 + 2, none⟩ = some (.int .u8 (xh : Nat)) := Gr.cell a2
                      refine wp_region_gr (by kernel_rfl) (by kernel_rfl) ?_
                      repeat (go_big_quiet_step ((with_reducible exact Gr.call _ (fun V hV => KN.out V hV))))
                      refine wpQuiet_nil ?_
                      rintro V7 ⟨⟨_, hb7⟩, rfl⟩
                      have HBW := Lib.hid (HBV.out.trans (hb7.mono HBV.out.size))
                      have HB7 := Lib.hid (HJ2.out.trans (hb7.mono HJ2.out.size))
                      by_cases hq : str = nm
                      · have c1 : (str.toList == nm.toList) = true := b_eq hq
                        have c2 : decide (str = nm) = true := decide_eq_true hq
                        have HV : Hid (findSF s nm = (⟨xc, xt, xh⟩, 0)) := Lib.hid (by rw [← hq]; exact HM2.out)
                        have a0 : V7.cell? ⟨b1, o1 + i * 3, none⟩ = some (.int .i64 xc) := a0 ⟨V7, hb7⟩
                        have a1 : V7.cell? ⟨b1, o1 + i * 3 + 1, none⟩ = some (.int .i64 xt) := a1 ⟨V7, hb7⟩
                        have a2 : V7.cell? ⟨b1, o1 + i * 3 + 2, none⟩ = some (.int .u8 (xh : Nat)) := a2 ⟨V7, hb7⟩
                        clear e0 e1 e2 e3 e4 e5 e6 e7 e8 e9 e10 e11 e12 KN hb7
                        have KXV := KX.out.below HBW.out KX.out.lt
                        have x0 : V7.cell? ⟨w.heap.size + 1, 0, none⟩ = some (.int .i64 0) := KXV.cell 0
                        have x1 : V7.cell? ⟨w.heap.size + 1, 1, none⟩ = some (.int .i64 0) := KXV.cell 1
                        have x2 : V7.cell? ⟨w.heap.size + 1, 2, none⟩ = some (.int .u8 0) := KXV.cell 2
                        have y0 := KXV.frozen 0
                        have y1 := KXV.frozen 1
                        have y2 := KXV.frozen 2
                        have HE := Lib.hid (HB0.out.trans (HBW.out.mono HB0.out.size))
                        go_wp2
                        refine bodyPost_ret (results_row_tmp rfl _ _ (w.heap.size + 1) 34 (sltL ⟨xc, xt, xh⟩).toArray _ rfl (slt_set (y := ⟨0, 0, 0⟩) KXV ⟨xc, xt, xh⟩) Tryd.underlying34 rfl info_slt) rfl ?_
                        exact ⟨by rw [HV.out]; rfl, be_set HE.out (by omega) _ _ _⟩
                      · have c1 : (str.toList == nm.toList) = false := b_ne hq
                        have c2 : decide (str = nm) = false := decide_eq_false hq
                        have HN := Lib.hid (And.intro (HNX.out hq) HB7.out)
                        clear e0 e1 e2 e3 e4 e5 e6 e7 e8 e9 e10 e11 e12 KN hb7 a0 a1 a2 hq HNX
                        go_wp2_with fail
                        go_roundw
                        case rel => first | exact ⟨i + 1, by omega, by go_num, HN⟩ | ((repeat apply Exists.intro); (first | exact ⟨⟨i + 1, by omega, by go_num, HN⟩, rfl⟩ | exact ⟨by omega, by go_num, HN⟩))
                        case measure => simp [intOf]; omega
                    · obtain rfl : i = LA.length := by omega
                      have HN : Hid ((40 ≤ 60 → ∀ x ∈ allF s 20, strN (nameL s x) ≠ nm) ∧ (60 ≤ 60 → ∀ x ∈ allF s 40, strN (nameL s x) ≠ nm) ∧ Below W.heap.size W V6) := Lib.hid ⟨fun _ => HZ.out.1 (by decide), fun _ => HFIN.out HJ.out.1, HBV.out⟩
                      clear HJ
                      go_wp2_with fail
                      go_roundw
                      case rel => first | exact ⟨60, by decide, by go_num, HN⟩ | ((repeat apply Exists.intro); (first | exact ⟨⟨60, by decide, by go_num, HN⟩, rfl⟩ | exact ⟨by decide, by go_num, HN⟩))
                      case measure => simp [intOf]
                · have HB := Lib.hid HZ.out.2.2
                  have HV : Hid (findSF s nm = (zS, 6)) := Lib.hid (find_noneR HR1.out HVG.out (HZ.out.1 (by decide)) (HZ.out.2.1 (by decide)))
                  have KXV := KX.out.below HB.out KX.out.lt
                  have x0 : V5.cell? ⟨w.heap.size + 1, 0, none⟩ = some (.int .i64 0) := KXV.cell 0
                  have x1 : V5.cell? ⟨w.heap.size + 1, 1, none⟩ = some (.int .i64 0) := KXV.cell 1
                  have x2 : V5.cell? ⟨w.heap.size + 1, 2, none⟩ = some (.int .u8 0) := KXV.cell 2
                  have y0 := KXV.frozen 0
                  have y1 := KXV.frozen 1
                  have y2 := KXV.frozen 2
                  have HE := Lib.hid (HB0.out.trans (HB.out.mono HB0.out.size))
                  go_wp2
                  refine bodyPost_ret (results_row_tmp rfl _ _ (w.heap.size + 1) 34 (sltL ⟨0, 0, 0⟩).toArray _ rfl (slt_set (y := ⟨0, 0, 0⟩) KXV ⟨0, 0, 0⟩) Tryd.underlying34 rfl info_slt) rfl ?_
                  exact ⟨by rw [HV.out]; rfl, be_set HE.out (by omega) _ _ _⟩
    · have d7 : ((nm.size : Int) != 7) = true := by simp; omega
      have HV : Hid (findSF s nm = (zS, 80)) := Lib.hid (by unfold findSF; rw [if_neg (by rw [hr]; simp), if_pos hsz])
      have KXV := KX.out.below HB.out KX.out.lt
      have x0 : V.cell? ⟨w.heap.size + 1, 0, none⟩ = some (.int .i64 0) := KXV.cell 0
      have x1 : V.cell? ⟨w.heap.size + 1, 1, none⟩ = some (.int .i64 0) := KXV.cell 1
      have x2 : V.cell? ⟨w.heap.size + 1, 2, none⟩ = some (.int .u8 0) := KXV.cell 2
      have y0 := KXV.frozen 0
      have y1 := KXV.frozen 1
      have y2 := KXV.frozen 2
      have HE := Lib.hid (HB0.out.trans (HB.out.mono HB0.out.size))
      go_wp2
      refine bodyPost_ret (results_row_tmp rfl _ _ (w.heap.size + 1) 34 (sltL ⟨0, 0, 0⟩).toArray _ rfl (slt_set (y := ⟨0, 0, 0⟩) KXV ⟨0, 0, 0⟩) Tryd.underlying34 rfl info_slt) rfl ?_
      exact ⟨by rw [HV.out]; rfl, be_set HE.out (by omega) _ _ _⟩
end Go.Proofs.YtpmhchbkhohmjaaDoor
