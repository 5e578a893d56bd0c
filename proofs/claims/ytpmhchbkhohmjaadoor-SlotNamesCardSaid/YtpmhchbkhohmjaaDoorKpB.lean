/-
  Walks of package twistlockkit: SameCover, KeptCover, SameCovers, KeptCovers: true of what nobody has turned.
-/
import Derived.Test.YtpmhchbkhohmjaaDoorKpA
namespace Go.Proofs.YtpmhchbkhohmjaaDoor
open Go.RowKit

set_option maxRecDepth 100000 in
theorem SlT.covK {w : World} {S : Nat → Prop} {A : Option Addr} {l : List (Cov × List Int)} (h : SlT tCovK w S A l) {i : Nat} (hi : i < l.length) :
    ∃ b off Ap p, A = some ⟨b, off, none⟩ ∧ S b ∧ (l.getD i default).1.rows.length + (l.getD i default).2.length ≤ p ∧ SlT tInt w S Ap ((l.getD i default).1.rows ++ (l.getD i default).2) ∧
      ∀ j u, (covL (l.getD i default).1 Ap p)[j]? = some u → w.cell? ⟨b, off + i * 2 + j, none⟩ = some u := by
  obtain ⟨b, off, cs, e, hb, ⟨Ap, p, rfl, h1, h2⟩, hc⟩ := h.at_ hi default
  exact ⟨b, off, Ap, p, e, hb, h1, h2, fun j u hu => hc j u hu⟩
set_option maxRecDepth 100000 in
set_option maxHeartbeats 4000000 in
theorem sameCover_any (x : Cov) (A B : Option Addr) (p q : Nat) (w : World) (hA : SlT tInt w (Lt w.heap.size) A x.rows) (hB : SlT tInt w (Lt w.heap.size) B x.rows) (hl : x.rows.length ≤ 17592186043904) :
    Calls Tryd.prog 81 #[.agg (covL x A p).toArray, .agg (covL x B q).toArray] w (Ret w (.bool true)) := by
  have hb0 := ba2 w (.cells (covL x A p).toArray 64) (.cells (covL x B q).toArray 64)
  have HC := Lib.hid (sameInts_any A B p q x.rows x.rows _ _ _ (hA.on hb0) (hB.on hb0) (by unfold maxLen; omega))
  rw [decide_eq_true rfl] at HC
  have HB0 := Lib.hid hb0
  clear hA hB hb0
  obtain ⟨x0, x1⟩ := x
  unfold covL at *
  simp only at *
  go_enter Tryd.func81, Tryd.ntmps81
  go_wp2_with fail
  refine HC.out.mono ?_
  rintro e w3 ⟨rfl, m, rfl⟩
  simp only
  clear HC
  go_wp2_with fail
  go_ret
  exact ⟨rfl, below_drewN HB0.out m⟩
set_option maxRecDepth 100000 in
set_option maxHeartbeats 4000000 in
theorem keptCover_any (x : Cov) (A B : Option Addr) (p q : Nat) (w : World) (hA : SlT tInt w (Lt w.heap.size) A (x.rows ++ marksI 12)) (hp : x.rows.length + 12 ≤ p) (hB : SlT tInt w (Lt w.heap.size) B x.rows) (hl : x.rows.length ≤ 17592186043904) :
    Calls Tryd.prog 80 #[.agg (covL x A p).toArray, .agg (covL x B q).toArray] w (Ret w (.bool true)) := by
  have hb0 := ba2 w (.cells (covL x A p).toArray 64) (.cells (covL x B q).toArray 64)
  have HC := Lib.hid (sameCover_any x A B p q _ (hA.on hb0).fst (hB.on hb0) hl)
  have HA := Lib.hid (hA.on hb0)
  have HB := Lib.hid (hB.on hb0)
  have KX := Lib.hid ((Bk.new w 64 (covL x A p).toArray).alloc (.cells (covL x B q).toArray 64))
  have KZ := Lib.hid (Bk.nxt (w := w) (.cells (covL x A p).toArray 64) 64 (covL x B q).toArray)
  have HB0 := Lib.hid hb0
  clear hA hB hb0
  obtain ⟨x0, x1⟩ := x
  unfold covL at *
  simp only at *
  go_enter Tryd.func80, Tryd.ntmps80
  go_wp2_with fail
  refine HC.out.mono ?_
  rintro e V ⟨rfl, hb⟩
  simp only
  have y8 : V.cell? ⟨w.heap.size, 1, none⟩ = some (.slice A x1.length p) := (KX.out.below hb KX.out.lt).cell 1
  have z8 : V.cell? ⟨w.heap.size + 1, 1, none⟩ = some (.slice B x1.length q) := (KZ.out.below hb KZ.out.lt).cell 1
  have HK := Lib.hid (keptInts2_any A B p q x1 V (HA.out.on hb) (HB.out.on hb) hp hl)
  have HBV := Lib.hid (HB0.out.trans (hb.mono HB0.out.size))
  clear HC HA HB KX KZ HB0 hb
  go_wp2_with fail
  refine HK.out.mono ?_
  rintro e w3 ⟨rfl, hb2⟩
  simp only
  have HBZ := Lib.hid (HBV.out.trans (hb2.mono HBV.out.size))
  clear HK HBV hb2 y8 z8
  go_wp2_with fail
  go_ret
  exact ⟨rfl, HBZ.out⟩
set_option maxRecDepth 100000 in
set_option maxHeartbeats 4000000 in
theorem sameCovers_any (A1 A2 : Option Addr) (c1 c2 : Nat) (l : List Cov) (w : World) (h1 : SlT tCov w (Lt w.heap.size) A1 l) (h2 : SlT tCov w (Lt w.heap.size) A2 l) (hl : l.length ≤ 1000000000) (hp : ∀ x ∈ l, x.rows.length ≤ 17592186043904) :
    Calls Tryd.prog 74 #[.slice A1 l.length c1, .slice A2 l.length c2] w (Ret w (.bool true)) := by
  have HS1 := Lib.hid h1
  have HS2 := Lib.hid h2
  have HP := Lib.hid hp
  clear h1 h2 hp
  have hb0 : ((l.length : Int) != (l.length : Int)) = false := by simp
  go_enter Tryd.func74, Tryd.ntmps74
  go_wp2_with fail
  go_loopw [5] (fun i wr => ∃ k : Nat, k ≤ l.length ∧ i = .int .i64 k ∧ Hid (Below w.heap.size w wr)) (fun i _ => l.length - (intOf i).toNat)
  case atStart => exact ⟨0, Nat.zero_le _, rfl, Lib.hid (Below.refl _ _)⟩
  case round =>
    obtain ⟨k, hk, rfl, HB⟩ := hrel
    obtain ⟨V, rfl⟩ : ∃ V, V = wr := ⟨_, rfl⟩
    by_cases hlt : k < l.length
    · obtain ⟨b1, o1, Ap1, p1, rfl, _, _, hs1, a0, a1⟩ := (HS1.out.on HB.out).cov hlt
      obtain ⟨b2, o2, Ap2, p2, rfl, _, _, hs2, d0, d1⟩ := (HS2.out.on HB.out).cov hlt
      have i0 : (0 : Int) ≤ (k : Int) := by omega
      have i1 : (k : Int) < (l.length : Int) := by omega
      have HXP := HP.out _ (getD_memD hlt default)
      generalize l.getD k default = x at *
      have HC := Lib.hid (fun (V' : World) (hV : Below V.heap.size V V') => sameCover_any x Ap1 Ap2 p1 p2 V' (hs1.on hV) (hs2.on hV) HXP)
      clear hs1 hs2 HXP
      obtain ⟨x0, x1⟩ := x
      unfold covL at HC
      simp only at a0 a1 d0 d1 HC
      go_upto_region 6 with fail
      have a0 : ∀ p : Gr V, p.W.cell? ⟨b1, o1 + k * 2, none⟩ = some (.int .i64 x0) := Gr.cell a0
      have a1 : ∀ p : Gr V, p.W.cell? ⟨b1, o1 + k * 2 + 1, none⟩ = some (.slice Ap1 x1.length p1) := Gr.cell a1
      have d0 : ∀ p : Gr V, p.W.cell? ⟨b2, o2 + k * 2, none⟩ = some (.int .i64 x0) := Gr.cell d0
      have d1 : ∀ p : Gr V, p.W.cell? ⟨b2, o2 + k * 2 + 1, none⟩ = some (.slice Ap2 x1.length p2) := Gr.cell d1
      refine wp_region_gr (by kernel_rfl) (by kernel_rfl) ?_
      repeat (go_big_quiet_step ((with_reducible exact Gr.call _ (fun V hV => HC.out V hV))))
      refine wpQuiet_nil ?_
      rintro Y ⟨⟨_, hbY⟩, rfl⟩
      have HBY := Lib.hid (HB.out.trans (hbY.mono HB.out.size))
      clear a0 a1 d0 d1 hbY HC HB
      go_wp2_with fail
      go_roundw
      case rel => first | exact ⟨k + 1, by omega, by go_num, HBY⟩ | ((repeat apply Exists.intro); (first | exact ⟨⟨k + 1, by omega, by go_num, HBY⟩, rfl⟩ | exact ⟨by omega, by go_num, HBY⟩))
      case measure => simp [intOf]; omega
    · obtain rfl : k = l.length := by omega
      go_wp2_with fail
      go_ret
      exact ⟨rfl, HB.out⟩
theorem lentCo_at {l : List Cov} {k : Nat} (h : k < l.length) : (lentCo l ++ marksCo 12).getD k default = (l.getD k default, marksI 12) := by
  rw [List.getD_eq_getElem?_getD, List.getElem?_append_left (by rw [lentCo_len]; exact h)]
  simp [lentCo, h]
theorem lentCo_beh {l : List Cov} {k : Nat} (h : l.length ≤ k) (h2 : k < l.length + 12) : (lentCo l ++ marksCo 12).getD k default = (mkCov (k - l.length), []) := by
  rw [List.getD_eq_getElem?_getD, List.getElem?_append_right (by rw [lentCo_len]; exact h), lentCo_len]
  simp [marksCo, List.getElem?_range, show k - l.length < 12 by omega]
set_option maxRecDepth 100000 in
set_option maxHeartbeats 4000000 in
theorem keptCovers_any (A1 A2 : Option Addr) (c1 c2 : Nat) (l : List Cov) (w : World) (h1 : SlT tCovK w (Lt w.heap.size) A1 (lentCo l ++ marksCo 12)) (hc : l.length + 12 ≤ c1) (h2 : SlT tCov w (Lt w.heap.size) A2 l) (hl : l.length ≤ 1000000000) (hp : ∀ x ∈ l, x.rows.length ≤ 17592186043904) :
    Calls Tryd.prog 42 #[.slice A1 l.length c1, .slice A2 l.length c2] w (Ret w (.bool true)) := by
  have HS1 := Lib.hid h1
  have HS2 := Lib.hid h2
  have HP := Lib.hid hp
  clear h1 h2 hp
  have hlen : (lentCo l ++ marksCo 12).length = l.length + 12 := by rw [List.length_append, lentCo_len, marksCo_len]
  have HLEN := Lib.hid hlen
  clear hlen
  have hb0 : ((l.length : Int) != (l.length : Int)) = false := by simp
  have j1 : (0 : Int) ≤ (l.length : Int) + 12 := by omega
  have j2 : (l.length : Int) + 12 ≤ (c1 : Int) := by omega
  go_enter Tryd.func42, Tryd.ntmps42
  go_wp2_with fail
  go_loopw [6] (fun i wr => ∃ k : Nat, k ≤ l.length + 12 ∧ i = .int .i64 k ∧ Hid (Below w.heap.size w wr)) (fun i _ => l.length + 12 - (intOf i).toNat)
  case atStart => exact ⟨0, Nat.zero_le _, rfl, Lib.hid (Below.refl _ _)⟩
  case round =>
    obtain ⟨k, hk, rfl, HB⟩ := hrel
    obtain ⟨V, rfl⟩ : ∃ V, V = wr := ⟨_, rfl⟩
    by_cases hlt : k < l.length + 12
    · obtain ⟨b1, o1, Ap1, p1, rfl, _, hp1, hs1, hcel⟩ := (HS1.out.on HB.out).covK (i := k) (by rw [HLEN.out]; exact hlt)
      have i0 : (0 : Int) ≤ (k : Int) := by omega
      have i1 : (k : Int) < (l.length : Int) + 12 := by omega
      by_cases hin : k < l.length
      · obtain ⟨b2, o2, Ap2, p2, rfl, _, _, hs2, d0, d1⟩ := (HS2.out.on HB.out).cov hin
        rw [lentCo_at hin] at hp1 hs1 hcel
        have i2 : (k : Int) < (l.length : Int) := by omega
        have q1 : decide (k < l.length) = true := by simpa using hin
        have q2 : decide (l.length ≤ k) = false := by simp; omega
        have HXP := HP.out _ (getD_memD hin default)
        generalize l.getD k default = x at *
        simp only at hp1 hs1 hcel
        rw [marksI_len] at hp1
        have HC := Lib.hid (fun (V' : World) (hV : Below V.heap.size V V') => keptCover_any x Ap1 Ap2 p1 p2 V' (hs1.on hV) hp1 (hs2.on hV) HXP)
        clear hs1 hs2 HXP hp1
        obtain ⟨x0, x1⟩ := x
        unfold covL at HC hcel
        simp only at d0 d1 HC hcel
        have a0 : V.cell? ⟨b1, o1 + k * 2, none⟩ = some (.int .i64 x0) := hcel 0 _ rfl
        have a1 : V.cell? ⟨b1, o1 + k * 2 + 1, none⟩ = some (.slice Ap1 x1.length p1) := hcel 1 _ rfl
        clear hcel
        go_upto_region 7 with fail
        have a0 : ∀ p : Gr V, p.W.cell? ⟨b1, o1 + k * 2, none⟩ = some (.int .i64 x0) := Gr.cell a0
        have a1 : ∀ p : Gr V, p.W.cell? ⟨b1, o1 + k * 2 + 1, none⟩ = some (.slice Ap1 x1.length p1) := Gr.cell a1
        have d0 : ∀ p : Gr V, p.W.cell? ⟨b2, o2 + k * 2, none⟩ = some (.int .i64 x0) := Gr.cell d0
        have d1 : ∀ p : Gr V, p.W.cell? ⟨b2, o2 + k * 2 + 1, none⟩ = some (.slice Ap2 x1.length p2) := Gr.cell d1
        refine wp_region_gr (by kernel_rfl) (by kernel_rfl) ?_
        repeat (go_big_quiet_step ((with_reducible exact Gr.call _ (fun V hV => HC.out V hV))))
        refine wpQuiet_nil ?_
        rintro Y ⟨⟨_, hbY⟩, rfl⟩
        have HBY := Lib.hid (HB.out.trans (hbY.mono HB.out.size))
        clear a0 a1 d0 d1 hbY HC HB q1 q2
        go_wp2_with fail
        go_roundw
        case rel => first | exact ⟨k + 1, by omega, by go_num, HBY⟩ | ((repeat apply Exists.intro); (first | exact ⟨⟨k + 1, by omega, by go_num, HBY⟩, rfl⟩ | exact ⟨by omega, by go_num, HBY⟩))
        case measure => simp [intOf]; omega
      · rw [lentCo_beh (by omega) hlt] at hp1 hs1 hcel
        have q1 : decide (k < l.length) = false := by simp; omega
        have q2 : decide (l.length ≤ k) = true := by simp; omega
        obtain ⟨j, hj⟩ : ∃ j, k - l.length = j := ⟨_, rfl⟩
        rw [hj] at hp1 hs1 hcel
        have s1 : IntKind.i64.wrap ((k : Int) - (l.length : Int)) = (j : Int) := by rw [IntWalk.i64_in _ (by omega)]; omega
        have HM := Lib.hid (fun (V' : World) (hV : Below V.heap.size V V') => markCover_any j V' (by omega))
        have hnil : (mkCov j).rows = [] := rfl
        have hln : (mkCov j).rows.length = 0 := rfl
        clear hj
        generalize mkCov j = x at *
        simp only [List.append_nil] at hp1 hs1 hcel
        have HC := Lib.hid (fun (V' : World) (hV : Below V.heap.size V V') => sameCover_any x Ap1 none p1 0 V' (hs1.on hV) (by rw [hnil]; exact SlT.nil) (by rw [hnil]; exact Nat.zero_le _))
        clear hs1 hp1
        obtain ⟨x0, x1⟩ := x
        unfold covL at HC hcel HM
        simp only at HC hcel HM hnil hln
        subst hnil
        clear hln
        simp only [List.length_nil] at HC HM
        have a0 : V.cell? ⟨b1, o1 + k * 2, none⟩ = some (.int .i64 x0) := hcel 0 _ rfl
        have a1 : V.cell? ⟨b1, o1 + k * 2 + 1, none⟩ = some (.slice Ap1 0 p1) := hcel 1 _ rfl
        clear hcel
        go_upto_region 7 with fail
        have a0 : ∀ p : Gr V, p.W.cell? ⟨b1, o1 + k * 2, none⟩ = some (.int .i64 x0) := Gr.cell a0
        have a1 : ∀ p : Gr V, p.W.cell? ⟨b1, o1 + k * 2 + 1, none⟩ = some (.slice Ap1 0 p1) := Gr.cell a1
        refine wp_region_gr (by kernel_rfl) (by kernel_rfl) ?_
        repeat (go_big_quiet_step ((first | (with_reducible exact Gr.call _ (fun V hV => HM.out V hV)) | (with_reducible exact Gr.call _ (fun V hV => HC.out V hV)))))
        refine wpQuiet_nil ?_
        rintro Y ⟨⟨_, hbY⟩, rfl⟩
        have HBY := Lib.hid (HB.out.trans (hbY.mono HB.out.size))
        clear a0 a1 hbY HC HB q1 q2 s1 HM
        go_wp2_with fail
        go_roundw
        case rel => first | exact ⟨k + 1, by omega, by go_num, HBY⟩ | ((repeat apply Exists.intro); (first | exact ⟨⟨k + 1, by omega, by go_num, HBY⟩, rfl⟩ | exact ⟨by omega, by go_num, HBY⟩))
        case measure => simp [intOf]; omega
    · obtain rfl : k = l.length + 12 := by omega
      go_wp2_with fail
      go_ret
      exact ⟨rfl, HB.out⟩
end Go.Proofs.YtpmhchbkhohmjaaDoor
