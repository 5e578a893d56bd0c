/-
  Contracts and lemmas, in one text: KpA2, KpB, KpC, KpD, KpE.
-/
import Derived.Test.YtmhikcleekfbpaaGreatDoorKpA
import Derived.Test.YtmhikcleekfbpaaGreatDoorLnI
namespace Go.Proofs.YtmhikcleekfbpaaGreatDoor
open Go.RowKit

set_option maxRecDepth 100000 in
theorem SlT.colK {w : World} {S : Nat → Prop} {A : Option Addr} {l : List (Col × List Int)} (h : SlT tColK w S A l) {i : Nat} (hi : i < l.length) :
    ∃ b off Ap p, A = some ⟨b, off, none⟩ ∧ S b ∧ (l.getD i default).1.plugs.length + (l.getD i default).2.length ≤ p ∧ SlT tInt w S Ap ((l.getD i default).1.plugs ++ (l.getD i default).2) ∧
      ∀ j u, (colL (l.getD i default).1 Ap p)[j]? = some u → w.cell? ⟨b, off + i * 12 + j, none⟩ = some u := by
  obtain ⟨b, off, cs, e, hb, ⟨Ap, p, rfl, h1, h2⟩, hc⟩ := h.at_ hi default
  exact ⟨b, off, Ap, p, e, hb, h1, h2, fun j u hu => hc j u hu⟩
set_option maxRecDepth 100000 in
set_option maxHeartbeats 4000000 in
theorem sameColumn_any (x : Col) (A B : Option Addr) (p q : Nat) (w : World) (hA : SlT tInt w (Lt w.heap.size) A x.plugs) (hB : SlT tInt w (Lt w.heap.size) B x.plugs) (hl : x.plugs.length ≤ 17592186043904) :
    Calls Tryz.prog 67 #[.agg (colL x A p).toArray, .agg (colL x B q).toArray] w (Ret w (.bool true)) := by
  have hb0 := ba2 w (.cells (colL x A p).toArray 50) (.cells (colL x B q).toArray 50)
  have HC := Lib.hid (sameInts_any A B p q x.plugs x.plugs _ _ _ (hA.on hb0) (hB.on hb0) (by unfold maxLen; omega))
  rw [decide_eq_true rfl] at HC
  have HB0 := Lib.hid hb0
  clear hA hB hb0
  obtain ⟨x0, x1, x2, x3, x4, x5, x6, x7, x8, x9, x10, x11⟩ := x
  unfold colL at *
  simp only at *
  go_enter Tryz.func67, Tryz.ntmps67
  go_wp2_with fail
  refine HC.out.mono ?_
  rintro e w3 ⟨rfl, m, rfl⟩
  simp only
  clear HC
  go_wp2_with fail
  go_ret
  exact ⟨rfl, below_drewN HB0.out m⟩
set_option maxRecDepth 100000 in
set_option maxHeartbeats 4000000 in
theorem keptColumn_any (x : Col) (A B : Option Addr) (p q : Nat) (w : World) (hA : SlT tInt w (Lt w.heap.size) A (x.plugs ++ marksI 12)) (hp : x.plugs.length + 12 ≤ p) (hB : SlT tInt w (Lt w.heap.size) B x.plugs) (hl : x.plugs.length ≤ 17592186043904) :
    Calls Tryz.prog 66 #[.agg (colL x A p).toArray, .agg (colL x B q).toArray] w (Ret w (.bool true)) := by
  have hb0 := ba2 w (.cells (colL x A p).toArray 50) (.cells (colL x B q).toArray 50)
  have HC := Lib.hid (sameColumn_any x A B p q _ (hA.on hb0).fst (hB.on hb0) hl)
  have HA := Lib.hid (hA.on hb0)
  have HB := Lib.hid (hB.on hb0)
  have KX := Lib.hid ((Bk.new w 50 (colL x A p).toArray).alloc (.cells (colL x B q).toArray 50))
  have KZ := Lib.hid (Bk.nxt (w := w) (.cells (colL x A p).toArray 50) 50 (colL x B q).toArray)
  have HB0 := Lib.hid hb0
  clear hA hB hb0
  obtain ⟨x0, x1, x2, x3, x4, x5, x6, x7, x8, x9, x10, x11⟩ := x
  unfold colL at *
  simp only at *
  go_enter Tryz.func66, Tryz.ntmps66
  go_wp2_with fail
  refine HC.out.mono ?_
  rintro e V ⟨rfl, hb⟩
  simp only
  have y8 : V.cell? ⟨w.heap.size, 8, none⟩ = some (.slice A x8.length p) := (KX.out.below hb KX.out.lt).cell 8
  have z8 : V.cell? ⟨w.heap.size + 1, 8, none⟩ = some (.slice B x8.length q) := (KZ.out.below hb KZ.out.lt).cell 8
  have HK := Lib.hid (keptInts2_any A B p q x8 V (HA.out.on hb) (HB.out.on hb) hp hl)
  have HBV := Lib.hid (HB0.out.trans (hb.mono HB0.out.size))
  clear HC HA HB KX KZ HB0 hb
  go_wp2_with fail
  refine HK.out.mono ?_
  rintro e w3 ⟨rfl, hb2⟩
  simp only
  have HBZ := Lib.hid (HBV.out.trans (hb2.mono HBV.out.size))
  clear HK HBV hb2 y8 z8
  go_wp2_with fail
  go_ret
  exact ⟨rfl, HBZ.out⟩
set_option maxRecDepth 100000 in
set_option maxHeartbeats 4000000 in
theorem sameColumns_any (A1 A2 : Option Addr) (c1 c2 : Nat) (l : List Col) (w : World) (h1 : SlT tCol w (Lt w.heap.size) A1 l) (h2 : SlT tCol w (Lt w.heap.size) A2 l) (hl : l.length ≤ 1000000000) (hp : ∀ x ∈ l, x.plugs.length ≤ 17592186043904) :
    Calls Tryz.prog 61 #[.slice A1 l.length c1, .slice A2 l.length c2] w (Ret w (.bool true)) := by
  have HS1 := Lib.hid h1
  have HS2 := Lib.hid h2
  have HP := Lib.hid hp
  clear h1 h2 hp
  have hb0 : ((l.length : Int) != (l.length : Int)) = false := by simp
  go_enter Tryz.func61, Tryz.ntmps61
  go_wp2_with fail
  go_loopw [5] (fun i wr => ∃ k : Nat, k ≤ l.length ∧ i = .int .i64 k ∧ Hid (Below w.heap.size w wr)) (fun i _ => l.length - (intOf i).toNat)
  case atStart => exact ⟨0, Nat.zero_le _, rfl, Lib.hid (Below.refl _ _)⟩
  case round =>
    obtain ⟨k, hk, rfl, HB⟩ := hrel
    obtain ⟨V, rfl⟩ : ∃ V, V = wr := ⟨_, rfl⟩
    by_cases hlt : k < l.length
    · obtain ⟨b1, o1, Ap1, p1, rfl, _, _, hs1, a0, a1, a2, a3, a4, a5, a6, a7, a8, a9, a10, a11⟩ := (HS1.out.on HB.out).col hlt
      obtain ⟨b2, o2, Ap2, p2, rfl, _, _, hs2, d0, d1, d2, d3, d4, d5, d6, d7, d8, d9, d10, d11⟩ := (HS2.out.on HB.out).col hlt
      have i0 : (0 : Int) ≤ (k : Int) := by omega
      have i1 : (k : Int) < (l.length : Int) := by omega
      have HXP := HP.out _ (getD_memD hlt default)
      generalize l.getD k default = x at *
      have HC := Lib.hid (fun (V' : World) (hV : Below V.heap.size V V') => sameColumn_any x Ap1 Ap2 p1 p2 V' (hs1.on hV) (hs2.on hV) HXP)
      clear hs1 hs2 HXP
      obtain ⟨x0, x1, x2, x3, x4, x5, x6, x7, x8, x9, x10, x11⟩ := x
      unfold colL at HC
      simp only at a0 a1 a2 a3 a4 a5 a6 a7 a8 a9 a10 a11 d0 d1 d2 d3 d4 d5 d6 d7 d8 d9 d10 d11 HC
      go_upto_region 6 with fail
      have a0 : ∀ p : Gr V, p.W.cell? ⟨b1, o1 + k * 12, none⟩ = some (.int .i64 x0) := Gr.cell a0
      have a1 : ∀ p : Gr V, p.W.cell? ⟨b1, o1 + k * 12 + 1, none⟩ = some (.int .i64 x1) := Gr.cell a1
      have a2 : ∀ p : Gr V, p.W.cell? ⟨b1, o1 + k * 12 + 2, none⟩ = some (.bool x2) := Gr.cell a2
      have a3 : ∀ p : Gr V, p.W.cell? ⟨b1, o1 + k * 12 + 3, none⟩ = some (.int .i64 x3) := Gr.cell a3
      have a4 : ∀ p : Gr V, p.W.cell? ⟨b1, o1 + k * 12 + 4, none⟩ = some (.int .i64 x4) := Gr.cell a4
      have a5 : ∀ p : Gr V, p.W.cell? ⟨b1, o1 + k * 12 + 5, none⟩ = some (.int .i64 x5) := Gr.cell a5
      have a6 : ∀ p : Gr V, p.W.cell? ⟨b1, o1 + k * 12 + 6, none⟩ = some (.int .i64 x6) := Gr.cell a6
      have a7 : ∀ p : Gr V, p.W.cell? ⟨b1, o1 + k * 12 + 7, none⟩ = some (.int .i64 x7) := Gr.cell a7
      have a8 : ∀ p : Gr V, p.W.cell? ⟨b1, o1 + k * 12 + 8, none⟩ = some (.slice Ap1 x8.length p1) := Gr.cell a8
      have a9 : ∀ p : Gr V, p.W.cell? ⟨b1, o1 + k * 12 + 9, none⟩ = some (.int .i64 x9) := Gr.cell a9
      have a10 : ∀ p : Gr V, p.W.cell? ⟨b1, o1 + k * 12 + 10, none⟩ = some (.int .i64 x10) := Gr.cell a10
      have a11 : ∀ p : Gr V, p.W.cell? ⟨b1, o1 + k * 12 + 11, none⟩ = some (.int .i64 x11) := Gr.cell a11
      have d0 : ∀ p : Gr V, p.W.cell? ⟨b2, o2 + k * 12, none⟩ = some (.int .i64 x0) := Gr.cell d0
      have d1 : ∀ p : Gr V, p.W.cell? ⟨b2, o2 + k * 12 + 1, none⟩ = some (.int .i64 x1) := Gr.cell d1
      have d2 : ∀ p : Gr V, p.W.cell? ⟨b2, o2 + k * 12 + 2, none⟩ = some (.bool x2) := Gr.cell d2
      have d3 : ∀ p : Gr V, p.W.cell? ⟨b2, o2 + k * 12 + 3, none⟩ = some (.int .i64 x3) := Gr.cell d3
      have d4 : ∀ p : Gr V, p.W.cell? ⟨b2, o2 + k * 12 + 4, none⟩ = some (.int .i64 x4) := Gr.cell d4
      have d5 : ∀ p : Gr V, p.W.cell? ⟨b2, o2 + k * 12 + 5, none⟩ = some (.int .i64 x5) := Gr.cell d5
      have d6 : ∀ p : Gr V, p.W.cell? ⟨b2, o2 + k * 12 + 6, none⟩ = some (.int .i64 x6) := Gr.cell d6
      have d7 : ∀ p : Gr V, p.W.cell? ⟨b2, o2 + k * 12 + 7, none⟩ = some (.int .i64 x7) := Gr.cell d7
      have d8 : ∀ p : Gr V, p.W.cell? ⟨b2, o2 + k * 12 + 8, none⟩ = some (.slice Ap2 x8.length p2) := Gr.cell d8
      have d9 : ∀ p : Gr V, p.W.cell? ⟨b2, o2 + k * 12 + 9, none⟩ = some (.int .i64 x9) := Gr.cell d9
      have d10 : ∀ p : Gr V, p.W.cell? ⟨b2, o2 + k * 12 + 10, none⟩ = some (.int .i64 x10) := Gr.cell d10
      have d11 : ∀ p : Gr V, p.W.cell? ⟨b2, o2 + k * 12 + 11, none⟩ = some (.int .i64 x11) := Gr.cell d11
      refine wp_region_gr (by kernel_rfl) (by kernel_rfl) ?_
      repeat (go_big_quiet_step ((with_reducible exact Gr.call _ (fun V hV => HC.out V hV))))
      refine wpQuiet_nil ?_
      rintro Y ⟨⟨_, hbY⟩, rfl⟩
      have HBY := Lib.hid (HB.out.trans (hbY.mono HB.out.size))
      clear a0 a1 a2 a3 a4 a5 a6 a7 a8 a9 a10 a11 d0 d1 d2 d3 d4 d5 d6 d7 d8 d9 d10 d11 hbY HC HB
      go_wp2_with fail
      go_roundw
      case rel => first | exact ⟨k + 1, by omega, by go_num, HBY⟩ | ((repeat apply Exists.intro); (first | exact ⟨⟨k + 1, by omega, by go_num, HBY⟩, rfl⟩ | exact ⟨by omega, by go_num, HBY⟩))
      case measure => simp [intOf]; omega
    · obtain rfl : k = l.length := by omega
      go_wp2_with fail
      go_ret
      exact ⟨rfl, HB.out⟩
theorem lentC_at {l : List Col} {k : Nat} (h : k < l.length) : (lentC l ++ marksC 12).getD k default = (l.getD k default, marksI 12) := by
  rw [List.getD_eq_getElem?_getD, List.getElem?_append_left (by rw [lentC_len]; exact h)]
  simp [lentC, h]
theorem lentC_beh {l : List Col} {k : Nat} (h : l.length ≤ k) (h2 : k < l.length + 12) : (lentC l ++ marksC 12).getD k default = (mkCol (k - l.length), []) := by
  rw [List.getD_eq_getElem?_getD, List.getElem?_append_right (by rw [lentC_len]; exact h), lentC_len]
  simp [marksC, show k - l.length < 12 by omega]
set_option maxRecDepth 100000 in
set_option maxHeartbeats 4000000 in
theorem keptColumns_any (A1 A2 : Option Addr) (c1 c2 : Nat) (l : List Col) (w : World) (h1 : SlT tColK w (Lt w.heap.size) A1 (lentC l ++ marksC 12)) (hc : l.length + 12 ≤ c1) (h2 : SlT tCol w (Lt w.heap.size) A2 l) (hl : l.length ≤ 1000000000) (hp : ∀ x ∈ l, x.plugs.length ≤ 17592186043904) :
    Calls Tryz.prog 34 #[.slice A1 l.length c1, .slice A2 l.length c2] w (Ret w (.bool true)) := by
  have HS1 := Lib.hid h1
  have HS2 := Lib.hid h2
  have HP := Lib.hid hp
  clear h1 h2 hp
  have hlen : (lentC l ++ marksC 12).length = l.length + 12 := by rw [List.length_append, lentC_len, marksC_len]
  have HLEN := Lib.hid hlen
  clear hlen
  have hb0 : ((l.length : Int) != (l.length : Int)) = false := by simp
  have j1 : (0 : Int) ≤ (l.length : Int) + 12 := by omega
  have j2 : (l.length : Int) + 12 ≤ (c1 : Int) := by omega
  go_enter Tryz.func34, Tryz.ntmps34
  go_wp2_with fail
  go_loopw [6] (fun i wr => ∃ k : Nat, k ≤ l.length + 12 ∧ i = .int .i64 k ∧ Hid (Below w.heap.size w wr)) (fun i _ => l.length + 12 - (intOf i).toNat)
  case atStart => exact ⟨0, Nat.zero_le _, rfl, Lib.hid (Below.refl _ _)⟩
  case round =>
    obtain ⟨k, hk, rfl, HB⟩ := hrel
    obtain ⟨V, rfl⟩ : ∃ V, V = wr := ⟨_, rfl⟩
    by_cases hlt : k < l.length + 12
    · obtain ⟨b1, o1, Ap1, p1, rfl, _, hp1, hs1, hcel⟩ := (HS1.out.on HB.out).colK (i := k) (by rw [HLEN.out]; exact hlt)
      have i0 : (0 : Int) ≤ (k : Int) := by omega
      have i1 : (k : Int) < (l.length : Int) + 12 := by omega
      by_cases hin : k < l.length
      · obtain ⟨b2, o2, Ap2, p2, rfl, _, _, hs2, d0, d1, d2, d3, d4, d5, d6, d7, d8, d9, d10, d11⟩ := (HS2.out.on HB.out).col hin
        rw [lentC_at hin] at hp1 hs1 hcel
        have i2 : (k : Int) < (l.length : Int) := by omega
        have q1 : decide (k < l.length) = true := by simpa using hin
        have q2 : decide (l.length ≤ k) = false := by simp; omega
        have HXP := HP.out _ (getD_memD hin default)
        generalize l.getD k default = x at *
        simp only at hp1 hs1 hcel
        rw [marksI_len] at hp1
        have HC := Lib.hid (fun (V' : World) (hV : Below V.heap.size V V') => keptColumn_any x Ap1 Ap2 p1 p2 V' (hs1.on hV) hp1 (hs2.on hV) HXP)
        clear hs1 hs2 HXP hp1
        obtain ⟨x0, x1, x2, x3, x4, x5, x6, x7, x8, x9, x10, x11⟩ := x
        unfold colL at HC hcel
        simp only at d0 d1 d2 d3 d4 d5 d6 d7 d8 d9 d10 d11 HC hcel
        have a0 : V.cell? ⟨b1, o1 + k * 12, none⟩ = some (.int .i64 x0) := hcel 0 _ rfl
        have a1 : V.cell? ⟨b1, o1 + k * 12 + 1, none⟩ = some (.int .i64 x1) := hcel 1 _ rfl
        have a2 : V.cell? ⟨b1, o1 + k * 12 + 2, none⟩ = some (.bool x2) := hcel 2 _ rfl
        have a3 : V.cell? ⟨b1, o1 + k * 12 + 3, none⟩ = some (.int .i64 x3) := hcel 3 _ rfl
        have a4 : V.cell? ⟨b1, o1 + k * 12 + 4, none⟩ = some (.int .i64 x4) := hcel 4 _ rfl
        have a5 : V.cell? ⟨b1, o1 + k * 12 + 5, none⟩ = some (.int .i64 x5) := hcel 5 _ rfl
        have a6 : V.cell? ⟨b1, o1 + k * 12 + 6, none⟩ = some (.int .i64 x6) := hcel 6 _ rfl
        have a7 : V.cell? ⟨b1, o1 + k * 12 + 7, none⟩ = some (.int .i64 x7) := hcel 7 _ rfl
        have a8 : V.cell? ⟨b1, o1 + k * 12 + 8, none⟩ = some (.slice Ap1 x8.length p1) := hcel 8 _ rfl
        have a9 : V.cell? ⟨b1, o1 + k * 12 + 9, none⟩ = some (.int .i64 x9) := hcel 9 _ rfl
        have a10 : V.cell? ⟨b1, o1 + k * 12 + 10, none⟩ = some (.int .i64 x10) := hcel 10 _ rfl
        have a11 : V.cell? ⟨b1, o1 + k * 12 + 11, none⟩ = some (.int .i64 x11) := hcel 11 _ rfl
        clear hcel
        go_upto_region 7 with fail
        have a0 : ∀ p : Gr V, p.W.cell? ⟨b1, o1 + k * 12, none⟩ = some (.int .i64 x0) := Gr.cell a0
        have a1 : ∀ p : Gr V, p.W.cell? ⟨b1, o1 + k * 12 + 1, none⟩ = some (.int .i64 x1) := Gr.cell a1
        have a2 : ∀ p : Gr V, p.W.cell? ⟨b1, o1 + k * 12 + 2, none⟩ = some (.bool x2) := Gr.cell a2
        have a3 : ∀ p : Gr V, p.W.cell? ⟨b1, o1 + k * 12 + 3, none⟩ = some (.int .i64 x3) := Gr.cell a3
        have a4 : ∀ p : Gr V, p.W.cell? ⟨b1, o1 + k * 12 + 4, none⟩ = some (.int .i64 x4) := Gr.cell a4
        have a5 : ∀ p : Gr V, p.W.cell? ⟨b1, o1 + k * 12 + 5, none⟩ = some (.int .i64 x5) := Gr.cell a5
        have a6 : ∀ p : Gr V, p.W.cell? ⟨b1, o1 + k * 12 + 6, none⟩ = some (.int .i64 x6) := Gr.cell a6
        have a7 : ∀ p : Gr V, p.W.cell? ⟨b1, o1 + k * 12 + 7, none⟩ = some (.int .i64 x7) := Gr.cell a7
        have a8 : ∀ p : Gr V, p.W.cell? ⟨b1, o1 + k * 12 + 8, none⟩ = some (.slice Ap1 x8.length p1) := Gr.cell a8
        have a9 : ∀ p : Gr V, p.W.cell? ⟨b1, o1 + k * 12 + 9, none⟩ = some (.int .i64 x9) := Gr.cell a9
        have a10 : ∀ p : Gr V, p.W.cell? ⟨b1, o1 + k * 12 + 10, none⟩ = some (.int .i64 x10) := Gr.cell a10
        have a11 : ∀ p : Gr V, p.W.cell? ⟨b1, o1 + k * 12 + 11, none⟩ = some (.int .i64 x11) := Gr.cell a11
        have d0 : ∀ p : Gr V, p.W.cell? ⟨b2, o2 + k * 12, none⟩ = some (.int .i64 x0) := Gr.cell d0
        have d1 : ∀ p : Gr V, p.W.cell? ⟨b2, o2 + k * 12 + 1, none⟩ = some (.int .i64 x1) := Gr.cell d1
        have d2 : ∀ p : Gr V, p.W.cell? ⟨b2, o2 + k * 12 + 2, none⟩ = some (.bool x2) := Gr.cell d2
        have d3 : ∀ p : Gr V, p.W.cell? ⟨b2, o2 + k * 12 + 3, none⟩ = some (.int .i64 x3) := Gr.cell d3
        have d4 : ∀ p : Gr V, p.W.cell? ⟨b2, o2 + k * 12 + 4, none⟩ = some (.int .i64 x4) := Gr.cell d4
        have d5 : ∀ p : Gr V, p.W.cell? ⟨b2, o2 + k * 12 + 5, none⟩ = some (.int .i64 x5) := Gr.cell d5
        have d6 : ∀ p : Gr V, p.W.cell? ⟨b2, o2 + k * 12 + 6, none⟩ = some (.int .i64 x6) := Gr.cell d6
        have d7 : ∀ p : Gr V, p.W.cell? ⟨b2, o2 + k * 12 + 7, none⟩ = some (.int .i64 x7) := Gr.cell d7
        have d8 : ∀ p : Gr V, p.W.cell? ⟨b2, o2 + k * 12 + 8, none⟩ = some (.slice Ap2 x8.length p2) := Gr.cell d8
        have d9 : ∀ p : Gr V, p.W.cell? ⟨b2, o2 + k * 12 + 9, none⟩ = some (.int .i64 x9) := Gr.cell d9
        have d10 : ∀ p : Gr V, p.W.cell? ⟨b2, o2 + k * 12 + 10, none⟩ = some (.int .i64 x10) := Gr.cell d10
        have d11 : ∀ p : Gr V, p.W.cell? ⟨b2, o2 + k * 12 + 11, none⟩ = some (.int .i64 x11) := Gr.cell d11
        refine wp_region_gr (by kernel_rfl) (by kernel_rfl) ?_
        repeat (go_big_quiet_step ((with_reducible exact Gr.call _ (fun V hV => HC.out V hV))))
        refine wpQuiet_nil ?_
        rintro Y ⟨⟨_, hbY⟩, rfl⟩
        have HBY := Lib.hid (HB.out.trans (hbY.mono HB.out.size))
        clear a0 a1 a2 a3 a4 a5 a6 a7 a8 a9 a10 a11 d0 d1 d2 d3 d4 d5 d6 d7 d8 d9 d10 d11 hbY HC HB q1 q2
        go_wp2_with fail
        go_roundw
        case rel => first | exact ⟨k + 1, by omega, by go_num, HBY⟩ | ((repeat apply Exists.intro); (first | exact ⟨⟨k + 1, by omega, by go_num, HBY⟩, rfl⟩ | exact ⟨by omega, by go_num, HBY⟩))
        case measure => simp [intOf]; omega
      · rw [lentC_beh (by omega) hlt] at hp1 hs1 hcel
        have q1 : decide (k < l.length) = false := by simp; omega
        have q2 : decide (l.length ≤ k) = true := by simp; omega
        obtain ⟨j, hj⟩ : ∃ j, k - l.length = j := ⟨_, rfl⟩
        rw [hj] at hp1 hs1 hcel
        have s1 : IntKind.i64.wrap ((k : Int) - (l.length : Int)) = (j : Int) := by rw [IntWalk.i64_in _ (by omega)]; omega
        have HM := Lib.hid (fun (V' : World) (hV : Below V.heap.size V V') => markColumn_any j V' (by omega))
        have hnil : (mkCol j).plugs = [] := rfl
        have hln : (mkCol j).plugs.length = 0 := rfl
        clear hj
        generalize mkCol j = x at *
        simp only [List.append_nil] at hp1 hs1 hcel
        have HC := Lib.hid (fun (V' : World) (hV : Below V.heap.size V V') => sameColumn_any x Ap1 none p1 0 V' (hs1.on hV) (by rw [hnil]; exact SlT.nil) (by rw [hnil]; exact Nat.zero_le _))
        clear hs1 hp1
        obtain ⟨x0, x1, x2, x3, x4, x5, x6, x7, x8, x9, x10, x11⟩ := x
        unfold colL at HC hcel HM
        simp only at HC hcel HM hnil hln
        subst hnil
        clear hln
        simp only [List.length_nil] at HC HM
        have a0 : V.cell? ⟨b1, o1 + k * 12, none⟩ = some (.int .i64 x0) := hcel 0 _ rfl
        have a1 : V.cell? ⟨b1, o1 + k * 12 + 1, none⟩ = some (.int .i64 x1) := hcel 1 _ rfl
        have a2 : V.cell? ⟨b1, o1 + k * 12 + 2, none⟩ = some (.bool x2) := hcel 2 _ rfl
        have a3 : V.cell? ⟨b1, o1 + k * 12 + 3, none⟩ = some (.int .i64 x3) := hcel 3 _ rfl
        have a4 : V.cell? ⟨b1, o1 + k * 12 + 4, none⟩ = some (.int .i64 x4) := hcel 4 _ rfl
        have a5 : V.cell? ⟨b1, o1 + k * 12 + 5, none⟩ = some (.int .i64 x5) := hcel 5 _ rfl
        have a6 : V.cell? ⟨b1, o1 + k * 12 + 6, none⟩ = some (.int .i64 x6) := hcel 6 _ rfl
        have a7 : V.cell? ⟨b1, o1 + k * 12 + 7, none⟩ = some (.int .i64 x7) := hcel 7 _ rfl
        have a8 : V.cell? ⟨b1, o1 + k * 12 + 8, none⟩ = some (.slice Ap1 0 p1) := hcel 8 _ rfl
        have a9 : V.cell? ⟨b1, o1 + k * 12 + 9, none⟩ = some (.int .i64 x9) := hcel 9 _ rfl
        have a10 : V.cell? ⟨b1, o1 + k * 12 + 10, none⟩ = some (.int .i64 x10) := hcel 10 _ rfl
        have a11 : V.cell? ⟨b1, o1 + k * 12 + 11, none⟩ = some (.int .i64 x11) := hcel 11 _ rfl
        clear hcel
        go_upto_region 7 with fail
        have a0 : ∀ p : Gr V, p.W.cell? ⟨b1, o1 + k * 12, none⟩ = some (.int .i64 x0) := Gr.cell a0
        have a1 : ∀ p : Gr V, p.W.cell? ⟨b1, o1 + k * 12 + 1, none⟩ = some (.int .i64 x1) := Gr.cell a1
        have a2 : ∀ p : Gr V, p.W.cell? ⟨b1, o1 + k * 12 + 2, none⟩ = some (.bool x2) := Gr.cell a2
        have a3 : ∀ p : Gr V, p.W.cell? ⟨b1, o1 + k * 12 + 3, none⟩ = some (.int .i64 x3) := Gr.cell a3
        have a4 : ∀ p : Gr V, p.W.cell? ⟨b1, o1 + k * 12 + 4, none⟩ = some (.int .i64 x4) := Gr.cell a4
        have a5 : ∀ p : Gr V, p.W.cell? ⟨b1, o1 + k * 12 + 5, none⟩ = some (.int .i64 x5) := Gr.cell a5
        have a6 : ∀ p : Gr V, p.W.cell? ⟨b1, o1 + k * 12 + 6, none⟩ = some (.int .i64 x6) := Gr.cell a6
        have a7 : ∀ p : Gr V, p.W.cell? ⟨b1, o1 + k * 12 + 7, none⟩ = some (.int .i64 x7) := Gr.cell a7
        have a8 : ∀ p : Gr V, p.W.cell? ⟨b1, o1 + k * 12 + 8, none⟩ = some (.slice Ap1 0 p1) := Gr.cell a8
        have a9 : ∀ p : Gr V, p.W.cell? ⟨b1, o1 + k * 12 + 9, none⟩ = some (.int .i64 x9) := Gr.cell a9
        have a10 : ∀ p : Gr V, p.W.cell? ⟨b1, o1 + k * 12 + 10, none⟩ = some (.int .i64 x10) := Gr.cell a10
        have a11 : ∀ p : Gr V, p.W.cell? ⟨b1, o1 + k * 12 + 11, none⟩ = some (.int .i64 x11) := Gr.cell a11
        refine wp_region_gr (by kernel_rfl) (by kernel_rfl) ?_
        repeat (go_big_quiet_step ((first | (with_reducible exact Gr.call _ (fun V hV => HM.out V hV)) | (with_reducible exact Gr.call _ (fun V hV => HC.out V hV)))))
        refine wpQuiet_nil ?_
        rintro Y ⟨⟨_, hbY⟩, rfl⟩
        have HBY := Lib.hid (HB.out.trans (hbY.mono HB.out.size))
        clear a0 a1 a2 a3 a4 a5 a6 a7 a8 a9 a10 a11 hbY HC HB q1 q2 s1 HM
        go_wp2_with fail
        go_roundw
        case rel => first | exact ⟨k + 1, by omega, by go_num, HBY⟩ | ((repeat apply Exists.intro); (first | exact ⟨⟨k + 1, by omega, by go_num, HBY⟩, rfl⟩ | exact ⟨by omega, by go_num, HBY⟩))
        case measure => simp [intOf]; omega
    · obtain rfl : k = l.length + 12 := by omega
      go_wp2_with fail
      go_ret
      exact ⟨rfl, HB.out⟩
end Go.Proofs.YtmhikcleekfbpaaGreatDoor
namespace Go.Proofs.YtmhikcleekfbpaaGreatDoor
open Go.RowKit

set_option maxRecDepth 100000 in
theorem SlT.covK {w : World} {S : Nat → Prop} {A : Option Addr} {l : List (Cov × List Int)} (h : SlT tCovK w S A l) {i : Nat} (hi : i < l.length) :
    ∃ b off Ap p, A = some ⟨b, off, none⟩ ∧ S b ∧ (l.getD i default).1.rows.length + (l.getD i default).2.length ≤ p ∧ SlT tInt w S Ap ((l.getD i default).1.rows ++ (l.getD i default).2) ∧
      ∀ j u, (covL (l.getD i default).1 Ap p)[j]? = some u → w.cell? ⟨b, off + i * 2 + j, none⟩ = some u := by
  obtain ⟨b, off, cs, e, hb, ⟨Ap, p, rfl, h1, h2⟩, hc⟩ := h.at_ hi default
  exact ⟨b, off, Ap, p, e, hb, h1, h2, fun j u hu => hc j u hu⟩
set_option maxRecDepth 100000 in
set_option maxHeartbeats 4000000 in
theorem sameCover_any (x : Cov) (A B : Option Addr) (p q : Nat) (w : World) (hA : SlT tInt w (Lt w.heap.size) A x.rows) (hB : SlT tInt w (Lt w.heap.size) B x.rows) (hl : x.rows.length ≤ 17592186043904) :
    Calls Tryz.prog 69 #[.agg (covL x A p).toArray, .agg (covL x B q).toArray] w (Ret w (.bool true)) := by
  have hb0 := ba2 w (.cells (covL x A p).toArray 52) (.cells (covL x B q).toArray 52)
  have HC := Lib.hid (sameInts_any A B p q x.rows x.rows _ _ _ (hA.on hb0) (hB.on hb0) (by unfold maxLen; omega))
  rw [decide_eq_true rfl] at HC
  have HB0 := Lib.hid hb0
  clear hA hB hb0
  obtain ⟨x0, x1⟩ := x
  unfold covL at *
  simp only at *
  go_enter Tryz.func69, Tryz.ntmps69
  go_wp2_with fail
  refine HC.out.mono ?_
  rintro e w3 ⟨rfl, m, rfl⟩
  simp only
  clear HC
  go_wp2_with fail
  go_ret
  exact ⟨rfl, below_drewN HB0.out m⟩
set_option maxRecDepth 100000 in
set_option maxHeartbeats 4000000 in
theorem keptCover_any (x : Cov) (A B : Option Addr) (p q : Nat) (w : World) (hA : SlT tInt w (Lt w.heap.size) A (x.rows ++ marksI 12)) (hp : x.rows.length + 12 ≤ p) (hB : SlT tInt w (Lt w.heap.size) B x.rows) (hl : x.rows.length ≤ 17592186043904) :
    Calls Tryz.prog 68 #[.agg (covL x A p).toArray, .agg (covL x B q).toArray] w (Ret w (.bool true)) := by
  have hb0 := ba2 w (.cells (covL x A p).toArray 52) (.cells (covL x B q).toArray 52)
  have HC := Lib.hid (sameCover_any x A B p q _ (hA.on hb0).fst (hB.on hb0) hl)
  have HA := Lib.hid (hA.on hb0)
  have HB := Lib.hid (hB.on hb0)
  have KX := Lib.hid ((Bk.new w 52 (covL x A p).toArray).alloc (.cells (covL x B q).toArray 52))
  have KZ := Lib.hid (Bk.nxt (w := w) (.cells (covL x A p).toArray 52) 52 (covL x B q).toArray)
  have HB0 := Lib.hid hb0
  clear hA hB hb0
  obtain ⟨x0, x1⟩ := x
  unfold covL at *
  simp only at *
  go_enter Tryz.func68, Tryz.ntmps68
  go_wp2_with fail
  refine HC.out.mono ?_
  rintro e V ⟨rfl, hb⟩
  simp only
  have y8 : V.cell? ⟨w.heap.size, 1, none⟩ = some (.slice A x1.length p) := (KX.out.below hb KX.out.lt).cell 1
  have z8 : V.cell? ⟨w.heap.size + 1, 1, none⟩ = some (.slice B x1.length q) := (KZ.out.below hb KZ.out.lt).cell 1
  have HK := Lib.hid (keptInts2_any A B p q x1 V (HA.out.on hb) (HB.out.on hb) hp hl)
  have HBV := Lib.hid (HB0.out.trans (hb.mono HB0.out.size))
  clear HC HA HB KX KZ HB0 hb
  go_wp2_with fail
  refine HK.out.mono ?_
  rintro e w3 ⟨rfl, hb2⟩
  simp only
  have HBZ := Lib.hid (HBV.out.trans (hb2.mono HBV.out.size))
  clear HK HBV hb2 y8 z8
  go_wp2_with fail
  go_ret
  exact ⟨rfl, HBZ.out⟩
set_option maxRecDepth 100000 in
set_option maxHeartbeats 4000000 in
theorem sameCovers_any (A1 A2 : Option Addr) (c1 c2 : Nat) (l : List Cov) (w : World) (h1 : SlT tCov w (Lt w.heap.size) A1 l) (h2 : SlT tCov w (Lt w.heap.size) A2 l) (hl : l.length ≤ 1000000000) (hp : ∀ x ∈ l, x.rows.length ≤ 17592186043904) :
    Calls Tryz.prog 62 #[.slice A1 l.length c1, .slice A2 l.length c2] w (Ret w (.bool true)) := by
  have HS1 := Lib.hid h1
  have HS2 := Lib.hid h2
  have HP := Lib.hid hp
  clear h1 h2 hp
  have hb0 : ((l.length : Int) != (l.length : Int)) = false := by simp
  go_enter Tryz.func62, Tryz.ntmps62
  go_wp2_with fail
  go_loopw [5] (fun i wr => ∃ k : Nat, k ≤ l.length ∧ i = .int .i64 k ∧ Hid (Below w.heap.size w wr)) (fun i _ => l.length - (intOf i).toNat)
  case atStart => exact ⟨0, Nat.zero_le _, rfl, Lib.hid (Below.refl _ _)⟩
  case round =>
    obtain ⟨k, hk, rfl, HB⟩ := hrel
    obtain ⟨V, rfl⟩ : ∃ V, V = wr := ⟨_, rfl⟩
    by_cases hlt : k < l.length
    · obtain ⟨b1, o1, Ap1, p1, rfl, _, _, hs1, a0, a1⟩ := (HS1.out.on HB.out).cov hlt
      obtain ⟨b2, o2, Ap2, p2, rfl, _, _, hs2, d0, d1⟩ := (HS2.out.on HB.out).cov hlt
      have i0 : (0 : Int) ≤ (k : Int) := by omega
      have i1 : (k : Int) < (l.length : Int) := by omega
      have HXP := HP.out _ (getD_memD hlt default)
      generalize l.getD k default = x at *
      have HC := Lib.hid (fun (V' : World) (hV : Below V.heap.size V V') => sameCover_any x Ap1 Ap2 p1 p2 V' (hs1.on hV) (hs2.on hV) HXP)
      clear hs1 hs2 HXP
      obtain ⟨x0, x1⟩ := x
      unfold covL at HC
      simp only at a0 a1 d0 d1 HC
      go_upto_region 6 with fail
      have a0 : ∀ p : Gr V, p.W.cell? ⟨b1, o1 + k * 2, none⟩ = some (.int .i64 x0) := Gr.cell a0
      have a1 : ∀ p : Gr V, p.W.cell? ⟨b1, o1 + k * 2 + 1, none⟩ = some (.slice Ap1 x1.length p1) := Gr.cell a1
      have d0 : ∀ p : Gr V, p.W.cell? ⟨b2, o2 + k * 2, none⟩ = some (.int .i64 x0) := Gr.cell d0
      have d1 : ∀ p : Gr V, p.W.cell? ⟨b2, o2 + k * 2 + 1, none⟩ = some (.slice Ap2 x1.length p2) := Gr.cell d1
      refine wp_region_gr (by kernel_rfl) (by kernel_rfl) ?_
      repeat (go_big_quiet_step ((with_reducible exact Gr.call _ (fun V hV => HC.out V hV))))
      refine wpQuiet_nil ?_
      rintro Y ⟨⟨_, hbY⟩, rfl⟩
      have HBY := Lib.hid (HB.out.trans (hbY.mono HB.out.size))
      clear a0 a1 d0 d1 hbY HC HB
      go_wp2_with fail
      go_roundw
      case rel => first | exact ⟨k + 1, by omega, by go_num, HBY⟩ | ((repeat apply Exists.intro); (first | exact ⟨⟨k + 1, by omega, by go_num, HBY⟩, rfl⟩ | exact ⟨by omega, by go_num, HBY⟩))
      case measure => simp [intOf]; omega
    · obtain rfl : k = l.length := by omega
      go_wp2_with fail
      go_ret
      exact ⟨rfl, HB.out⟩
theorem lentCo_at {l : List Cov} {k : Nat} (h : k < l.length) : (lentCo l ++ marksCo 12).getD k default = (l.getD k default, marksI 12) := by
  rw [List.getD_eq_getElem?_getD, List.getElem?_append_left (by rw [lentCo_len]; exact h)]
  simp [lentCo, h]
theorem lentCo_beh {l : List Cov} {k : Nat} (h : l.length ≤ k) (h2 : k < l.length + 12) : (lentCo l ++ marksCo 12).getD k default = (mkCov (k - l.length), []) := by
  rw [List.getD_eq_getElem?_getD, List.getElem?_append_right (by rw [lentCo_len]; exact h), lentCo_len]
  simp [marksCo, show k - l.length < 12 by omega]
set_option maxRecDepth 100000 in
set_option maxHeartbeats 4000000 in
theorem keptCovers_any (A1 A2 : Option Addr) (c1 c2 : Nat) (l : List Cov) (w : World) (h1 : SlT tCovK w (Lt w.heap.size) A1 (lentCo l ++ marksCo 12)) (hc : l.length + 12 ≤ c1) (h2 : SlT tCov w (Lt w.heap.size) A2 l) (hl : l.length ≤ 1000000000) (hp : ∀ x ∈ l, x.rows.length ≤ 17592186043904) :
    Calls Tryz.prog 35 #[.slice A1 l.length c1, .slice A2 l.length c2] w (Ret w (.bool true)) := by
  have HS1 := Lib.hid h1
  have HS2 := Lib.hid h2
  have HP := Lib.hid hp
  clear h1 h2 hp
  have hlen : (lentCo l ++ marksCo 12).length = l.length + 12 := by rw [List.length_append, lentCo_len, marksCo_len]
  have HLEN := Lib.hid hlen
  clear hlen
  have hb0 : ((l.length : Int) != (l.length : Int)) = false := by simp
  have j1 : (0 : Int) ≤ (l.length : Int) + 12 := by omega
  have j2 : (l.length : Int) + 12 ≤ (c1 : Int) := by omega
  go_enter Tryz.func35, Tryz.ntmps35
  go_wp2_with fail
  go_loopw [6] (fun i wr => ∃ k : Nat, k ≤ l.length + 12 ∧ i = .int .i64 k ∧ Hid (Below w.heap.size w wr)) (fun i _ => l.length + 12 - (intOf i).toNat)
  case atStart => exact ⟨0, Nat.zero_le _, rfl, Lib.hid (Below.refl _ _)⟩
  case round =>
    obtain ⟨k, hk, rfl, HB⟩ := hrel
    obtain ⟨V, rfl⟩ : ∃ V, V = wr := ⟨_, rfl⟩
    by_cases hlt : k < l.length + 12
    · obtain ⟨b1, o1, Ap1, p1, rfl, _, hp1, hs1, hcel⟩ := (HS1.out.on HB.out).covK (i := k) (by rw [HLEN.out]; exact hlt)
      have i0 : (0 : Int) ≤ (k : Int) := by omega
      have i1 : (k : Int) < (l.length : Int) + 12 := by omega
      by_cases hin : k < l.length
      · obtain ⟨b2, o2, Ap2, p2, rfl, _, _, hs2, d0, d1⟩ := (HS2.out.on HB.out).cov hin
        rw [lentCo_at hin] at hp1 hs1 hcel
        have i2 : (k : Int) < (l.length : Int) := by omega
        have q1 : decide (k < l.length) = true := by simpa using hin
        have q2 : decide (l.length ≤ k) = false := by simp; omega
        have HXP := HP.out _ (getD_memD hin default)
        generalize l.getD k default = x at *
        simp only at hp1 hs1 hcel
        rw [marksI_len] at hp1
        have HC := Lib.hid (fun (V' : World) (hV : Below V.heap.size V V') => keptCover_any x Ap1 Ap2 p1 p2 V' (hs1.on hV) hp1 (hs2.on hV) HXP)
        clear hs1 hs2 HXP hp1
        obtain ⟨x0, x1⟩ := x
        unfold covL at HC hcel
        simp only at d0 d1 HC hcel
        have a0 : V.cell? ⟨b1, o1 + k * 2, none⟩ = some (.int .i64 x0) := hcel 0 _ rfl
        have a1 : V.cell? ⟨b1, o1 + k * 2 + 1, none⟩ = some (.slice Ap1 x1.length p1) := hcel 1 _ rfl
        clear hcel
        go_upto_region 7 with fail
        have a0 : ∀ p : Gr V, p.W.cell? ⟨b1, o1 + k * 2, none⟩ = some (.int .i64 x0) := Gr.cell a0
        have a1 : ∀ p : Gr V, p.W.cell? ⟨b1, o1 + k * 2 + 1, none⟩ = some (.slice Ap1 x1.length p1) := Gr.cell a1
        have d0 : ∀ p : Gr V, p.W.cell? ⟨b2, o2 + k * 2, none⟩ = some (.int .i64 x0) := Gr.cell d0
        have d1 : ∀ p : Gr V, p.W.cell? ⟨b2, o2 + k * 2 + 1, none⟩ = some (.slice Ap2 x1.length p2) := Gr.cell d1
        refine wp_region_gr (by kernel_rfl) (by kernel_rfl) ?_
        repeat (go_big_quiet_step ((with_reducible exact Gr.call _ (fun V hV => HC.out V hV))))
        refine wpQuiet_nil ?_
        rintro Y ⟨⟨_, hbY⟩, rfl⟩
        have HBY := Lib.hid (HB.out.trans (hbY.mono HB.out.size))
        clear a0 a1 d0 d1 hbY HC HB q1 q2
        go_wp2_with fail
        go_roundw
        case rel => first | exact ⟨k + 1, by omega, by go_num, HBY⟩ | ((repeat apply Exists.intro); (first | exact ⟨⟨k + 1, by omega, by go_num, HBY⟩, rfl⟩ | exact ⟨by omega, by go_num, HBY⟩))
        case measure => simp [intOf]; omega
      · rw [lentCo_beh (by omega) hlt] at hp1 hs1 hcel
        have q1 : decide (k < l.length) = false := by simp; omega
        have q2 : decide (l.length ≤ k) = true := by simp; omega
        obtain ⟨j, hj⟩ : ∃ j, k - l.length = j := ⟨_, rfl⟩
        rw [hj] at hp1 hs1 hcel
        have s1 : IntKind.i64.wrap ((k : Int) - (l.length : Int)) = (j : Int) := by rw [IntWalk.i64_in _ (by omega)]; omega
        have HM := Lib.hid (fun (V' : World) (hV : Below V.heap.size V V') => markCover_any j V' (by omega))
        have hnil : (mkCov j).rows = [] := rfl
        have hln : (mkCov j).rows.length = 0 := rfl
        clear hj
        generalize mkCov j = x at *
        simp only [List.append_nil] at hp1 hs1 hcel
        have HC := Lib.hid (fun (V' : World) (hV : Below V.heap.size V V') => sameCover_any x Ap1 none p1 0 V' (hs1.on hV) (by rw [hnil]; exact SlT.nil) (by rw [hnil]; exact Nat.zero_le _))
        clear hs1 hp1
        obtain ⟨x0, x1⟩ := x
        unfold covL at HC hcel HM
        simp only at HC hcel HM hnil hln
        subst hnil
        clear hln
        simp only [List.length_nil] at HC HM
        have a0 : V.cell? ⟨b1, o1 + k * 2, none⟩ = some (.int .i64 x0) := hcel 0 _ rfl
        have a1 : V.cell? ⟨b1, o1 + k * 2 + 1, none⟩ = some (.slice Ap1 0 p1) := hcel 1 _ rfl
        clear hcel
        go_upto_region 7 with fail
        have a0 : ∀ p : Gr V, p.W.cell? ⟨b1, o1 + k * 2, none⟩ = some (.int .i64 x0) := Gr.cell a0
        have a1 : ∀ p : Gr V, p.W.cell? ⟨b1, o1 + k * 2 + 1, none⟩ = some (.slice Ap1 0 p1) := Gr.cell a1
        refine wp_region_gr (by kernel_rfl) (by kernel_rfl) ?_
        repeat (go_big_quiet_step ((first | (with_reducible exact Gr.call _ (fun V hV => HM.out V hV)) | (with_reducible exact Gr.call _ (fun V hV => HC.out V hV)))))
        refine wpQuiet_nil ?_
        rintro Y ⟨⟨_, hbY⟩, rfl⟩
        have HBY := Lib.hid (HB.out.trans (hbY.mono HB.out.size))
        clear a0 a1 hbY HC HB q1 q2 s1 HM
        go_wp2_with fail
        go_roundw
        case rel => first | exact ⟨k + 1, by omega, by go_num, HBY⟩ | ((repeat apply Exists.intro); (first | exact ⟨⟨k + 1, by omega, by go_num, HBY⟩, rfl⟩ | exact ⟨by omega, by go_num, HBY⟩))
        case measure => simp [intOf]; omega
    · obtain rfl : k = l.length + 12 := by omega
      go_wp2_with fail
      go_ret
      exact ⟨rfl, HB.out⟩
end Go.Proofs.YtmhikcleekfbpaaGreatDoor
namespace Go.Proofs.YtmhikcleekfbpaaGreatDoor
open Go.RowKit

set_option maxRecDepth 100000 in
theorem SlT.tnkK {w : World} {S : Nat → Prop} {A : Option Addr} {l : List (Tnk × List Int)} (h : SlT tTnkK w S A l) {i : Nat} (hi : i < l.length) :
    ∃ b off Ap p, A = some ⟨b, off, none⟩ ∧ S b ∧ (l.getD i default).1.steps.length + (l.getD i default).2.length ≤ p ∧ SlT tInt w S Ap ((l.getD i default).1.steps ++ (l.getD i default).2) ∧
      ∀ j u, (tnkL (l.getD i default).1 Ap p)[j]? = some u → w.cell? ⟨b, off + i * 6 + j, none⟩ = some u := by
  obtain ⟨b, off, cs, e, hb, ⟨Ap, p, rfl, h1, h2⟩, hc⟩ := h.at_ hi default
  exact ⟨b, off, Ap, p, e, hb, h1, h2, fun j u hu => hc j u hu⟩
set_option maxRecDepth 100000 in
set_option maxHeartbeats 4000000 in
theorem sameTank_any (x : Tnk) (A B : Option Addr) (p q : Nat) (w : World) (hA : SlT tInt w (Lt w.heap.size) A x.steps) (hB : SlT tInt w (Lt w.heap.size) B x.steps) (hl : x.steps.length ≤ 17592186043904) :
    Calls Tryz.prog 71 #[.agg (tnkL x A p).toArray, .agg (tnkL x B q).toArray] w (Ret w (.bool true)) := by
  have hb0 := ba2 w (.cells (tnkL x A p).toArray 118) (.cells (tnkL x B q).toArray 118)
  have HC := Lib.hid (sameInts_any A B p q x.steps x.steps _ _ _ (hA.on hb0) (hB.on hb0) (by unfold maxLen; omega))
  rw [decide_eq_true rfl] at HC
  have HB0 := Lib.hid hb0
  clear hA hB hb0
  obtain ⟨x0, x1, x2, x3, x4, x5⟩ := x
  unfold tnkL at *
  simp only at *
  go_enter Tryz.func71, Tryz.ntmps71
  go_wp2_with fail
  refine HC.out.mono ?_
  rintro e w3 ⟨rfl, m, rfl⟩
  simp only
  clear HC
  go_wp2_with fail
  go_ret
  exact ⟨rfl, below_drewN HB0.out m⟩
set_option maxRecDepth 100000 in
set_option maxHeartbeats 4000000 in
theorem keptTank_any (x : Tnk) (A B : Option Addr) (p q : Nat) (w : World) (hA : SlT tInt w (Lt w.heap.size) A (x.steps ++ marksI 12)) (hp : x.steps.length + 12 ≤ p) (hB : SlT tInt w (Lt w.heap.size) B x.steps) (hl : x.steps.length ≤ 17592186043904) :
    Calls Tryz.prog 70 #[.agg (tnkL x A p).toArray, .agg (tnkL x B q).toArray] w (Ret w (.bool true)) := by
  have hb0 := ba2 w (.cells (tnkL x A p).toArray 118) (.cells (tnkL x B q).toArray 118)
  have HC := Lib.hid (sameTank_any x A B p q _ (hA.on hb0).fst (hB.on hb0) hl)
  have HA := Lib.hid (hA.on hb0)
  have HB := Lib.hid (hB.on hb0)
  have KX := Lib.hid ((Bk.new w 118 (tnkL x A p).toArray).alloc (.cells (tnkL x B q).toArray 118))
  have KZ := Lib.hid (Bk.nxt (w := w) (.cells (tnkL x A p).toArray 118) 118 (tnkL x B q).toArray)
  have HB0 := Lib.hid hb0
  clear hA hB hb0
  obtain ⟨x0, x1, x2, x3, x4, x5⟩ := x
  unfold tnkL at *
  simp only at *
  go_enter Tryz.func70, Tryz.ntmps70
  go_wp2_with fail
  refine HC.out.mono ?_
  rintro e V ⟨rfl, hb⟩
  simp only
  have y8 : V.cell? ⟨w.heap.size, 5, none⟩ = some (.slice A x5.length p) := (KX.out.below hb KX.out.lt).cell 5
  have z8 : V.cell? ⟨w.heap.size + 1, 5, none⟩ = some (.slice B x5.length q) := (KZ.out.below hb KZ.out.lt).cell 5
  have HK := Lib.hid (keptInts2_any A B p q x5 V (HA.out.on hb) (HB.out.on hb) hp hl)
  have HBV := Lib.hid (HB0.out.trans (hb.mono HB0.out.size))
  clear HC HA HB KX KZ HB0 hb
  go_wp2_with fail
  refine HK.out.mono ?_
  rintro e w3 ⟨rfl, hb2⟩
  simp only
  have HBZ := Lib.hid (HBV.out.trans (hb2.mono HBV.out.size))
  clear HK HBV hb2 y8 z8
  go_wp2_with fail
  go_ret
  exact ⟨rfl, HBZ.out⟩
set_option maxRecDepth 100000 in
set_option maxHeartbeats 4000000 in
theorem sameTanks_any (A1 A2 : Option Addr) (c1 c2 : Nat) (l : List Tnk) (w : World) (h1 : SlT tTnk w (Lt w.heap.size) A1 l) (h2 : SlT tTnk w (Lt w.heap.size) A2 l) (hl : l.length ≤ 2199023255488) (hp : ∀ x ∈ l, x.steps.length ≤ 17592186043904) :
    Calls Tryz.prog 65 #[.slice A1 l.length c1, .slice A2 l.length c2] w (Ret w (.bool true)) := by
  have HS1 := Lib.hid h1
  have HS2 := Lib.hid h2
  have HP := Lib.hid hp
  clear h1 h2 hp
  have hb0 : ((l.length : Int) != (l.length : Int)) = false := by simp
  go_enter Tryz.func65, Tryz.ntmps65
  go_wp2_with fail
  go_loopw [5] (fun i wr => ∃ k : Nat, k ≤ l.length ∧ i = .int .i64 k ∧ Hid (Below w.heap.size w wr)) (fun i _ => l.length - (intOf i).toNat)
  case atStart => exact ⟨0, Nat.zero_le _, rfl, Lib.hid (Below.refl _ _)⟩
  case round =>
    obtain ⟨k, hk, rfl, HB⟩ := hrel
    obtain ⟨V, rfl⟩ : ∃ V, V = wr := ⟨_, rfl⟩
    by_cases hlt : k < l.length
    · obtain ⟨b1, o1, Ap1, p1, rfl, _, _, hs1, a0, a1, a2, a3, a4, a5⟩ := (HS1.out.on HB.out).tnk hlt
      obtain ⟨b2, o2, Ap2, p2, rfl, _, _, hs2, d0, d1, d2, d3, d4, d5⟩ := (HS2.out.on HB.out).tnk hlt
      have i0 : (0 : Int) ≤ (k : Int) := by omega
      have i1 : (k : Int) < (l.length : Int) := by omega
      have HXP := HP.out _ (getD_memD hlt default)
      generalize l.getD k default = x at *
      have HC := Lib.hid (fun (V' : World) (hV : Below V.heap.size V V') => sameTank_any x Ap1 Ap2 p1 p2 V' (hs1.on hV) (hs2.on hV) HXP)
      clear hs1 hs2 HXP
      obtain ⟨x0, x1, x2, x3, x4, x5⟩ := x
      unfold tnkL at HC
      simp only at a0 a1 a2 a3 a4 a5 d0 d1 d2 d3 d4 d5 HC
      go_upto_region 6 with fail
      have a0 : ∀ p : Gr V, p.W.cell? ⟨b1, o1 + k * 6, none⟩ = some (.int .i64 x0) := Gr.cell a0
      have a1 : ∀ p : Gr V, p.W.cell? ⟨b1, o1 + k * 6 + 1, none⟩ = some (.int .i64 x1) := Gr.cell a1
      have a2 : ∀ p : Gr V, p.W.cell? ⟨b1, o1 + k * 6 + 2, none⟩ = some (.int .i64 x2) := Gr.cell a2
      have a3 : ∀ p : Gr V, p.W.cell? ⟨b1, o1 + k * 6 + 3, none⟩ = some (.int .i64 x3) := Gr.cell a3
      have a4 : ∀ p : Gr V, p.W.cell? ⟨b1, o1 + k * 6 + 4, none⟩ = some (.int .i64 x4) := Gr.cell a4
      have a5 : ∀ p : Gr V, p.W.cell? ⟨b1, o1 + k * 6 + 5, none⟩ = some (.slice Ap1 x5.length p1) := Gr.cell a5
      have d0 : ∀ p : Gr V, p.W.cell? ⟨b2, o2 + k * 6, none⟩ = some (.int .i64 x0) := Gr.cell d0
      have d1 : ∀ p : Gr V, p.W.cell? ⟨b2, o2 + k * 6 + 1, none⟩ = some (.int .i64 x1) := Gr.cell d1
      have d2 : ∀ p : Gr V, p.W.cell? ⟨b2, o2 + k * 6 + 2, none⟩ = some (.int .i64 x2) := Gr.cell d2
      have d3 : ∀ p : Gr V, p.W.cell? ⟨b2, o2 + k * 6 + 3, none⟩ = some (.int .i64 x3) := Gr.cell d3
      have d4 : ∀ p : Gr V, p.W.cell? ⟨b2, o2 + k * 6 + 4, none⟩ = some (.int .i64 x4) := Gr.cell d4
      have d5 : ∀ p : Gr V, p.W.cell? ⟨b2, o2 + k * 6 + 5, none⟩ = some (.slice Ap2 x5.length p2) := Gr.cell d5
      refine wp_region_gr (by kernel_rfl) (by kernel_rfl) ?_
      repeat (go_big_quiet_step ((with_reducible exact Gr.call _ (fun V hV => HC.out V hV))))
      refine wpQuiet_nil ?_
      rintro Y ⟨⟨_, hbY⟩, rfl⟩
      have HBY := Lib.hid (HB.out.trans (hbY.mono HB.out.size))
      clear a0 a1 a2 a3 a4 a5 d0 d1 d2 d3 d4 d5 hbY HC HB
      go_wp2_with fail
      go_roundw
      case rel => first | exact ⟨k + 1, by omega, by go_num, HBY⟩ | ((repeat apply Exists.intro); (first | exact ⟨⟨k + 1, by omega, by go_num, HBY⟩, rfl⟩ | exact ⟨by omega, by go_num, HBY⟩))
      case measure => simp [intOf]; omega
    · obtain rfl : k = l.length := by omega
      go_wp2_with fail
      go_ret
      exact ⟨rfl, HB.out⟩
theorem lentTn_at {l : List Tnk} {k : Nat} (h : k < l.length) : (lentTn l ++ marksTn 12).getD k default = (l.getD k default, marksI 12) := by
  rw [List.getD_eq_getElem?_getD, List.getElem?_append_left (by rw [lentTn_len]; exact h)]
  simp [lentTn, h]
theorem lentTn_beh {l : List Tnk} {k : Nat} (h : l.length ≤ k) (h2 : k < l.length + 12) : (lentTn l ++ marksTn 12).getD k default = (mkTnk (k - l.length), []) := by
  rw [List.getD_eq_getElem?_getD, List.getElem?_append_right (by rw [lentTn_len]; exact h), lentTn_len]
  simp [marksTn, show k - l.length < 12 by omega]
set_option maxRecDepth 100000 in
set_option maxHeartbeats 4000000 in
theorem keptTanks_any (A1 A2 : Option Addr) (c1 c2 : Nat) (l : List Tnk) (w : World) (h1 : SlT tTnkK w (Lt w.heap.size) A1 (lentTn l ++ marksTn 12)) (hc : l.length + 12 ≤ c1) (h2 : SlT tTnk w (Lt w.heap.size) A2 l) (hl : l.length ≤ 2199023255488) (hp : ∀ x ∈ l, x.steps.length ≤ 17592186043904) :
    Calls Tryz.prog 38 #[.slice A1 l.length c1, .slice A2 l.length c2] w (Ret w (.bool true)) := by
  have HS1 := Lib.hid h1
  have HS2 := Lib.hid h2
  have HP := Lib.hid hp
  clear h1 h2 hp
  have hlen : (lentTn l ++ marksTn 12).length = l.length + 12 := by rw [List.length_append, lentTn_len, marksTn_len]
  have HLEN := Lib.hid hlen
  clear hlen
  have hb0 : ((l.length : Int) != (l.length : Int)) = false := by simp
  have j1 : (0 : Int) ≤ (l.length : Int) + 12 := by omega
  have j2 : (l.length : Int) + 12 ≤ (c1 : Int) := by omega
  go_enter Tryz.func38, Tryz.ntmps38
  go_wp2_with fail
  go_loopw [6] (fun i wr => ∃ k : Nat, k ≤ l.length + 12 ∧ i = .int .i64 k ∧ Hid (Below w.heap.size w wr)) (fun i _ => l.length + 12 - (intOf i).toNat)
  case atStart => exact ⟨0, Nat.zero_le _, rfl, Lib.hid (Below.refl _ _)⟩
  case round =>
    obtain ⟨k, hk, rfl, HB⟩ := hrel
    obtain ⟨V, rfl⟩ : ∃ V, V = wr := ⟨_, rfl⟩
    by_cases hlt : k < l.length + 12
    · obtain ⟨b1, o1, Ap1, p1, rfl, _, hp1, hs1, hcel⟩ := (HS1.out.on HB.out).tnkK (i := k) (by rw [HLEN.out]; exact hlt)
      have i0 : (0 : Int) ≤ (k : Int) := by omega
      have i1 : (k : Int) < (l.length : Int) + 12 := by omega
      by_cases hin : k < l.length
      · obtain ⟨b2, o2, Ap2, p2, rfl, _, _, hs2, d0, d1, d2, d3, d4, d5⟩ := (HS2.out.on HB.out).tnk hin
        rw [lentTn_at hin] at hp1 hs1 hcel
        have i2 : (k : Int) < (l.length : Int) := by omega
        have q1 : decide (k < l.length) = true := by simpa using hin
        have q2 : decide (l.length ≤ k) = false := by simp; omega
        have HXP := HP.out _ (getD_memD hin default)
        generalize l.getD k default = x at *
        simp only at hp1 hs1 hcel
        rw [marksI_len] at hp1
        have HC := Lib.hid (fun (V' : World) (hV : Below V.heap.size V V') => keptTank_any x Ap1 Ap2 p1 p2 V' (hs1.on hV) hp1 (hs2.on hV) HXP)
        clear hs1 hs2 HXP hp1
        obtain ⟨x0, x1, x2, x3, x4, x5⟩ := x
        unfold tnkL at HC hcel
        simp only at d0 d1 d2 d3 d4 d5 HC hcel
        have a0 : V.cell? ⟨b1, o1 + k * 6, none⟩ = some (.int .i64 x0) := hcel 0 _ rfl
        have a1 : V.cell? ⟨b1, o1 + k * 6 + 1, none⟩ = some (.int .i64 x1) := hcel 1 _ rfl
        have a2 : V.cell? ⟨b1, o1 + k * 6 + 2, none⟩ = some (.int .i64 x2) := hcel 2 _ rfl
        have a3 : V.cell? ⟨b1, o1 + k * 6 + 3, none⟩ = some (.int .i64 x3) := hcel 3 _ rfl
        have a4 : V.cell? ⟨b1, o1 + k * 6 + 4, none⟩ = some (.int .i64 x4) := hcel 4 _ rfl
        have a5 : V.cell? ⟨b1, o1 + k * 6 + 5, none⟩ = some (.slice Ap1 x5.length p1) := hcel 5 _ rfl
        clear hcel
        go_upto_region 7 with fail
        have a0 : ∀ p : Gr V, p.W.cell? ⟨b1, o1 + k * 6, none⟩ = some (.int .i64 x0) := Gr.cell a0
        have a1 : ∀ p : Gr V, p.W.cell? ⟨b1, o1 + k * 6 + 1, none⟩ = some (.int .i64 x1) := Gr.cell a1
        have a2 : ∀ p : Gr V, p.W.cell? ⟨b1, o1 + k * 6 + 2, none⟩ = some (.int .i64 x2) := Gr.cell a2
        have a3 : ∀ p : Gr V, p.W.cell? ⟨b1, o1 + k * 6 + 3, none⟩ = some (.int .i64 x3) := Gr.cell a3
        have a4 : ∀ p : Gr V, p.W.cell? ⟨b1, o1 + k * 6 + 4, none⟩ = some (.int .i64 x4) := Gr.cell a4
        have a5 : ∀ p : Gr V, p.W.cell? ⟨b1, o1 + k * 6 + 5, none⟩ = some (.slice Ap1 x5.length p1) := Gr.cell a5
        have d0 : ∀ p : Gr V, p.W.cell? ⟨b2, o2 + k * 6, none⟩ = some (.int .i64 x0) := Gr.cell d0
        have d1 : ∀ p : Gr V, p.W.cell? ⟨b2, o2 + k * 6 + 1, none⟩ = some (.int .i64 x1) := Gr.cell d1
        have d2 : ∀ p : Gr V, p.W.cell? ⟨b2, o2 + k * 6 + 2, none⟩ = some (.int .i64 x2) := Gr.cell d2
        have d3 : ∀ p : Gr V, p.W.cell? ⟨b2, o2 + k * 6 + 3, none⟩ = some (.int .i64 x3) := Gr.cell d3
        have d4 : ∀ p : Gr V, p.W.cell? ⟨b2, o2 + k * 6 + 4, none⟩ = some (.int .i64 x4) := Gr.cell d4
        have d5 : ∀ p : Gr V, p.W.cell? ⟨b2, o2 + k * 6 + 5, none⟩ = some (.slice Ap2 x5.length p2) := Gr.cell d5
        refine wp_region_gr (by kernel_rfl) (by kernel_rfl) ?_
        repeat (go_big_quiet_step ((with_reducible exact Gr.call _ (fun V hV => HC.out V hV))))
        refine wpQuiet_nil ?_
        rintro Y ⟨⟨_, hbY⟩, rfl⟩
        have HBY := Lib.hid (HB.out.trans (hbY.mono HB.out.size))
        clear a0 a1 a2 a3 a4 a5 d0 d1 d2 d3 d4 d5 hbY HC HB q1 q2
        go_wp2_with fail
        go_roundw
        case rel => first | exact ⟨k + 1, by omega, by go_num, HBY⟩ | ((repeat apply Exists.intro); (first | exact ⟨⟨k + 1, by omega, by go_num, HBY⟩, rfl⟩ | exact ⟨by omega, by go_num, HBY⟩))
        case measure => simp [intOf]; omega
      · rw [lentTn_beh (by omega) hlt] at hp1 hs1 hcel
        have q1 : decide (k < l.length) = false := by simp; omega
        have q2 : decide (l.length ≤ k) = true := by simp; omega
        obtain ⟨j, hj⟩ : ∃ j, k - l.length = j := ⟨_, rfl⟩
        rw [hj] at hp1 hs1 hcel
        have s1 : IntKind.i64.wrap ((k : Int) - (l.length : Int)) = (j : Int) := by rw [IntWalk.i64_in _ (by omega)]; omega
        have HM := Lib.hid (fun (V' : World) (hV : Below V.heap.size V V') => markTank_any j V' (by omega))
        have hnil : (mkTnk j).steps = [] := rfl
        have hln : (mkTnk j).steps.length = 0 := rfl
        clear hj
        generalize mkTnk j = x at *
        simp only [List.append_nil] at hp1 hs1 hcel
        have HC := Lib.hid (fun (V' : World) (hV : Below V.heap.size V V') => sameTank_any x Ap1 none p1 0 V' (hs1.on hV) (by rw [hnil]; exact SlT.nil) (by rw [hnil]; exact Nat.zero_le _))
        clear hs1 hp1
        obtain ⟨x0, x1, x2, x3, x4, x5⟩ := x
        unfold tnkL at HC hcel HM
        simp only at HC hcel HM hnil hln
        subst hnil
        clear hln
        simp only [List.length_nil] at HC HM
        have a0 : V.cell? ⟨b1, o1 + k * 6, none⟩ = some (.int .i64 x0) := hcel 0 _ rfl
        have a1 : V.cell? ⟨b1, o1 + k * 6 + 1, none⟩ = some (.int .i64 x1) := hcel 1 _ rfl
        have a2 : V.cell? ⟨b1, o1 + k * 6 + 2, none⟩ = some (.int .i64 x2) := hcel 2 _ rfl
        have a3 : V.cell? ⟨b1, o1 + k * 6 + 3, none⟩ = some (.int .i64 x3) := hcel 3 _ rfl
        have a4 : V.cell? ⟨b1, o1 + k * 6 + 4, none⟩ = some (.int .i64 x4) := hcel 4 _ rfl
        have a5 : V.cell? ⟨b1, o1 + k * 6 + 5, none⟩ = some (.slice Ap1 0 p1) := hcel 5 _ rfl
        clear hcel
        go_upto_region 7 with fail
        have a0 : ∀ p : Gr V, p.W.cell? ⟨b1, o1 + k * 6, none⟩ = some (.int .i64 x0) := Gr.cell a0
        have a1 : ∀ p : Gr V, p.W.cell? ⟨b1, o1 + k * 6 + 1, none⟩ = some (.int .i64 x1) := Gr.cell a1
        have a2 : ∀ p : Gr V, p.W.cell? ⟨b1, o1 + k * 6 + 2, none⟩ = some (.int .i64 x2) := Gr.cell a2
        have a3 : ∀ p : Gr V, p.W.cell? ⟨b1, o1 + k * 6 + 3, none⟩ = some (.int .i64 x3) := Gr.cell a3
        have a4 : ∀ p : Gr V, p.W.cell? ⟨b1, o1 + k * 6 + 4, none⟩ = some (.int .i64 x4) := Gr.cell a4
        have a5 : ∀ p : Gr V, p.W.cell? ⟨b1, o1 + k * 6 + 5, none⟩ = some (.slice Ap1 0 p1) := Gr.cell a5
        refine wp_region_gr (by kernel_rfl) (by kernel_rfl) ?_
        repeat (go_big_quiet_step ((first | (with_reducible exact Gr.call _ (fun V hV => HM.out V hV)) | (with_reducible exact Gr.call _ (fun V hV => HC.out V hV)))))
        refine wpQuiet_nil ?_
        rintro Y ⟨⟨_, hbY⟩, rfl⟩
        have HBY := Lib.hid (HB.out.trans (hbY.mono HB.out.size))
        clear a0 a1 a2 a3 a4 a5 hbY HC HB q1 q2 s1 HM
        go_wp2_with fail
        go_roundw
        case rel => first | exact ⟨k + 1, by omega, by go_num, HBY⟩ | ((repeat apply Exists.intro); (first | exact ⟨⟨k + 1, by omega, by go_num, HBY⟩, rfl⟩ | exact ⟨by omega, by go_num, HBY⟩))
        case measure => simp [intOf]; omega
    · obtain rfl : k = l.length + 12 := by omega
      go_wp2_with fail
      go_ret
      exact ⟨rfl, HB.out⟩
end Go.Proofs.YtmhikcleekfbpaaGreatDoor
namespace Go.Proofs.YtmhikcleekfbpaaGreatDoor
open Go.RowKit

theorem SlT.row5 {w : World} {S : Nat → Prop} {A : Option Addr} {l : List (List Int)} (h : SlT tRow w S A l) {i : Nat} (hi : i < l.length) :
    ∃ b off, A = some ⟨b, off, none⟩ ∧ S b ∧ ∃ r0 r1 r2 r3 r4 : Int, l.getD i default = [r0, r1, r2, r3, r4] ∧ w.cell? ⟨b, off + i * 5, none⟩ = some (.int .i64 r0) ∧ w.cell? ⟨b, off + i * 5 + 1, none⟩ = some (.int .i64 r1) ∧ w.cell? ⟨b, off + i * 5 + 2, none⟩ = some (.int .i64 r2) ∧ w.cell? ⟨b, off + i * 5 + 3, none⟩ = some (.int .i64 r3) ∧ w.cell? ⟨b, off + i * 5 + 4, none⟩ = some (.int .i64 r4) := by
  obtain ⟨b, off, cs, e, hb, ⟨hl, hcs⟩, hc⟩ := h.at_ hi default
  refine ⟨b, off, e, hb, ?_⟩
  generalize l.getD i default = r at *
  match r, hl with
  | [r0, r1, r2, r3, r4], _ =>
    subst hcs
    exact ⟨r0, r1, r2, r3, r4, rfl, hc 0 _ rfl, hc 1 _ rfl, hc 2 _ rfl, hc 3 _ rfl, hc 4 _ rfl⟩
theorem run_neq_row (a b c d e : Int) (W : World) : (binOp .neq 112 (.agg #[.int .i64 a, .int .i64 b, .int .i64 c, .int .i64 d, .int .i64 e]) (.agg #[.int .i64 a, .int .i64 b, .int .i64 c, .int .i64 d, .int .i64 e])).run Tryz.prog W = .ok (.bool false) W := by
  simp [go_sem]
theorem run_eql_row (a b c d e : Int) (W : World) : (binOp .eql 112 (.agg #[.int .i64 a, .int .i64 b, .int .i64 c, .int .i64 d, .int .i64 e]) (.agg #[.int .i64 a, .int .i64 b, .int .i64 c, .int .i64 d, .int .i64 e])).run Tryz.prog W = .ok (.bool true) W := by
  simp [go_sem]
set_option maxRecDepth 100000 in
set_option maxHeartbeats 4000000 in
theorem sameRows_any (A1 A2 : Option Addr) (c1 c2 : Nat) (l : List (List Int)) (w : World) (h1 : SlT tRow w (Lt w.heap.size) A1 l) (h2 : SlT tRow w (Lt w.heap.size) A2 l) (hl : l.length ≤ 3518437208780) :
    Calls Tryz.prog 63 #[.slice A1 l.length c1, .slice A2 l.length c2] w (Ret w (.bool true)) := by
  have HS1 := Lib.hid h1
  have HS2 := Lib.hid h2
  clear h1 h2
  have hb0 : ((l.length : Int) != (l.length : Int)) = false := by simp
  go_enter Tryz.func63, Tryz.ntmps63
  go_wp2_with fail
  go_loopw [5] (fun i wr => ∃ k : Nat, k ≤ l.length ∧ i = .int .i64 k ∧ Hid (Below w.heap.size w wr)) (fun i _ => l.length - (intOf i).toNat)
  case atStart => exact ⟨0, Nat.zero_le _, rfl, Lib.hid (Below.refl _ _)⟩
  case round =>
    obtain ⟨k, hk, rfl, HB⟩ := hrel
    obtain ⟨V, rfl⟩ : ∃ V, V = wr := ⟨_, rfl⟩
    by_cases hlt : k < l.length
    · obtain ⟨b1, o1, rfl, _, r0, r1, r2, r3, r4, hr, a0, a1, a2, a3, a4⟩ := (HS1.out.on HB.out).row5 hlt
      obtain ⟨b2, o2, rfl, _, s0, s1, s2, s3, s4, hs, d0, d1, d2, d3, d4⟩ := (HS2.out.on HB.out).row5 hlt
      rw [hr] at hs
      simp only [List.cons.injEq, and_true] at hs
      obtain ⟨rfl, rfl, rfl, rfl, rfl⟩ := hs
      clear hr
      have i0 : (0 : Int) ≤ (k : Int) := by omega
      have i1 : (k : Int) < (l.length : Int) := by omega
      have hrun := run_neq_row r0 r1 r2 r3 r4
      go_upto_region 6 with fail
      have a0 : ∀ p : Gr V, p.W.cell? ⟨b1, o1 + k * 5, none⟩ = some (.int .i64 r0) := Gr.cell a0
      have a1 : ∀ p : Gr V, p.W.cell? ⟨b1, o1 + k * 5 + 1, none⟩ = some (.int .i64 r1) := Gr.cell a1
      have a2 : ∀ p : Gr V, p.W.cell? ⟨b1, o1 + k * 5 + 2, none⟩ = some (.int .i64 r2) := Gr.cell a2
      have a3 : ∀ p : Gr V, p.W.cell? ⟨b1, o1 + k * 5 + 3, none⟩ = some (.int .i64 r3) := Gr.cell a3
      have a4 : ∀ p : Gr V, p.W.cell? ⟨b1, o1 + k * 5 + 4, none⟩ = some (.int .i64 r4) := Gr.cell a4
      have d0 : ∀ p : Gr V, p.W.cell? ⟨b2, o2 + k * 5, none⟩ = some (.int .i64 r0) := Gr.cell d0
      have d1 : ∀ p : Gr V, p.W.cell? ⟨b2, o2 + k * 5 + 1, none⟩ = some (.int .i64 r1) := Gr.cell d1
      have d2 : ∀ p : Gr V, p.W.cell? ⟨b2, o2 + k * 5 + 2, none⟩ = some (.int .i64 r2) := Gr.cell d2
      have d3 : ∀ p : Gr V, p.W.cell? ⟨b2, o2 + k * 5 + 3, none⟩ = some (.int .i64 r3) := Gr.cell d3
      have d4 : ∀ p : Gr V, p.W.cell? ⟨b2, o2 + k * 5 + 4, none⟩ = some (.int .i64 r4) := Gr.cell d4
      refine wp_region_gr (by kernel_rfl) (by kernel_rfl) ?_
      repeat (go_big_quiet_step (fail))
      refine wpQuiet_nil ?_
      rintro Y ⟨⟨_, hbY⟩, rfl⟩
      have HBY := Lib.hid (HB.out.trans (hbY.mono HB.out.size))
      clear a0 a1 a2 a3 a4 d0 d1 d2 d3 d4 hbY HB hrun
      go_wp2_with fail
      go_roundw
      case rel => first | exact ⟨k + 1, by omega, by go_num, HBY⟩ | ((repeat apply Exists.intro); (first | exact ⟨⟨k + 1, by omega, by go_num, HBY⟩, rfl⟩ | exact ⟨by omega, by go_num, HBY⟩))
      case measure => simp [intOf]; omega
    · obtain rfl : k = l.length := by omega
      go_wp2_with fail
      go_ret
      exact ⟨rfl, HB.out⟩
theorem marksRow_at {l : List (List Int)} {k : Nat} (h : k < l.length) : (l ++ marksRow 12).getD k default = l.getD k default := by
  rw [List.getD_eq_getElem?_getD, List.getElem?_append_left h, List.getD_eq_getElem?_getD]
theorem marksRow_beh {l : List (List Int)} {k : Nat} (h : l.length ≤ k) (h2 : k < l.length + 12) : (l ++ marksRow 12).getD k default = mkRow (k - l.length) := by
  rw [List.getD_eq_getElem?_getD, List.getElem?_append_right h]
  simp [marksRow, show k - l.length < 12 by omega]
set_option maxRecDepth 100000 in
set_option maxHeartbeats 4000000 in
theorem keptRows_any (A1 A2 : Option Addr) (c1 c2 : Nat) (l : List (List Int)) (w : World) (h1 : SlT tRow w (Lt w.heap.size) A1 (l ++ marksRow 12)) (hc : l.length + 12 ≤ c1) (h2 : SlT tRow w (Lt w.heap.size) A2 l) (hl : l.length ≤ 3518437208780) :
    Calls Tryz.prog 36 #[.slice A1 l.length c1, .slice A2 l.length c2] w (Ret w (.bool true)) := by
  have HS1 := Lib.hid h1
  have HS2 := Lib.hid h2
  clear h1 h2
  have HLEN : Hid ((l ++ marksRow 12).length = l.length + 12) := Lib.hid (by rw [List.length_append, marksRow_len])
  have hb0 : ((l.length : Int) != (l.length : Int)) = false := by simp
  have j1 : (0 : Int) ≤ (l.length : Int) + 12 := by omega
  have j2 : (l.length : Int) + 12 ≤ (c1 : Int) := by omega
  go_enter Tryz.func36, Tryz.ntmps36
  go_wp2_with fail
  go_loopw [6] (fun i wr => ∃ k : Nat, k ≤ l.length + 12 ∧ i = .int .i64 k ∧ Hid (Below w.heap.size w wr)) (fun i _ => l.length + 12 - (intOf i).toNat)
  case atStart => exact ⟨0, Nat.zero_le _, rfl, Lib.hid (Below.refl _ _)⟩
  case round =>
    obtain ⟨k, hk, rfl, HB⟩ := hrel
    obtain ⟨V, rfl⟩ : ∃ V, V = wr := ⟨_, rfl⟩
    by_cases hlt : k < l.length + 12
    · obtain ⟨b1, o1, rfl, _, r0, r1, r2, r3, r4, hr, a0, a1, a2, a3, a4⟩ := (HS1.out.on HB.out).row5 (i := k) (by rw [HLEN.out]; exact hlt)
      have i0 : (0 : Int) ≤ (k : Int) := by omega
      have i1 : (k : Int) < (l.length : Int) + 12 := by omega
      by_cases hin : k < l.length
      · obtain ⟨b2, o2, rfl, _, s0, s1, s2, s3, s4, hs, d0, d1, d2, d3, d4⟩ := (HS2.out.on HB.out).row5 hin
        rw [marksRow_at hin, hs] at hr
        simp only [List.cons.injEq, and_true] at hr
        obtain ⟨rfl, rfl, rfl, rfl, rfl⟩ := hr
        clear hs
        have i2 : (k : Int) < (l.length : Int) := by omega
        have q1 : decide (k < l.length) = true := by simpa using hin
        have q2 : decide (l.length ≤ k) = false := by simp; omega
        have hrun := run_eql_row s0 s1 s2 s3 s4
        go_upto_region 7 with fail
        have a0 : ∀ p : Gr V, p.W.cell? ⟨b1, o1 + k * 5, none⟩ = some (.int .i64 s0) := Gr.cell a0
        have a1 : ∀ p : Gr V, p.W.cell? ⟨b1, o1 + k * 5 + 1, none⟩ = some (.int .i64 s1) := Gr.cell a1
        have a2 : ∀ p : Gr V, p.W.cell? ⟨b1, o1 + k * 5 + 2, none⟩ = some (.int .i64 s2) := Gr.cell a2
        have a3 : ∀ p : Gr V, p.W.cell? ⟨b1, o1 + k * 5 + 3, none⟩ = some (.int .i64 s3) := Gr.cell a3
        have a4 : ∀ p : Gr V, p.W.cell? ⟨b1, o1 + k * 5 + 4, none⟩ = some (.int .i64 s4) := Gr.cell a4
        have d0 : ∀ p : Gr V, p.W.cell? ⟨b2, o2 + k * 5, none⟩ = some (.int .i64 s0) := Gr.cell d0
        have d1 : ∀ p : Gr V, p.W.cell? ⟨b2, o2 + k * 5 + 1, none⟩ = some (.int .i64 s1) := Gr.cell d1
        have d2 : ∀ p : Gr V, p.W.cell? ⟨b2, o2 + k * 5 + 2, none⟩ = some (.int .i64 s2) := Gr.cell d2
        have d3 : ∀ p : Gr V, p.W.cell? ⟨b2, o2 + k * 5 + 3, none⟩ = some (.int .i64 s3) := Gr.cell d3
        have d4 : ∀ p : Gr V, p.W.cell? ⟨b2, o2 + k * 5 + 4, none⟩ = some (.int .i64 s4) := Gr.cell d4
        refine wp_region_gr (by kernel_rfl) (by kernel_rfl) ?_
        repeat (go_big_quiet_step (fail))
        refine wpQuiet_nil ?_
        rintro Y ⟨⟨_, hbY⟩, rfl⟩
        have HBY := Lib.hid (HB.out.trans (hbY.mono HB.out.size))
        clear a0 a1 a2 a3 a4 d0 d1 d2 d3 d4 hbY HB q1 q2 hrun
        go_wp2_with fail
        go_roundw
        case rel => first | exact ⟨k + 1, by omega, by go_num, HBY⟩ | ((repeat apply Exists.intro); (first | exact ⟨⟨k + 1, by omega, by go_num, HBY⟩, rfl⟩ | exact ⟨by omega, by go_num, HBY⟩))
        case measure => simp [intOf]; omega
      · rw [marksRow_beh (by omega) hlt] at hr
        have q1 : decide (k < l.length) = false := by simp; omega
        have q2 : decide (l.length ≤ k) = true := by simp; omega
        obtain ⟨j, hj⟩ : ∃ j, k - l.length = j := ⟨_, rfl⟩
        rw [hj] at hr
        have sj : IntKind.i64.wrap ((k : Int) - (l.length : Int)) = (j : Int) := by rw [IntWalk.i64_in _ (by omega)]; omega
        have HM := Lib.hid (fun (V' : World) (hV : Below V.heap.size V V') => markRow_any j V' (by omega))
        clear hj
        simp only [mkRow, List.cons.injEq, and_true] at hr
        obtain ⟨rfl, rfl, rfl, rfl, rfl⟩ := hr
        generalize mk1 j = z at *
        have hrun := run_eql_row 0 z 0 0 0
        go_upto_region 7 with fail
        have a0 : ∀ p : Gr V, p.W.cell? ⟨b1, o1 + k * 5, none⟩ = some (.int .i64 0) := Gr.cell a0
        have a1 : ∀ p : Gr V, p.W.cell? ⟨b1, o1 + k * 5 + 1, none⟩ = some (.int .i64 z) := Gr.cell a1
        have a2 : ∀ p : Gr V, p.W.cell? ⟨b1, o1 + k * 5 + 2, none⟩ = some (.int .i64 0) := Gr.cell a2
        have a3 : ∀ p : Gr V, p.W.cell? ⟨b1, o1 + k * 5 + 3, none⟩ = some (.int .i64 0) := Gr.cell a3
        have a4 : ∀ p : Gr V, p.W.cell? ⟨b1, o1 + k * 5 + 4, none⟩ = some (.int .i64 0) := Gr.cell a4
        refine wp_region_gr (by kernel_rfl) (by kernel_rfl) ?_
        repeat (go_big_quiet_step ((with_reducible exact Gr.call _ (fun V hV => HM.out V hV))))
        refine wpQuiet_nil ?_
        rintro Y ⟨⟨_, hbY⟩, rfl⟩
        have HBY := Lib.hid (HB.out.trans (hbY.mono HB.out.size))
        clear a0 a1 a2 a3 a4 hbY HB q1 q2 sj HM hrun
        go_wp2_with fail
        go_roundw
        case rel => first | exact ⟨k + 1, by omega, by go_num, HBY⟩ | ((repeat apply Exists.intro); (first | exact ⟨⟨k + 1, by omega, by go_num, HBY⟩, rfl⟩ | exact ⟨by omega, by go_num, HBY⟩))
        case measure => simp [intOf]; omega
    · obtain rfl : k = l.length + 12 := by omega
      go_wp2_with fail
      go_ret
      exact ⟨rfl, HB.out⟩
theorem run_neq_frm (a b c d e : Int) (W : World) : (binOp .neq 115 (.agg #[.int .i64 a, .int .i64 b, .int .i64 c, .int .i64 d, .int .i64 e]) (.agg #[.int .i64 a, .int .i64 b, .int .i64 c, .int .i64 d, .int .i64 e])).run Tryz.prog W = .ok (.bool false) W := by
  simp [go_sem]
theorem run_eql_frm (a b c d e : Int) (W : World) : (binOp .eql 115 (.agg #[.int .i64 a, .int .i64 b, .int .i64 c, .int .i64 d, .int .i64 e]) (.agg #[.int .i64 a, .int .i64 b, .int .i64 c, .int .i64 d, .int .i64 e])).run Tryz.prog W = .ok (.bool true) W := by
  simp [go_sem]
set_option maxRecDepth 100000 in
set_option maxHeartbeats 4000000 in
theorem sameFrames_any (A1 A2 : Option Addr) (c1 c2 : Nat) (l : List (List Int)) (w : World) (h1 : SlT tRow w (Lt w.heap.size) A1 l) (h2 : SlT tRow w (Lt w.heap.size) A2 l) (hl : l.length ≤ 3518437208780) :
    Calls Tryz.prog 64 #[.slice A1 l.length c1, .slice A2 l.length c2] w (Ret w (.bool true)) := by
  have HS1 := Lib.hid h1
  have HS2 := Lib.hid h2
  clear h1 h2
  have hb0 : ((l.length : Int) != (l.length : Int)) = false := by simp
  go_enter Tryz.func64, Tryz.ntmps64
  go_wp2_with fail
  go_loopw [5] (fun i wr => ∃ k : Nat, k ≤ l.length ∧ i = .int .i64 k ∧ Hid (Below w.heap.size w wr)) (fun i _ => l.length - (intOf i).toNat)
  case atStart => exact ⟨0, Nat.zero_le _, rfl, Lib.hid (Below.refl _ _)⟩
  case round =>
    obtain ⟨k, hk, rfl, HB⟩ := hrel
    obtain ⟨V, rfl⟩ : ∃ V, V = wr := ⟨_, rfl⟩
    by_cases hlt : k < l.length
    · obtain ⟨b1, o1, rfl, _, r0, r1, r2, r3, r4, hr, a0, a1, a2, a3, a4⟩ := (HS1.out.on HB.out).row5 hlt
      obtain ⟨b2, o2, rfl, _, s0, s1, s2, s3, s4, hs, d0, d1, d2, d3, d4⟩ := (HS2.out.on HB.out).row5 hlt
      rw [hr] at hs
      simp only [List.cons.injEq, and_true] at hs
      obtain ⟨rfl, rfl, rfl, rfl, rfl⟩ := hs
      clear hr
      have i0 : (0 : Int) ≤ (k : Int) := by omega
      have i1 : (k : Int) < (l.length : Int) := by omega
      have hrun := run_neq_frm r0 r1 r2 r3 r4
      go_upto_region 6 with fail
      have a0 : ∀ p : Gr V, p.W.cell? ⟨b1, o1 + k * 5, none⟩ = some (.int .i64 r0) := Gr.cell a0
      have a1 : ∀ p : Gr V, p.W.cell? ⟨b1, o1 + k * 5 + 1, none⟩ = some (.int .i64 r1) := Gr.cell a1
      have a2 : ∀ p : Gr V, p.W.cell? ⟨b1, o1 + k * 5 + 2, none⟩ = some (.int .i64 r2) := Gr.cell a2
      have a3 : ∀ p : Gr V, p.W.cell? ⟨b1, o1 + k * 5 + 3, none⟩ = some (.int .i64 r3) := Gr.cell a3
      have a4 : ∀ p : Gr V, p.W.cell? ⟨b1, o1 + k * 5 + 4, none⟩ = some (.int .i64 r4) := Gr.cell a4
      have d0 : ∀ p : Gr V, p.W.cell? ⟨b2, o2 + k * 5, none⟩ = some (.int .i64 r0) := Gr.cell d0
      have d1 : ∀ p : Gr V, p.W.cell? ⟨b2, o2 + k * 5 + 1, none⟩ = some (.int .i64 r1) := Gr.cell d1
      have d2 : ∀ p : Gr V, p.W.cell? ⟨b2, o2 + k * 5 + 2, none⟩ = some (.int .i64 r2) := Gr.cell d2
      have d3 : ∀ p : Gr V, p.W.cell? ⟨b2, o2 + k * 5 + 3, none⟩ = some (.int .i64 r3) := Gr.cell d3
      have d4 : ∀ p : Gr V, p.W.cell? ⟨b2, o2 + k * 5 + 4, none⟩ = some (.int .i64 r4) := Gr.cell d4
      refine wp_region_gr (by kernel_rfl) (by kernel_rfl) ?_
      repeat (go_big_quiet_step (fail))
      refine wpQuiet_nil ?_
      rintro Y ⟨⟨_, hbY⟩, rfl⟩
      have HBY := Lib.hid (HB.out.trans (hbY.mono HB.out.size))
      clear a0 a1 a2 a3 a4 d0 d1 d2 d3 d4 hbY HB hrun
      go_wp2_with fail
      go_roundw
      case rel => first | exact ⟨k + 1, by omega, by go_num, HBY⟩ | ((repeat apply Exists.intro); (first | exact ⟨⟨k + 1, by omega, by go_num, HBY⟩, rfl⟩ | exact ⟨by omega, by go_num, HBY⟩))
      case measure => simp [intOf]; omega
    · obtain rfl : k = l.length := by omega
      go_wp2_with fail
      go_ret
      exact ⟨rfl, HB.out⟩
theorem marksFrame_at {l : List (List Int)} {k : Nat} (h : k < l.length) : (l ++ marksFrame 12).getD k default = l.getD k default := by
  rw [List.getD_eq_getElem?_getD, List.getElem?_append_left h, List.getD_eq_getElem?_getD]
theorem marksFrame_beh {l : List (List Int)} {k : Nat} (h : l.length ≤ k) (h2 : k < l.length + 12) : (l ++ marksFrame 12).getD k default = mkFrame (k - l.length) := by
  rw [List.getD_eq_getElem?_getD, List.getElem?_append_right h]
  simp [marksFrame, show k - l.length < 12 by omega]
set_option maxRecDepth 100000 in
set_option maxHeartbeats 4000000 in
theorem keptFrames_any (A1 A2 : Option Addr) (c1 c2 : Nat) (l : List (List Int)) (w : World) (h1 : SlT tRow w (Lt w.heap.size) A1 (l ++ marksFrame 12)) (hc : l.length + 12 ≤ c1) (h2 : SlT tRow w (Lt w.heap.size) A2 l) (hl : l.length ≤ 3518437208780) :
    Calls Tryz.prog 37 #[.slice A1 l.length c1, .slice A2 l.length c2] w (Ret w (.bool true)) := by
  have HS1 := Lib.hid h1
  have HS2 := Lib.hid h2
  clear h1 h2
  have HLEN : Hid ((l ++ marksFrame 12).length = l.length + 12) := Lib.hid (by rw [List.length_append, marksFrame_len])
  have hb0 : ((l.length : Int) != (l.length : Int)) = false := by simp
  have j1 : (0 : Int) ≤ (l.length : Int) + 12 := by omega
  have j2 : (l.length : Int) + 12 ≤ (c1 : Int) := by omega
  go_enter Tryz.func37, Tryz.ntmps37
  go_wp2_with fail
  go_loopw [6] (fun i wr => ∃ k : Nat, k ≤ l.length + 12 ∧ i = .int .i64 k ∧ Hid (Below w.heap.size w wr)) (fun i _ => l.length + 12 - (intOf i).toNat)
  case atStart => exact ⟨0, Nat.zero_le _, rfl, Lib.hid (Below.refl _ _)⟩
  case round =>
    obtain ⟨k, hk, rfl, HB⟩ := hrel
    obtain ⟨V, rfl⟩ : ∃ V, V = wr := ⟨_, rfl⟩
    by_cases hlt : k < l.length + 12
    · obtain ⟨b1, o1, rfl, _, r0, r1, r2, r3, r4, hr, a0, a1, a2, a3, a4⟩ := (HS1.out.on HB.out).row5 (i := k) (by rw [HLEN.out]; exact hlt)
      have i0 : (0 : Int) ≤ (k : Int) := by omega
      have i1 : (k : Int) < (l.length : Int) + 12 := by omega
      by_cases hin : k < l.length
      · obtain ⟨b2, o2, rfl, _, s0, s1, s2, s3, s4, hs, d0, d1, d2, d3, d4⟩ := (HS2.out.on HB.out).row5 hin
        rw [marksFrame_at hin, hs] at hr
        simp only [List.cons.injEq, and_true] at hr
        obtain ⟨rfl, rfl, rfl, rfl, rfl⟩ := hr
        clear hs
        have i2 : (k : Int) < (l.length : Int) := by omega
        have q1 : decide (k < l.length) = true := by simpa using hin
        have q2 : decide (l.length ≤ k) = false := by simp; omega
        have hrun := run_eql_frm s0 s1 s2 s3 s4
        go_upto_region 7 with fail
        have a0 : ∀ p : Gr V, p.W.cell? ⟨b1, o1 + k * 5, none⟩ = some (.int .i64 s0) := Gr.cell a0
        have a1 : ∀ p : Gr V, p.W.cell? ⟨b1, o1 + k * 5 + 1, none⟩ = some (.int .i64 s1) := Gr.cell a1
        have a2 : ∀ p : Gr V, p.W.cell? ⟨b1, o1 + k * 5 + 2, none⟩ = some (.int .i64 s2) := Gr.cell a2
        have a3 : ∀ p : Gr V, p.W.cell? ⟨b1, o1 + k * 5 + 3, none⟩ = some (.int .i64 s3) := Gr.cell a3
        have a4 : ∀ p : Gr V, p.W.cell? ⟨b1, o1 + k * 5 + 4, none⟩ = some (.int .i64 s4) := Gr.cell a4
        have d0 : ∀ p : Gr V, p.W.cell? ⟨b2, o2 + k * 5, none⟩ = some (.int .i64 s0) := Gr.cell d0
        have d1 : ∀ p : Gr V, p.W.cell? ⟨b2, o2 + k * 5 + 1, none⟩ = some (.int .i64 s1) := Gr.cell d1
        have d2 : ∀ p : Gr V, p.W.cell? ⟨b2, o2 + k * 5 + 2, none⟩ = some (.int .i64 s2) := Gr.cell d2
        have d3 : ∀ p : Gr V, p.W.cell? ⟨b2, o2 + k * 5 + 3, none⟩ = some (.int .i64 s3) := Gr.cell d3
        have d4 : ∀ p : Gr V, p.W.cell? ⟨b2, o2 + k * 5 + 4, none⟩ = some (.int .i64 s4) := Gr.cell d4
        refine wp_region_gr (by kernel_rfl) (by kernel_rfl) ?_
        repeat (go_big_quiet_step (fail))
        refine wpQuiet_nil ?_
        rintro Y ⟨⟨_, hbY⟩, rfl⟩
        have HBY := Lib.hid (HB.out.trans (hbY.mono HB.out.size))
        clear a0 a1 a2 a3 a4 d0 d1 d2 d3 d4 hbY HB q1 q2 hrun
        go_wp2_with fail
        go_roundw
        case rel => first | exact ⟨k + 1, by omega, by go_num, HBY⟩ | ((repeat apply Exists.intro); (first | exact ⟨⟨k + 1, by omega, by go_num, HBY⟩, rfl⟩ | exact ⟨by omega, by go_num, HBY⟩))
        case measure => simp [intOf]; omega
      · rw [marksFrame_beh (by omega) hlt] at hr
        have q1 : decide (k < l.length) = false := by simp; omega
        have q2 : decide (l.length ≤ k) = true := by simp; omega
        obtain ⟨j, hj⟩ : ∃ j, k - l.length = j := ⟨_, rfl⟩
        rw [hj] at hr
        have sj : IntKind.i64.wrap ((k : Int) - (l.length : Int)) = (j : Int) := by rw [IntWalk.i64_in _ (by omega)]; omega
        have HM := Lib.hid (fun (V' : World) (hV : Below V.heap.size V V') => markFrame_any j V' (by omega))
        clear hj
        simp only [mkFrame, List.cons.injEq, and_true] at hr
        obtain ⟨rfl, rfl, rfl, rfl, rfl⟩ := hr
        generalize mk1 j = z at *
        have hrun := run_eql_frm z 0 0 0 0
        go_upto_region 7 with fail
        have a0 : ∀ p : Gr V, p.W.cell? ⟨b1, o1 + k * 5, none⟩ = some (.int .i64 z) := Gr.cell a0
        have a1 : ∀ p : Gr V, p.W.cell? ⟨b1, o1 + k * 5 + 1, none⟩ = some (.int .i64 0) := Gr.cell a1
        have a2 : ∀ p : Gr V, p.W.cell? ⟨b1, o1 + k * 5 + 2, none⟩ = some (.int .i64 0) := Gr.cell a2
        have a3 : ∀ p : Gr V, p.W.cell? ⟨b1, o1 + k * 5 + 3, none⟩ = some (.int .i64 0) := Gr.cell a3
        have a4 : ∀ p : Gr V, p.W.cell? ⟨b1, o1 + k * 5 + 4, none⟩ = some (.int .i64 0) := Gr.cell a4
        refine wp_region_gr (by kernel_rfl) (by kernel_rfl) ?_
        repeat (go_big_quiet_step ((with_reducible exact Gr.call _ (fun V hV => HM.out V hV))))
        refine wpQuiet_nil ?_
        rintro Y ⟨⟨_, hbY⟩, rfl⟩
        have HBY := Lib.hid (HB.out.trans (hbY.mono HB.out.size))
        clear a0 a1 a2 a3 a4 hbY HB q1 q2 sj HM hrun
        go_wp2_with fail
        go_roundw
        case rel => first | exact ⟨k + 1, by omega, by go_num, HBY⟩ | ((repeat apply Exists.intro); (first | exact ⟨⟨k + 1, by omega, by go_num, HBY⟩, rfl⟩ | exact ⟨by omega, by go_num, HBY⟩))
        case measure => simp [intOf]; omega
    · obtain rfl : k = l.length + 12 := by omega
      go_wp2_with fail
      go_ret
      exact ⟨rfl, HB.out⟩
end Go.Proofs.YtmhikcleekfbpaaGreatDoor
namespace Go.Proofs.YtmhikcleekfbpaaGreatDoor
open Go.RowKit

theorem run_eql_light (a b c d : Int) (W : World) : (binOp .eql 25 (.agg #[.int .i64 a, .int .i64 b, .int .i64 c, .int .i64 d]) (.agg #[.int .i64 a, .int .i64 b, .int .i64 c, .int .i64 d])).run Tryz.prog W = .ok (.bool true) W := by
  simp [go_sem]
theorem run_eql_limits (a b c d : Int) (W : World) : (binOp .eql 30 (.agg #[.int .i64 a, .int .i64 b, .int .i64 c, .int .i64 d]) (.agg #[.int .i64 a, .int .i64 b, .int .i64 c, .int .i64 d])).run Tryz.prog W = .ok (.bool true) W := by
  simp [go_sem]
set_option maxRecDepth 100000 in
set_option maxHeartbeats 4000000 in
theorem sameShip_any (s : Shp) (h' h : Hd) (w : World) (hs' : ShpR w (Lt w.heap.size) s h') (hs : ShpR w (Lt w.heap.size) s h) (hf : FewL s) :
    Calls Tryz.prog 33 #[.agg (shpA s h'), .agg (shpA s h)] w (Ret w (.bool true)) := by
  have hb0 := ba2 w (.cells (shpA s h') 32) (.cells (shpA s h) 32)
  have KE := Lib.hid ((Bk.new w 32 (shpA s h')).alloc (.cells (shpA s h) 32))
  have KF := Lib.hid (Bk.nxt (w := w) (.cells (shpA s h') 32) 32 (shpA s h))
  have HB0 := Lib.hid hb0
  have HS := Lib.hid (hs.on hb0)
  have HS' := Lib.hid (hs'.on hb0)
  clear hs hs' hb0
  unfold shpA at *
  go_enter Tryz.func33, Tryz.ntmps33
  go_upto_region 1 with fail
  generalize ((w.alloc _).alloc _) = W at *
  have K1 := Lib.hid (fun (V : World) (hV : Below W.heap.size W V) => sameColumns_any h'.A1 h.A1 h'.c1 h.c1 s.cols V (HS'.out.on hV).cols (HS.out.on hV).cols hf.cols hf.plugs)
  have K2 := Lib.hid (fun (V : World) (hV : Below W.heap.size W V) => sameCovers_any h'.A2 h.A2 h'.c2 h.c2 s.covs V (HS'.out.on hV).covs (HS.out.on hV).covs hf.covs hf.hrows)
  have K3 := Lib.hid (fun (V : World) (hV : Below W.heap.size W V) => sameRows_any h'.A3 h.A3 h'.c3 h.c3 s.rows V (HS'.out.on hV).rows (HS.out.on hV).rows hf.rows)
  have K4 := Lib.hid (fun (V : World) (hV : Below W.heap.size W V) => sameFrames_any h'.A4 h.A4 h'.c4 h.c4 s.frames V (HS'.out.on hV).frames (HS.out.on hV).frames hf.frames)
  have K5 := Lib.hid (fun (V : World) (hV : Below W.heap.size W V) => sameTanks_any h'.A5 h.A5 h'.c5 h.c5 s.tanks V (HS'.out.on hV).tanks (HS.out.on hV).tanks hf.tanks hf.steps)
  have hrl := run_eql_light s.l0 s.l1 s.l2 s.l3
  have hrm := run_eql_limits s.m0 s.m1 s.m2 s.m3
  clear hf HS HS'
  have e0 : ∀ p : Gr W, p.W.cell? ⟨w.heap.size, 0, none⟩ = some (Value.slice h'.A1 s.cols.length h'.c1) := Gr.cell (KE.out.cell 0)
  have e1 : ∀ p : Gr W, p.W.cell? ⟨w.heap.size, 1, none⟩ = some (Value.slice h'.A2 s.covs.length h'.c2) := Gr.cell (KE.out.cell 1)
  have e2 : ∀ p : Gr W, p.W.cell? ⟨w.heap.size, 2, none⟩ = some (.int .i64 s.l0) := Gr.cell (KE.out.cell 2)
  have e3 : ∀ p : Gr W, p.W.cell? ⟨w.heap.size, 3, none⟩ = some (.int .i64 s.l1) := Gr.cell (KE.out.cell 3)
  have e4 : ∀ p : Gr W, p.W.cell? ⟨w.heap.size, 4, none⟩ = some (.int .i64 s.l2) := Gr.cell (KE.out.cell 4)
  have e5 : ∀ p : Gr W, p.W.cell? ⟨w.heap.size, 5, none⟩ = some (.int .i64 s.l3) := Gr.cell (KE.out.cell 5)
  have e6 : ∀ p : Gr W, p.W.cell? ⟨w.heap.size, 6, none⟩ = some (.slice h'.A3 s.rows.length h'.c3) := Gr.cell (KE.out.cell 6)
  have e7 : ∀ p : Gr W, p.W.cell? ⟨w.heap.size, 7, none⟩ = some (.slice h'.A4 s.frames.length h'.c4) := Gr.cell (KE.out.cell 7)
  have e8 : ∀ p : Gr W, p.W.cell? ⟨w.heap.size, 8, none⟩ = some (.slice h'.A5 s.tanks.length h'.c5) := Gr.cell (KE.out.cell 8)
  have e9 : ∀ p : Gr W, p.W.cell? ⟨w.heap.size, 9, none⟩ = some (.int .i64 s.m0) := Gr.cell (KE.out.cell 9)
  have e10 : ∀ p : Gr W, p.W.cell? ⟨w.heap.size, 10, none⟩ = some (.int .i64 s.m1) := Gr.cell (KE.out.cell 10)
  have e11 : ∀ p : Gr W, p.W.cell? ⟨w.heap.size, 11, none⟩ = some (.int .i64 s.m2) := Gr.cell (KE.out.cell 11)
  have e12 : ∀ p : Gr W, p.W.cell? ⟨w.heap.size, 12, none⟩ = some (.int .i64 s.m3) := Gr.cell (KE.out.cell 12)
  have f0 : ∀ p : Gr W, p.W.cell? ⟨w.heap.size + 1, 0, none⟩ = some (Value.slice h.A1 s.cols.length h.c1) := Gr.cell (KF.out.cell 0)
  have f1 : ∀ p : Gr W, p.W.cell? ⟨w.heap.size + 1, 1, none⟩ = some (Value.slice h.A2 s.covs.length h.c2) := Gr.cell (KF.out.cell 1)
  have f2 : ∀ p : Gr W, p.W.cell? ⟨w.heap.size + 1, 2, none⟩ = some (.int .i64 s.l0) := Gr.cell (KF.out.cell 2)
  have f3 : ∀ p : Gr W, p.W.cell? ⟨w.heap.size + 1, 3, none⟩ = some (.int .i64 s.l1) := Gr.cell (KF.out.cell 3)
  have f4 : ∀ p : Gr W, p.W.cell? ⟨w.heap.size + 1, 4, none⟩ = some (.int .i64 s.l2) := Gr.cell (KF.out.cell 4)
  have f5 : ∀ p : Gr W, p.W.cell? ⟨w.heap.size + 1, 5, none⟩ = some (.int .i64 s.l3) := Gr.cell (KF.out.cell 5)
  have f6 : ∀ p : Gr W, p.W.cell? ⟨w.heap.size + 1, 6, none⟩ = some (.slice h.A3 s.rows.length h.c3) := Gr.cell (KF.out.cell 6)
  have f7 : ∀ p : Gr W, p.W.cell? ⟨w.heap.size + 1, 7, none⟩ = some (.slice h.A4 s.frames.length h.c4) := Gr.cell (KF.out.cell 7)
  have f8 : ∀ p : Gr W, p.W.cell? ⟨w.heap.size + 1, 8, none⟩ = some (.slice h.A5 s.tanks.length h.c5) := Gr.cell (KF.out.cell 8)
  have f9 : ∀ p : Gr W, p.W.cell? ⟨w.heap.size + 1, 9, none⟩ = some (.int .i64 s.m0) := Gr.cell (KF.out.cell 9)
  have f10 : ∀ p : Gr W, p.W.cell? ⟨w.heap.size + 1, 10, none⟩ = some (.int .i64 s.m1) := Gr.cell (KF.out.cell 10)
  have f11 : ∀ p : Gr W, p.W.cell? ⟨w.heap.size + 1, 11, none⟩ = some (.int .i64 s.m2) := Gr.cell (KF.out.cell 11)
  have f12 : ∀ p : Gr W, p.W.cell? ⟨w.heap.size + 1, 12, none⟩ = some (.int .i64 s.m3) := Gr.cell (KF.out.cell 12)
  clear KE KF
  refine wp_region_grs ?_
  repeat (go_big_quiet_step ((first | (with_reducible exact Gr.call _ (fun V hV => K1.out V hV)) | (with_reducible exact Gr.call _ (fun V hV => K2.out V hV)) | (with_reducible exact Gr.call _ (fun V hV => K3.out V hV)) | (with_reducible exact Gr.call _ (fun V hV => K4.out V hV)) | (with_reducible exact Gr.call _ (fun V hV => K5.out V hV)))))
  refine wpQuiet_nil ?_
  rintro Y ⟨⟨_, hbY⟩, rfl⟩
  have HY := Lib.hid (HB0.out.trans (hbY.mono HB0.out.size))
  clear hbY HB0 K1 K2 K3 K4 K5 hrl hrm e0 f0 e1 f1 e2 f2 e3 f3 e4 f4 e5 f5 e6 f6 e7 f7 e8 f8 e9 f9 e10 f10 e11 f11 e12 f12
  go_wp2_with fail
  go_ret
  exact ⟨rfl, HY.out⟩
set_option maxRecDepth 100000 in
set_option maxHeartbeats 4000000 in
theorem keptShip_any (s : Shp) (h' h : Hd) (w : World) {base B1 : Nat} (hl : LentR base B1 w s h') (hs : ShpR w (Lt w.heap.size) s h) (hf : FewL s) :
    Calls Tryz.prog 11 #[.agg (shpA s h'), .agg (shpA s h)] w (Ret w (.bool true)) := by
  have hb0 := ba2 w (.cells (shpA s h') 32) (.cells (shpA s h) 32)
  have KE := Lib.hid ((Bk.new w 32 (shpA s h')).alloc (.cells (shpA s h) 32))
  have KF := Lib.hid (Bk.nxt (w := w) (.cells (shpA s h') 32) 32 (shpA s h))
  have HB0 := Lib.hid hb0
  have HS := Lib.hid (hs.on hb0)
  have HL := Lib.hid (hl.on hb0)
  clear hs hl hb0
  have HF := Lib.hid hf
  clear hf
  unfold shpA at *
  go_enter Tryz.func11, Tryz.ntmps11
  go_upto_region 1 with fail
  generalize ((w.alloc _).alloc _) = W at *
  have K0 : Hid (∀ V : World, Below W.heap.size W V → Calls Tryz.prog 33 #[.agg (shpA s h'), .agg (shpA s h)] V (Ret V (.bool true))) := Lib.hid fun V hV => sameShip_any s h' h V ((HL.out.on hV).rd.more fun b hb => hb.2) (HS.out.on hV) HF.out
  have K1 : Hid (∀ V : World, Below W.heap.size W V → Calls Tryz.prog 34 #[.slice h'.A1 s.cols.length h'.c1, .slice h.A1 s.cols.length h.c1] V (Ret V (.bool true))) := Lib.hid fun V hV => by
    obtain ⟨n1, _, s1⟩ := (HL.out.on hV).cols.sl2
    rw [List.length_append, lentC_len, marksC_len] at n1
    exact keptColumns_any h'.A1 h.A1 h'.c1 h.c1 s.cols V (s1.more fun b hb => hb.2) n1 (HS.out.on hV).cols HF.out.cols HF.out.plugs
  have K2 : Hid (∀ V : World, Below W.heap.size W V → Calls Tryz.prog 35 #[.slice h'.A2 s.covs.length h'.c2, .slice h.A2 s.covs.length h.c2] V (Ret V (.bool true))) := Lib.hid fun V hV => by
    obtain ⟨n1, _, s1⟩ := (HL.out.on hV).covs.sl2
    rw [List.length_append, lentCo_len, marksCo_len] at n1
    exact keptCovers_any h'.A2 h.A2 h'.c2 h.c2 s.covs V (s1.more fun b hb => hb.2) n1 (HS.out.on hV).covs HF.out.covs HF.out.hrows
  have K3 : Hid (∀ V : World, Below W.heap.size W V → Calls Tryz.prog 36 #[.slice h'.A3 s.rows.length h'.c3, .slice h.A3 s.rows.length h.c3] V (Ret V (.bool true))) := Lib.hid fun V hV => by
    obtain ⟨n1, _, s1⟩ := (HL.out.on hV).rows
    exact keptRows_any h'.A3 h.A3 h'.c3 h.c3 s.rows V (s1.more fun b hb => hb.2) n1 (HS.out.on hV).rows HF.out.rows
  have K4 : Hid (∀ V : World, Below W.heap.size W V → Calls Tryz.prog 37 #[.slice h'.A4 s.frames.length h'.c4, .slice h.A4 s.frames.length h.c4] V (Ret V (.bool true))) := Lib.hid fun V hV => by
    obtain ⟨n1, _, s1⟩ := (HL.out.on hV).frames
    exact keptFrames_any h'.A4 h.A4 h'.c4 h.c4 s.frames V (s1.more fun b hb => hb.2) n1 (HS.out.on hV).frames HF.out.frames
  have K5 : Hid (∀ V : World, Below W.heap.size W V → Calls Tryz.prog 38 #[.slice h'.A5 s.tanks.length h'.c5, .slice h.A5 s.tanks.length h.c5] V (Ret V (.bool true))) := Lib.hid fun V hV => by
    obtain ⟨n1, _, s1⟩ := (HL.out.on hV).tanks.sl2
    rw [List.length_append, lentTn_len, marksTn_len] at n1
    exact keptTanks_any h'.A5 h.A5 h'.c5 h.c5 s.tanks V (s1.more fun b hb => hb.2) n1 (HS.out.on hV).tanks HF.out.tanks HF.out.steps
  unfold shpA at K0
  clear HF HS HL
  have e0 : ∀ p : Gr W, p.W.cell? ⟨w.heap.size, 0, none⟩ = some (Value.slice h'.A1 s.cols.length h'.c1) := Gr.cell (KE.out.cell 0)
  have e1 : ∀ p : Gr W, p.W.cell? ⟨w.heap.size, 1, none⟩ = some (Value.slice h'.A2 s.covs.length h'.c2) := Gr.cell (KE.out.cell 1)
  have e2 : ∀ p : Gr W, p.W.cell? ⟨w.heap.size, 2, none⟩ = some (.int .i64 s.l0) := Gr.cell (KE.out.cell 2)
  have e3 : ∀ p : Gr W, p.W.cell? ⟨w.heap.size, 3, none⟩ = some (.int .i64 s.l1) := Gr.cell (KE.out.cell 3)
  have e4 : ∀ p : Gr W, p.W.cell? ⟨w.heap.size, 4, none⟩ = some (.int .i64 s.l2) := Gr.cell (KE.out.cell 4)
  have e5 : ∀ p : Gr W, p.W.cell? ⟨w.heap.size, 5, none⟩ = some (.int .i64 s.l3) := Gr.cell (KE.out.cell 5)
  have e6 : ∀ p : Gr W, p.W.cell? ⟨w.heap.size, 6, none⟩ = some (.slice h'.A3 s.rows.length h'.c3) := Gr.cell (KE.out.cell 6)
  have e7 : ∀ p : Gr W, p.W.cell? ⟨w.heap.size, 7, none⟩ = some (.slice h'.A4 s.frames.length h'.c4) := Gr.cell (KE.out.cell 7)
  have e8 : ∀ p : Gr W, p.W.cell? ⟨w.heap.size, 8, none⟩ = some (.slice h'.A5 s.tanks.length h'.c5) := Gr.cell (KE.out.cell 8)
  have e9 : ∀ p : Gr W, p.W.cell? ⟨w.heap.size, 9, none⟩ = some (.int .i64 s.m0) := Gr.cell (KE.out.cell 9)
  have e10 : ∀ p : Gr W, p.W.cell? ⟨w.heap.size, 10, none⟩ = some (.int .i64 s.m1) := Gr.cell (KE.out.cell 10)
  have e11 : ∀ p : Gr W, p.W.cell? ⟨w.heap.size, 11, none⟩ = some (.int .i64 s.m2) := Gr.cell (KE.out.cell 11)
  have e12 : ∀ p : Gr W, p.W.cell? ⟨w.heap.size, 12, none⟩ = some (.int .i64 s.m3) := Gr.cell (KE.out.cell 12)
  have f0 : ∀ p : Gr W, p.W.cell? ⟨w.heap.size + 1, 0, none⟩ = some (Value.slice h.A1 s.cols.length h.c1) := Gr.cell (KF.out.cell 0)
  have f1 : ∀ p : Gr W, p.W.cell? ⟨w.heap.size + 1, 1, none⟩ = some (Value.slice h.A2 s.covs.length h.c2) := Gr.cell (KF.out.cell 1)
  have f2 : ∀ p : Gr W, p.W.cell? ⟨w.heap.size + 1, 2, none⟩ = some (.int .i64 s.l0) := Gr.cell (KF.out.cell 2)
  have f3 : ∀ p : Gr W, p.W.cell? ⟨w.heap.size + 1, 3, none⟩ = some (.int .i64 s.l1) := Gr.cell (KF.out.cell 3)
  have f4 : ∀ p : Gr W, p.W.cell? ⟨w.heap.size + 1, 4, none⟩ = some (.int .i64 s.l2) := Gr.cell (KF.out.cell 4)
  have f5 : ∀ p : Gr W, p.W.cell? ⟨w.heap.size + 1, 5, none⟩ = some (.int .i64 s.l3) := Gr.cell (KF.out.cell 5)
  have f6 : ∀ p : Gr W, p.W.cell? ⟨w.heap.size + 1, 6, none⟩ = some (.slice h.A3 s.rows.length h.c3) := Gr.cell (KF.out.cell 6)
  have f7 : ∀ p : Gr W, p.W.cell? ⟨w.heap.size + 1, 7, none⟩ = some (.slice h.A4 s.frames.length h.c4) := Gr.cell (KF.out.cell 7)
  have f8 : ∀ p : Gr W, p.W.cell? ⟨w.heap.size + 1, 8, none⟩ = some (.slice h.A5 s.tanks.length h.c5) := Gr.cell (KF.out.cell 8)
  have f9 : ∀ p : Gr W, p.W.cell? ⟨w.heap.size + 1, 9, none⟩ = some (.int .i64 s.m0) := Gr.cell (KF.out.cell 9)
  have f10 : ∀ p : Gr W, p.W.cell? ⟨w.heap.size + 1, 10, none⟩ = some (.int .i64 s.m1) := Gr.cell (KF.out.cell 10)
  have f11 : ∀ p : Gr W, p.W.cell? ⟨w.heap.size + 1, 11, none⟩ = some (.int .i64 s.m2) := Gr.cell (KF.out.cell 11)
  have f12 : ∀ p : Gr W, p.W.cell? ⟨w.heap.size + 1, 12, none⟩ = some (.int .i64 s.m3) := Gr.cell (KF.out.cell 12)
  clear KE KF
  refine wp_region_grs ?_
  repeat (go_big_quiet_step ((first | (with_reducible exact Gr.call _ (fun V hV => K0.out V hV)) | (with_reducible exact Gr.call _ (fun V hV => K1.out V hV)) | (with_reducible exact Gr.call _ (fun V hV => K2.out V hV)) | (with_reducible exact Gr.call _ (fun V hV => K3.out V hV)) | (with_reducible exact Gr.call _ (fun V hV => K4.out V hV)) | (with_reducible exact Gr.call _ (fun V hV => K5.out V hV)))))
  refine wpQuiet_nil ?_
  rintro Y ⟨⟨_, hbY⟩, rfl⟩
  have HY := Lib.hid (HB0.out.trans (hbY.mono HB0.out.size))
  clear hbY HB0 K0 K1 K2 K3 K4 K5 e0 f0 e1 f1 e2 f2 e3 f3 e4 f4 e5 f5 e6 f6 e7 f7 e8 f8 e9 f9 e10 f10 e11 f11 e12 f12
  go_wp2_with fail
  go_ret
  exact ⟨rfl, HY.out⟩
end Go.Proofs.YtmhikcleekfbpaaGreatDoor
