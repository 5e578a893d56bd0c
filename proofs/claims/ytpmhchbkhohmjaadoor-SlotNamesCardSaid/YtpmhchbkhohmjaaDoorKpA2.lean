/-
  Walks of package twistlockkit: SameColumn, KeptColumn, SameColumns, KeptColumns: true of what nobody has turned.
-/
import Derived.Test.YtpmhchbkhohmjaaDoorKpA
namespace Go.Proofs.YtpmhchbkhohmjaaDoor
open Go.RowKit

set_option maxRecDepth 100000 in
theorem SlT.colK {w : World} {S : Nat → Prop} {A : Option Addr} {l : List (Col × List Int)} (h : SlT tColK w S A l) {i : Nat} (hi : i < l.length) :
    ∃ b off Ap p, A = some ⟨b, off, none⟩ ∧ S b ∧ (l.getD i default).1.plugs.length + (l.getD i default).2.length ≤ p ∧ SlT tInt w S Ap ((l.getD i default).1.plugs ++ (l.getD i default).2) ∧
      ∀ j u, (colL (l.getD i default).1 Ap p)[j]? = some u → w.cell? ⟨b, off + i * 12 + j, none⟩ = some u := by
  obtain ⟨b, off, cs, e, hb, ⟨Ap, p, rfl, h1, h2⟩, hc⟩ := h.at_ hi default
  exact ⟨b, off, Ap, p, e, hb, h1, h2, fun j u hu => hc j u hu⟩
set_option maxRecDepth 100000 in
set_option maxHeartbeats 4000000 in
theorem sameColumn_any (x : Col) (A B : Option Addr) (p q : Nat) (w : World) (hA : SlT tInt w (Lt w.heap.size) A x.plugs) (hB : SlT tInt w (Lt w.heap.size) B x.plugs) (hl : x.plugs.length ≤ 17592186043904) :
    Calls Tryd.prog 79 #[.agg (colL x A p).toArray, .agg (colL x B q).toArray] w (Ret w (.bool true)) := by
  have hb0 := ba2 w (.cells (colL x A p).toArray 62) (.cells (colL x B q).toArray 62)
  have HC := Lib.hid (sameInts_any A B p q x.plugs x.plugs _ _ _ (hA.on hb0) (hB.on hb0) (by unfold maxLen; omega))
  rw [decide_eq_true rfl] at HC
  have HB0 := Lib.hid hb0
  clear hA hB hb0
  obtain ⟨x0, x1, x2, x3, x4, x5, x6, x7, x8, x9, x10, x11⟩ := x
  unfold colL at *
  simp only at *
  go_enter Tryd.func79, Tryd.ntmps79
  go_wp2_with fail
  refine HC.out.mono ?_
  rintro e w3 ⟨rfl, m, rfl⟩
  simp only
  clear HC
  go_wp2_with fail
  go_ret
  exact ⟨rfl, below_drewN HB0.out m⟩
set_option maxRecDepth 100000 in
set_option maxHeartbeats 4000000 in
theorem keptColumn_any (x : Col) (A B : Option Addr) (p q : Nat) (w : World) (hA : SlT tInt w (Lt w.heap.size) A (x.plugs ++ marksI 12)) (hp : x.plugs.length + 12 ≤ p) (hB : SlT tInt w (Lt w.heap.size) B x.plugs) (hl : x.plugs.length ≤ 17592186043904) :
    Calls Tryd.prog 78 #[.agg (colL x A p).toArray, .agg (colL x B q).toArray] w (Ret w (.bool true)) := by
  have hb0 := ba2 w (.cells (colL x A p).toArray 62) (.cells (colL x B q).toArray 62)
  have HC := Lib.hid (sameColumn_any x A B p q _ (hA.on hb0).fst (hB.on hb0) hl)
  have HA := Lib.hid (hA.on hb0)
  have HB := Lib.hid (hB.on hb0)
  have KX := Lib.hid ((Bk.new w 62 (colL x A p).toArray).alloc (.cells (colL x B q).toArray 62))
  have KZ := Lib.hid (Bk.nxt (w := w) (.cells (colL x A p).toArray 62) 62 (colL x B q).toArray)
  have HB0 := Lib.hid hb0
  clear hA hB hb0
  obtain ⟨x0, x1, x2, x3, x4, x5, x6, x7, x8, x9, x10, x11⟩ := x
  unfold colL at *
  simp only at *
  go_enter Tryd.func78, Tryd.ntmps78
  go_wp2_with fail
  refine HC.out.mono ?_
  rintro e V ⟨rfl, hb⟩
  simp only
  have y8 : V.cell? ⟨w.heap.size, 8, none⟩ = some (.slice A x8.length p) := (KX.out.below hb KX.out.lt).cell 8
  have z8 : V.cell? ⟨w.heap.size + 1, 8, none⟩ = some (.slice B x8.length q) := (KZ.out.below hb KZ.out.lt).cell 8
  have HK := Lib.hid (keptInts2_any A B p q x8 V (HA.out.on hb) (HB.out.on hb) hp hl)
  have HBV := Lib.hid (HB0.out.trans (hb.mono HB0.out.size))
  clear HC HA HB KX KZ HB0 hb
  go_wp2_with fail
  refine HK.out.mono ?_
  rintro e w3 ⟨rfl, hb2⟩
  simp only
  have HBZ := Lib.hid (HBV.out.trans (hb2.mono HBV.out.size))
  clear HK HBV hb2 y8 z8
  go_wp2_with fail
  go_ret
  exact ⟨rfl, HBZ.out⟩
set_option maxRecDepth 100000 in
set_option maxHeartbeats 4000000 in
theorem sameColumns_any (A1 A2 : Option Addr) (c1 c2 : Nat) (l : List Col) (w : World) (h1 : SlT tCol w (Lt w.heap.size) A1 l) (h2 : SlT tCol w (Lt w.heap.size) A2 l) (hl : l.length ≤ 1000000000) (hp : ∀ x ∈ l, x.plugs.length ≤ 17592186043904) :
    Calls Tryd.prog 73 #[.slice A1 l.length c1, .slice A2 l.length c2] w (Ret w (.bool true)) := by
  have HS1 := Lib.hid h1
  have HS2 := Lib.hid h2
  have HP := Lib.hid hp
  clear h1 h2 hp
  have hb0 : ((l.length : Int) != (l.length : Int)) = false := by simp
  go_enter Tryd.func73, Tryd.ntmps73
  go_wp2_with fail
  go_loopw [5] (fun i wr => ∃ k : Nat, k ≤ l.length ∧ i = .int .i64 k ∧ Hid (Below w.heap.size w wr)) (fun i _ => l.length - (intOf i).toNat)
  case atStart => exact ⟨0, Nat.zero_le _, rfl, Lib.hid (Below.refl _ _)⟩
  case round =>
    obtain ⟨k, hk, rfl, HB⟩ := hrel
    obtain ⟨V, rfl⟩ : ∃ V, V = wr := ⟨_, rfl⟩
    by_cases hlt : k < l.length
    · obtain ⟨b1, o1, Ap1, p1, rfl, _, _, hs1, a0, a1, a2, a3, a4, a5, a6, a7, a8, a9, a10, a11⟩ := (HS1.out.on HB.out).col hlt
      obtain ⟨b2, o2, Ap2, p2, rfl, _, _, hs2, d0, d1, d2, d3, d4, d5, d6, d7, d8, d9, d10, d11⟩ := (HS2.out.on HB.out).col hlt
      have i0 : (0 : Int) ≤ (k : Int) := by omega
      have i1 : (k : Int) < (l.length : Int) := by omega
      have HXP := HP.out _ (getD_memD hlt default)
      generalize l.getD k default = x at *
      have HC := Lib.hid (fun (V' : World) (hV : Below V.heap.size V V') => sameColumn_any x Ap1 Ap2 p1 p2 V' (hs1.on hV) (hs2.on hV) HXP)
      clear hs1 hs2 HXP
      obtain ⟨x0, x1, x2, x3, x4, x5, x6, x7, x8, x9, x10, x11⟩ := x
      unfold colL at HC
      simp only at a0 a1 a2 a3 a4 a5 a6 a7 a8 a9 a10 a11 d0 d1 d2 d3 d4 d5 d6 d7 d8 d9 d10 d11 HC
      go_upto_region 6 with fail
      have a0 : ∀ p : Gr V, p.W.cell? ⟨b1, o1 + k * 12, none⟩ = some (.int .i64 x0) := Gr.cell a0
      have a1 : ∀ p : Gr V, p.W.cell? ⟨b1, o1 + k * 12 + 1, none⟩ = some (.int .i64 x1) := Gr.cell a1
      have a2 : ∀ p : Gr V, p.W.cell? ⟨b1, o1 + k * 12 + 2, none⟩ = some (.bool x2) := Gr.cell a2
      have a3 : ∀ p : Gr V, p.W.cell? ⟨b1, o1 + k * 12 + 3, none⟩ = some (.int .i64 x3) := Gr.cell a3
      have a4 : ∀ p : Gr V, p.W.cell? ⟨b1, o1 + k * 12 + 4, none⟩ = some (.int .i64 x4) := Gr.cell a4
      have a5 : ∀ p : Gr V, p.W.cell? ⟨b1, o1 + k * 12 + 5, none⟩ = some (.int .i64 x5) := Gr.cell a5
      have a6 : ∀ p : Gr V, p.W.cell? ⟨b1, o1 + k * 12 + 6, none⟩ = some (.int .i64 x6) := Gr.cell a6
      have a7 : ∀ p : Gr V, p.W.cell? ⟨b1, o1 + k * 12 + 7, none⟩ = some (.int .i64 x7) := Gr.cell a7
      have a8 : ∀ p : Gr V, p.W.cell? ⟨b1, o1 + k * 12 + 8, none⟩ = some (.slice Ap1 x8.length p1) := Gr.cell a8
      have a9 : ∀ p : Gr V, p.W.cell? ⟨b1, o1 + k * 12 + 9, none⟩ = some (.int .i64 x9) := Gr.cell a9
      have a10 : ∀ p : Gr V, p.W.cell? ⟨b1, o1 + k * 12 + 10, none⟩ = some (.int .i64 x10) := Gr.cell a10
      have a11 : ∀ p : Gr V, p.W.cell? ⟨b1, o1 + k * 12 + 11, none⟩ = some (.int .i64 x11) := Gr.cell a11
      have d0 : ∀ p : Gr V, p.W.cell? ⟨b2, o2 + k * 12, none⟩ = some (.int .i64 x0) := Gr.cell d0
      have d1 : ∀ p : Gr V, p.W.cell? ⟨b2, o2 + k * 12 + 1, none⟩ = some (.int .i64 x1) := Gr.cell d1
      have d2 : ∀ p : Gr V, p.W.cell? ⟨b2, o2 + k * 12 + 2, none⟩ = some (.bool x2) := Gr.cell d2
      have d3 : ∀ p : Gr V, p.W.cell? ⟨b2, o2 + k * 12 + 3, none⟩ = some (.int .i64 x3) := Gr.cell d3
      have d4 : ∀ p : Gr V, p.W.cell? ⟨b2, o2 + k * 12 + 4, none⟩ = some (.int .i64 x4) := Gr.cell d4
      have d5 : ∀ p : Gr V, p.W.cell? ⟨b2, o2 + k * 12 + 5, none⟩ = some (.int .i64 x5) := Gr.cell d5
      have d6 : ∀ p : Gr V, p.W.cell? ⟨b2, o2 + k * 12 + 6, none⟩ = some (.int .i64 x6) := Gr.cell d6
      have d7 : ∀ p : Gr V, p.W.cell? ⟨b2, o2 + k * 12 + 7, none⟩ = some (.int .i64 x7) := Gr.cell d7
      have d8 : ∀ p : Gr V, p.W.cell? ⟨b2, o2 + k * 12 + 8, none⟩ = some (.slice Ap2 x8.length p2) := Gr.cell d8
      have d9 : ∀ p : Gr V, p.W.cell? ⟨b2, o2 + k * 12 + 9, none⟩ = some (.int .i64 x9) := Gr.cell d9
      have d10 : ∀ p : Gr V, p.W.cell? ⟨b2, o2 + k * 12 + 10, none⟩ = some (.int .i64 x10) := Gr.cell d10
      have d11 : ∀ p : Gr V, p.W.cell? ⟨b2, o2 + k * 12 + 11, none⟩ = some (.int .i64 x11) := Gr.cell d11
      refine wp_region_gr (by kernel_rfl) (by kernel_rfl) ?_
      repeat (go_big_quiet_step ((with_reducible exact Gr.call _ (fun V hV => HC.out V hV))))
      refine wpQuiet_nil ?_
      rintro Y ⟨⟨_, hbY⟩, rfl⟩
      have HBY := Lib.hid (HB.out.trans (hbY.mono HB.out.size))
      clear a0 a1 a2 a3 a4 a5 a6 a7 a8 a9 a10 a11 d0 d1 d2 d3 d4 d5 d6 d7 d8 d9 d10 d11 hbY HC HB
      go_wp2_with fail
      go_roundw
      case rel => first | exact ⟨k + 1, by omega, by go_num, HBY⟩ | ((repeat apply Exists.intro); (first | exact ⟨⟨k + 1, by omega, by go_num, HBY⟩, rfl⟩ | exact ⟨by omega, by go_num, HBY⟩))
      case measure => simp [intOf]; omega
    · obtain rfl : k = l.length := by omega
      go_wp2_with fail
      go_ret
      exact ⟨rfl, HB.out⟩
theorem lentC_at {l : List Col} {k : Nat} (h : k < l.length) : (lentC l ++ marksC 12).getD k default = (l.getD k default, marksI 12) := by
  rw [List.getD_eq_getElem?_getD, List.getElem?_append_left (by rw [lentC_len]; exact h)]
  simp [lentC, h]
theorem lentC_beh {l : List Col} {k : Nat} (h : l.length ≤ k) (h2 : k < l.length + 12) : (lentC l ++ marksC 12).getD k default = (mkCol (k - l.length), []) := by
  rw [List.getD_eq_getElem?_getD, List.getElem?_append_right (by rw [lentC_len]; exact h), lentC_len]
  simp [marksC, List.getElem?_range, show k - l.length < 12 by omega]
set_option maxRecDepth 100000 in
set_option maxHeartbeats 4000000 in
theorem keptColumns_any (A1 A2 : Option Addr) (c1 c2 : Nat) (l : List Col) (w : World) (h1 : SlT tColK w (Lt w.heap.size) A1 (lentC l ++ marksC 12)) (hc : l.length + 12 ≤ c1) (h2 : SlT tCol w (Lt w.heap.size) A2 l) (hl : l.length ≤ 1000000000) (hp : ∀ x ∈ l, x.plugs.length ≤ 17592186043904) :
    Calls Tryd.prog 41 #[.slice A1 l.length c1, .slice A2 l.length c2] w (Ret w (.bool true)) := by
  have HS1 := Lib.hid h1
  have HS2 := Lib.hid h2
  have HP := Lib.hid hp
  clear h1 h2 hp
  have hlen : (lentC l ++ marksC 12).length = l.length + 12 := by rw [List.length_append, lentC_len, marksC_len]
  have HLEN := Lib.hid hlen
  clear hlen
  have hb0 : ((l.length : Int) != (l.length : Int)) = false := by simp
  have j1 : (0 : Int) ≤ (l.length : Int) + 12 := by omega
  have j2 : (l.length : Int) + 12 ≤ (c1 : Int) := by omega
  go_enter Tryd.func41, Tryd.ntmps41
  go_wp2_with fail
  go_loopw [6] (fun i wr => ∃ k : Nat, k ≤ l.length + 12 ∧ i = .int .i64 k ∧ Hid (Below w.heap.size w wr)) (fun i _ => l.length + 12 - (intOf i).toNat)
  case atStart => exact ⟨0, Nat.zero_le _, rfl, Lib.hid (Below.refl _ _)⟩
  case round =>
    obtain ⟨k, hk, rfl, HB⟩ := hrel
    obtain ⟨V, rfl⟩ : ∃ V, V = wr := ⟨_, rfl⟩
    by_cases hlt : k < l.length + 12
    · obtain ⟨b1, o1, Ap1, p1, rfl, _, hp1, hs1, hcel⟩ := (HS1.out.on HB.out).colK (i := k) (by rw [HLEN.out]; exact hlt)
      have i0 : (0 : Int) ≤ (k : Int) := by omega
      have i1 : (k : Int) < (l.length : Int) + 12 := by omega
      by_cases hin : k < l.length
      · obtain ⟨b2, o2, Ap2, p2, rfl, _, _, hs2, d0, d1, d2, d3, d4, d5, d6, d7, d8, d9, d10, d11⟩ := (HS2.out.on HB.out).col hin
        rw [lentC_at hin] at hp1 hs1 hcel
        have i2 : (k : Int) < (l.length : Int) := by omega
        have q1 : decide (k < l.length) = true := by simpa using hin
        have q2 : decide (l.length ≤ k) = false := by simp; omega
        have HXP := HP.out _ (getD_memD hin default)
        generalize l.getD k default = x at *
        simp only at hp1 hs1 hcel
        rw [marksI_len] at hp1
        have HC := Lib.hid (fun (V' : World) (hV : Below V.heap.size V V') => keptColumn_any x Ap1 Ap2 p1 p2 V' (hs1.on hV) hp1 (hs2.on hV) HXP)
        clear hs1 hs2 HXP hp1
        obtain ⟨x0, x1, x2, x3, x4, x5, x6, x7, x8, x9, x10, x11⟩ := x
        unfold colL at HC hcel
        simp only at d0 d1 d2 d3 d4 d5 d6 d7 d8 d9 d10 d11 HC hcel
        have a0 : V.cell? ⟨b1, o1 + k * 12, none⟩ = some (.int .i64 x0) := hcel 0 _ rfl
        have a1 : V.cell? ⟨b1, o1 + k * 12 + 1, none⟩ = some (.int .i64 x1) := hcel 1 _ rfl
        have a2 : V.cell? ⟨b1, o1 + k * 12 + 2, none⟩ = some (.bool x2) := hcel 2 _ rfl
        have a3 : V.cell? ⟨b1, o1 + k * 12 + 3, none⟩ = some (.int .i64 x3) := hcel 3 _ rfl
        have a4 : V.cell? ⟨b1, o1 + k * 12 + 4, none⟩ = some (.int .i64 x4) := hcel 4 _ rfl
        have a5 : V.cell? ⟨b1, o1 + k * 12 + 5, none⟩ = some (.int .i64 x5) := hcel 5 _ rfl
        have a6 : V.cell? ⟨b1, o1 + k * 12 + 6, none⟩ = some (.int .i64 x6) := hcel 6 _ rfl
        have a7 : V.cell? ⟨b1, o1 + k * 12 + 7, none⟩ = some (.int .i64 x7) := hcel 7 _ rfl
        have a8 : V.cell? ⟨b1, o1 + k * 12 + 8, none⟩ = some (.slice Ap1 x8.length p1) := hcel 8 _ rfl
        have a9 : V.cell? ⟨b1, o1 + k * 12 + 9, none⟩ = some (.int .i64 x9) := hcel 9 _ rfl
        have a10 : V.cell? ⟨b1, o1 + k * 12 + 10, none⟩ = some (.int .i64 x10) := hcel 10 _ rfl
        have a11 : V.cell? ⟨b1, o1 + k * 12 + 11, none⟩ = some (.int .i64 x11) := hcel 11 _ rfl
        clear hcel
        go_upto_region 7 with fail
        have a0 : ∀ p : Gr V, p.W.cell? ⟨b1, o1 + k * 12, none⟩ = some (.int .i64 x0) := Gr.cell a0
        have a1 : ∀ p : Gr V, p.W.cell? ⟨b1, o1 + k * 12 + 1, none⟩ = some (.int .i64 x1) := Gr.cell a1
        have a2 : ∀ p : Gr V, p.W.cell? ⟨b1, o1 + k * 12 + 2, none⟩ = some (.bool x2) := Gr.cell a2
        have a3 : ∀ p : Gr V, p.W.cell? ⟨b1, o1 + k * 12 + 3, none⟩ = some (.int .i64 x3) := Gr.cell a3
        have a4 : ∀ p : Gr V, p.W.cell? ⟨b1, o1 + k * 12 + 4, none⟩ = some (.int .i64 x4) := Gr.cell a4
        have a5 : ∀ p : Gr V, p.W.cell? ⟨b1, o1 + k * 12 + 5, none⟩ = some (.int .i64 x5) := Gr.cell a5
        have a6 : ∀ p : Gr V, p.W.cell? ⟨b1, o1 + k * 12 + 6, none⟩ = some (.int .i64 x6) := Gr.cell a6
        have a7 : ∀ p : Gr V, p.W.cell? ⟨b1, o1 + k * 12 + 7, none⟩ = some (.int .i64 x7) := Gr.cell a7
        have a8 : ∀ p : Gr V, p.W.cell? ⟨b1, o1 + k * 12 + 8, none⟩ = some (.slice Ap1 x8.length p1) := Gr.cell a8
        have a9 : ∀ p : Gr V, p.W.cell? ⟨b1, o1 + k * 12 + 9, none⟩ = some (.int .i64 x9) := Gr.cell a9
        have a10 : ∀ p : Gr V, p.W.cell? ⟨b1, o1 + k * 12 + 10, none⟩ = some (.int .i64 x10) := Gr.cell a10
        have a11 : ∀ p : Gr V, p.W.cell? ⟨b1, o1 + k * 12 + 11, none⟩ = some (.int .i64 x11) := Gr.cell a11
        have d0 : ∀ p : Gr V, p.W.cell? ⟨b2, o2 + k * 12, none⟩ = some (.int .i64 x0) := Gr.cell d0
        have d1 : ∀ p : Gr V, p.W.cell? ⟨b2, o2 + k * 12 + 1, none⟩ = some (.int .i64 x1) := Gr.cell d1
        have d2 : ∀ p : Gr V, p.W.cell? ⟨b2, o2 + k * 12 + 2, none⟩ = some (.bool x2) := Gr.cell d2
        have d3 : ∀ p : Gr V, p.W.cell? ⟨b2, o2 + k * 12 + 3, none⟩ = some (.int .i64 x3) := Gr.cell d3
        have d4 : ∀ p : Gr V, p.W.cell? ⟨b2, o2 + k * 12 + 4, none⟩ = some (.int .i64 x4) := Gr.cell d4
        have d5 : ∀ p : Gr V, p.W.cell? ⟨b2, o2 + k * 12 + 5, none⟩ = some (.int .i64 x5) := Gr.cell d5
        have d6 : ∀ p : Gr V, p.W.cell? ⟨b2, o2 + k * 12 + 6, none⟩ = some (.int .i64 x6) := Gr.cell d6
        have d7 : ∀ p : Gr V, p.W.cell? ⟨b2, o2 + k * 12 + 7, none⟩ = some (.int .i64 x7) := Gr.cell d7
        have d8 : ∀ p : Gr V, p.W.cell? ⟨b2, o2 + k * 12 + 8, none⟩ = some (.slice Ap2 x8.length p2) := Gr.cell d8
        have d9 : ∀ p : Gr V, p.W.cell? ⟨b2, o2 + k * 12 + 9, none⟩ = some (.int .i64 x9) := Gr.cell d9
        have d10 : ∀ p : Gr V, p.W.cell? ⟨b2, o2 + k * 12 + 10, none⟩ = some (.int .i64 x10) := Gr.cell d10
        have d11 : ∀ p : Gr V, p.W.cell? ⟨b2, o2 + k * 12 + 11, none⟩ = some (.int .i64 x11) := Gr.cell d11
        refine wp_region_gr (by kernel_rfl) (by kernel_rfl) ?_
        repeat (go_big_quiet_step ((with_reducible exact Gr.call _ (fun V hV => HC.out V hV))))
        refine wpQuiet_nil ?_
        rintro Y ⟨⟨_, hbY⟩, rfl⟩
        have HBY := Lib.hid (HB.out.trans (hbY.mono HB.out.size))
        clear a0 a1 a2 a3 a4 a5 a6 a7 a8 a9 a10 a11 d0 d1 d2 d3 d4 d5 d6 d7 d8 d9 d10 d11 hbY HC HB q1 q2
        go_wp2_with fail
        go_roundw
        case rel => first | exact ⟨k + 1, by omega, by go_num, HBY⟩ | ((repeat apply Exists.intro); (first | exact ⟨⟨k + 1, by omega, by go_num, HBY⟩, rfl⟩ | exact ⟨by omega, by go_num, HBY⟩))
        case measure => simp [intOf]; omega
      · rw [lentC_beh (by omega) hlt] at hp1 hs1 hcel
        have q1 : decide (k < l.length) = false := by simp; omega
        have q2 : decide (l.length ≤ k) = true := by simp; omega
        obtain ⟨j, hj⟩ : ∃ j, k - l.length = j := ⟨_, rfl⟩
        rw [hj] at hp1 hs1 hcel
        have s1 : IntKind.i64.wrap ((k : Int) - (l.length : Int)) = (j : Int) := by rw [IntWalk.i64_in _ (by omega)]; omega
        have HM := Lib.hid (fun (V' : World) (hV : Below V.heap.size V V') => markColumn_any j V' (by omega))
        have hnil : (mkCol j).plugs = [] := rfl
        have hln : (mkCol j).plugs.length = 0 := rfl
        clear hj
        generalize mkCol j = x at *
        simp only [List.append_nil] at hp1 hs1 hcel
        have HC := Lib.hid (fun (V' : World) (hV : Below V.heap.size V V') => sameColumn_any x Ap1 none p1 0 V' (hs1.on hV) (by rw [hnil]; exact SlT.nil) (by rw [hnil]; exact Nat.zero_le _))
        clear hs1 hp1
        obtain ⟨x0, x1, x2, x3, x4, x5, x6, x7, x8, x9, x10, x11⟩ := x
        unfold colL at HC hcel HM
        simp only at HC hcel HM hnil hln
        subst hnil
        clear hln
        simp only [List.length_nil] at HC HM
        have a0 : V.cell? ⟨b1, o1 + k * 12, none⟩ = some (.int .i64 x0) := hcel 0 _ rfl
        have a1 : V.cell? ⟨b1, o1 + k * 12 + 1, none⟩ = some (.int .i64 x1) := hcel 1 _ rfl
        have a2 : V.cell? ⟨b1, o1 + k * 12 + 2, none⟩ = some (.bool x2) := hcel 2 _ rfl
        have a3 : V.cell? ⟨b1, o1 + k * 12 + 3, none⟩ = some (.int .i64 x3) := hcel 3 _ rfl
        have a4 : V.cell? ⟨b1, o1 + k * 12 + 4, none⟩ = some (.int .i64 x4) := hcel 4 _ rfl
        have a5 : V.cell? ⟨b1, o1 + k * 12 + 5, none⟩ = some (.int .i64 x5) := hcel 5 _ rfl
        have a6 : V.cell? ⟨b1, o1 + k * 12 + 6, none⟩ = some (.int .i64 x6) := hcel 6 _ rfl
        have a7 : V.cell? ⟨b1, o1 + k * 12 + 7, none⟩ = some (.int .i64 x7) := hcel 7 _ rfl
        have a8 : V.cell? ⟨b1, o1 + k * 12 + 8, none⟩ = some (.slice Ap1 0 p1) := hcel 8 _ rfl
        have a9 : V.cell? ⟨b1, o1 + k * 12 + 9, none⟩ = some (.int .i64 x9) := hcel 9 _ rfl
        have a10 : V.cell? ⟨b1, o1 + k * 12 + 10, none⟩ = some (.int .i64 x10) := hcel 10 _ rfl
        have a11 : V.cell? ⟨b1, o1 + k * 12 + 11, none⟩ = some (.int .i64 x11) := hcel 11 _ rfl
        clear hcel
        go_upto_region 7 with fail
        have a0 : ∀ p : Gr V, p.W.cell? ⟨b1, o1 + k * 12, none⟩ = some (.int .i64 x0) := Gr.cell a0
        have a1 : ∀ p : Gr V, p.W.cell? ⟨b1, o1 + k * 12 + 1, none⟩ = some (.int .i64 x1) := Gr.cell a1
        have a2 : ∀ p : Gr V, p.W.cell? ⟨b1, o1 + k * 12 + 2, none⟩ = some (.bool x2) := Gr.cell a2
        have a3 : ∀ p : Gr V, p.W.cell? ⟨b1, o1 + k * 12 + 3, none⟩ = some (.int .i64 x3) := Gr.cell a3
        have a4 : ∀ p : Gr V, p.W.cell? ⟨b1, o1 + k * 12 + 4, none⟩ = some (.int .i64 x4) := Gr.cell a4
        have a5 : ∀ p : Gr V, p.W.cell? ⟨b1, o1 + k * 12 + 5, none⟩ = some (.int .i64 x5) := Gr.cell a5
        have a6 : ∀ p : Gr V, p.W.cell? ⟨b1, o1 + k * 12 + 6, none⟩ = some (.int .i64 x6) := Gr.cell a6
        have a7 : ∀ p : Gr V, p.W.cell? ⟨b1, o1 + k * 12 + 7, none⟩ = some (.int .i64 x7) := Gr.cell a7
        have a8 : ∀ p : Gr V, p.W.cell? ⟨b1, o1 + k * 12 + 8, none⟩ = some (.slice Ap1 0 p1) := Gr.cell a8
        have a9 : ∀ p : Gr V, p.W.cell? ⟨b1, o1 + k * 12 + 9, none⟩ = some (.int .i64 x9) := Gr.cell a9
        have a10 : ∀ p : Gr V, p.W.cell? ⟨b1, o1 + k * 12 + 10, none⟩ = some (.int .i64 x10) := Gr.cell a10
        have a11 : ∀ p : Gr V, p.W.cell? ⟨b1, o1 + k * 12 + 11, none⟩ = some (.int .i64 x11) := Gr.cell a11
        refine wp_region_gr (by kernel_rfl) (by kernel_rfl) ?_
        repeat (go_big_quiet_step ((first | (with_reducible exact Gr.call _ (fun V hV => HM.out V hV)) | (with_reducible exact Gr.call _ (fun V hV => HC.out V hV)))))
        refine wpQuiet_nil ?_
        rintro Y ⟨⟨_, hbY⟩, rfl⟩
        have HBY := Lib.hid (HB.out.trans (hbY.mono HB.out.size))
        clear a0 a1 a2 a3 a4 a5 a6 a7 a8 a9 a10 a11 hbY HC HB q1 q2 s1 HM
        go_wp2_with fail
        go_roundw
        case rel => first | exact ⟨k + 1, by omega, by go_num, HBY⟩ | ((repeat apply Exists.intro); (first | exact ⟨⟨k + 1, by omega, by go_num, HBY⟩, rfl⟩ | exact ⟨by omega, by go_num, HBY⟩))
        case measure => simp [intOf]; omega
    · obtain rfl : k = l.length + 12 := by omega
      go_wp2_with fail
      go_ret
      exact ⟨rfl, HB.out⟩
end Go.Proofs.YtpmhchbkhohmjaaDoor
