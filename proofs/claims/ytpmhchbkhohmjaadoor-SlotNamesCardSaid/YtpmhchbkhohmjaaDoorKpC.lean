/-
  Walks of package twistlockkit: SameTank, KeptTank, SameTanks, KeptTanks: true of what nobody has turned.
-/
import Derived.Test.YtpmhchbkhohmjaaDoorKpB
namespace Go.Proofs.YtpmhchbkhohmjaaDoor
open Go.RowKit

set_option maxRecDepth 100000 in
theorem SlT.tnkK {w : World} {S : Nat → Prop} {A : Option Addr} {l : List (Tnk × List Int)} (h : SlT tTnkK w S A l) {i : Nat} (hi : i < l.length) :
    ∃ b off Ap p, A = some ⟨b, off, none⟩ ∧ S b ∧ (l.getD i default).1.steps.length + (l.getD i default).2.length ≤ p ∧ SlT tInt w S Ap ((l.getD i default).1.steps ++ (l.getD i default).2) ∧
      ∀ j u, (tnkL (l.getD i default).1 Ap p)[j]? = some u → w.cell? ⟨b, off + i * 6 + j, none⟩ = some u := by
  obtain ⟨b, off, cs, e, hb, ⟨Ap, p, rfl, h1, h2⟩, hc⟩ := h.at_ hi default
  exact ⟨b, off, Ap, p, e, hb, h1, h2, fun j u hu => hc j u hu⟩
set_option maxRecDepth 100000 in
set_option maxHeartbeats 4000000 in
theorem sameTank_any (x : Tnk) (A B : Option Addr) (p q : Nat) (w : World) (hA : SlT tInt w (Lt w.heap.size) A x.steps) (hB : SlT tInt w (Lt w.heap.size) B x.steps) (hl : x.steps.length ≤ 17592186043904) :
    Calls Tryd.prog 83 #[.agg (tnkL x A p).toArray, .agg (tnkL x B q).toArray] w (Ret w (.bool true)) := by
  have hb0 := ba2 w (.cells (tnkL x A p).toArray 108) (.cells (tnkL x B q).toArray 108)
  have HC := Lib.hid (sameInts_any A B p q x.steps x.steps _ _ _ (hA.on hb0) (hB.on hb0) (by unfold maxLen; omega))
  rw [decide_eq_true rfl] at HC
  have HB0 := Lib.hid hb0
  clear hA hB hb0
  obtain ⟨x0, x1, x2, x3, x4, x5⟩ := x
  unfold tnkL at *
  simp only at *
  go_enter Tryd.func83, Tryd.ntmps83
  go_wp2_with fail
  refine HC.out.mono ?_
  rintro e w3 ⟨rfl, m, rfl⟩
  simp only
  clear HC
  go_wp2_with fail
  go_ret
  exact ⟨rfl, below_drewN HB0.out m⟩
set_option maxRecDepth 100000 in
set_option maxHeartbeats 4000000 in
theorem keptTank_any (x : Tnk) (A B : Option Addr) (p q : Nat) (w : World) (hA : SlT tInt w (Lt w.heap.size) A (x.steps ++ marksI 12)) (hp : x.steps.length + 12 ≤ p) (hB : SlT tInt w (Lt w.heap.size) B x.steps) (hl : x.steps.length ≤ 17592186043904) :
    Calls Tryd.prog 82 #[.agg (tnkL x A p).toArray, .agg (tnkL x B q).toArray] w (Ret w (.bool true)) := by
  have hb0 := ba2 w (.cells (tnkL x A p).toArray 108) (.cells (tnkL x B q).toArray 108)
  have HC := Lib.hid (sameTank_any x A B p q _ (hA.on hb0).fst (hB.on hb0) hl)
  have HA := Lib.hid (hA.on hb0)
  have HB := Lib.hid (hB.on hb0)
  have KX := Lib.hid ((Bk.new w 108 (tnkL x A p).toArray).alloc (.cells (tnkL x B q).toArray 108))
  have KZ := Lib.hid (Bk.nxt (w := w) (.cells (tnkL x A p).toArray 108) 108 (tnkL x B q).toArray)
  have HB0 := Lib.hid hb0
  clear hA hB hb0
  obtain ⟨x0, x1, x2, x3, x4, x5⟩ := x
  unfold tnkL at *
  simp only at *
  go_enter Tryd.func82, Tryd.ntmps82
  go_wp2_with fail
  refine HC.out.mono ?_
  rintro e V ⟨rfl, hb⟩
  simp only
  have y8 : V.cell? ⟨w.heap.size, 5, none⟩ = some (.slice A x5.length p) := (KX.out.below hb KX.out.lt).cell 5
  have z8 : V.cell? ⟨w.heap.size + 1, 5, none⟩ = some (.slice B x5.length q) := (KZ.out.below hb KZ.out.lt).cell 5
  have HK := Lib.hid (keptInts2_any A B p q x5 V (HA.out.on hb) (HB.out.on hb) hp hl)
  have HBV := Lib.hid (HB0.out.trans (hb.mono HB0.out.size))
  clear HC HA HB KX KZ HB0 hb
  go_wp2_with fail
  refine HK.out.mono ?_
  rintro e w3 ⟨rfl, hb2⟩
  simp only
  have HBZ := Lib.hid (HBV.out.trans (hb2.mono HBV.out.size))
  clear HK HBV hb2 y8 z8
  go_wp2_with fail
  go_ret
  exact ⟨rfl, HBZ.out⟩
set_option maxRecDepth 100000 in
set_option maxHeartbeats 4000000 in
theorem sameTanks_any (A1 A2 : Option Addr) (c1 c2 : Nat) (l : List Tnk) (w : World) (h1 : SlT tTnk w (Lt w.heap.size) A1 l) (h2 : SlT tTnk w (Lt w.heap.size) A2 l) (hl : l.length ≤ 2199023255488) (hp : ∀ x ∈ l, x.steps.length ≤ 17592186043904) :
    Calls Tryd.prog 77 #[.slice A1 l.length c1, .slice A2 l.length c2] w (Ret w (.bool true)) := by
  have HS1 := Lib.hid h1
  have HS2 := Lib.hid h2
  have HP := Lib.hid hp
  clear h1 h2 hp
  have hb0 : ((l.length : Int) != (l.length : Int)) = false := by simp
  go_enter Tryd.func77, Tryd.ntmps77
  go_wp2_with fail
  go_loopw [5] (fun i wr => ∃ k : Nat, k ≤ l.length ∧ i = .int .i64 k ∧ Hid (Below w.heap.size w wr)) (fun i _ => l.length - (intOf i).toNat)
  case atStart => exact ⟨0, Nat.zero_le _, rfl, Lib.hid (Below.refl _ _)⟩
  case round =>
    obtain ⟨k, hk, rfl, HB⟩ := hrel
    obtain ⟨V, rfl⟩ : ∃ V, V = wr := ⟨_, rfl⟩
    by_cases hlt : k < l.length
    · obtain ⟨b1, o1, Ap1, p1, rfl, _, _, hs1, a0, a1, a2, a3, a4, a5⟩ := (HS1.out.on HB.out).tnk hlt
      obtain ⟨b2, o2, Ap2, p2, rfl, _, _, hs2, d0, d1, d2, d3, d4, d5⟩ := (HS2.out.on HB.out).tnk hlt
      have i0 : (0 : Int) ≤ (k : Int) := by omega
      have i1 : (k : Int) < (l.length : Int) := by omega
      have HXP := HP.out _ (getD_memD hlt default)
      generalize l.getD k default = x at *
      have HC := Lib.hid (fun (V' : World) (hV : Below V.heap.size V V') => sameTank_any x Ap1 Ap2 p1 p2 V' (hs1.on hV) (hs2.on hV) HXP)
      clear hs1 hs2 HXP
      obtain ⟨x0, x1, x2, x3, x4, x5⟩ := x
      unfold tnkL at HC
      simp only at a0 a1 a2 a3 a4 a5 d0 d1 d2 d3 d4 d5 HC
      go_upto_region 6 with fail
      have a0 : ∀ p : Gr V, p.W.cell? ⟨b1, o1 + k * 6, none⟩ = some (.int .i64 x0) := Gr.cell a0
      have a1 : ∀ p : Gr V, p.W.cell? ⟨b1, o1 + k * 6 + 1, none⟩ = some (.int .i64 x1) := Gr.cell a1
      have a2 : ∀ p : Gr V, p.W.cell? ⟨b1, o1 + k * 6 + 2, none⟩ = some (.int .i64 x2) := Gr.cell a2
      have a3 : ∀ p : Gr V, p.W.cell? ⟨b1, o1 + k * 6 + 3, none⟩ = some (.int .i64 x3) := Gr.cell a3
      have a4 : ∀ p : Gr V, p.W.cell? ⟨b1, o1 + k * 6 + 4, none⟩ = some (.int .i64 x4) := Gr.cell a4
      have a5 : ∀ p : Gr V, p.W.cell? ⟨b1, o1 + k * 6 + 5, none⟩ = some (.slice Ap1 x5.length p1) := Gr.cell a5
      have d0 : ∀ p : Gr V, p.W.cell? ⟨b2, o2 + k * 6, none⟩ = some (.int .i64 x0) := Gr.cell d0
      have d1 : ∀ p : Gr V, p.W.cell? ⟨b2, o2 + k * 6 + 1, none⟩ = some (.int .i64 x1) := Gr.cell d1
      have d2 : ∀ p : Gr V, p.W.cell? ⟨b2, o2 + k * 6 + 2, none⟩ = some (.int .i64 x2) := Gr.cell d2
      have d3 : ∀ p : Gr V, p.W.cell? ⟨b2, o2 + k * 6 + 3, none⟩ = some (.int .i64 x3) := Gr.cell d3
      have d4 : ∀ p : Gr V, p.W.cell? ⟨b2, o2 + k * 6 + 4, none⟩ = some (.int .i64 x4) := Gr.cell d4
      have d5 : ∀ p : Gr V, p.W.cell? ⟨b2, o2 + k * 6 + 5, none⟩ = some (.slice Ap2 x5.length p2) := Gr.cell d5
      refine wp_region_gr (by kernel_rfl) (by kernel_rfl) ?_
      repeat (go_big_quiet_step ((with_reducible exact Gr.call _ (fun V hV => HC.out V hV))))
      refine wpQuiet_nil ?_
      rintro Y ⟨⟨_, hbY⟩, rfl⟩
      have HBY := Lib.hid (HB.out.trans (hbY.mono HB.out.size))
      clear a0 a1 a2 a3 a4 a5 d0 d1 d2 d3 d4 d5 hbY HC HB
      go_wp2_with fail
      go_roundw
      case rel => first | exact ⟨k + 1, by omega, by go_num, HBY⟩ | ((repeat apply Exists.intro); (first | exact ⟨⟨k + 1, by omega, by go_num, HBY⟩, rfl⟩ | exact ⟨by omega, by go_num, HBY⟩))
      case measure => simp [intOf]; omega
    · obtain rfl : k = l.length := by omega
      go_wp2_with fail
      go_ret
      exact ⟨rfl, HB.out⟩
theorem lentTn_at {l : List Tnk} {k : Nat} (h : k < l.length) : (lentTn l ++ marksTn 12).getD k default = (l.getD k default, marksI 12) := by
  rw [List.getD_eq_getElem?_getD, List.getElem?_append_left (by rw [lentTn_len]; exact h)]
  simp [lentTn, h]
theorem lentTn_beh {l : List Tnk} {k : Nat} (h : l.length ≤ k) (h2 : k < l.length + 12) : (lentTn l ++ marksTn 12).getD k default = (mkTnk (k - l.length), []) := by
  rw [List.getD_eq_getElem?_getD, List.getElem?_append_right (by rw [lentTn_len]; exact h), lentTn_len]
  simp [marksTn, List.getElem?_range, show k - l.length < 12 by omega]
set_option maxRecDepth 100000 in
set_option maxHeartbeats 4000000 in
theorem keptTanks_any (A1 A2 : Option Addr) (c1 c2 : Nat) (l : List Tnk) (w : World) (h1 : SlT tTnkK w (Lt w.heap.size) A1 (lentTn l ++ marksTn 12)) (hc : l.length + 12 ≤ c1) (h2 : SlT tTnk w (Lt w.heap.size) A2 l) (hl : l.length ≤ 2199023255488) (hp : ∀ x ∈ l, x.steps.length ≤ 17592186043904) :
    Calls Tryd.prog 45 #[.slice A1 l.length c1, .slice A2 l.length c2] w (Ret w (.bool true)) := by
  have HS1 := Lib.hid h1
  have HS2 := Lib.hid h2
  have HP := Lib.hid hp
  clear h1 h2 hp
  have hlen : (lentTn l ++ marksTn 12).length = l.length + 12 := by rw [List.length_append, lentTn_len, marksTn_len]
  have HLEN := Lib.hid hlen
  clear hlen
  have hb0 : ((l.length : Int) != (l.length : Int)) = false := by simp
  have j1 : (0 : Int) ≤ (l.length : Int) + 12 := by omega
  have j2 : (l.length : Int) + 12 ≤ (c1 : Int) := by omega
  go_enter Tryd.func45, Tryd.ntmps45
  go_wp2_with fail
  go_loopw [6] (fun i wr => ∃ k : Nat, k ≤ l.length + 12 ∧ i = .int .i64 k ∧ Hid (Below w.heap.size w wr)) (fun i _ => l.length + 12 - (intOf i).toNat)
  case atStart => exact ⟨0, Nat.zero_le _, rfl, Lib.hid (Below.refl _ _)⟩
  case round =>
    obtain ⟨k, hk, rfl, HB⟩ := hrel
    obtain ⟨V, rfl⟩ : ∃ V, V = wr := ⟨_, rfl⟩
    by_cases hlt : k < l.length + 12
    · obtain ⟨b1, o1, Ap1, p1, rfl, _, hp1, hs1, hcel⟩ := (HS1.out.on HB.out).tnkK (i := k) (by rw [HLEN.out]; exact hlt)
      have i0 : (0 : Int) ≤ (k : Int) := by omega
      have i1 : (k : Int) < (l.length : Int) + 12 := by omega
      by_cases hin : k < l.length
      · obtain ⟨b2, o2, Ap2, p2, rfl, _, _, hs2, d0, d1, d2, d3, d4, d5⟩ := (HS2.out.on HB.out).tnk hin
        rw [lentTn_at hin] at hp1 hs1 hcel
        have i2 : (k : Int) < (l.length : Int) := by omega
        have q1 : decide (k < l.length) = true := by simpa using hin
        have q2 : decide (l.length ≤ k) = false := by simp; omega
        have HXP := HP.out _ (getD_memD hin default)
        generalize l.getD k default = x at *
        simp only at hp1 hs1 hcel
        rw [marksI_len] at hp1
        have HC := Lib.hid (fun (V' : World) (hV : Below V.heap.size V V') => keptTank_any x Ap1 Ap2 p1 p2 V' (hs1.on hV) hp1 (hs2.on hV) HXP)
        clear hs1 hs2 HXP hp1
        obtain ⟨x0, x1, x2, x3, x4, x5⟩ := x
        unfold tnkL at HC hcel
        simp only at d0 d1 d2 d3 d4 d5 HC hcel
        have a0 : V.cell? ⟨b1, o1 + k * 6, none⟩ = some (.int .i64 x0) := hcel 0 _ rfl
        have a1 : V.cell? ⟨b1, o1 + k * 6 + 1, none⟩ = some (.int .i64 x1) := hcel 1 _ rfl
        have a2 : V.cell? ⟨b1, o1 + k * 6 + 2, none⟩ = some (.int .i64 x2) := hcel 2 _ rfl
        have a3 : V.cell? ⟨b1, o1 + k * 6 + 3, none⟩ = some (.int .i64 x3) := hcel 3 _ rfl
        have a4 : V.cell? ⟨b1, o1 + k * 6 + 4, none⟩ = some (.int .i64 x4) := hcel 4 _ rfl
        have a5 : V.cell? ⟨b1, o1 + k * 6 + 5, none⟩ = some (.slice Ap1 x5.length p1) := hcel 5 _ rfl
        clear hcel
        go_upto_region 7 with fail
        have a0 : ∀ p : Gr V, p.W.cell? ⟨b1, o1 + k * 6, none⟩ = some (.int .i64 x0) := Gr.cell a0
        have a1 : ∀ p : Gr V, p.W.cell? ⟨b1, o1 + k * 6 + 1, none⟩ = some (.int .i64 x1) := Gr.cell a1
        have a2 : ∀ p : Gr V, p.W.cell? ⟨b1, o1 + k * 6 + 2, none⟩ = some (.int .i64 x2) := Gr.cell a2
        have a3 : ∀ p : Gr V, p.W.cell? ⟨b1, o1 + k * 6 + 3, none⟩ = some (.int .i64 x3) := Gr.cell a3
        have a4 : ∀ p : Gr V, p.W.cell? ⟨b1, o1 + k * 6 + 4, none⟩ = some (.int .i64 x4) := Gr.cell a4
        have a5 : ∀ p : Gr V, p.W.cell? ⟨b1, o1 + k * 6 + 5, none⟩ = some (.slice Ap1 x5.length p1) := Gr.cell a5
        have d0 : ∀ p : Gr V, p.W.cell? ⟨b2, o2 + k * 6, none⟩ = some (.int .i64 x0) := Gr.cell d0
        have d1 : ∀ p : Gr V, p.W.cell? ⟨b2, o2 + k * 6 + 1, none⟩ = some (.int .i64 x1) := Gr.cell d1
        have d2 : ∀ p : Gr V, p.W.cell? ⟨b2, o2 + k * 6 + 2, none⟩ = some (.int .i64 x2) := Gr.cell d2
        have d3 : ∀ p : Gr V, p.W.cell? ⟨b2, o2 + k * 6 + 3, none⟩ = some (.int .i64 x3) := Gr.cell d3
        have d4 : ∀ p : Gr V, p.W.cell? ⟨b2, o2 + k * 6 + 4, none⟩ = some (.int .i64 x4) := Gr.cell d4
        have d5 : ∀ p : Gr V, p.W.cell? ⟨b2, o2 + k * 6 + 5, none⟩ = some (.slice Ap2 x5.length p2) := Gr.cell d5
        refine wp_region_gr (by kernel_rfl) (by kernel_rfl) ?_
        repeat (go_big_quiet_step ((with_reducible exact Gr.call _ (fun V hV => HC.out V hV))))
        refine wpQuiet_nil ?_
        rintro Y ⟨⟨_, hbY⟩, rfl⟩
        have HBY := Lib.hid (HB.out.trans (hbY.mono HB.out.size))
        clear a0 a1 a2 a3 a4 a5 d0 d1 d2 d3 d4 d5 hbY HC HB q1 q2
        go_wp2_with fail
        go_roundw
        case rel => first | exact ⟨k + 1, by omega, by go_num, HBY⟩ | ((repeat apply Exists.intro); (first | exact ⟨⟨k + 1, by omega, by go_num, HBY⟩, rfl⟩ | exact ⟨by omega, by go_num, HBY⟩))
        case measure => simp [intOf]; omega
      · rw [lentTn_beh (by omega) hlt] at hp1 hs1 hcel
        have q1 : decide (k < l.length) = false := by simp; omega
        have q2 : decide (l.length ≤ k) = true := by simp; omega
        obtain ⟨j, hj⟩ : ∃ j, k - l.length = j := ⟨_, rfl⟩
        rw [hj] at hp1 hs1 hcel
        have s1 : IntKind.i64.wrap ((k : Int) - (l.length : Int)) = (j : Int) := by rw [IntWalk.i64_in _ (by omega)]; omega
        have HM := Lib.hid (fun (V' : World) (hV : Below V.heap.size V V') => markTank_any j V' (by omega))
        have hnil : (mkTnk j).steps = [] := rfl
        have hln : (mkTnk j).steps.length = 0 := rfl
        clear hj
        generalize mkTnk j = x at *
        simp only [List.append_nil] at hp1 hs1 hcel
        have HC := Lib.hid (fun (V' : World) (hV : Below V.heap.size V V') => sameTank_any x Ap1 none p1 0 V' (hs1.on hV) (by rw [hnil]; exact SlT.nil) (by rw [hnil]; exact Nat.zero_le _))
        clear hs1 hp1
        obtain ⟨x0, x1, x2, x3, x4, x5⟩ := x
        unfold tnkL at HC hcel HM
        simp only at HC hcel HM hnil hln
        subst hnil
        clear hln
        simp only [List.length_nil] at HC HM
        have a0 : V.cell? ⟨b1, o1 + k * 6, none⟩ = some (.int .i64 x0) := hcel 0 _ rfl
        have a1 : V.cell? ⟨b1, o1 + k * 6 + 1, none⟩ = some (.int .i64 x1) := hcel 1 _ rfl
        have a2 : V.cell? ⟨b1, o1 + k * 6 + 2, none⟩ = some (.int .i64 x2) := hcel 2 _ rfl
        have a3 : V.cell? ⟨b1, o1 + k * 6 + 3, none⟩ = some (.int .i64 x3) := hcel 3 _ rfl
        have a4 : V.cell? ⟨b1, o1 + k * 6 + 4, none⟩ = some (.int .i64 x4) := hcel 4 _ rfl
        have a5 : V.cell? ⟨b1, o1 + k * 6 + 5, none⟩ = some (.slice Ap1 0 p1) := hcel 5 _ rfl
        clear hcel
        go_upto_region 7 with fail
        have a0 : ∀ p : Gr V, p.W.cell? ⟨b1, o1 + k * 6, none⟩ = some (.int .i64 x0) := Gr.cell a0
        have a1 : ∀ p : Gr V, p.W.cell? ⟨b1, o1 + k * 6 + 1, none⟩ = some (.int .i64 x1) := Gr.cell a1
        have a2 : ∀ p : Gr V, p.W.cell? ⟨b1, o1 + k * 6 + 2, none⟩ = some (.int .i64 x2) := Gr.cell a2
        have a3 : ∀ p : Gr V, p.W.cell? ⟨b1, o1 + k * 6 + 3, none⟩ = some (.int .i64 x3) := Gr.cell a3
        have a4 : ∀ p : Gr V, p.W.cell? ⟨b1, o1 + k * 6 + 4, none⟩ = some (.int .i64 x4) := Gr.cell a4
        have a5 : ∀ p : Gr V, p.W.cell? ⟨b1, o1 + k * 6 + 5, none⟩ = some (.slice Ap1 0 p1) := Gr.cell a5
        refine wp_region_gr (by kernel_rfl) (by kernel_rfl) ?_
        repeat (go_big_quiet_step ((first | (with_reducible exact Gr.call _ (fun V hV => HM.out V hV)) | (with_reducible exact Gr.call _ (fun V hV => HC.out V hV)))))
        refine wpQuiet_nil ?_
        rintro Y ⟨⟨_, hbY⟩, rfl⟩
        have HBY := Lib.hid (HB.out.trans (hbY.mono HB.out.size))
        clear a0 a1 a2 a3 a4 a5 hbY HC HB q1 q2 s1 HM
        go_wp2_with fail
        go_roundw
        case rel => first | exact ⟨k + 1, by omega, by go_num, HBY⟩ | ((repeat apply Exists.intro); (first | exact ⟨⟨k + 1, by omega, by go_num, HBY⟩, rfl⟩ | exact ⟨by omega, by go_num, HBY⟩))
        case measure => simp [intOf]; omega
    · obtain rfl : k = l.length + 12 := by omega
      go_wp2_with fail
      go_ret
      exact ⟨rfl, HB.out⟩
end Go.Proofs.YtpmhchbkhohmjaaDoor
