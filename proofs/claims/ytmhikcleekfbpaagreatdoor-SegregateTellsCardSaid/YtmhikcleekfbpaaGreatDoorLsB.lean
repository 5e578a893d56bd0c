/-
  Walks of package twistlockkit: LentBoxes, KeptBoxes.
-/
import Derived.Test.YtmhikcleekfbpaaGreatDoorKpA
import Derived.Test.YtmhikcleekfbpaaGreatDoorStA
namespace Go.Proofs.YtmhikcleekfbpaaGreatDoor
open Go.RowKit

theorem Flat.bxK {w w' : World} {S S' : Nat → Prop} : ∀ {xs : List Value} {l : List Bx}, Flat tBx w S xs l → Flat tBx w' S' xs l
  | _, [], h => h
  | _, _ :: _, ⟨cs, ys, e, h1, h2⟩ => ⟨cs, ys, e, h1, Flat.bxK h2⟩
theorem OwnS.nonebxK {w : World} {e : TypeId} {base : Nat} {S : Nat → Prop} {v : Value} {l : List Bx} (h : OwnS tBx e w base S v l) : OwnS tBx e w base (fun _ => False) v l := by
  obtain ⟨xs, h1, h2, _⟩ := h
  exact ⟨xs, h1, h2.bxK, fun _ h => h.elim⟩
theorem info_bxK : (Tryz.prog.info? 56).map (·.size) = some 9 := by kernel_rfl
theorem el_bxK : El Tryz.prog 33 56 9 64 := El.mk' Tryz.underlying33 (by kernel_rfl) (by decide)
def mkBox (i : Nat) : Bx := ⟨mk1 i, ⟨#[]⟩, 0, false, 0, 0, 0, 0, false⟩
def marksBox (n : Nat) : List Bx := (List.range n).map mkBox
theorem marksBox_succ (n : Nat) : marksBox (n + 1) = marksBox n ++ [mkBox n] := by simp [marksBox, List.range_succ]
theorem marksBox_len (n : Nat) : (marksBox n).length = n := by simp [marksBox]
set_option maxRecDepth 100000 in
set_option maxHeartbeats 2000000 in
theorem markBox_any (i : Nat) (w : World) (hi : i ≤ 1000) :
    Calls Tryz.prog 24 #[.int .i64 1, .int .i64 (i : Int)] w (Ret w (.agg #[.int .i64 (mk1 i), .string ⟨#[]⟩, .int .u8 0, .bool false, .int .i64 0, .int .i64 0, .int .i64 0, .int .u8 0, .bool false])) := by
  go_enter Tryz.func24, Tryz.ntmps24
  go_wp2_with (go_at_call 52; refine (mark1_any i _ hi).mono ?_; rintro e w' ⟨rfl, rfl⟩)
  exact bodyPost_ret (results_row1 rfl _ _ w.heap.size 56 #[.int .i64 (mk1 i), .string ⟨#[]⟩, .int .u8 0, .bool false, .int .i64 0, .int .i64 0, .int .i64 0, .int .u8 0, .bool false] _ rfl (Bk.new w _ _) Tryz.underlying56 rfl info_bxK) rfl ⟨rfl, ba1 w _⟩
set_option maxRecDepth 100000 in
set_option maxHeartbeats 2000000 in
theorem lentBoxes_any (A : Option Addr) (c : Nat) (l : List Bx) (w : World) (hs : SlT tBx w (Lt w.heap.size) A l) (hr : l.length ≤ 1000000) :
    Calls Tryz.prog 7 #[.slice A l.length c] w (LentRet tBx w l (marksBox 12)) := by
  obtain ⟨i0, z, hi, hz, h4, h5, _⟩ := el_bxK.info
  have HS := Lib.hid hs; clear hs
  have hfin : Hid (∀ wr v, OwnS tBx 56 wr w.heap.size (Lt w.heap.size) v (l ++ marksBox 12) → Below w.heap.size w wr → ∃ A c, v = .slice A (l.length + 12) c ∧ l.length + 12 ≤ c ∧ c ≤ maxLen ∧ SlT tBx wr (Fr w.heap.size wr) A (l ++ marksBox 12)) := Lib.hid fun wr v ho hb => by
    obtain ⟨A, c, rfl, h1, h2, h3⟩ := ho.nonebxK.sl
    rw [List.length_append, marksBox_len] at h1
    exact ⟨A, c, by rw [List.length_append, marksBox_len], h1, h2, h3.more (or2_fr fun _ h => h.elim)⟩
  go_enter Tryz.func7, Tryz.ntmps7
  go_wp2_with (at_make; refine wpList_make_own _ rfl _ _ 33 rfl w.heap.size 56 i0 z 9 el_bxK.under hi hz h4 _ _ _ (l.length + 12) rfl rfl ?k1 ?k2 ?k3 ?k4 ?_)
  case k1 => omega
  case k2 => rw [h5]; omega
  case k3 => unfold maxLen; omega
  case k4 => exact Nat.le_refl _
  intro w1 ho1 hg1
  have hb1 : Below w.heap.size w w1 := ⟨hg1.os, hg1.tape, hg1.output, hg1.size, fun k hk => hg1.block k hk (by simp)⟩
  have hO1 : OwnS tBx 56 w1 w.heap.size (Lt w.heap.size) (.slice (some ⟨w.heap.size, 0, none⟩) 0 (l.length + 12)) [] := ⟨[], ho1, rfl, fun b hb => ⟨Nat.lt_of_lt_of_le hb hb1.size, by have hb : b < w.heap.size := hb; simp [Value.ownBlock]; omega⟩⟩
  clear ho1 hg1
  have hz1 := hb1.size
  go_wp2_with (at_builtin; refine wpList_append_R el_bxK rfl (.tmp 9) (.tmp 10) rfl w.heap.size (Lt w.heap.size) (.slice (some ⟨w.heap.size, 0, none⟩) 0 (l.length + 12)) [] rfl hO1 A l.length c l rfl rfl ((HS.out.keepB (B := w.heap.size) (fun _ h => h) hb1).src rfl fun b hb => Nat.lt_of_lt_of_le hb hz1) ?d1 ?d2 ?d3 ?_)
  case d1 => unfold maxLen; simp; omega
  case d2 => simp; omega
  case d3 => exact hz1
  intro v2 w2 hO2 hg2 hb2
  have HV := Lib.hid hO2
  have HB := Lib.hid (hb1.trans hb2)
  clear hO1 hb1 hg2 hb2 hz1 HS hO2
  go_wp2_with fail
  go_loopw [3, 4] (fun v i wr => ∃ k : Nat, k ≤ 12 ∧ i = .int .i64 k ∧ Hid (OwnS tBx 56 wr w.heap.size (Lt w.heap.size) v (l ++ marksBox k) ∧ Below w.heap.size w wr)) (fun _ i _ => 12 - (intOf i).toNat)
  case atStart => exact ⟨0, by omega, rfl, Lib.hid ⟨by simpa [marksBox] using HV.out, HB.out⟩⟩
  case round =>
    clear HV HB
    rename_i v i wr
    obtain ⟨k, hk, rfl, HV⟩ := hrel
    obtain ⟨V, rfl⟩ : ∃ V, V = wr := ⟨_, rfl⟩
    by_cases hlt : k < 12
    · have i0' : (0 : Int) ≤ (k : Int) := by omega
      have i1' : (k : Int) < 12 := by omega
      have HSU := Lib.hid (marksBox_succ k)
      have hmk : (marksBox k).length = k := marksBox_len k
      have HC := Lib.hid (markBox_any k V (by omega))
      generalize marksBox k = M at *
      go_wp2_with fail
      refine HC.out.mono ?_
      rintro e V2 ⟨rfl, hb⟩
      simp only
      have hz := HV.out.2.size
      have hb2 : Below V.heap.size V (V2.alloc (.cells #[.int .i64 (mk1 k), .string ⟨#[]⟩, .int .u8 0, .bool false, .int .i64 0, .int .i64 0, .int .i64 0, .int .u8 0, .bool false] 56)) := hb.trans ((ba1 V2 _).mono hb.size)
      have HO := Lib.hid (HV.out.1.below hb2)
      have HSR : Hid (Src tBx (V2.alloc (.cells #[.int .i64 (mk1 k), .string ⟨#[]⟩, .int .u8 0, .bool false, .int .i64 0, .int .i64 0, .int .i64 0, .int .u8 0, .bool false] 56)) (Lt w.heap.size) (some ⟨V2.heap.size, 0, none⟩) 1 [mkBox k]) := Lib.hid (Src.blk (Bk.new V2 _ _) (Flat.single rfl) rfl)
      have HB2 := Lib.hid (HV.out.2.trans (hb2.mono hz))
      have hzz : w.heap.size ≤ (V2.alloc (.cells #[.int .i64 (mk1 k), .string ⟨#[]⟩, .int .u8 0, .bool false, .int .i64 0, .int .i64 0, .int .i64 0, .int .u8 0, .bool false] 56)).heap.size := HB2.out.size
      clear HC hb hb2 HV
      go_wp2_with (at_builtin; refine wpList_append_R el_bxK rfl (.tmp 16) (.tmp 19) rfl w.heap.size (Lt w.heap.size) _ (l ++ M) rfl HO.out (some ⟨V2.heap.size, 0, none⟩) 1 1 [mkBox k] rfl rfl HSR.out ?f1 ?f2 hzz ?_)
      case f1 => unfold maxLen; simp; omega
      case f2 => simp; omega
      intro v3 w3 hO3 hg3 hb3
      have HN : Hid (OwnS tBx 56 w3 w.heap.size (Lt w.heap.size) v3 (l ++ marksBox (k + 1)) ∧ Below w.heap.size w w3) := Lib.hid ⟨by rw [HSU.out, ← List.append_assoc]; first | exact hO3 | (rw [List.append_assoc]; exact hO3), HB2.out.trans hb3⟩
      clear HO HSR hO3 hg3 hb3 HSU HB2
      go_wp2_with fail
      go_roundw
      case rel => first | exact ⟨k + 1, by omega, by go_num, HN⟩ | ((repeat apply Exists.intro); (first | exact ⟨⟨k + 1, by omega, by go_num, HN⟩, rfl⟩ | exact ⟨by omega, by go_num, HN⟩))
      case measure => simp [intOf]; omega
    · obtain rfl : k = 12 := by omega
      obtain ⟨A', c', rfl, h1, h2, h3⟩ := hfin.out _ _ HV.out.1 HV.out.2
      have hb := HV.out.2
      have hm12 := marksBox_len 12
      clear HV
      have i1 : (0 : Int) ≤ (l.length : Int) := by omega
      have i2 : (l.length : Int) ≤ (c' : Int) := by omega
      unfold maxLen at h2
      go_wp2_with fail
      go_ret
      exact ⟨A', c', rfl, by omega, by unfold maxLen; omega, h3, hb⟩
theorem run_eql_bxK (a : Int) (b : ByteArray) (c : Nat) (d : Bool) (e f g : Int) (i : Nat) (j : Bool) (W : World) : (binOp .eql 56 (.agg #[.int .i64 a, .string b, .int .u8 (c : Nat), .bool d, .int .i64 e, .int .i64 f, .int .i64 g, .int .u8 (i : Nat), .bool j]) (.agg #[.int .i64 a, .string b, .int .u8 (c : Nat), .bool d, .int .i64 e, .int .i64 f, .int .i64 g, .int .u8 (i : Nat), .bool j])).run Tryz.prog W = .ok (.bool true) W := by
  simp [go_sem]
theorem marksBox_at {l : List Bx} {k : Nat} (h : k < l.length) : (l ++ marksBox 12).getD k zBx = l.getD k zBx := by
  rw [List.getD_eq_getElem?_getD, List.getElem?_append_left h, List.getD_eq_getElem?_getD]
theorem marksBox_beh {l : List Bx} {k : Nat} (h : l.length ≤ k) (h2 : k < l.length + 12) : (l ++ marksBox 12).getD k zBx = mkBox (k - l.length) := by
  rw [List.getD_eq_getElem?_getD, List.getElem?_append_right h]
  simp [marksBox, show k - l.length < 12 by omega]
set_option maxRecDepth 100000 in
set_option maxHeartbeats 4000000 in
theorem keptBoxes_any (A1 A2 : Option Addr) (c1 c2 : Nat) (l : List Bx) (w : World) (h1 : SlT tBx w (Lt w.heap.size) A1 (l ++ marksBox 12)) (hc : l.length + 12 ≤ c1) (h2 : SlT tBx w (Lt w.heap.size) A2 l) (hl : l.length ≤ 1000000) :
    Calls Tryz.prog 12 #[.slice A1 l.length c1, .slice A2 l.length c2] w (Ret w (.bool true)) := by
  have HS1 := Lib.hid h1
  have HS2 := Lib.hid h2
  clear h1 h2
  have HLEN : Hid ((l ++ marksBox 12).length = l.length + 12) := Lib.hid (by rw [List.length_append, marksBox_len])
  have hb0 : ((l.length : Int) != (l.length : Int)) = false := by simp
  have j1 : (0 : Int) ≤ (l.length : Int) + 12 := by omega
  have j2 : (l.length : Int) + 12 ≤ (c1 : Int) := by omega
  go_enter Tryz.func12, Tryz.ntmps12
  go_wp2_with fail
  go_loopw [6] (fun i wr => ∃ k : Nat, k ≤ l.length + 12 ∧ i = .int .i64 k ∧ Hid (Below w.heap.size w wr)) (fun i _ => l.length + 12 - (intOf i).toNat)
  case atStart => exact ⟨0, Nat.zero_le _, rfl, Lib.hid (Below.refl _ _)⟩
  case round =>
    obtain ⟨k, hk, rfl, HB⟩ := hrel
    obtain ⟨V, rfl⟩ : ∃ V, V = wr := ⟨_, rfl⟩
    by_cases hlt : k < l.length + 12
    · obtain ⟨b1, o1, rfl, _, hA⟩ := (HS1.out.on HB.out).bx (j := k) (by rw [HLEN.out]; exact hlt)
      have i0 : (0 : Int) ≤ (k : Int) := by omega
      have i1 : (k : Int) < (l.length : Int) + 12 := by omega
      by_cases hin : k < l.length
      · obtain ⟨b2, o2, rfl, _, hD⟩ := (HS2.out.on HB.out).bx hin
        rw [marksBox_at hin] at hA
        generalize l.getD k zBx = y at *
        obtain ⟨y0, y1, y2, y3, y4, y5, y6, y7, y8⟩ := y
        have a0 := hA 0 _ rfl
        have d0 := hD 0 _ rfl
        have a1 := hA 1 _ rfl
        have d1 := hD 1 _ rfl
        have a2 := hA 2 _ rfl
        have d2 := hD 2 _ rfl
        have a3 := hA 3 _ rfl
        have d3 := hD 3 _ rfl
        have a4 := hA 4 _ rfl
        have d4 := hD 4 _ rfl
        have a5 := hA 5 _ rfl
        have d5 := hD 5 _ rfl
        have a6 := hA 6 _ rfl
        have d6 := hD 6 _ rfl
        have a7 := hA 7 _ rfl
        have d7 := hD 7 _ rfl
        have a8 := hA 8 _ rfl
        have d8 := hD 8 _ rfl
        clear hA hD
        simp only at a0 a1 a2 a3 a4 a5 a6 a7 a8 d0 d1 d2 d3 d4 d5 d6 d7 d8
        try simp only [Nat.add_zero] at a0 d0
        have i2 : (k : Int) < (l.length : Int) := by omega
        have q1 : decide (k < l.length) = true := by simpa using hin
        have q2 : decide (l.length ≤ k) = false := by simp; omega
        have hrun := run_eql_bxK y0 y1 y2 y3 y4 y5 y6 y7 y8
        go_upto_region 7 with fail
        have a0 : ∀ p : Gr V, p.W.cell? ⟨b1, o1 + k * 9, none⟩ = some (.int .i64 y0) := Gr.cell a0
        have a1 : ∀ p : Gr V, p.W.cell? ⟨b1, o1 + k * 9 + 1, none⟩ = some (.string y1) := Gr.cell a1
        have a2 : ∀ p : Gr V, p.W.cell? ⟨b1, o1 + k * 9 + 2, none⟩ = some (.int .u8 (y2 : Nat)) := Gr.cell a2
        have a3 : ∀ p : Gr V, p.W.cell? ⟨b1, o1 + k * 9 + 3, none⟩ = some (.bool y3) := Gr.cell a3
        have a4 : ∀ p : Gr V, p.W.cell? ⟨b1, o1 + k * 9 + 4, none⟩ = some (.int .i64 y4) := Gr.cell a4
        have a5 : ∀ p : Gr V, p.W.cell? ⟨b1, o1 + k * 9 + 5, none⟩ = some (.int .i64 y5) := Gr.cell a5
        have a6 : ∀ p : Gr V, p.W.cell? ⟨b1, o1 + k * 9 + 6, none⟩ = some (.int .i64 y6) := Gr.cell a6
        have a7 : ∀ p : Gr V, p.W.cell? ⟨b1, o1 + k * 9 + 7, none⟩ = some (.int .u8 (y7 : Nat)) := Gr.cell a7
        have a8 : ∀ p : Gr V, p.W.cell? ⟨b1, o1 + k * 9 + 8, none⟩ = some (.bool y8) := Gr.cell a8
        have d0 : ∀ p : Gr V, p.W.cell? ⟨b2, o2 + k * 9, none⟩ = some (.int .i64 y0) := Gr.cell d0
        have d1 : ∀ p : Gr V, p.W.cell? ⟨b2, o2 + k * 9 + 1, none⟩ = some (.string y1) := Gr.cell d1
        have d2 : ∀ p : Gr V, p.W.cell? ⟨b2, o2 + k * 9 + 2, none⟩ = some (.int .u8 (y2 : Nat)) := Gr.cell d2
        have d3 : ∀ p : Gr V, p.W.cell? ⟨b2, o2 + k * 9 + 3, none⟩ = some (.bool y3) := Gr.cell d3
        have d4 : ∀ p : Gr V, p.W.cell? ⟨b2, o2 + k * 9 + 4, none⟩ = some (.int .i64 y4) := Gr.cell d4
        have d5 : ∀ p : Gr V, p.W.cell? ⟨b2, o2 + k * 9 + 5, none⟩ = some (.int .i64 y5) := Gr.cell d5
        have d6 : ∀ p : Gr V, p.W.cell? ⟨b2, o2 + k * 9 + 6, none⟩ = some (.int .i64 y6) := Gr.cell d6
        have d7 : ∀ p : Gr V, p.W.cell? ⟨b2, o2 + k * 9 + 7, none⟩ = some (.int .u8 (y7 : Nat)) := Gr.cell d7
        have d8 : ∀ p : Gr V, p.W.cell? ⟨b2, o2 + k * 9 + 8, none⟩ = some (.bool y8) := Gr.cell d8
        refine wp_region_gr (by kernel_rfl) (by kernel_rfl) ?_
        repeat (go_big_quiet_step (fail))
        refine wpQuiet_nil ?_
        rintro Y ⟨⟨_, hbY⟩, rfl⟩
        have HBY := Lib.hid (HB.out.trans (hbY.mono HB.out.size))
        clear a0 a1 a2 a3 a4 a5 a6 a7 a8 d0 d1 d2 d3 d4 d5 d6 d7 d8 hbY HB q1 q2 hrun
        go_wp2_with fail
        go_roundw
        case rel => first | exact ⟨k + 1, by omega, by go_num, HBY⟩ | ((repeat apply Exists.intro); (first | exact ⟨⟨k + 1, by omega, by go_num, HBY⟩, rfl⟩ | exact ⟨by omega, by go_num, HBY⟩))
        case measure => simp [intOf]; omega
      · rw [marksBox_beh (by omega) hlt] at hA
        have q1 : decide (k < l.length) = false := by simp; omega
        have q2 : decide (l.length ≤ k) = true := by simp; omega
        obtain ⟨j, hj⟩ : ∃ j, k - l.length = j := ⟨_, rfl⟩
        rw [hj] at hA
        have sj : IntKind.i64.wrap ((k : Int) - (l.length : Int)) = (j : Int) := by rw [IntWalk.i64_in _ (by omega)]; omega
        have HM := Lib.hid (fun (V' : World) (hV : Below V.heap.size V V') => markBox_any j V' (by omega))
        clear hj
        unfold mkBox at hA
        have a0 := hA 0 _ rfl
        have a1 := hA 1 _ rfl
        have a2 := hA 2 _ rfl
        have a3 := hA 3 _ rfl
        have a4 := hA 4 _ rfl
        have a5 := hA 5 _ rfl
        have a6 := hA 6 _ rfl
        have a7 := hA 7 _ rfl
        have a8 := hA 8 _ rfl
        clear hA
        simp only at a0 a1 a2 a3 a4 a5 a6 a7 a8
        try simp only [Nat.add_zero] at a0
        generalize mk1 j = z at *
        have hrun := run_eql_bxK z ⟨#[]⟩ 0 false 0 0 0 0 false
        simp only [Int.ofNat_zero] at hrun a2 a7
        go_upto_region 7 with fail
        have a0 : ∀ p : Gr V, p.W.cell? ⟨b1, o1 + k * 9, none⟩ = some (.int .i64 z) := Gr.cell a0
        have a1 : ∀ p : Gr V, p.W.cell? ⟨b1, o1 + k * 9 + 1, none⟩ = some (.string ⟨#[]⟩) := Gr.cell a1
        have a2 : ∀ p : Gr V, p.W.cell? ⟨b1, o1 + k * 9 + 2, none⟩ = some (.int .u8 0) := Gr.cell a2
        have a3 : ∀ p : Gr V, p.W.cell? ⟨b1, o1 + k * 9 + 3, none⟩ = some (.bool false) := Gr.cell a3
        have a4 : ∀ p : Gr V, p.W.cell? ⟨b1, o1 + k * 9 + 4, none⟩ = some (.int .i64 0) := Gr.cell a4
        have a5 : ∀ p : Gr V, p.W.cell? ⟨b1, o1 + k * 9 + 5, none⟩ = some (.int .i64 0) := Gr.cell a5
        have a6 : ∀ p : Gr V, p.W.cell? ⟨b1, o1 + k * 9 + 6, none⟩ = some (.int .i64 0) := Gr.cell a6
        have a7 : ∀ p : Gr V, p.W.cell? ⟨b1, o1 + k * 9 + 7, none⟩ = some (.int .u8 0) := Gr.cell a7
        have a8 : ∀ p : Gr V, p.W.cell? ⟨b1, o1 + k * 9 + 8, none⟩ = some (.bool false) := Gr.cell a8
        refine wp_region_gr (by kernel_rfl) (by kernel_rfl) ?_
        repeat (go_big_quiet_step ((with_reducible exact Gr.call _ (fun V hV => HM.out V hV))))
        refine wpQuiet_nil ?_
        rintro Y ⟨⟨_, hbY⟩, rfl⟩
        have HBY := Lib.hid (HB.out.trans (hbY.mono HB.out.size))
        clear a0 a1 a2 a3 a4 a5 a6 a7 a8 hbY HB q1 q2 sj HM hrun
        go_wp2_with fail
        go_roundw
        case rel => first | exact ⟨k + 1, by omega, by go_num, HBY⟩ | ((repeat apply Exists.intro); (first | exact ⟨⟨k + 1, by omega, by go_num, HBY⟩, rfl⟩ | exact ⟨by omega, by go_num, HBY⟩))
        case measure => simp [intOf]; omega
    · obtain rfl : k = l.length + 12 := by omega
      go_wp2_with fail
      go_ret
      exact ⟨rfl, HB.out⟩
end Go.Proofs.YtmhikcleekfbpaaGreatDoor
