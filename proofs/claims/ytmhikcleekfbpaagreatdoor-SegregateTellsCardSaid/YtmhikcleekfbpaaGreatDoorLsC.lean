/-
  Walks of package twistlockkit: LentStoweds, KeptStoweds.
-/
import Derived.Test.YtmhikcleekfbpaaGreatDoorKpA
import Derived.Test.YtmhikcleekfbpaaGreatDoorStA
namespace Go.Proofs.YtmhikcleekfbpaaGreatDoor
open Go.RowKit

theorem Flat.stwK {w w' : World} {S S' : Nat → Prop} : ∀ {xs : List Value} {l : List Stw}, Flat tStw w S xs l → Flat tStw w' S' xs l
  | _, [], h => h
  | _, _ :: _, ⟨cs, ys, e, h1, h2⟩ => ⟨cs, ys, e, h1, Flat.stwK h2⟩
theorem OwnS.nonestwK {w : World} {e : TypeId} {base : Nat} {S : Nat → Prop} {v : Value} {l : List Stw} (h : OwnS tStw e w base S v l) : OwnS tStw e w base (fun _ => False) v l := by
  obtain ⟨xs, h1, h2, _⟩ := h
  exact ⟨xs, h1, h2.stwK, fun _ h => h.elim⟩
theorem SlT.stwA {w : World} {S : Nat → Prop} {A : Option Addr} {l : List Stw} (h : SlT tStw w S A l) {j : Nat} (hj : j < l.length) :
    ∃ b off, A = some ⟨b, off, none⟩ ∧ S b ∧ ∀ i u, (stwL (l.getD j default))[i]? = some u → w.cell? ⟨b, off + j * 4 + i, none⟩ = some u := by
  obtain ⟨b, off, cs, e, hb, h1, h2⟩ := h.at_ hj default
  rw [show cs = _ from h1] at h2
  exact ⟨b, off, e, hb, h2⟩
theorem info_stwK : (Tryz.prog.info? 38).map (·.size) = some 4 := by kernel_rfl
theorem el_stwK : El Tryz.prog 34 38 4 32 := El.mk' Tryz.underlying34 (by kernel_rfl) (by decide)
def mkStowed (i : Nat) : Stw := ⟨mk1 i, ⟨0, 0, 0⟩⟩
def marksStowed (n : Nat) : List Stw := (List.range n).map mkStowed
theorem marksStowed_succ (n : Nat) : marksStowed (n + 1) = marksStowed n ++ [mkStowed n] := by simp [marksStowed, List.range_succ]
theorem marksStowed_len (n : Nat) : (marksStowed n).length = n := by simp [marksStowed]
set_option maxRecDepth 100000 in
set_option maxHeartbeats 2000000 in
theorem markStowed_any (i : Nat) (w : World) (hi : i ≤ 1000) :
    Calls Tryz.prog 25 #[.int .i64 1, .int .i64 (i : Int)] w (Ret w (.agg #[.int .i64 (mk1 i), .int .i64 0, .int .i64 0, .int .u8 0])) := by
  go_enter Tryz.func25, Tryz.ntmps25
  go_wp2_with (go_at_call 52; refine (mark1_any i _ hi).mono ?_; rintro e w' ⟨rfl, rfl⟩)
  exact bodyPost_ret (results_row1 rfl _ _ w.heap.size 38 #[.int .i64 (mk1 i), .int .i64 0, .int .i64 0, .int .u8 0] _ rfl (Bk.new w _ _) Tryz.underlying38 rfl info_stwK) rfl ⟨rfl, ba1 w _⟩
set_option maxRecDepth 100000 in
set_option maxHeartbeats 2000000 in
theorem lentStoweds_any (A : Option Addr) (c : Nat) (l : List Stw) (w : World) (hs : SlT tStw w (Lt w.heap.size) A l) (hr : l.length ≤ 1000000) :
    Calls Tryz.prog 8 #[.slice A l.length c] w (LentRet tStw w l (marksStowed 12)) := by
  obtain ⟨i0, z, hi, hz, h4, h5, _⟩ := el_stwK.info
  have HS := Lib.hid hs; clear hs
  have hfin : Hid (∀ wr v, OwnS tStw 38 wr w.heap.size (Lt w.heap.size) v (l ++ marksStowed 12) → Below w.heap.size w wr → ∃ A c, v = .slice A (l.length + 12) c ∧ l.length + 12 ≤ c ∧ c ≤ maxLen ∧ SlT tStw wr (Fr w.heap.size wr) A (l ++ marksStowed 12)) := Lib.hid fun wr v ho hb => by
    obtain ⟨A, c, rfl, h1, h2, h3⟩ := ho.nonestwK.sl
    rw [List.length_append, marksStowed_len] at h1
    exact ⟨A, c, by rw [List.length_append, marksStowed_len], h1, h2, h3.more (or2_fr fun _ h => h.elim)⟩
  go_enter Tryz.func8, Tryz.ntmps8
  go_wp2_with (at_make; refine wpList_make_own _ rfl _ _ 34 rfl w.heap.size 38 i0 z 4 el_stwK.under hi hz h4 _ _ _ (l.length + 12) rfl rfl ?k1 ?k2 ?k3 ?k4 ?_)
  case k1 => omega
  case k2 => rw [h5]; omega
  case k3 => unfold maxLen; omega
  case k4 => exact Nat.le_refl _
  intro w1 ho1 hg1
  have hb1 : Below w.heap.size w w1 := ⟨hg1.os, hg1.tape, hg1.output, hg1.size, fun k hk => hg1.block k hk (by simp)⟩
  have hO1 : OwnS tStw 38 w1 w.heap.size (Lt w.heap.size) (.slice (some ⟨w.heap.size, 0, none⟩) 0 (l.length + 12)) [] := ⟨[], ho1, rfl, fun b hb => ⟨Nat.lt_of_lt_of_le hb hb1.size, by have hb : b < w.heap.size := hb; simp [Value.ownBlock]; omega⟩⟩
  clear ho1 hg1
  have hz1 := hb1.size
  go_wp2_with (at_builtin; refine wpList_append_R el_stwK rfl (.tmp 9) (.tmp 10) rfl w.heap.size (Lt w.heap.size) (.slice (some ⟨w.heap.size, 0, none⟩) 0 (l.length + 12)) [] rfl hO1 A l.length c l rfl rfl ((HS.out.keepB (B := w.heap.size) (fun _ h => h) hb1).src rfl fun b hb => Nat.lt_of_lt_of_le hb hz1) ?d1 ?d2 ?d3 ?_)
  case d1 => unfold maxLen; simp; omega
  case d2 => simp; omega
  case d3 => exact hz1
  intro v2 w2 hO2 hg2 hb2
  have HV := Lib.hid hO2
  have HB := Lib.hid (hb1.trans hb2)
  clear hO1 hb1 hg2 hb2 hz1 HS hO2
  go_wp2_with fail
  go_loopw [3, 4] (fun v i wr => ∃ k : Nat, k ≤ 12 ∧ i = .int .i64 k ∧ Hid (OwnS tStw 38 wr w.heap.size (Lt w.heap.size) v (l ++ marksStowed k) ∧ Below w.heap.size w wr)) (fun _ i _ => 12 - (intOf i).toNat)
  case atStart => exact ⟨0, by omega, rfl, Lib.hid ⟨by simpa [marksStowed] using HV.out, HB.out⟩⟩
  case round =>
    clear HV HB
    rename_i v i wr
    obtain ⟨k, hk, rfl, HV⟩ := hrel
    obtain ⟨V, rfl⟩ : ∃ V, V = wr := ⟨_, rfl⟩
    by_cases hlt : k < 12
    · have i0' : (0 : Int) ≤ (k : Int) := by omega
      have i1' : (k : Int) < 12 := by omega
      have HSU := Lib.hid (marksStowed_succ k)
      have hmk : (marksStowed k).length = k := marksStowed_len k
      have HC := Lib.hid (markStowed_any k V (by omega))
      generalize marksStowed k = M at *
      go_wp2_with fail
      refine HC.out.mono ?_
      rintro e V2 ⟨rfl, hb⟩
      simp only
      have hz := HV.out.2.size
      have hb2 : Below V.heap.size V (V2.alloc (.cells #[.int .i64 (mk1 k), .int .i64 0, .int .i64 0, .int .u8 0] 38)) := hb.trans ((ba1 V2 _).mono hb.size)
      have HO := Lib.hid (HV.out.1.below hb2)
      have HSR : Hid (Src tStw (V2.alloc (.cells #[.int .i64 (mk1 k), .int .i64 0, .int .i64 0, .int .u8 0] 38)) (Lt w.heap.size) (some ⟨V2.heap.size, 0, none⟩) 1 [mkStowed k]) := Lib.hid (Src.blk (Bk.new V2 _ _) (Flat.single rfl) rfl)
      have HB2 := Lib.hid (HV.out.2.trans (hb2.mono hz))
      have hzz : w.heap.size ≤ (V2.alloc (.cells #[.int .i64 (mk1 k), .int .i64 0, .int .i64 0, .int .u8 0] 38)).heap.size := HB2.out.size
      clear HC hb hb2 HV
      go_wp2_with (at_builtin; refine wpList_append_R el_stwK rfl (.tmp 16) (.tmp 19) rfl w.heap.size (Lt w.heap.size) _ (l ++ M) rfl HO.out (some ⟨V2.heap.size, 0, none⟩) 1 1 [mkStowed k] rfl rfl HSR.out ?f1 ?f2 hzz ?_)
      case f1 => unfold maxLen; simp; omega
      case f2 => simp; omega
      intro v3 w3 hO3 hg3 hb3
      have HN : Hid (OwnS tStw 38 w3 w.heap.size (Lt w.heap.size) v3 (l ++ marksStowed (k + 1)) ∧ Below w.heap.size w w3) := Lib.hid ⟨by rw [HSU.out, ← List.append_assoc]; first | exact hO3 | (rw [List.append_assoc]; exact hO3), HB2.out.trans hb3⟩
      clear HO HSR hO3 hg3 hb3 HSU HB2
      go_wp2_with fail
      go_roundw
      case rel => first | exact ⟨k + 1, by omega, by go_num, HN⟩ | ((repeat apply Exists.intro); (first | exact ⟨⟨k + 1, by omega, by go_num, HN⟩, rfl⟩ | exact ⟨by omega, by go_num, HN⟩))
      case measure => simp [intOf]; omega
    · obtain rfl : k = 12 := by omega
      obtain ⟨A', c', rfl, h1, h2, h3⟩ := hfin.out _ _ HV.out.1 HV.out.2
      have hb := HV.out.2
      have hm12 := marksStowed_len 12
      clear HV
      have i1 : (0 : Int) ≤ (l.length : Int) := by omega
      have i2 : (l.length : Int) ≤ (c' : Int) := by omega
      unfold maxLen at h2
      go_wp2_with fail
      go_ret
      exact ⟨A', c', rfl, by omega, by unfold maxLen; omega, h3, hb⟩
theorem run_eql_stwK (a b c : Int) (d : Nat) (W : World) : (binOp .eql 38 (.agg #[.int .i64 a, .int .i64 b, .int .i64 c, .int .u8 (d : Nat)]) (.agg #[.int .i64 a, .int .i64 b, .int .i64 c, .int .u8 (d : Nat)])).run Tryz.prog W = .ok (.bool true) W := by
  simp [go_sem]
theorem marksStowed_at {l : List Stw} {k : Nat} (h : k < l.length) : (l ++ marksStowed 12).getD k default = l.getD k default := by
  rw [List.getD_eq_getElem?_getD, List.getElem?_append_left h, List.getD_eq_getElem?_getD]
theorem marksStowed_beh {l : List Stw} {k : Nat} (h : l.length ≤ k) (h2 : k < l.length + 12) : (l ++ marksStowed 12).getD k default = mkStowed (k - l.length) := by
  rw [List.getD_eq_getElem?_getD, List.getElem?_append_right h]
  simp [marksStowed, show k - l.length < 12 by omega]
set_option maxRecDepth 100000 in
set_option maxHeartbeats 4000000 in
theorem keptStoweds_any (A1 A2 : Option Addr) (c1 c2 : Nat) (l : List Stw) (w : World) (h1 : SlT tStw w (Lt w.heap.size) A1 (l ++ marksStowed 12)) (hc : l.length + 12 ≤ c1) (h2 : SlT tStw w (Lt w.heap.size) A2 l) (hl : l.length ≤ 1000000) :
    Calls Tryz.prog 13 #[.slice A1 l.length c1, .slice A2 l.length c2] w (Ret w (.bool true)) := by
  have HS1 := Lib.hid h1
  have HS2 := Lib.hid h2
  clear h1 h2
  have HLEN : Hid ((l ++ marksStowed 12).length = l.length + 12) := Lib.hid (by rw [List.length_append, marksStowed_len])
  have hb0 : ((l.length : Int) != (l.length : Int)) = false := by simp
  have j1 : (0 : Int) ≤ (l.length : Int) + 12 := by omega
  have j2 : (l.length : Int) + 12 ≤ (c1 : Int) := by omega
  go_enter Tryz.func13, Tryz.ntmps13
  go_wp2_with fail
  go_loopw [6] (fun i wr => ∃ k : Nat, k ≤ l.length + 12 ∧ i = .int .i64 k ∧ Hid (Below w.heap.size w wr)) (fun i _ => l.length + 12 - (intOf i).toNat)
  case atStart => exact ⟨0, Nat.zero_le _, rfl, Lib.hid (Below.refl _ _)⟩
  case round =>
    obtain ⟨k, hk, rfl, HB⟩ := hrel
    obtain ⟨V, rfl⟩ : ∃ V, V = wr := ⟨_, rfl⟩
    by_cases hlt : k < l.length + 12
    · obtain ⟨b1, o1, rfl, _, hA⟩ := (HS1.out.on HB.out).stwA (j := k) (by rw [HLEN.out]; exact hlt)
      have i0 : (0 : Int) ≤ (k : Int) := by omega
      have i1 : (k : Int) < (l.length : Int) + 12 := by omega
      by_cases hin : k < l.length
      · obtain ⟨b2, o2, rfl, _, hD⟩ := (HS2.out.on HB.out).stwA hin
        rw [marksStowed_at hin] at hA
        generalize l.getD k default = y at *
        obtain ⟨y0, ⟨y1, y2, y3⟩⟩ := y
        have a0 := hA 0 _ rfl
        have d0 := hD 0 _ rfl
        have a1 := hA 1 _ rfl
        have d1 := hD 1 _ rfl
        have a2 := hA 2 _ rfl
        have d2 := hD 2 _ rfl
        have a3 := hA 3 _ rfl
        have d3 := hD 3 _ rfl
        clear hA hD
        simp only at a0 a1 a2 a3 d0 d1 d2 d3
        try simp only [Nat.add_zero] at a0 d0
        have i2 : (k : Int) < (l.length : Int) := by omega
        have q1 : decide (k < l.length) = true := by simpa using hin
        have q2 : decide (l.length ≤ k) = false := by simp; omega
        have hrun := run_eql_stwK y0 y1 y2 y3
        go_upto_region 7 with fail
        have a0 : ∀ p : Gr V, p.W.cell? ⟨b1, o1 + k * 4, none⟩ = some (.int .i64 y0) := Gr.cell a0
        have a1 : ∀ p : Gr V, p.W.cell? ⟨b1, o1 + k * 4 + 1, none⟩ = some (.int .i64 y1) := Gr.cell a1
        have a2 : ∀ p : Gr V, p.W.cell? ⟨b1, o1 + k * 4 + 2, none⟩ = some (.int .i64 y2) := Gr.cell a2
        have a3 : ∀ p : Gr V, p.W.cell? ⟨b1, o1 + k * 4 + 3, none⟩ = some (.int .u8 (y3 : Nat)) := Gr.cell a3
        have d0 : ∀ p : Gr V, p.W.cell? ⟨b2, o2 + k * 4, none⟩ = some (.int .i64 y0) := Gr.cell d0
        have d1 : ∀ p : Gr V, p.W.cell? ⟨b2, o2 + k * 4 + 1, none⟩ = some (.int .i64 y1) := Gr.cell d1
        have d2 : ∀ p : Gr V, p.W.cell? ⟨b2, o2 + k * 4 + 2, none⟩ = some (.int .i64 y2) := Gr.cell d2
        have d3 : ∀ p : Gr V, p.W.cell? ⟨b2, o2 + k * 4 + 3, none⟩ = some (.int .u8 (y3 : Nat)) := Gr.cell d3
        refine wp_region_gr (by kernel_rfl) (by kernel_rfl) ?_
        repeat (go_big_quiet_step (fail))
        refine wpQuiet_nil ?_
        rintro Y ⟨⟨_, hbY⟩, rfl⟩
        have HBY := Lib.hid (HB.out.trans (hbY.mono HB.out.size))
        clear a0 a1 a2 a3 d0 d1 d2 d3 hbY HB q1 q2 hrun
        go_wp2_with fail
        go_roundw
        case rel => first | exact ⟨k + 1, by omega, by go_num, HBY⟩ | ((repeat apply Exists.intro); (first | exact ⟨⟨k + 1, by omega, by go_num, HBY⟩, rfl⟩ | exact ⟨by omega, by go_num, HBY⟩))
        case measure => simp [intOf]; omega
      · rw [marksStowed_beh (by omega) hlt] at hA
        have q1 : decide (k < l.length) = false := by simp; omega
        have q2 : decide (l.length ≤ k) = true := by simp; omega
        obtain ⟨j, hj⟩ : ∃ j, k - l.length = j := ⟨_, rfl⟩
        rw [hj] at hA
        have sj : IntKind.i64.wrap ((k : Int) - (l.length : Int)) = (j : Int) := by rw [IntWalk.i64_in _ (by omega)]; omega
        have HM := Lib.hid (fun (V' : World) (hV : Below V.heap.size V V') => markStowed_any j V' (by omega))
        clear hj
        unfold mkStowed at hA
        have a0 := hA 0 _ rfl
        have a1 := hA 1 _ rfl
        have a2 := hA 2 _ rfl
        have a3 := hA 3 _ rfl
        clear hA
        simp only at a0 a1 a2 a3
        try simp only [Nat.add_zero] at a0
        generalize mk1 j = z at *
        have hrun := run_eql_stwK z 0 0 0
        simp only [Int.ofNat_zero] at hrun a3
        go_upto_region 7 with fail
        have a0 : ∀ p : Gr V, p.W.cell? ⟨b1, o1 + k * 4, none⟩ = some (.int .i64 z) := Gr.cell a0
        have a1 : ∀ p : Gr V, p.W.cell? ⟨b1, o1 + k * 4 + 1, none⟩ = some (.int .i64 0) := Gr.cell a1
        have a2 : ∀ p : Gr V, p.W.cell? ⟨b1, o1 + k * 4 + 2, none⟩ = some (.int .i64 0) := Gr.cell a2
        have a3 : ∀ p : Gr V, p.W.cell? ⟨b1, o1 + k * 4 + 3, none⟩ = some (.int .u8 0) := Gr.cell a3
        refine wp_region_gr (by kernel_rfl) (by kernel_rfl) ?_
        repeat (go_big_quiet_step ((with_reducible exact Gr.call _ (fun V hV => HM.out V hV))))
        refine wpQuiet_nil ?_
        rintro Y ⟨⟨_, hbY⟩, rfl⟩
        have HBY := Lib.hid (HB.out.trans (hbY.mono HB.out.size))
        clear a0 a1 a2 a3 hbY HB q1 q2 sj HM hrun
        go_wp2_with fail
        go_roundw
        case rel => first | exact ⟨k + 1, by omega, by go_num, HBY⟩ | ((repeat apply Exists.intro); (first | exact ⟨⟨k + 1, by omega, by go_num, HBY⟩, rfl⟩ | exact ⟨by omega, by go_num, HBY⟩))
        case measure => simp [intOf]; omega
    · obtain rfl : k = l.length + 12 := by omega
      go_wp2_with fail
      go_ret
      exact ⟨rfl, HB.out⟩
end Go.Proofs.YtmhikcleekfbpaaGreatDoor
