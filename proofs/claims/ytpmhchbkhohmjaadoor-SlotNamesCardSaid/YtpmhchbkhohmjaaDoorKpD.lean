/-
  Walks of package twistlockkit: SameRows, KeptRows, SameFrames, KeptFrames: true of what nobody has turned.
-/
import Derived.Test.YtpmhchbkhohmjaaDoorKpA
namespace Go.Proofs.YtpmhchbkhohmjaaDoor
open Go.RowKit

theorem SlT.row5 {w : World} {S : Nat → Prop} {A : Option Addr} {l : List (List Int)} (h : SlT tRow w S A l) {i : Nat} (hi : i < l.length) :
    ∃ b off, A = some ⟨b, off, none⟩ ∧ S b ∧ ∃ r0 r1 r2 r3 r4 : Int, l.getD i default = [r0, r1, r2, r3, r4] ∧ w.cell? ⟨b, off + i * 5, none⟩ = some (.int .i64 r0) ∧ w.cell? ⟨b, off + i * 5 + 1, none⟩ = some (.int .i64 r1) ∧ w.cell? ⟨b, off + i * 5 + 2, none⟩ = some (.int .i64 r2) ∧ w.cell? ⟨b, off + i * 5 + 3, none⟩ = some (.int .i64 r3) ∧ w.cell? ⟨b, off + i * 5 + 4, none⟩ = some (.int .i64 r4) := by
  obtain ⟨b, off, cs, e, hb, ⟨hl, hcs⟩, hc⟩ := h.at_ hi default
  refine ⟨b, off, e, hb, ?_⟩
  generalize l.getD i default = r at *
  match r, hl with
  | [r0, r1, r2, r3, r4], _ =>
    subst hcs
    exact ⟨r0, r1, r2, r3, r4, rfl, hc 0 _ rfl, hc 1 _ rfl, hc 2 _ rfl, hc 3 _ rfl, hc 4 _ rfl⟩
theorem run_neq_row (a b c d e : Int) (W : World) : (binOp .neq 102 (.agg #[.int .i64 a, .int .i64 b, .int .i64 c, .int .i64 d, .int .i64 e]) (.agg #[.int .i64 a, .int .i64 b, .int .i64 c, .int .i64 d, .int .i64 e])).run Tryd.prog W = .ok (.bool false) W := by
  simp [go_sem]
theorem run_eql_row (a b c d e : Int) (W : World) : (binOp .eql 102 (.agg #[.int .i64 a, .int .i64 b, .int .i64 c, .int .i64 d, .int .i64 e]) (.agg #[.int .i64 a, .int .i64 b, .int .i64 c, .int .i64 d, .int .i64 e])).run Tryd.prog W = .ok (.bool true) W := by
  simp [go_sem]
set_option maxRecDepth 100000 in
set_option maxHeartbeats 4000000 in
theorem sameRows_any (A1 A2 : Option Addr) (c1 c2 : Nat) (l : List (List Int)) (w : World) (h1 : SlT tRow w (Lt w.heap.size) A1 l) (h2 : SlT tRow w (Lt w.heap.size) A2 l) (hl : l.length ≤ 3518437208780) :
    Calls Tryd.prog 75 #[.slice A1 l.length c1, .slice A2 l.length c2] w (Ret w (.bool true)) := by
  have HS1 := Lib.hid h1
  have HS2 := Lib.hid h2
  clear h1 h2
  have hb0 : ((l.length : Int) != (l.length : Int)) = false := by simp
  go_enter Tryd.func75, Tryd.ntmps75
  go_wp2_with fail
  go_loopw [5] (fun i wr => ∃ k : Nat, k ≤ l.length ∧ i = .int .i64 k ∧ Hid (Below w.heap.size w wr)) (fun i _ => l.length - (intOf i).toNat)
  case atStart => exact ⟨0, Nat.zero_le _, rfl, Lib.hid (Below.refl _ _)⟩
  case round =>
    obtain ⟨k, hk, rfl, HB⟩ := hrel
    obtain ⟨V, rfl⟩ : ∃ V, V = wr := ⟨_, rfl⟩
    by_cases hlt : k < l.length
    · obtain ⟨b1, o1, rfl, _, r0, r1, r2, r3, r4, hr, a0, a1, a2, a3, a4⟩ := (HS1.out.on HB.out).row5 hlt
      obtain ⟨b2, o2, rfl, _, s0, s1, s2, s3, s4, hs, d0, d1, d2, d3, d4⟩ := (HS2.out.on HB.out).row5 hlt
      rw [hr] at hs
      simp only [List.cons.injEq, and_true] at hs
      obtain ⟨rfl, rfl, rfl, rfl, rfl⟩ := hs
      clear hr
      have i0 : (0 : Int) ≤ (k : Int) := by omega
      have i1 : (k : Int) < (l.length : Int) := by omega
      have hrun := run_neq_row r0 r1 r2 r3 r4
      go_upto_region 6 with fail
      have a0 : ∀ p : Gr V, p.W.cell? ⟨b1, o1 + k * 5, none⟩ = some (.int .i64 r0) := Gr.cell a0
      have a1 : ∀ p : Gr V, p.W.cell? ⟨b1, o1 + k * 5 + 1, none⟩ = some (.int .i64 r1) := Gr.cell a1
      have a2 : ∀ p : Gr V, p.W.cell? ⟨b1, o1 + k * 5 + 2, none⟩ = some (.int .i64 r2) := Gr.cell a2
      have a3 : ∀ p : Gr V, p.W.cell? ⟨b1, o1 + k * 5 + 3, none⟩ = some (.int .i64 r3) := Gr.cell a3
      have a4 : ∀ p : Gr V, p.W.cell? ⟨b1, o1 + k * 5 + 4, none⟩ = some (.int .i64 r4) := Gr.cell a4
      have d0 : ∀ p : Gr V, p.W.cell? ⟨b2, o2 + k * 5, none⟩ = some (.int .i64 r0) := Gr.cell d0
      have d1 : ∀ p : Gr V, p.W.cell? ⟨b2, o2 + k * 5 + 1, none⟩ = some (.int .i64 r1) := Gr.cell d1
      have d2 : ∀ p : Gr V, p.W.cell? ⟨b2, o2 + k * 5 + 2, none⟩ = some (.int .i64 r2) := Gr.cell d2
      have d3 : ∀ p : Gr V, p.W.cell? ⟨b2, o2 + k * 5 + 3, none⟩ = some (.int .i64 r3) := Gr.cell d3
      have d4 : ∀ p : Gr V, p.W.cell? ⟨b2, o2 + k * 5 + 4, none⟩ = some (.int .i64 r4) := Gr.cell d4
      refine wp_region_gr (by kernel_rfl) (by kernel_rfl) ?_
      repeat (go_big_quiet_step (fail))
      refine wpQuiet_nil ?_
      rintro Y ⟨⟨_, hbY⟩, rfl⟩
      have HBY := Lib.hid (HB.out.trans (hbY.mono HB.out.size))
      clear a0 a1 a2 a3 a4 d0 d1 d2 d3 d4 hbY HB hrun
      go_wp2_with fail
      go_roundw
      case rel => first | exact ⟨k + 1, by omega, by go_num, HBY⟩ | ((repeat apply Exists.intro); (first | exact ⟨⟨k + 1, by omega, by go_num, HBY⟩, rfl⟩ | exact ⟨by omega, by go_num, HBY⟩))
      case measure => simp [intOf]; omega
    · obtain rfl : k = l.length := by omega
      go_wp2_with fail
      go_ret
      exact ⟨rfl, HB.out⟩
theorem marksRow_at {l : List (List Int)} {k : Nat} (h : k < l.length) : (l ++ marksRow 12).getD k default = l.getD k default := by
  rw [List.getD_eq_getElem?_getD, List.getElem?_append_left h, List.getD_eq_getElem?_getD]
theorem marksRow_beh {l : List (List Int)} {k : Nat} (h : l.length ≤ k) (h2 : k < l.length + 12) : (l ++ marksRow 12).getD k default = mkRow (k - l.length) := by
  rw [List.getD_eq_getElem?_getD, List.getElem?_append_right h]
  simp [marksRow, List.getElem?_range, show k - l.length < 12 by omega]
set_option maxRecDepth 100000 in
set_option maxHeartbeats 4000000 in
theorem keptRows_any (A1 A2 : Option Addr) (c1 c2 : Nat) (l : List (List Int)) (w : World) (h1 : SlT tRow w (Lt w.heap.size) A1 (l ++ marksRow 12)) (hc : l.length + 12 ≤ c1) (h2 : SlT tRow w (Lt w.heap.size) A2 l) (hl : l.length ≤ 3518437208780) :
    Calls Tryd.prog 43 #[.slice A1 l.length c1, .slice A2 l.length c2] w (Ret w (.bool true)) := by
  have HS1 := Lib.hid h1
  have HS2 := Lib.hid h2
  clear h1 h2
  have HLEN : Hid ((l ++ marksRow 12).length = l.length + 12) := Lib.hid (by rw [List.length_append, marksRow_len])
  have hb0 : ((l.length : Int) != (l.length : Int)) = false := by simp
  have j1 : (0 : Int) ≤ (l.length : Int) + 12 := by omega
  have j2 : (l.length : Int) + 12 ≤ (c1 : Int) := by omega
  go_enter Tryd.func43, Tryd.ntmps43
  go_wp2_with fail
  go_loopw [6] (fun i wr => ∃ k : Nat, k ≤ l.length + 12 ∧ i = .int .i64 k ∧ Hid (Below w.heap.size w wr)) (fun i _ => l.length + 12 - (intOf i).toNat)
  case atStart => exact ⟨0, Nat.zero_le _, rfl, Lib.hid (Below.refl _ _)⟩
  case round =>
    obtain ⟨k, hk, rfl, HB⟩ := hrel
    obtain ⟨V, rfl⟩ : ∃ V, V = wr := ⟨_, rfl⟩
    by_cases hlt : k < l.length + 12
    · obtain ⟨b1, o1, rfl, _, r0, r1, r2, r3, r4, hr, a0, a1, a2, a3, a4⟩ := (HS1.out.on HB.out).row5 (i := k) (by rw [HLEN.out]; exact hlt)
      have i0 : (0 : Int) ≤ (k : Int) := by omega
      have i1 : (k : Int) < (l.length : Int) + 12 := by omega
      by_cases hin : k < l.length
      · obtain ⟨b2, o2, rfl, _, s0, s1, s2, s3, s4, hs, d0, d1, d2, d3, d4⟩ := (HS2.out.on HB.out).row5 hin
        rw [marksRow_at hin, hs] at hr
        simp only [List.cons.injEq, and_true] at hr
        obtain ⟨rfl, rfl, rfl, rfl, rfl⟩ := hr
        clear hs
        have i2 : (k : Int) < (l.length : Int) := by omega
        have q1 : decide (k < l.length) = true := by simpa using hin
        have q2 : decide (l.length ≤ k) = false := by simp; omega
        have hrun := run_eql_row s0 s1 s2 s3 s4
        go_upto_region 7 with fail
        have a0 : ∀ p : Gr V, p.W.cell? ⟨b1, o1 + k * 5, none⟩ = some (.int .i64 s0) := Gr.cell a0
        have a1 : ∀ p : Gr V, p.W.cell? ⟨b1, o1 + k * 5 + 1, none⟩ = some (.int .i64 s1) := Gr.cell a1
        have a2 : ∀ p : Gr V, p.W.cell? ⟨b1, o1 + k * 5 + 2, none⟩ = some (.int .i64 s2) := Gr.cell a2
        have a3 : ∀ p : Gr V, p.W.cell? ⟨b1, o1 + k * 5 + 3, none⟩ = some (.int .i64 s3) := Gr.cell a3
        have a4 : ∀ p : Gr V, p.W.cell? ⟨b1, o1 + k * 5 + 4, none⟩ = some (.int .i64 s4) := Gr.cell a4
        have d0 : ∀ p : Gr V, p.W.cell? ⟨b2, o2 + k * 5, none⟩ = some (.int .i64 s0) := Gr.cell d0
        have d1 : ∀ p : Gr V, p.W.cell? ⟨b2, o2 + k * 5 + 1, none⟩ = some (.int .i64 s1) := Gr.cell d1
        have d2 : ∀ p : Gr V, p.W.cell? ⟨b2, o2 + k * 5 + 2, none⟩ = some (.int .i64 s2) := Gr.cell d2
        have d3 : ∀ p : Gr V, p.W.cell? ⟨b2, o2 + k * 5 + 3, none⟩ = some (.int .i64 s3) := Gr.cell d3
        have d4 : ∀ p : Gr V, p.W.cell? ⟨b2, o2 + k * 5 + 4, none⟩ = some (.int .i64 s4) := Gr.cell d4
        refine wp_region_gr (by kernel_rfl) (by kernel_rfl) ?_
        repeat (go_big_quiet_step (fail))
        refine wpQuiet_nil ?_
        rintro Y ⟨⟨_, hbY⟩, rfl⟩
        have HBY := Lib.hid (HB.out.trans (hbY.mono HB.out.size))
        clear a0 a1 a2 a3 a4 d0 d1 d2 d3 d4 hbY HB q1 q2 hrun
        go_wp2_with fail
        go_roundw
        case rel => first | exact ⟨k + 1, by omega, by go_num, HBY⟩ | ((repeat apply Exists.intro); (first | exact ⟨⟨k + 1, by omega, by go_num, HBY⟩, rfl⟩ | exact ⟨by omega, by go_num, HBY⟩))
        case measure => simp [intOf]; omega
      · rw [marksRow_beh (by omega) hlt] at hr
        have q1 : decide (k < l.length) = false := by simp; omega
        have q2 : decide (l.length ≤ k) = true := by simp; omega
        obtain ⟨j, hj⟩ : ∃ j, k - l.length = j := ⟨_, rfl⟩
        rw [hj] at hr
        have sj : IntKind.i64.wrap ((k : Int) - (l.length : Int)) = (j : Int) := by rw [IntWalk.i64_in _ (by omega)]; omega
        have HM := Lib.hid (fun (V' : World) (hV : Below V.heap.size V V') => markRow_any j V' (by omega))
        clear hj
        simp only [mkRow, List.cons.injEq, and_true] at hr
        obtain ⟨rfl, rfl, rfl, rfl, rfl⟩ := hr
        generalize mk1 j = z at *
        have hrun := run_eql_row 0 z 0 0 0
        go_upto_region 7 with fail
        have a0 : ∀ p : Gr V, p.W.cell? ⟨b1, o1 + k * 5, none⟩ = some (.int .i64 0) := Gr.cell a0
        have a1 : ∀ p : Gr V, p.W.cell? ⟨b1, o1 + k * 5 + 1, none⟩ = some (.int .i64 z) := Gr.cell a1
        have a2 : ∀ p : Gr V, p.W.cell? ⟨b1, o1 + k * 5 + 2, none⟩ = some (.int .i64 0) := Gr.cell a2
        have a3 : ∀ p : Gr V, p.W.cell? ⟨b1, o1 + k * 5 + 3, none⟩ = some (.int .i64 0) := Gr.cell a3
        have a4 : ∀ p : Gr V, p.W.cell? ⟨b1, o1 + k * 5 + 4, none⟩ = some (.int .i64 0) := Gr.cell a4
        refine wp_region_gr (by kernel_rfl) (by kernel_rfl) ?_
        repeat (go_big_quiet_step ((with_reducible exact Gr.call _ (fun V hV => HM.out V hV))))
        refine wpQuiet_nil ?_
        rintro Y ⟨⟨_, hbY⟩, rfl⟩
        have HBY := Lib.hid (HB.out.trans (hbY.mono HB.out.size))
        clear a0 a1 a2 a3 a4 hbY HB q1 q2 sj HM hrun
        go_wp2_with fail
        go_roundw
        case rel => first | exact ⟨k + 1, by omega, by go_num, HBY⟩ | ((repeat apply Exists.intro); (first | exact ⟨⟨k + 1, by omega, by go_num, HBY⟩, rfl⟩ | exact ⟨by omega, by go_num, HBY⟩))
        case measure => simp [intOf]; omega
    · obtain rfl : k = l.length + 12 := by omega
      go_wp2_with fail
      go_ret
      exact ⟨rfl, HB.out⟩
theorem run_neq_frm (a b c d e : Int) (W : World) : (binOp .neq 105 (.agg #[.int .i64 a, .int .i64 b, .int .i64 c, .int .i64 d, .int .i64 e]) (.agg #[.int .i64 a, .int .i64 b, .int .i64 c, .int .i64 d, .int .i64 e])).run Tryd.prog W = .ok (.bool false) W := by
  simp [go_sem]
theorem run_eql_frm (a b c d e : Int) (W : World) : (binOp .eql 105 (.agg #[.int .i64 a, .int .i64 b, .int .i64 c, .int .i64 d, .int .i64 e]) (.agg #[.int .i64 a, .int .i64 b, .int .i64 c, .int .i64 d, .int .i64 e])).run Tryd.prog W = .ok (.bool true) W := by
  simp [go_sem]
set_option maxRecDepth 100000 in
set_option maxHeartbeats 4000000 in
theorem sameFrames_any (A1 A2 : Option Addr) (c1 c2 : Nat) (l : List (List Int)) (w : World) (h1 : SlT tRow w (Lt w.heap.size) A1 l) (h2 : SlT tRow w (Lt w.heap.size) A2 l) (hl : l.length ≤ 3518437208780) :
    Calls Tryd.prog 76 #[.slice A1 l.length c1, .slice A2 l.length c2] w (Ret w (.bool true)) := by
  have HS1 := Lib.hid h1
  have HS2 := Lib.hid h2
  clear h1 h2
  have hb0 : ((l.length : Int) != (l.length : Int)) = false := by simp
  go_enter Tryd.func76, Tryd.ntmps76
  go_wp2_with fail
  go_loopw [5] (fun i wr => ∃ k : Nat, k ≤ l.length ∧ i = .int .i64 k ∧ Hid (Below w.heap.size w wr)) (fun i _ => l.length - (intOf i).toNat)
  case atStart => exact ⟨0, Nat.zero_le _, rfl, Lib.hid (Below.refl _ _)⟩
  case round =>
    obtain ⟨k, hk, rfl, HB⟩ := hrel
    obtain ⟨V, rfl⟩ : ∃ V, V = wr := ⟨_, rfl⟩
    by_cases hlt : k < l.length
    · obtain ⟨b1, o1, rfl, _, r0, r1, r2, r3, r4, hr, a0, a1, a2, a3, a4⟩ := (HS1.out.on HB.out).row5 hlt
      obtain ⟨b2, o2, rfl, _, s0, s1, s2, s3, s4, hs, d0, d1, d2, d3, d4⟩ := (HS2.out.on HB.out).row5 hlt
      rw [hr] at hs
      simp only [List.cons.injEq, and_true] at hs
      obtain ⟨rfl, rfl, rfl, rfl, rfl⟩ := hs
      clear hr
      have i0 : (0 : Int) ≤ (k : Int) := by omega
      have i1 : (k : Int) < (l.length : Int) := by omega
      have hrun := run_neq_frm r0 r1 r2 r3 r4
      go_upto_region 6 with fail
      have a0 : ∀ p : Gr V, p.W.cell? ⟨b1, o1 + k * 5, none⟩ = some (.int .i64 r0) := Gr.cell a0
      have a1 : ∀ p : Gr V, p.W.cell? ⟨b1, o1 + k * 5 + 1, none⟩ = some (.int .i64 r1) := Gr.cell a1
      have a2 : ∀ p : Gr V, p.W.cell? ⟨b1, o1 + k * 5 + 2, none⟩ = some (.int .i64 r2) := Gr.cell a2
      have a3 : ∀ p : Gr V, p.W.cell? ⟨b1, o1 + k * 5 + 3, none⟩ = some (.int .i64 r3) := Gr.cell a3
      have a4 : ∀ p : Gr V, p.W.cell? ⟨b1, o1 + k * 5 + 4, none⟩ = some (.int .i64 r4) := Gr.cell a4
      have d0 : ∀ p : Gr V, p.W.cell? ⟨b2, o2 + k * 5, none⟩ = some (.int .i64 r0) := Gr.cell d0
      have d1 : ∀ p : Gr V, p.W.cell? ⟨b2, o2 + k * 5 + 1, none⟩ = some (.int .i64 r1) := Gr.cell d1
      have d2 : ∀ p : Gr V, p.W.cell? ⟨b2, o2 + k * 5 + 2, none⟩ = some (.int .i64 r2) := Gr.cell d2
      have d3 : ∀ p : Gr V, p.W.cell? ⟨b2, o2 + k * 5 + 3, none⟩ = some (.int .i64 r3) := Gr.cell d3
      have d4 : ∀ p : Gr V, p.W.cell? ⟨b2, o2 + k * 5 + 4, none⟩ = some (.int .i64 r4) := Gr.cell d4
      refine wp_region_gr (by kernel_rfl) (by kernel_rfl) ?_
      repeat (go_big_quiet_step (fail))
      refine wpQuiet_nil ?_
      rintro Y ⟨⟨_, hbY⟩, rfl⟩
      have HBY := Lib.hid (HB.out.trans (hbY.mono HB.out.size))
      clear a0 a1 a2 a3 a4 d0 d1 d2 d3 d4 hbY HB hrun
      go_wp2_with fail
      go_roundw
      case rel => first | exact ⟨k + 1, by omega, by go_num, HBY⟩ | ((repeat apply Exists.intro); (first | exact ⟨⟨k + 1, by omega, by go_num, HBY⟩, rfl⟩ | exact ⟨by omega, by go_num, HBY⟩))
      case measure => simp [intOf]; omega
    · obtain rfl : k = l.length := by omega
      go_wp2_with fail
      go_ret
      exact ⟨rfl, HB.out⟩
theorem marksFrame_at {l : List (List Int)} {k : Nat} (h : k < l.length) : (l ++ marksFrame 12).getD k default = l.getD k default := by
  rw [List.getD_eq_getElem?_getD, List.getElem?_append_left h, List.getD_eq_getElem?_getD]
theorem marksFrame_beh {l : List (List Int)} {k : Nat} (h : l.length ≤ k) (h2 : k < l.length + 12) : (l ++ marksFrame 12).getD k default = mkFrame (k - l.length) := by
  rw [List.getD_eq_getElem?_getD, List.getElem?_append_right h]
  simp [marksFrame, List.getElem?_range, show k - l.length < 12 by omega]
set_option maxRecDepth 100000 in
set_option maxHeartbeats 4000000 in
theorem keptFrames_any (A1 A2 : Option Addr) (c1 c2 : Nat) (l : List (List Int)) (w : World) (h1 : SlT tRow w (Lt w.heap.size) A1 (l ++ marksFrame 12)) (hc : l.length + 12 ≤ c1) (h2 : SlT tRow w (Lt w.heap.size) A2 l) (hl : l.length ≤ 3518437208780) :
    Calls Tryd.prog 44 #[.slice A1 l.length c1, .slice A2 l.length c2] w (Ret w (.bool true)) := by
  have HS1 := Lib.hid h1
  have HS2 := Lib.hid h2
  clear h1 h2
  have HLEN : Hid ((l ++ marksFrame 12).length = l.length + 12) := Lib.hid (by rw [List.length_append, marksFrame_len])
  have hb0 : ((l.length : Int) != (l.length : Int)) = false := by simp
  have j1 : (0 : Int) ≤ (l.length : Int) + 12 := by omega
  have j2 : (l.length : Int) + 12 ≤ (c1 : Int) := by omega
  go_enter Tryd.func44, Tryd.ntmps44
  go_wp2_with fail
  go_loopw [6] (fun i wr => ∃ k : Nat, k ≤ l.length + 12 ∧ i = .int .i64 k ∧ Hid (Below w.heap.size w wr)) (fun i _ => l.length + 12 - (intOf i).toNat)
  case atStart => exact ⟨0, Nat.zero_le _, rfl, Lib.hid (Below.refl _ _)⟩
  case round =>
    obtain ⟨k, hk, rfl, HB⟩ := hrel
    obtain ⟨V, rfl⟩ : ∃ V, V = wr := ⟨_, rfl⟩
    by_cases hlt : k < l.length + 12
    · obtain ⟨b1, o1, rfl, _, r0, r1, r2, r3, r4, hr, a0, a1, a2, a3, a4⟩ := (HS1.out.on HB.out).row5 (i := k) (by rw [HLEN.out]; exact hlt)
      have i0 : (0 : Int) ≤ (k : Int) := by omega
      have i1 : (k : Int) < (l.length : Int) + 12 := by omega
      by_cases hin : k < l.length
      · obtain ⟨b2, o2, rfl, _, s0, s1, s2, s3, s4, hs, d0, d1, d2, d3, d4⟩ := (HS2.out.on HB.out).row5 hin
        rw [marksFrame_at hin, hs] at hr
        simp only [List.cons.injEq, and_true] at hr
        obtain ⟨rfl, rfl, rfl, rfl, rfl⟩ := hr
        clear hs
        have i2 : (k : Int) < (l.length : Int) := by omega
        have q1 : decide (k < l.length) = true := by simpa using hin
        have q2 : decide (l.length ≤ k) = false := by simp; omega
        have hrun := run_eql_frm s0 s1 s2 s3 s4
        go_upto_region 7 with fail
        have a0 : ∀ p : Gr V, p.W.cell? ⟨b1, o1 + k * 5, none⟩ = some (.int .i64 s0) := Gr.cell a0
        have a1 : ∀ p : Gr V, p.W.cell? ⟨b1, o1 + k * 5 + 1, none⟩ = some (.int .i64 s1) := Gr.cell a1
        have a2 : ∀ p : Gr V, p.W.cell? ⟨b1, o1 + k * 5 + 2, none⟩ = some (.int .i64 s2) := Gr.cell a2
        have a3 : ∀ p : Gr V, p.W.cell? ⟨b1, o1 + k * 5 + 3, none⟩ = some (.int .i64 s3) := Gr.cell a3
        have a4 : ∀ p : Gr V, p.W.cell? ⟨b1, o1 + k * 5 + 4, none⟩ = some (.int .i64 s4) := Gr.cell a4
        have d0 : ∀ p : Gr V, p.W.cell? ⟨b2, o2 + k * 5, none⟩ = some (.int .i64 s0) := Gr.cell d0
        have d1 : ∀ p : Gr V, p.W.cell? ⟨b2, o2 + k * 5 + 1, none⟩ = some (.int .i64 s1) := Gr.cell d1
        have d2 : ∀ p : Gr V, p.W.cell? ⟨b2, o2 + k * 5 + 2, none⟩ = some (.int .i64 s2) := Gr.cell d2
        have d3 : ∀ p : Gr V, p.W.cell? ⟨b2, o2 + k * 5 + 3, none⟩ = some (.int .i64 s3) := Gr.cell d3
        have d4 : ∀ p : Gr V, p.W.cell? ⟨b2, o2 + k * 5 + 4, none⟩ = some (.int .i64 s4) := Gr.cell d4
        refine wp_region_gr (by kernel_rfl) (by kernel_rfl) ?_
        repeat (go_big_quiet_step (fail))
        refine wpQuiet_nil ?_
        rintro Y ⟨⟨_, hbY⟩, rfl⟩
        have HBY := Lib.hid (HB.out.trans (hbY.mono HB.out.size))
        clear a0 a1 a2 a3 a4 d0 d1 d2 d3 d4 hbY HB q1 q2 hrun
        go_wp2_with fail
        go_roundw
        case rel => first | exact ⟨k + 1, by omega, by go_num, HBY⟩ | ((repeat apply Exists.intro); (first | exact ⟨⟨k + 1, by omega, by go_num, HBY⟩, rfl⟩ | exact ⟨by omega, by go_num, HBY⟩))
        case measure => simp [intOf]; omega
      · rw [marksFrame_beh (by omega) hlt] at hr
        have q1 : decide (k < l.length) = false := by simp; omega
        have q2 : decide (l.length ≤ k) = true := by simp; omega
        obtain ⟨j, hj⟩ : ∃ j, k - l.length = j := ⟨_, rfl⟩
        rw [hj] at hr
        have sj : IntKind.i64.wrap ((k : Int) - (l.length : Int)) = (j : Int) := by rw [IntWalk.i64_in _ (by omega)]; omega
        have HM := Lib.hid (fun (V' : World) (hV : Below V.heap.size V V') => markFrame_any j V' (by omega))
        clear hj
        simp only [mkFrame, List.cons.injEq, and_true] at hr
        obtain ⟨rfl, rfl, rfl, rfl, rfl⟩ := hr
        generalize mk1 j = z at *
        have hrun := run_eql_frm z 0 0 0 0
        go_upto_region 7 with fail
        have a0 : ∀ p : Gr V, p.W.cell? ⟨b1, o1 + k * 5, none⟩ = some (.int .i64 z) := Gr.cell a0
        have a1 : ∀ p : Gr V, p.W.cell? ⟨b1, o1 + k * 5 + 1, none⟩ = some (.int .i64 0) := Gr.cell a1
        have a2 : ∀ p : Gr V, p.W.cell? ⟨b1, o1 + k * 5 + 2, none⟩ = some (.int .i64 0) := Gr.cell a2
        have a3 : ∀ p : Gr V, p.W.cell? ⟨b1, o1 + k * 5 + 3, none⟩ = some (.int .i64 0) := Gr.cell a3
        have a4 : ∀ p : Gr V, p.W.cell? ⟨b1, o1 + k * 5 + 4, none⟩ = some (.int .i64 0) := Gr.cell a4
        refine wp_region_gr (by kernel_rfl) (by kernel_rfl) ?_
        repeat (go_big_quiet_step ((with_reducible exact Gr.call _ (fun V hV => HM.out V hV))))
        refine wpQuiet_nil ?_
        rintro Y ⟨⟨_, hbY⟩, rfl⟩
        have HBY := Lib.hid (HB.out.trans (hbY.mono HB.out.size))
        clear a0 a1 a2 a3 a4 hbY HB q1 q2 sj HM hrun
        go_wp2_with fail
        go_roundw
        case rel => first | exact ⟨k + 1, by omega, by go_num, HBY⟩ | ((repeat apply Exists.intro); (first | exact ⟨⟨k + 1, by omega, by go_num, HBY⟩, rfl⟩ | exact ⟨by omega, by go_num, HBY⟩))
        case measure => simp [intOf]; omega
    · obtain rfl : k = l.length + 12 := by omega
      go_wp2_with fail
      go_ret
      exact ⟨rfl, HB.out⟩
end Go.Proofs.YtpmhchbkhohmjaaDoor
