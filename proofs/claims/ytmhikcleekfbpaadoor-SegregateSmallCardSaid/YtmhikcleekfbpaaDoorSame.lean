/-
  The walk of twistlockkit.SameSlots.
-/
import Derived.Test.YtmhikcleekfbpaaDoorB4
namespace Go.Proofs.YtmhikcleekfbpaaDoor
open Go.RowKit

theorem run_neq_slt (x y : Slt) (W : World) : (binOp .neq 37 (.agg (sltL x).toArray) (.agg (sltL y).toArray)).run Tryd.prog W = .ok (.bool (!sltEq x y)) W := by
  obtain ⟨xc, xt, xh⟩ := x
  obtain ⟨yc, yt, yh⟩ := y
  unfold sltL sltEq
  simp only
  rw [← int_beq]
  cases e1 : (xc == yc) <;> cases e2 : (xt == yt) <;> cases e3 : ((xh : Int) == (yh : Int)) <;> simp [go_sem, e1, e2, e3]
set_option maxRecDepth 100000 in
set_option maxHeartbeats 4000000 in
theorem sameSlots_any (A1 A2 : Option Addr) (c1 c2 : Nat) (L1 L2 : List Slt) (w : World) (h1 : SlT tSlt w (Lt w.heap.size) A1 L1) (h2 : SlT tSlt w (Lt w.heap.size) A2 L2) (hn : L1.length ≤ maxLen) :
    Calls Tryd.prog 20 #[.slice A1 L1.length c1, .slice A2 L2.length c2] w (Ret w (.bool (decide (L1 = L2)))) := by
  unfold maxLen at hn
  have HS1 := Lib.hid h1
  have HS2 := Lib.hid h2
  clear h1 h2
  by_cases hne : L1.length = L2.length
  · have HNE := Lib.hid hne
    have hb0 : ((L1.length : Int) != (L2.length : Int)) = false := by simp; omega
    clear hne
    go_enter Tryd.func20, Tryd.ntmps20
    go_wp2
    go_loopw [5] (fun i wr => ∃ k : Nat, k ≤ L1.length ∧ i = .int .i64 k ∧ Hid (Below w.heap.size w wr) ∧ Hid (∀ i, i < k → L1.getD i default = L2.getD i default)) (fun i _ => L1.length - (intOf i).toNat)
    case atStart => exact ⟨0, Nat.zero_le _, rfl, Lib.hid (Below.refl _ _), Lib.hid (fun i hi => absurd hi (by omega))⟩
    case round =>
      obtain ⟨k, hk, rfl, HB, HE⟩ := hrel
      obtain ⟨V, rfl⟩ : ∃ V, V = wr := ⟨_, rfl⟩
      by_cases hlt : k < L1.length
      · obtain ⟨p1, o1, rfl, _, a0, a1, a2⟩ := (HS1.out.below HB.out).slt hlt
        obtain ⟨p2, o2, rfl, _, b0, b1, b2⟩ := (HS2.out.below HB.out).slt (j := k) (by rw [← HNE.out]; exact hlt)
        have hlt' : (k : Int) < (L1.length : Int) := by omega
        have hlt2 : (k : Int) < (L2.length : Int) := by have := HNE.out; omega
        have hk0 : (0 : Int) ≤ (k : Int) := by omega
        have HQ := Lib.hid (run_neq_slt (L1.getD k default) (L2.getD k default))
        have HIF := Lib.hid (sltEq_iff (L1.getD k default) (L2.getD k default))
        have HNX : Hid (L1.getD k default = L2.getD k default → ∀ i, i < k + 1 → L1.getD i default = L2.getD i default) := Lib.hid fun hg i hi => by
          rcases Nat.lt_succ_iff_lt_or_eq.1 hi with h | h
          · exact HE.out i h
          · rw [h]; exact hg
        have HNEQ : Hid (L1.getD k default ≠ L2.getD k default → decide (L1 = L2) = false) := Lib.hid fun hg => by
          rw [decide_eq_false_iff_not]; intro h; exact hg (by rw [h])
        clear HE
        generalize L1.getD k default = x at *
        generalize L2.getD k default = y at *
        generalize hq : sltEq x y = q at *
        clear hq
        obtain ⟨x0, x1, x2⟩ := x
        obtain ⟨y0, y1, y2⟩ := y
        unfold sltL at HQ
        simp only at HQ a0 a1 a2 b0 b1 b2
        have hrun := HQ.out
        go_upto_region 6 with fail
        have a0 : ∀ p : Gr V, p.W.cell? ⟨p1, o1 + k * 3, none⟩ = some (.int .i64 x0) := Gr.cell a0
        have a1 : ∀ p : Gr V, p.W.cell? ⟨p1, o1 + k * 3 + 1, none⟩ = some (.int .i64 x1) := Gr.cell a1
        have a2 : ∀ p : Gr V, p.W.cell? ⟨p1, o1 + k * 3 + 2, none⟩ = some (.int .u8 (x2 : Nat)) := Gr.cell a2
        have b0 : ∀ p : Gr V, p.W.cell? ⟨p2, o2 + k * 3, none⟩ = some (.int .i64 y0) := Gr.cell b0
        have b1 : ∀ p : Gr V, p.W.cell? ⟨p2, o2 + k * 3 + 1, none⟩ = some (.int .i64 y1) := Gr.cell b1
        have b2 : ∀ p : Gr V, p.W.cell? ⟨p2, o2 + k * 3 + 2, none⟩ = some (.int .u8 (y2 : Nat)) := Gr.cell b2
        refine wp_region_gr (by kernel_rfl) (by kernel_rfl) ?_
        repeat (go_big_quiet_step (fail))
        refine wpQuiet_nil ?_
        rintro Y ⟨⟨_, hbY⟩, rfl⟩
        have HBY := Lib.hid (HB.out.trans (hbY.mono HB.out.size))
        clear a0 a1 a2 b0 b1 b2 hbY hrun
        cases q with
        | true =>
          have HEQ := Lib.hid (HNX.out (HIF.out.1 rfl))
          go_wp2_with fail
          go_roundw
          case rel => (repeat apply Exists.intro); (first | exact ⟨⟨k + 1, by omega, by go_num, HBY, HEQ⟩, rfl⟩ | exact ⟨by omega, by go_num, HBY, HEQ⟩)
          case measure => simp [intOf]; omega
        | false =>
          have HEQ := Lib.hid (HNEQ.out (fun e => by have := HIF.out.2 e; cases this))
          go_wp2_with fail
          go_ret
          exact ⟨by rw [HEQ.out]; rfl, HBY.out⟩
      · obtain rfl : k = L1.length := by omega
        have HY := Lib.hid (show decide (L1 = L2) = true by
          rw [decide_eq_true_iff]; exact list_ext default rfl HNE.out.symm HE.out)
        go_wp2
        go_ret
        exact ⟨by rw [HY.out]; rfl, HB.out⟩
  · have hb : ((L1.length : Int) != (L2.length : Int)) = true := by simp; omega
    have HNE := Lib.hid (show decide (L1 = L2) = false by
      rw [decide_eq_false_iff_not]; intro h; rw [h] at hne; exact hne rfl)
    go_enter Tryd.func20, Tryd.ntmps20
    go_wp2
    go_ret
    exact ⟨by rw [HNE.out]; rfl, Below.refl _ _⟩
end Go.Proofs.YtmhikcleekfbpaaDoor
