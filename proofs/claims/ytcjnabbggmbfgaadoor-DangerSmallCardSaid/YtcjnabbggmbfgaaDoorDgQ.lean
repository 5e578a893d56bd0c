/-
  The walk of the statements' clashes.
-/
import Derived.Test.YtcjnabbggmbfgaaDoorDgM
import Derived.BigQuiet
import Derived.Deep.QuietTactic
namespace Go.Proofs.YtcjnabbggmbfgaaDoor
open Go.RowKit

theorem cl_cells {e : TypeId} {w : World} {base : Nat} {v : Value} {l : List (Nat × Nat × Nat)} (h : w.ownsRow base e 3 v l.length (clCs l)) :
    ∃ A c, v = .slice A l.length c ∧ ∀ k, k < l.length → ∃ b, A = some ⟨b, 0, none⟩ ∧ b < w.heap.size ∧ w.cell? ⟨b, k * 3, none⟩ = some (.int .u8 (l.getD k (0, 0, 0)).1) ∧ w.cell? ⟨b, k * 3 + 1, none⟩ = some (.int .u8 (l.getD k (0, 0, 0)).2.1) ∧ w.cell? ⟨b, k * 3 + 2, none⟩ = some (.int .u8 (l.getD k (0, 0, 0)).2.2) := by
  obtain ⟨hl, h | ⟨g, cap, cur, rfl, hb, hh, hn, hm, hsz, ht⟩⟩ := h
  · exact ⟨none, 0, by rw [h.1, h.2], fun k hk => by omega⟩
  · refine ⟨_, _, rfl, fun k hk => ⟨g, rfl, Bk.lt hh, ?_⟩⟩
    have key : ∀ (l : List (Nat × Nat × Nat)) (k j : Nat), k < l.length → j < 3 → (clCs l)[k * 3 + j]? = (clC (l.getD k (0, 0, 0)))[j]? := by
      intro l
      induction l with
      | nil => intro k j hk; simp at hk
      | cons t l ih =>
        intro k j hk hj
        have e : clCs (t :: l) = clC t ++ clCs l := by simp [clCs]
        rw [e]
        cases k with
        | zero => rw [List.getElem?_append_left (by simp [clC]; omega)]; simp
        | succ k =>
          rw [List.getElem?_append_right (by simp [clC]; omega)]
          have := ih k j (by simpa using hk) hj
          rw [show (k + 1) * 3 + j - (clC t).length = k * 3 + j by simp [clC]; omega, this]
          simp
    have cell : ∀ j, j < 3 → w.cell? ⟨g, k * 3 + j, none⟩ = (clC (l.getD k (0, 0, 0)))[j]? := by
      intro j hj
      rw [Bk.cell hh, ← key l k j hk hj, ← ht, List.getElem?_take_of_lt (by omega)]
      simp
    exact ⟨cell 0 (by omega), cell 1 (by omega), cell 2 (by omega)⟩

def Dg.clsP (l : List Nat) : List (Nat × Nat × Nat) := if Dg.err l = 0 then Dg.clashes l else []
theorem clashes_p (A : Option Addr) (n c : Nat) (l : List Nat) (w : World) (ht : TabOK w) (hs : Sl w w.heap.size 1 A n (u8s l)) :
    Calls Tryd.prog 14 #[.slice A n c] w (ClRet w (Dg.clsP l) (Dg.err l)) := by
  unfold Dg.clsP
  by_cases h : Dg.err l = 0
  · have h2 := Dg.err_ok h
    have := clashes_ok A n c l w ht hs h
    rw [(Dg.pre_all h2.1 h2.2).1] at this
    rw [if_pos h, h]; exact this
  · rw [if_neg h]; exact clashes_err A n c l w hs h
theorem rclashes_p (A : Option Addr) (n c : Nat) (l : List Nat) (w : World) (hs : Sl w w.heap.size 1 A n (u8s l)) :
    Calls Tryd.prog 33 #[.slice A n c] w (RClRet w (Dg.clsP l) (Dg.err l)) := by
  unfold Dg.clsP
  by_cases h : Dg.err l = 0
  · rw [if_pos h, h]; exact rclashes_ok A n c l w hs h
  · rw [if_neg h]; exact rclashes_err A n c l w hs h
theorem clsP_len (l : List Nat) : (Dg.clsP l).length ≤ 100 := by
  unfold Dg.clsP
  split
  · exact Dg.clTo_len l 10
  · simp
set_option maxRecDepth 100000 in
set_option maxHeartbeats 4000000 in
theorem lclashes_any (A : Option Addr) (n c : Nat) (l : List Nat) (w : World) (ht : TabOK w) (hs : Sl w w.heap.size 1 A n (u8s l)) :
    Calls Tryd.prog 28 #[.slice A n c] w (TrueRet w) := by
  have H1 := Lib.hid (clashes_p A n c l w ht hs)
  have H2 := Lib.hid (fun W (hb : Below w.heap.size w W) => rclashes_p A n c l W ((hs.below hb).more hb.size))
  have hcl := clsP_len l
  clear ht hs
  generalize Dg.clsP l = C at *
  generalize Dg.err l = er at *
  go_enter Tryd.func28, Tryd.ntmps28
  go_wp2_with fail
  refine H1.out.mono ?_
  rintro e w1 ⟨v1, rfl, ho1, hb1⟩
  obtain ⟨A1, c1, rfl, hat1⟩ := cl_cells ho1
  have HAT1 := Lib.hid hat1; clear hat1 ho1 H1
  go_wp2_with fail
  refine (H2.out w1 hb1).mono ?_
  rintro e w2 ⟨v2, rfl, ho2, hb2⟩
  obtain ⟨A2, c2, rfl, hat2⟩ := cl_cells ho2
  have HAT2 := Lib.hid hat2; clear hat2 ho2 H2
  have hb := hb1.trans (hb2.mono hb1.size)
  go_wp2_with fail
  go_loopw [7] (fun i wr => ∃ k m : Nat, k ≤ C.length ∧ i = .int .i64 k ∧ wr = w2.drewN m) (fun i _ => C.length - (intOf i).toNat)
  case atStart => exact ⟨0, 0, Nat.zero_le _, rfl, rfl⟩
  case round =>
    obtain ⟨k, m, hk, rfl, rfl⟩ := hrel
    by_cases hlt : k < C.length
    · obtain ⟨g1, rfl, hg1, x0, x1, x2⟩ := HAT1.out k hlt
      obtain ⟨g2, rfl, hg2, y0, y1, y2⟩ := HAT2.out k hlt
      have x0 := (hb2.cell (p := ⟨g1, k * 3, none⟩) hg1).trans x0
      have x1 := (hb2.cell (p := ⟨g1, k * 3 + 1, none⟩) hg1).trans x1
      have x2 := (hb2.cell (p := ⟨g1, k * 3 + 2, none⟩) hg1).trans x2
      generalize C.getD k (0, 0, 0) = t at *
      obtain ⟨t0, t1, t2⟩ := t
      simp only at x0 x1 x2 y0 y1 y2
      have hlt' : (k : Int) < (C.length : Int) := by omega
      have hk0 : (0 : Int) ≤ (k : Int) := by omega
      generalize C.length = CL at *
      go_wp2_with fail
      go_quiet (fail)
      go_wp2_with fail
      go_roundw
      case rel => exact ⟨k + 1, m + nq, by omega, by go_num, by simp⟩
      case measure => simp [intOf] <;> omega
    · obtain rfl : k = C.length := by omega
      go_wp2_with fail
      go_ret
      exact ⟨rfl, below_drewN hb m⟩
end Go.Proofs.YtcjnabbggmbfgaaDoor
