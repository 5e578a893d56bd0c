/-
  Walks of package danger: Code, Name, counted.
-/
import Derived.Test.YtcjnabbggmbfgaaDoorChecked
import Derived.Test.YtcjnabbggmbfgaaDoorLib
import Derived.Test.YtcjnabbggmbfgaaDoorDgPlain
import Derived.Outline
namespace Go.Proofs.YtcjnabbggmbfgaaDoor
open Go.RowKit

/-- The table and the names lie in their variables. -/
def TabOK (w : World) : Prop := ∀ a b, a < 10 → b < 10 → w.cell? ⟨0, a * 10 + b, none⟩ = some (.int .u8 (Dg.tab a b))

set_option maxHeartbeats 400000 in
theorem code_ok (a b : Nat) (w : World) (ha : a < 10) (hb : b < 10) (ht : TabOK w) :
    Calls Tryd.prog 18 #[.int .u8 a, .int .u8 b] w fun e w' => e = .returned (.tuple #[.int .u8 (Dg.tab a b), .int .i64 0]) ∧ w = w' := by
  have hc := ht a b ha hb
  go_enter Tryd.func18, Tryd.ntmps18
  go_wp2
  go_ret2
  exact ⟨rfl, rfl⟩
set_option maxHeartbeats 400000 in
theorem code_bad (a b : Nat) (w : World) (h : 9 < a ∨ 9 < b) :
    Calls Tryd.prog 18 #[.int .u8 a, .int .u8 b] w fun e w' => e = .returned (.tuple #[.int .u8 0, .int .i64 130]) ∧ w = w' := by
  by_cases ha : 9 < a
  · go_enter Tryd.func18, Tryd.ntmps18
    go_wp2
    go_ret2
    exact ⟨rfl, rfl⟩
  · have hb : 9 < b := by omega
    go_enter Tryd.func18, Tryd.ntmps18
    go_wp2
    go_ret2
    exact ⟨rfl, rfl⟩
def zer10 : Array Value := #[.int .i64 0, .int .i64 0, .int .i64 0, .int .i64 0, .int .i64 0, .int .i64 0, .int .i64 0, .int .i64 0, .int .i64 0, .int .i64 0]
def cntA (p : List Nat) : Array Value := ((List.range 10).map fun c => Value.int .i64 (p.count c : Int)).toArray
theorem cntA_nil : cntA [] = zer10 := by simp [cntA, zer10, List.range_succ]
theorem cntA_size (p : List Nat) : (cntA p).size = 10 := by simp [cntA]
theorem cntA_at (p : List Nat) (c : Nat) (h : c < 10) : (cntA p)[c]? = some (.int .i64 (p.count c : Int)) := by simp [cntA, h]
theorem cntA_snoc (p : List Nat) (c : Nat) (h : c < 10) : (cntA p).setIfInBounds c (.int .i64 ((p.count c : Int) + 1)) = cntA (p ++ [c]) := by
  apply Array.ext_getElem?
  intro i
  rw [Array.getElem?_setIfInBounds, cntA_size]
  by_cases e : c = i
  · subst e; rw [if_pos rfl, if_pos h, cntA_at _ _ h]; simp
  · rw [if_neg e]
    by_cases hi : i < 10
    · rw [cntA_at _ _ hi, cntA_at _ _ hi, List.count_append]; simp [e]
    · rw [Array.getElem?_eq_none (by rw [cntA_size]; omega), Array.getElem?_eq_none (by rw [cntA_size]; omega)]

theorem info_arr10 : (Tryd.prog.info? 29).map (·.size) = some 10 := by kernel_rfl
theorem cntA_one (p : List Nat) : (cntA p).all (·.oneCell') = true := by
  rw [Array.all_eq_true_iff_forall_mem]; intro v hv
  simp [cntA] at hv; obtain ⟨c, _, rfl⟩ := hv; rfl

theorem count_take_succ {l : List Nat} {k x : Nat} (hk : k < l.length) (hx : l.getD k 0 = x) : l.take (k + 1) = l.take k ++ [x] := by
  rw [List.take_succ_eq_append_getElem hk]; simp [← hx, hk]

set_option maxHeartbeats 1000000 in
theorem counted_short (A : Option Addr) (n c : Nat) (l : List Nat) (w : World) (hn : n ≤ 1000) (hs : Sl w w.heap.size 1 A n (u8s l)) :
    Calls Tryd.prog 21 #[.slice A n c] w fun e w' => e = .returned (.tuple #[.agg (cntA (Dg.pre l)), .int .i64 (Dg.err l)]) ∧ Below w.heap.size w w' := by
  have hd : decide ((1000 : Int) < (n : Int)) = false := by simp; omega
  have hll : l.length = n := by have := hs.len; rw [u8s_len] at this; omega
  go_enter Tryd.func21, Tryd.ntmps21
  go_wp2
  have HL := Lib.hid hll; clear hll
  go_loopw [13] (fun i wr => ∃ k : Nat, k ≤ n ∧ i = .int .i64 k ∧ Bk wr w.heap.size 29 zer10 ∧ Bk wr (w.heap.size + 1) 29 (cntA (l.take k)) ∧ Below w.heap.size w wr ∧ Hid (∀ y ∈ l.take k, y ≤ 9))
    (fun i _ => n - (intOf i).toNat)
  case atStart =>
    refine ⟨0, Nat.zero_le _, rfl, (Bk.new w _ _).alloc _, ?_, ((Below.refl _ _).alloc (Nat.le_refl _) _).alloc (by simp) _, Lib.hid (by simp)⟩
    rw [List.take_zero, cntA_nil]
    exact heap_alloc2_new w _ _
  case round =>
    obtain ⟨k, hk, rfl, h0, h1, hb, HP⟩ := hrel
    by_cases hlt : k < n
    · obtain ⟨b, off, rfl, hbB, hc⟩ := (hs.below hb).u8 hlt
      have hkl : k < l.length := by rw [HL.out]; exact hlt
      generalize hx : l.getD k 0 = x at *
      have HX := Lib.hid hx; clear hx
      by_cases hx10 : x < 10
      · have c1 := (h1.cell x).trans (cntA_at _ x hx10)
        have f1 := h1.frozen x
        have hcb : ((l.take k).count x) ≤ 1000 := by have := List.count_le_length (a := x) (l := l.take k); simp at this; omega
        have R : Bk (wr.setCell ⟨w.heap.size + 1, x, none⟩ (.int .i64 (((l.take k).count x : Int) + 1))) (w.heap.size + 1) 29 (cntA (l.take (k + 1))) := by
          rw [count_take_succ hkl HX.out, ← cntA_snoc _ _ hx10]; exact h1.set_ _ _
        have R0 : Bk (wr.setCell ⟨w.heap.size + 1, x, none⟩ (.int .i64 (((l.take k).count x : Int) + 1))) w.heap.size 29 zer10 := h0.far (by simp) _
        have RB : Below w.heap.size w (wr.setCell ⟨w.heap.size + 1, x, none⟩ (.int .i64 (((l.take k).count x : Int) + 1))) := hb.setCell (by simp) _
        have RP : Hid (∀ y ∈ l.take (k + 1), y ≤ 9) := Lib.hid (by
          rw [count_take_succ hkl HX.out]; intro y hy
          rcases List.mem_append.1 hy with h | h
          · exact HP.out y h
          · simp at h; omega)
        have HR := Lib.hid (And.intro R0 (And.intro R (And.intro RB RP))); clear R R0 RB RP
        generalize hq : (l.take k).count x = q at *
        have HQ := Lib.hid hq; clear hq
        go_wp2
        go_roundw
        case rel => exact ⟨k + 1, by omega, by go_num, HR.out⟩
        case measure => simp [intOf]; omega
      · have hp := Dg.pre_stop (by rw [HL.out]; exact hn) hkl HP.out HX.out (by omega)
        have HPR := Lib.hid hp; clear hp
        go_wp2_with (first | (refine wpList_load_row rfl 29 (.tmp 4) rfl (w.heap.size + 1) rfl 29 (cntA (l.take k)) (0, 0) _ h1.eq Tryd.underlying29 rfl (by rw [cntA_size]; exact info_arr10) ?_) | (refine wpList_store_row rfl 29 (.tmp 2) (.tmp 19) rfl w.heap.size (cntA (l.take k)) rfl rfl 29 zer10 h0.eq (by rw [cntA_size]; exact info_arr10) (by rw [cntA_size]; rfl) (cntA_one _) ?_))
        refine bodyPost_ret (results_row_tmp rfl _ _ w.heap.size 29 (cntA (l.take k)) _ rfl (h0.row _) Tryd.underlying29 rfl (by rw [cntA_size]; exact info_arr10)) rfl ⟨by rw [HPR.out.1, HPR.out.2]; rfl, below_setRow hb (Nat.le_refl _) _⟩
    · have hkn : l.take k = l := List.take_of_length_le (by rw [HL.out]; omega)
      rw [hkn] at h1 HP
      have hp := Dg.pre_all (by rw [HL.out]; exact hn) HP.out
      have HPR := Lib.hid hp; clear hp
      clear hkn
      go_wp2_with (first | (refine wpList_load_row rfl 29 (.tmp 4) rfl (w.heap.size + 1) rfl 29 (cntA l) (0, 0) _ h1.eq Tryd.underlying29 rfl (by rw [cntA_size]; exact info_arr10) ?_) | (refine wpList_store_row rfl 29 (.tmp 2) (.tmp 26) rfl w.heap.size (cntA l) rfl rfl 29 zer10 h0.eq (by rw [cntA_size]; exact info_arr10) (by rw [cntA_size]; rfl) (cntA_one l) ?_))
      refine bodyPost_ret (results_row_tmp rfl _ _ w.heap.size 29 (cntA l) _ rfl (h0.row _) Tryd.underlying29 rfl (by rw [cntA_size]; exact info_arr10)) rfl ⟨by rw [HPR.out.1, HPR.out.2]; rfl, below_setRow hb (Nat.le_refl _) _⟩

set_option maxHeartbeats 1000000 in
theorem counted_long (A : Option Addr) (n c : Nat) (l : List Nat) (w : World) (hn : 1000 < n) (hs : Sl w w.heap.size 1 A n (u8s l)) :
    Calls Tryd.prog 21 #[.slice A n c] w fun e w' => e = .returned (.tuple #[.agg (cntA (Dg.pre l)), .int .i64 (Dg.err l)]) ∧ Below w.heap.size w w' := by
  have hd : decide ((1000 : Int) < (n : Int)) = true := by simp; omega
  have hll : l.length = n := by have := hs.len; rw [u8s_len] at this; omega
  have hp := Dg.pre_long (l := l) (by omega)
  have HPR := Lib.hid hp; clear hp
  clear hll
  go_enter Tryd.func21, Tryd.ntmps21
  go_wp2
  refine bodyPost_ret (results_row_tmp rfl _ _ w.heap.size 29 zer10 _ rfl ((Bk.new w _ _).alloc _) Tryd.underlying29 rfl info_arr10) rfl ⟨by rw [HPR.out.1, HPR.out.2, cntA_nil]; rfl, ((Below.refl _ _).alloc (Nat.le_refl _) _).alloc (by simp) _⟩

theorem counted_any (A : Option Addr) (n c : Nat) (l : List Nat) (w : World) (hs : Sl w w.heap.size 1 A n (u8s l)) :
    Calls Tryd.prog 21 #[.slice A n c] w fun e w' => e = .returned (.tuple #[.agg (cntA (Dg.pre l)), .int .i64 (Dg.err l)]) ∧ Below w.heap.size w w' := by
  by_cases hn : n ≤ 1000
  · exact counted_short A n c l w hn hs
  · exact counted_long A n c l w (by omega) hs
end Go.Proofs.YtcjnabbggmbfgaaDoor
