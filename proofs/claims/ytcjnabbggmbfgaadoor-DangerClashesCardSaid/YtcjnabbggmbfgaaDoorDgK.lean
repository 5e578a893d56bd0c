/-
  The walk of the statement DangerClashes.
-/
import Derived.Test.YtcjnabbggmbfgaaDoorDgJ
import Derived.Test.YtcjnabbggmbfgaaDoorDgPlain8
import Derived.Deep.RegionHeld3
namespace Go.Proofs.YtcjnabbggmbfgaaDoor
open Go.RowKit

def wantA (T : Nat → Nat → Nat) : Array Value := ((List.range 100).map fun i => Value.int .u8 (T (i / 10) (i % 10) : Nat)).toArray
theorem wantA_size (T : Nat → Nat → Nat) : (wantA T).size = 100 := by simp [wantA]
theorem wantA_at (T : Nat → Nat → Nat) (a b : Nat) (ha : a < 10) (hb : b < 10) : (wantA T)[a * 10 + b]? = some (.int .u8 (T a b : Nat)) := by
  have h : a * 10 + b < 100 := by omega
  simp [wantA, h, show (a * 10 + b) / 10 = a by omega, show (a * 10 + b) % 10 = b by omega]
theorem wantA_set (T : Nat → Nat → Nat) (a b v : Nat) (ha : a < 10) (hb : b < 10) : (wantA T).setIfInBounds (a * 10 + b) (.int .u8 (v : Nat)) = wantA (Dg.setT T a b v) := by
  apply Array.ext_getElem?
  intro i
  rw [Array.getElem?_setIfInBounds, wantA_size]
  by_cases hi : i < 100
  · have key : ∀ T : Nat → Nat → Nat, (wantA T)[i]? = some (.int .u8 (T (i / 10) (i % 10) : Nat)) := fun T => by simp [wantA, hi]
    rw [key, key]
    unfold Dg.setT
    by_cases e : a * 10 + b = i
    · rw [if_pos e, if_pos (by omega), if_pos ⟨by omega, by omega⟩]
    · rw [if_neg e, if_neg (by omega)]
  · rw [if_neg (by omega), Array.getElem?_eq_none (by rw [wantA_size]; omega), Array.getElem?_eq_none (by rw [wantA_size]; omega)]
theorem run_idx0 (t0 t1 t2 t3 t4 t5 t6 t7 t8 t9 : Int) (w : World) : (Instr.index 36 (.agg #[.int .u8 t0, .int .u8 t1, .int .u8 t2, .int .u8 t3, .int .u8 t4, .int .u8 t5, .int .u8 t6, .int .u8 t7, .int .u8 t8, .int .u8 t9]) (.int .i64 0)).run Tryd.prog w = .ok (.int .u8 t0) w := by kernel_rfl
theorem run_idx1 (t0 t1 t2 t3 t4 t5 t6 t7 t8 t9 : Int) (w : World) : (Instr.index 36 (.agg #[.int .u8 t0, .int .u8 t1, .int .u8 t2, .int .u8 t3, .int .u8 t4, .int .u8 t5, .int .u8 t6, .int .u8 t7, .int .u8 t8, .int .u8 t9]) (.int .i64 1)).run Tryd.prog w = .ok (.int .u8 t1) w := by kernel_rfl
theorem run_idx2 (t0 t1 t2 t3 t4 t5 t6 t7 t8 t9 : Int) (w : World) : (Instr.index 36 (.agg #[.int .u8 t0, .int .u8 t1, .int .u8 t2, .int .u8 t3, .int .u8 t4, .int .u8 t5, .int .u8 t6, .int .u8 t7, .int .u8 t8, .int .u8 t9]) (.int .i64 2)).run Tryd.prog w = .ok (.int .u8 t2) w := by kernel_rfl
theorem run_idx3 (t0 t1 t2 t3 t4 t5 t6 t7 t8 t9 : Int) (w : World) : (Instr.index 36 (.agg #[.int .u8 t0, .int .u8 t1, .int .u8 t2, .int .u8 t3, .int .u8 t4, .int .u8 t5, .int .u8 t6, .int .u8 t7, .int .u8 t8, .int .u8 t9]) (.int .i64 3)).run Tryd.prog w = .ok (.int .u8 t3) w := by kernel_rfl
theorem run_idx4 (t0 t1 t2 t3 t4 t5 t6 t7 t8 t9 : Int) (w : World) : (Instr.index 36 (.agg #[.int .u8 t0, .int .u8 t1, .int .u8 t2, .int .u8 t3, .int .u8 t4, .int .u8 t5, .int .u8 t6, .int .u8 t7, .int .u8 t8, .int .u8 t9]) (.int .i64 4)).run Tryd.prog w = .ok (.int .u8 t4) w := by kernel_rfl
theorem run_idx5 (t0 t1 t2 t3 t4 t5 t6 t7 t8 t9 : Int) (w : World) : (Instr.index 36 (.agg #[.int .u8 t0, .int .u8 t1, .int .u8 t2, .int .u8 t3, .int .u8 t4, .int .u8 t5, .int .u8 t6, .int .u8 t7, .int .u8 t8, .int .u8 t9]) (.int .i64 5)).run Tryd.prog w = .ok (.int .u8 t5) w := by kernel_rfl
theorem run_idx6 (t0 t1 t2 t3 t4 t5 t6 t7 t8 t9 : Int) (w : World) : (Instr.index 36 (.agg #[.int .u8 t0, .int .u8 t1, .int .u8 t2, .int .u8 t3, .int .u8 t4, .int .u8 t5, .int .u8 t6, .int .u8 t7, .int .u8 t8, .int .u8 t9]) (.int .i64 6)).run Tryd.prog w = .ok (.int .u8 t6) w := by kernel_rfl
theorem run_idx7 (t0 t1 t2 t3 t4 t5 t6 t7 t8 t9 : Int) (w : World) : (Instr.index 36 (.agg #[.int .u8 t0, .int .u8 t1, .int .u8 t2, .int .u8 t3, .int .u8 t4, .int .u8 t5, .int .u8 t6, .int .u8 t7, .int .u8 t8, .int .u8 t9]) (.int .i64 7)).run Tryd.prog w = .ok (.int .u8 t7) w := by kernel_rfl
theorem run_idx8 (t0 t1 t2 t3 t4 t5 t6 t7 t8 t9 : Int) (w : World) : (Instr.index 36 (.agg #[.int .u8 t0, .int .u8 t1, .int .u8 t2, .int .u8 t3, .int .u8 t4, .int .u8 t5, .int .u8 t6, .int .u8 t7, .int .u8 t8, .int .u8 t9]) (.int .i64 8)).run Tryd.prog w = .ok (.int .u8 t8) w := by kernel_rfl
theorem run_idx9 (t0 t1 t2 t3 t4 t5 t6 t7 t8 t9 : Int) (w : World) : (Instr.index 36 (.agg #[.int .u8 t0, .int .u8 t1, .int .u8 t2, .int .u8 t3, .int .u8 t4, .int .u8 t5, .int .u8 t6, .int .u8 t7, .int .u8 t8, .int .u8 t9]) (.int .i64 9)).run Tryd.prog w = .ok (.int .u8 t9) w := by kernel_rfl
theorem run_idx (t0 t1 t2 t3 t4 t5 t6 t7 t8 t9 : Int) (b : Nat) (hb : b < 10) (w : World) : (Instr.index 36 (.agg #[.int .u8 t0, .int .u8 t1, .int .u8 t2, .int .u8 t3, .int .u8 t4, .int .u8 t5, .int .u8 t6, .int .u8 t7, .int .u8 t8, .int .u8 t9]) (.int .i64 (b : Int))).run Tryd.prog w = .ok (.int .u8 ([t0, t1, t2, t3, t4, t5, t6, t7, t8, t9].getD b 0)) w := by
  have h : b = 0 ∨ b = 1 ∨ b = 2 ∨ b = 3 ∨ b = 4 ∨ b = 5 ∨ b = 6 ∨ b = 7 ∨ b = 8 ∨ b = 9 := by omega
  rcases h with rfl | rfl | rfl | rfl | rfl | rfl | rfl | rfl | rfl | rfl
  · exact run_idx0 t0 t1 t2 t3 t4 t5 t6 t7 t8 t9 w
  · exact run_idx1 t0 t1 t2 t3 t4 t5 t6 t7 t8 t9 w
  · exact run_idx2 t0 t1 t2 t3 t4 t5 t6 t7 t8 t9 w
  · exact run_idx3 t0 t1 t2 t3 t4 t5 t6 t7 t8 t9 w
  · exact run_idx4 t0 t1 t2 t3 t4 t5 t6 t7 t8 t9 w
  · exact run_idx5 t0 t1 t2 t3 t4 t5 t6 t7 t8 t9 w
  · exact run_idx6 t0 t1 t2 t3 t4 t5 t6 t7 t8 t9 w
  · exact run_idx7 t0 t1 t2 t3 t4 t5 t6 t7 t8 t9 w
  · exact run_idx8 t0 t1 t2 t3 t4 t5 t6 t7 t8 t9 w
  · exact run_idx9 t0 t1 t2 t3 t4 t5 t6 t7 t8 t9 w
theorem row_get (T : Nat → Nat → Nat) (a b : Nat) (hb : b < 10) : [((T a 0 : Nat) : Int), (T a 1 : Nat), (T a 2 : Nat), (T a 3 : Nat), (T a 4 : Nat), (T a 5 : Nat), (T a 6 : Nat), (T a 7 : Nat), (T a 8 : Nat), (T a 9 : Nat)].getD b 0 = (T a b : Nat) := by
  match b, hb with
  | 0, _ => rfl
  | 1, _ => rfl
  | 2, _ => rfl
  | 3, _ => rfl
  | 4, _ => rfl
  | 5, _ => rfl
  | 6, _ => rfl
  | 7, _ => rfl
  | 8, _ => rfl
  | 9, _ => rfl
  | n + 10, h => exact absurd h (by omega)
theorem zeroWant (u : World) : (zeroValue 37).run Tryd.prog u = .ok (.agg (wantA fun _ _ => 0)) u := by kernel_rfl

set_option maxRecDepth 100000 in
set_option maxHeartbeats 8000000 in
theorem clashes_law (A : Option Addr) (n c : Nat) (l : List Nat) (more : Nat) (hmore : more < 256) (w : World) (ht : TabOK w) (hs : Sl w w.heap.size 1 A n (u8s l)) (hl : ∀ x ∈ l, x < 256) (hn : n ≤ maxLen) :
    Calls Tryd.prog 4 #[.slice A n c, .int .u8 more] w (TrueRet w) := by
  have HT := Lib.hid ht; clear ht
  have Hs := Lib.hid hs; clear hs
  have HL := Lib.hid hl; clear hl
  go_enter Tryd.func4, Tryd.ntmps4
  go_wp2_with fail
  refine (awake_true _ HT.out).mono ?_
  rintro e w1 ⟨rfl, hb1⟩
  go_wp2_with fail
  refine (classes_any A n c l w1 ((Hs.out.below hb1).more hb1.size) HL.out hn).mono ?_
  rintro e w2 ⟨v2, rfl, ho2, hb2⟩
  obtain ⟨A2, c2, rfl, hc21, hc22, hs2⟩ := own_sl ho2
  have hL10 := mods_lt l 100
  have hLl := mods_len l 100
  generalize mods l 100 = L at *
  have hpe := Dg.pre_all (l := L) (by omega) (fun y hy => by have := hL10 y hy; omega)
  have HT2 := Lib.hid ((HT.out.below hb1 HT.out.lt).below hb2 (by have := HT.out.lt; have := hb1.size; omega))
  have hcl := clashes_ok A2 L.length c2 L w2 HT2.out hs2 hpe.2
  rw [hpe.1] at hcl
  have HCL := Lib.hid hcl; clear hcl
  have HPE := Lib.hid hpe; clear hpe
  have H10 := Lib.hid hL10; clear hL10
  have Hs2 := Lib.hid hs2; clear hs2
  clear ho2
  have hbw2 := hb1.trans (hb2.mono hb1.size)
  go_wp2_with fail
  refine HCL.out.mono ?_
  rintro e w3 ⟨v3, rfl, ho3, hb3⟩
  obtain ⟨A3, c3, rfl, hat3⟩ := cl_cell ho3
  have HAT3 := Lib.hid hat3; clear hat3 ho3 HCL
  have hbw3 := hbw2.trans (hb3.mono hbw2.size)
  have Hs3 := Lib.hid ((Hs2.out.below hb3).more hb3.size)
  have HT3 := Lib.hid (HT2.out.below hb3 HT2.out.lt)
  clear Hs2
  have htl := HT3.out.lt
  have hz := zeroWant
  go_wp2
  clear hz
  go_loopw [34] (fun q wr => ∃ (i : Nat) (T : Nat → Nat → Nat), i ≤ L.length ∧ q = .int .i64 i ∧ Bk wr w3.heap.size 37 (wantA T) ∧ Hid (Dg.wantOK L T (fun i' _ => i' < i)) ∧ Below w3.heap.size w3 wr) (fun q _ => L.length - (intOf q).toNat)
  case atStart => exact ⟨0, fun _ _ => 0, Nat.zero_le _, rfl, Bk.new _ _ _, Lib.hid ⟨fun _ _ => .inl rfl, fun _ _ _ _ _ h => absurd h (by omega)⟩, (Below.refl _ _).alloc (Nat.le_refl _) _⟩
  case round =>
    obtain ⟨i, T, hi, rfl, hk, HW, hb⟩ := hrel
    by_cases hlt : i < L.length
    · obtain ⟨wo, rfl⟩ : ∃ wo : World, wo = wr := ⟨_, rfl⟩
      go_wp2
      go_loopw [39] (fun q wr => ∃ (k : Nat) (T : Nat → Nat → Nat), k ≤ L.length ∧ q = .int .i64 k ∧ Bk wr w3.heap.size 37 (wantA T) ∧ Hid (Dg.wantOK L T (fun i' k' => i' < i ∨ (i' = i ∧ k' < k))) ∧ Below w3.heap.size w3 wr) (fun q _ => L.length - (intOf q).toNat)
      case atStart => exact ⟨0, T, Nat.zero_le _, rfl, hk, Lib.hid ⟨HW.out.1, fun i' k' h1 h2 h3 h4 => HW.out.2 i' k' h1 h2 h3 (by omega)⟩, hb⟩
      case round =>
        clear hk HW hb T
        obtain ⟨k, T, hk', rfl, hk, HW, hb⟩ := hrel
        by_cases hlk : k < L.length
        · by_cases hne : i = k
          · have hbn : ((i : Int) != (k : Int)) = false := by simp; omega
            have HNE := Lib.hid hne; clear hne
            go_wp2
            go_roundw
            case rel => exact ⟨k + 1, T, by omega, by go_num, hk, Lib.hid ⟨HW.out.1, fun i' k' h1 h2 h3 h4 => HW.out.2 i' k' h1 h2 h3 (by have := HNE.out; omega)⟩, hb⟩
            case measure => simp [intOf]; omega
          · have hbn : ((i : Int) != (k : Int)) = true := by simp; omega
            obtain ⟨b, off, rfl, hbB, ci⟩ := (Hs3.out.below hb).u8 hlt
            obtain ⟨b', off', hAA, _, ck⟩ := (Hs3.out.below hb).u8 hlk
            injection hAA with hAA
            injection hAA with q1 q2
            subst q1 q2
            have hx10 := H10.out _ (getD_mem hlt)
            have hy10 := H10.out _ (getD_mem hlk)
            have HNEW := Lib.hid (Dg.want_set (done' := fun i' k' => i' < i ∨ (i' = i ∧ k' < k + 1)) HW.out H10.out hlt hlk hne (fun i' k' h => by omega))
            generalize L.getD i 0 = x at *
            generalize L.getD k 0 = y at *
            have hlo : min x y < 10 := by omega
            have hhi : max x y < 10 := by omega
            have HCODE := Lib.hid (lcode_ok x y)
            have h3 := Dg.tab_le x y hx10 hy10
            have cw := (hk.cell (min x y * 10 + max x y)).trans (wantA_at T _ _ hlo hhi)
            have fw := hk.frozen (min x y * 10 + max x y)
            have HR := Lib.hid (And.intro (show Bk ((wr.drew).setCell ⟨w3.heap.size, min x y * 10 + max x y, none⟩ (.int .u8 (Dg.tab x y : Nat))) w3.heap.size 37 (wantA (Dg.setT T (min x y) (max x y) (Dg.tab x y))) by
              rw [← wantA_set T _ _ _ hlo hhi]; exact Bk.set_ (show Bk wr.drew _ _ _ from hk) _ _) (show Below w3.heap.size w3 ((wr.drew).setCell ⟨w3.heap.size, min x y * 10 + max x y, none⟩ (.int .u8 (Dg.tab x y : Nat))) from hb.drew.setCell (by simp) _))
            have HTr := Lib.hid (HT3.out.below hb htl)
            generalize Dg.tab x y = t at *
            have i1 : (0 : Int) ≤ (i : Int) := by omega
            have i2 : (i : Int) < (L.length : Int) := by omega
            have i3 : (0 : Int) ≤ (k : Int) := by omega
            have i4 : (k : Int) < (L.length : Int) := by omega
            have hbl : b < w3.heap.size := hbB
            have hbne : b ≠ w3.heap.size := by omega
            have hbne2 : ¬ w3.heap.size = b := by omega
            have x1 : (0 : Int) ≤ (x : Int) := by omega
            have x2 : (x : Int) < 10 := by omega
            have y1 : (0 : Int) ≤ (y : Int) := by omega
            have y2 : (y : Int) < 10 := by omega
            rcases Nat.lt_trichotomy x y with hxy | hxy | hxy
            · have n1 : ¬ y < x := by omega
              have n2 : ¬ (y : Int) < (x : Int) := by omega
              have n3 : (x : Int) < (y : Int) := by omega
              have n4 : decide (y < x) = false := by simp; omega
              have n5 : decide (x < y) = true := by simp; omega
              have n6 : ¬ y ≤ x := by omega
              have n7 : x ≤ y := by omega
              have e1 : min x y = x := by omega
              have e2 : max x y = y := by omega
              rw [e1, e2] at HNEW
              rw [e1, e2] at cw fw HR
              clear e1 e2
              go_wp2_with fail
              refine region_tail 29 (by kernel_rfl) (by kernel_rfl) ?_
              simp only [List.take_succ_cons, List.take_zero, List.drop_succ_cons, List.drop_zero]
              repeat still_step
              still_call ((HCODE.out _ hx10 hy10 (by exact HTr.out)).mono fun _ _ h => ⟨h.1, h.2.symm⟩)
              repeat still_step
              refine wpStill_nil ?_
              go_wp2
              go_roundw
              case rel => exact ⟨k + 1, _, by omega, by go_num, HR.out.1, HNEW, HR.out.2⟩
              case measure => simp [intOf]; omega
            · subst hxy
              have e1 : min x x = x := by omega
              have e2 : max x x = x := by omega
              rw [e1, e2] at HNEW
              rw [e1, e2] at cw fw HR
              clear e1 e2
              go_wp2_with fail
              refine region_tail 29 (by kernel_rfl) (by kernel_rfl) ?_
              simp only [List.take_succ_cons, List.take_zero, List.drop_succ_cons, List.drop_zero]
              repeat still_step
              still_call ((HCODE.out _ hx10 hx10 (by exact HTr.out)).mono fun _ _ h => ⟨h.1, h.2.symm⟩)
              repeat still_step
              refine wpStill_nil ?_
              go_wp2
              go_roundw
              case rel => exact ⟨k + 1, _, by omega, by go_num, HR.out.1, HNEW, HR.out.2⟩
              case measure => simp [intOf]; omega
            · have n1 : ¬ x < y := by omega
              have n2 : ¬ (x : Int) < (y : Int) := by omega
              have n3 : (y : Int) < (x : Int) := by omega
              have n4 : decide (x < y) = false := by simp; omega
              have n5 : decide (y < x) = true := by simp; omega
              have n6 : ¬ x ≤ y := by omega
              have n7 : y ≤ x := by omega
              have e1 : min x y = y := by omega
              have e2 : max x y = x := by omega
              rw [e1, e2] at HNEW
              rw [e1, e2] at cw fw HR
              clear e1 e2
              go_wp2_with fail
              refine region_tail 29 (by kernel_rfl) (by kernel_rfl) ?_
              simp only [List.take_succ_cons, List.take_zero, List.drop_succ_cons, List.drop_zero]
              repeat still_step
              still_call ((HCODE.out _ hx10 hy10 (by exact HTr.out)).mono fun _ _ h => ⟨h.1, h.2.symm⟩)
              repeat still_step
              refine wpStill_nil ?_
              go_wp2
              go_roundw
              case rel => exact ⟨k + 1, _, by omega, by go_num, HR.out.1, HNEW, HR.out.2⟩
              case measure => simp [intOf]; omega
        · obtain rfl : k = L.length := by omega
          go_wp2
          go_roundw
          case rel => exact ⟨i + 1, T, by omega, by go_num, hk, Lib.hid ⟨HW.out.1, fun i' k' h1 h2 h3 h4 => HW.out.2 i' k' h1 h2 h3 (by omega)⟩, hb⟩
          case measure => simp [intOf]; omega
    · obtain rfl : i = L.length := by omega
      have hW : Dg.wantOK L T (fun _ _ => True) := ⟨HW.out.1, fun i k h1 h2 h3 _ => HW.out.2 i k h1 h2 h3 h1⟩
      have HWA := Lib.hid (Dg.want_all hW H10.out)
      clear hW HW
      have hbw := hbw3.trans (hb.mono hbw3.size)
      obtain ⟨wq, rfl⟩ : ∃ wq : World, wq = wr := ⟨_, rfl⟩
      have hcll : (Dg.clashes L).length ≤ 100 := Dg.clTo_len L 10
      have hgl := hk.lt
      have HAT := Lib.hid (show ∀ k, k < (Dg.clashes L).length → ∃ b, A3 = some ⟨b, 0, none⟩ ∧ wq.cell? ⟨b, k * 3, none⟩ = some (.int .u8 ((Dg.clashes L).getD k (0, 0, 0)).1) ∧ wq.cell? ⟨b, k * 3 + 1, none⟩ = some (.int .u8 ((Dg.clashes L).getD k (0, 0, 0)).2.1) ∧ wq.cell? ⟨b, k * 3 + 2, none⟩ = some (.int .u8 ((Dg.clashes L).getD k (0, 0, 0)).2.2) from fun k hk' => by
        obtain ⟨b, e, hb3, x0, x1, x2⟩ := HAT3.out k hk'
        exact ⟨b, e, (hb.cell (p := ⟨b, k * 3, none⟩) hb3).trans x0, (hb.cell (p := ⟨b, k * 3 + 1, none⟩) hb3).trans x1, (hb.cell (p := ⟨b, k * 3 + 2, none⟩) hb3).trans x2⟩)
      go_wp2
      go_loop [10, 76] (fun n q => ∃ a : Nat, a ≤ 10 ∧ q = .int .i64 a ∧ n = .int .i64 (Dg.preC L a 0).length) (fun _ q => 10 - (intOf q).toNat)
      case atStart => exact ⟨0, Nat.zero_le _, rfl, by simp [Dg.preC, Dg.clTo, Dg.clRow]⟩
      case round =>
        obtain ⟨a, ha, rfl, rfl⟩ := hrel
        by_cases hla : a < 10
        · have r0 := (hk.cell (a * 10)).trans (wantA_at T a 0 hla (by omega))
          have r1 := (hk.cell (a * 10 + 1)).trans (wantA_at T a 1 hla (by omega))
          have r2 := (hk.cell (a * 10 + 2)).trans (wantA_at T a 2 hla (by omega))
          have r3 := (hk.cell (a * 10 + 3)).trans (wantA_at T a 3 hla (by omega))
          have r4 := (hk.cell (a * 10 + 4)).trans (wantA_at T a 4 hla (by omega))
          have r5 := (hk.cell (a * 10 + 5)).trans (wantA_at T a 5 hla (by omega))
          have r6 := (hk.cell (a * 10 + 6)).trans (wantA_at T a 6 hla (by omega))
          have r7 := (hk.cell (a * 10 + 7)).trans (wantA_at T a 7 hla (by omega))
          have r8 := (hk.cell (a * 10 + 8)).trans (wantA_at T a 8 hla (by omega))
          have r9 := (hk.cell (a * 10 + 9)).trans (wantA_at T a 9 hla (by omega))
          have t0 : decide ((a : Int) < 10) = true := by simp; omega
          have a1 : (0 : Int) ≤ (a : Int) := by omega
          have a2 : (a : Int) < 10 := by omega
          go_wp2
          go_loop [10, 82] (fun n q => ∃ b : Nat, b ≤ 10 ∧ q = .int .i64 b ∧ n = .int .i64 (Dg.preC L a b).length) (fun _ q => 10 - (intOf q).toNat)
          case atStart => exact ⟨0, Nat.zero_le _, rfl, rfl⟩
          case round =>
            obtain ⟨b, hb10, rfl, rfl⟩ := hrel
            by_cases hlb : b < 10
            · have hix := run_idx (T a 0 : Nat) (T a 1 : Nat) (T a 2 : Nat) (T a 3 : Nat) (T a 4 : Nat) (T a 5 : Nat) (T a 6 : Nat) (T a 7 : Nat) (T a 8 : Nat) (T a 9 : Nat) b hlb
              rw [row_get T a b hlb] at hix
              have hTab := HWA.out a b
              have t1 : decide ((b : Int) < 10) = true := by simp; omega
              have hpl : (Dg.preC L a b).length ≤ 100 := by
                obtain ⟨r, hr⟩ := Dg.preC_prefix L a b hla (by omega)
                have := congrArg List.length hr
                simp at this
                omega
              by_cases hc : (a ≤ b ∧ Dg.clashB L a b = true) ∧ 0 < Dg.tab a b
              · obtain ⟨⟨hab, hcl⟩, hpos⟩ := hc
                rw [if_pos ⟨hab, hcl⟩] at hTab
                rw [hTab] at hix
                obtain ⟨hlen, hget, hnext⟩ := Dg.clash_at L a b hab hlb hcl
                obtain ⟨bq, hA3, x0, x1, x2⟩ := HAT.out _ hlen
                rw [hget] at x0 x1 x2
                simp only at x0 x1 x2
                have h3 := Dg.tab_le a b hla hlb
                have HNX : Hid ((Dg.preC L a (b + 1)).length = (Dg.preC L a b).length + 1) := Lib.hid (by rw [hnext]; simp)
                have hlen' : ((Dg.preC L a b).length : Int) < ((Dg.clashes L).length : Int) := by omega
                have t2 : decide ((Dg.clashes L).length ≤ (Dg.preC L a b).length) = false := by simp; omega
                rw [hA3]
                clear hA3 hnext hget hTab
                generalize (Dg.preC L a b).length = nn at *
                generalize (Dg.clashes L).length = CL at *
                generalize Dg.tab a b = x at *
                have t3 : ((x : Int) == 0) = false := by simp; omega
                go_wp2
                go_round
                case rel => exact ⟨b + 1, by omega, by go_num, by rw [HNX.out]; go_num⟩
                case measure => simp [intOf]; omega
              · have hz : T a b = 0 := by
                  rw [hTab]
                  split
                  · rename_i h; apply Classical.byContradiction; intro hne; exact hc ⟨h, by omega⟩
                  · rfl
                have HNX : Hid ((Dg.preC L a (b + 1)).length = (Dg.preC L a b).length) := Lib.hid (by
                  rcases Nat.lt_or_ge b a with h | h
                  · rw [Dg.preC_low L a b h]
                  · cases hcb : Dg.clashB L a b with
                    | false => rw [Dg.clash_not L a b h hcb]
                    | true =>
                      exfalso
                      apply hc
                      refine ⟨⟨h, hcb⟩, ?_⟩
                      unfold Dg.clashB at hcb
                      simp only [Bool.and_eq_true, decide_eq_true_eq] at hcb
                      exact hcb.1.1.1)
                rw [hz] at hix
                clear hTab hz hc
                go_wp2
                go_round
                case rel => exact ⟨b + 1, by omega, by go_num, by rw [HNX.out]⟩
                case measure => simp [intOf]; omega
            · obtain rfl : b = 10 := by omega
              have HNX := Lib.hid (Dg.preC_row L a)
              go_wp2
              go_round
              case rel => exact ⟨a + 1, by omega, by go_num, by rw [HNX.out]⟩
              case measure => simp [intOf]; omega
        · obtain rfl : a = 10 := by omega
          have HNL : Hid ((Dg.preC L 10 0).length = (Dg.clashes L).length) := Lib.hid (by simp [Dg.preC, Dg.clRow, Dg.clashes])
          rw [HNL.out]
          clear HNL HAT HWA hgl hk
          have hm10 : more % 10 < 10 := by omega
          have HTq := Lib.hid (HT3.out.below hb htl)
          have Hsq := Lib.hid ((Hs3.out.below hb).more hb.size)
          have hst := strictest_ok (more % 10) A2 L.length c2 L wq HTq.out Hsq.out HPE.out.2 hm10
          rw [HPE.out.1, Dg.strict_most _ _ H10.out] at hst
          have HST := Lib.hid hst; clear hst
          have hm3 := Dg.most_three (more % 10) L hm10 H10.out
          have HPL := Lib.hid (And.intro (Dg.clashes_le L (more % 10)) (Dg.clashes_same L (more % 10) hm10 H10.out))
          generalize hmm : more % 10 = m at *
          have HMM : Hid ((more : Int) % 10 = (m : Int)) := Lib.hid (by omega)
          clear hmm
          go_wp2_with fail
          rw [HMM.out]
          refine HST.out.mono ?_
          rintro e w5 ⟨rfl, hb5⟩
          clear HST
          have HT5 := Lib.hid (HTq.out.below hb5 HTq.out.lt)
          have Hs5 := Lib.hid ((Hsq.out.below hb5).more hb5.size)
          have hbw5 := hbw.trans (hb5.mono hbw.size)
          clear HTq Hsq
          go_wp2
          go_loop [16, 118] (fun v q => ∃ k : Nat, k ≤ L.length ∧ q = .int .i64 k ∧ v = .int .u8 (Dg.most m (L.take k) : Nat)) (fun _ q => L.length - (intOf q).toNat)
          case atStart => exact ⟨0, Nat.zero_le _, rfl, rfl⟩
          case round =>
            obtain ⟨k, hk, rfl, rfl⟩ := hrel
            by_cases hlk : k < L.length
            · obtain ⟨b, off, rfl, hbB, ck⟩ := Hs5.out.u8 hlk
              have hy10 := H10.out _ (getD_mem hlk)
              have HS1 : Hid (Dg.most m (L.take (k + 1)) = max (Dg.most m (L.take k)) (Dg.tab m (L.getD k 0))) := Lib.hid (by rw [count_take_succ hlk rfl, Dg.most_snoc])
              have hq3 := Dg.most_three m (L.take k) hm10 (fun c hc => H10.out c (List.mem_of_mem_take hc))
              generalize L.getD k 0 = y at *
              have h3 := Dg.tab_le m y hm10 hy10
              have HCODE := Lib.hid (lcode_ok m y w5 hm10 hy10 HT5.out)
              generalize Dg.tab m y = t at *
              generalize Dg.most m (L.take k) = q at *
              go_wp2_with fail
              rw [HMM.out]
              refine HCODE.out.mono ?_
              rintro e w' ⟨rfl, rfl⟩
              go_wp2
              all_goals
                go_round
                case rel =>
                  refine ⟨k + 1, by omega, by go_num, ?_⟩
                  rw [HS1.out]
                  refine vint ?_
                  omega
                case measure => simp [intOf]; omega
            · obtain rfl : k = L.length := by omega
              rw [List.take_length]
              have hz5 := hb5.size
              have HSE := Lib.hid (Hs5.out.below (show Below w5.heap.size w5 (w5.alloc (.cells #[] 5)) from (Below.refl _ _).alloc (Nat.le_refl _) _))
              have HOE := Lib.hid (own_empty w5 w5.heap.size 5 1 (Nat.le_refl _))
              go_wp2_with (at_builtin; (refine wpList_append_sl el_u8 rfl (.tmp 130) (.tmp 131) rfl w5.heap.size (.slice (some ⟨w5.heap.size, 0, none⟩) 0 0) 0 [] rfl HOE.out w5.heap.size A2 L.length c2 (u8s L) rfl HSE.out (u8s_one L) ?_ ?_ ?_ ?_))
              case refine_1 => unfold maxLen; omega
              case refine_2 => omega
              intro v6 w6 ho6 hg6 hd6 hb6
              have hz6 := hb6.size
              simp at hz6
              have ho6' : w6.ownsRow w5.heap.size 5 1 v6 L.length (u8s L) := by simpa using ho6
              clear ho6 HOE HSE
              go_wp2_with (at_builtin; (refine wpList_append1 el_u8 rfl (.tmp 132) (.tmp 135) rfl w5.heap.size _ L.length (u8s L) rfl ho6' #[.int .u8 ((more : Int) % 10)] _ rfl rfl rfl ?z1 ?z2 ?z3 ?_))
              case z1 => unfold maxLen; omega
              case z2 => omega
              case z3 => omega
              intro v7 w7 ho7 hg7 hd7 hb7
              obtain ⟨A7, c7, rfl, hc71, hc72, hs7⟩ := own_sl ho7
              have hs7' : Sl w7 w7.heap.size 1 A7 (L.length + 1) (u8s (L ++ [m])) := by
                have e : u8s L ++ #[Value.int .u8 ((more : Int) % 10)].toList = u8s (L ++ [m]) := by rw [HMM.out]; simp [u8s]
                rw [← e]; exact hs7
              have hb57 : Below w5.heap.size w5 w7 := (((Below.refl _ _).alloc (Nat.le_refl _) _).trans hb6).trans hb7
              have h10m : ∀ y ∈ L ++ [m], y ≤ 9 := fun y hy => by
                rcases List.mem_append.1 hy with h | h
                · have := H10.out y h; omega
                · simp at h; omega
              have hpe7 := Dg.pre_all (l := L ++ [m]) (by simp; omega) h10m
              have hcl7 := clashes_ok A7 (L.length + 1) c7 (L ++ [m]) w7 (HT5.out.below hb57 HT5.out.lt) hs7' hpe7.2
              rw [hpe7.1] at hcl7
              have HC7 := Lib.hid hcl7
              clear hcl7 hpe7 h10m hs7 hs7' ho7 hg7 hd7 hg6 hd6 ho6'
              go_wp2_with fail
              refine HC7.out.mono ?_
              rintro e w8 ⟨v8, rfl, ho8, hb8⟩
              obtain ⟨A8, c8, rfl, _⟩ := cl_cell ho8
              clear HC7 ho8
              have hfin := hbw5.trans ((hb57.trans (hb8.mono hb57.size)).mono hbw5.size)
              have p1 := HPL.out.1
              have p2 := HPL.out.2
              have hc8 : (Dg.clashes (L ++ [m])).length ≤ 100 := Dg.clTo_len _ 10
              generalize (Dg.clashes (L ++ [m])).length = N2 at *
              generalize (Dg.clashes L).length = N1 at *
              generalize Dg.most m L = mo at *
              have P2 := Lib.hid p2; clear p2
              have d1 : decide (N1 ≤ N2) = true := by simpa using p1
              by_cases hmo : mo = 0
              · subst hmo
                have d2 : ((N2 : Int) == (N1 : Int)) = true := by rw [P2.out rfl]; simp
                go_wp2
                go_ret
                exact ⟨rfl, hfin⟩
              · have d3 : ((mo : Int) == 0) = false := by simp; omega
                cases d2 : ((N2 : Int) == (N1 : Int))
                all_goals
                  go_wp2
                  go_ret
                  exact ⟨rfl, hfin⟩
end Go.Proofs.YtcjnabbggmbfgaaDoor
