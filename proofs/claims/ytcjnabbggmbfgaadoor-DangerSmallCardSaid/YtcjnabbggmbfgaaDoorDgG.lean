/-
  The walks of danger.Name and of the statement DangerCodes.
-/
import Derived.Test.YtcjnabbggmbfgaaDoorDgF
namespace Go.Proofs.YtcjnabbggmbfgaaDoor
open Go.RowKit

namespace Dg
def nameL : List (List Nat) := [[103, 101, 110, 101, 114, 97, 108], [101, 120, 112, 108, 111, 115, 105, 118, 101, 115], [103, 97, 115, 101, 115], [102, 108, 97, 109, 109, 97, 98, 108, 101, 32, 108, 105, 113, 117, 105, 100, 115], [102, 108, 97, 109, 109, 97, 98, 108, 101, 32, 115, 111, 108, 105, 100, 115], [111, 120, 105, 100, 105, 115, 101, 114, 115], [112, 111, 105, 115, 111, 110, 115], [114, 97, 100, 105, 111, 97, 99, 116, 105, 118, 101, 115], [99, 111, 114, 114, 111, 115, 105, 118, 101, 115], [111, 116, 104, 101, 114, 115]]
theorem tab_symm (a b : Nat) (ha : a < 10) (hb : b < 10) : tab a b = tab b a := by
  have h : ∀ a : Fin 10, ∀ b : Fin 10, tab a b = tab b a := by decide
  exact h ⟨a, ha⟩ ⟨b, hb⟩
theorem tab_zero (a b : Nat) (ha : a < 10) (hb : b < 10) : tab a b = 0 ∨ (0 < a ∧ 0 < b ∧ a < 9 ∧ b < 9) := by
  have h : ∀ a : Fin 10, ∀ b : Fin 10, tab a b = 0 ∨ (0 < a.val ∧ 0 < b.val ∧ a.val < 9 ∧ b.val < 9) := by decide
  exact h ⟨a, ha⟩ ⟨b, hb⟩
end Dg
def NamesOK (w : World) : Prop := ∀ a, a < 10 → w.cell? ⟨1, a, none⟩ = some (.string (strN (Dg.nameL.getD a [])))
theorem NamesOK.lt {w : World} (h : NamesOK w) : 1 < w.heap.size := block_lt_of_cell (h 0 (by omega))
theorem NamesOK.below {w w' : World} {B : Nat} (h : NamesOK w) (hb : Below B w w') (hB : 1 < B) : NamesOK w' :=
  fun a ha => (hb.cell (p := ⟨1, a, none⟩) hB).trans (h a ha)
theorem name_ne (a : Nat) (h : a < 10) : (strN (Dg.nameL.getD a [])).toList.isEmpty = false := by
  rw [strN_toList]
  have h2 : ∀ a : Fin 10, (Dg.nameL.getD a []).isEmpty = false := by decide
  have := h2 ⟨a, h⟩
  simpa using this

set_option maxHeartbeats 400000 in
theorem name_ok (a : Nat) (w : World) (ha : a < 10) (ht : NamesOK w) :
    Calls Tryd.prog 19 #[.int .u8 a] w fun e w' => e = .returned (.tuple #[.string (strN (Dg.nameL.getD a [])), .int .i64 0]) ∧ w = w' := by
  have hc := ht a ha
  generalize Dg.nameL.getD a [] = s at *
  go_enter Tryd.func19, Tryd.ntmps19
  go_wp2
  go_ret2
  exact ⟨rfl, rfl⟩
set_option maxHeartbeats 400000 in
theorem name_bad (a : Nat) (w : World) (ha : 9 < a) :
    Calls Tryd.prog 19 #[.int .u8 a] w fun e w' => e = .returned (.tuple #[.string { data := #[] }, .int .i64 130]) ∧ w = w' := by
  go_enter Tryd.func19, Tryd.ntmps19
  go_wp2
  go_ret2
  exact ⟨rfl, rfl⟩

def TrueRet (w : World) (e : Ending) (w' : World) : Prop := e = .returned (.bool true) ∧ Below w.heap.size w w'

set_option maxRecDepth 100000 in
set_option maxHeartbeats 4000000 in
theorem codes_ok (a b : Nat) (w : World) (ht : TabOK w) (hm : NamesOK w) (ha : a < 10) (hb : b < 10) : Calls Tryd.prog 8 #[.int .u8 a, .int .u8 b] w (TrueRet w) := by
  have h3 := Dg.tab_le a b ha hb
  have hsym := Dg.tab_symm a b ha hb
  have hz := Dg.tab_zero a b ha hb
  have hne := name_ne a ha
  go_enter Tryd.func8, Tryd.ntmps8
  have HT := Lib.hid ht; clear ht
  have HM := Lib.hid hm; clear hm
  have HZ := Lib.hid hz; clear hz
  have HS := Lib.hid hsym; clear hsym
  go_wp2_with fail
  refine (awake_true _ HT.out).mono ?_
  rintro e w1 ⟨rfl, hb1⟩
  go_wp2_with fail
  refine (code_ok a b w1 ha hb (HT.out.below hb1 HT.out.lt)).mono ?_
  rintro e _ ⟨rfl, rfl⟩
  go_wp2_with fail
  refine (code_ok b a w1 hb ha (HT.out.below hb1 HT.out.lt)).mono ?_
  rintro e _ ⟨rfl, rfl⟩
  rw [← HS.out]
  go_wp2_with fail
  refine (name_ok a w1 ha (HM.out.below hb1 HM.out.lt)).mono ?_
  rintro e _ ⟨rfl, rfl⟩
  generalize Dg.nameL.getD a [] = s at *
  have hz := HZ.out; clear HZ HS
  generalize Dg.tab a b = x at *
  rcases Nat.eq_zero_or_pos x with hx | hx
  · subst hx
    clear hz
    go_wp2
    go_ret
    exact ⟨rfl, hb1⟩
  · obtain ⟨z1, z2, z3, z4⟩ := hz.resolve_left (by omega)
    have d1 : decide ((b : Int) < 9) = true := by simp; omega
    have d2 : ((x : Int) == 0) = false := by simp; omega
    go_wp2
    go_ret
    exact ⟨rfl, hb1⟩

set_option maxRecDepth 100000 in
set_option maxHeartbeats 4000000 in
theorem codes_bad (a b : Nat) (w : World) (ht : TabOK w) (hm : NamesOK w) (ha : a < 10) (hb : 9 < b) : Calls Tryd.prog 8 #[.int .u8 a, .int .u8 b] w (TrueRet w) := by
  have hne := name_ne a ha
  go_enter Tryd.func8, Tryd.ntmps8
  have HT := Lib.hid ht; clear ht
  have HM := Lib.hid hm; clear hm
  go_wp2_with fail
  refine (awake_true _ HT.out).mono ?_
  rintro e w1 ⟨rfl, hb1⟩
  go_wp2_with fail
  refine (code_bad a b w1 (by omega)).mono ?_
  rintro e _ ⟨rfl, rfl⟩
  go_wp2_with fail
  refine (code_bad b a w1 (by omega)).mono ?_
  rintro e _ ⟨rfl, rfl⟩
  go_wp2_with fail
  refine (name_ok a w1 ha (HM.out.below hb1 HM.out.lt)).mono ?_
  rintro e _ ⟨rfl, rfl⟩
  generalize Dg.nameL.getD a [] = s at *
  go_wp2
  go_ret
  exact ⟨rfl, hb1⟩

set_option maxRecDepth 100000 in
set_option maxHeartbeats 4000000 in
theorem codes_bad2 (a b : Nat) (w : World) (ht : TabOK w) (ha : 9 < a) : Calls Tryd.prog 8 #[.int .u8 a, .int .u8 b] w (TrueRet w) := by
  go_enter Tryd.func8, Tryd.ntmps8
  have HT := Lib.hid ht; clear ht
  go_wp2_with fail
  refine (awake_true _ HT.out).mono ?_
  rintro e w1 ⟨rfl, hb1⟩
  go_wp2_with fail
  refine (code_bad a b w1 (by omega)).mono ?_
  rintro e _ ⟨rfl, rfl⟩
  go_wp2_with fail
  refine (code_bad b a w1 (by omega)).mono ?_
  rintro e _ ⟨rfl, rfl⟩
  go_wp2_with fail
  refine (name_bad a w1 ha).mono ?_
  rintro e _ ⟨rfl, rfl⟩
  have d1 : decide ((9 : Int) < (a : Int)) = true := by simp; omega
  go_wp2
  go_ret
  exact ⟨rfl, hb1⟩
theorem codes_any (a b : Nat) (w : World) (ht : TabOK w) (hm : NamesOK w) : Calls Tryd.prog 8 #[.int .u8 a, .int .u8 b] w (TrueRet w) := by
  by_cases ha : a < 10
  · by_cases hb : b < 10
    · exact codes_ok a b w ht hm ha hb
    · exact codes_bad a b w ht hm ha (by omega)
  · exact codes_bad2 a b w ht (by omega)
end Go.Proofs.YtcjnabbggmbfgaaDoor
