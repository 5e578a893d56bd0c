/-
  Walks of package danger: Code, Name; of its reference: Of.
-/
import Derived.Test.YtmhikcleekfbpaaDoorStC
import Derived.Test.YtmhikcleekfbpaaDoorDgPlain
import Derived.Outline
namespace Go.Proofs.YtmhikcleekfbpaaDoor
open Go.RowKit

/-- The table and the names lie in their variables. -/
def TabOK (w : World) : Prop := ∀ a b, a < 10 → b < 10 → w.cell? ⟨0, a * 10 + b, none⟩ = some (.int .u8 (Dg.tab a b))

set_option maxHeartbeats 400000 in
theorem code_ok (a b : Nat) (w : World) (ha : a < 10) (hb : b < 10) (ht : TabOK w) :
    Calls Tryd.prog 26 #[.int .u8 a, .int .u8 b] w fun e w' => e = .returned (.tuple #[.int .u8 (Dg.tab a b), .int .i64 0]) ∧ w = w' := by
  have hc := ht a b ha hb
  go_enter Tryd.func26, Tryd.ntmps26
  go_wp2
  go_ret2
  exact ⟨rfl, rfl⟩
set_option maxHeartbeats 400000 in
theorem code_bad (a b : Nat) (w : World) (h : 9 < a ∨ 9 < b) :
    Calls Tryd.prog 26 #[.int .u8 a, .int .u8 b] w fun e w' => e = .returned (.tuple #[.int .u8 0, .int .i64 130]) ∧ w = w' := by
  by_cases ha : 9 < a
  · go_enter Tryd.func26, Tryd.ntmps26
    go_wp2
    go_ret2
    exact ⟨rfl, rfl⟩
  · have hb : 9 < b := by omega
    go_enter Tryd.func26, Tryd.ntmps26
    go_wp2
    go_ret2
    exact ⟨rfl, rfl⟩
theorem TabOK.lt {w : World} (h : TabOK w) : 0 < w.heap.size := block_lt_of_cell (h 0 0 (by omega) (by omega))
theorem TabOK.below {w w' : World} {B : Nat} (h : TabOK w) (hb : Below B w w') (hB : 0 < B) : TabOK w' :=
  fun a b ha h1 => (hb.cell (p := ⟨0, a * 10 + b, none⟩) hB).trans (h a b ha h1)
namespace Dg
def nameL : List (List Nat) := [[103, 101, 110, 101, 114, 97, 108], [101, 120, 112, 108, 111, 115, 105, 118, 101, 115], [103, 97, 115, 101, 115], [102, 108, 97, 109, 109, 97, 98, 108, 101, 32, 108, 105, 113, 117, 105, 100, 115], [102, 108, 97, 109, 109, 97, 98, 108, 101, 32, 115, 111, 108, 105, 100, 115], [111, 120, 105, 100, 105, 115, 101, 114, 115], [112, 111, 105, 115, 111, 110, 115], [114, 97, 100, 105, 111, 97, 99, 116, 105, 118, 101, 115], [99, 111, 114, 114, 111, 115, 105, 118, 101, 115], [111, 116, 104, 101, 114, 115]]
theorem tab_symm (a b : Nat) (ha : a < 10) (hb : b < 10) : tab a b = tab b a := by
  have h : ∀ a : Fin 10, ∀ b : Fin 10, tab a b = tab b a := by decide
  exact h ⟨a, ha⟩ ⟨b, hb⟩
theorem tab_zero (a b : Nat) (ha : a < 10) (hb : b < 10) : tab a b = 0 ∨ (0 < a ∧ 0 < b ∧ a < 9 ∧ b < 9) := by
  have h : ∀ a : Fin 10, ∀ b : Fin 10, tab a b = 0 ∨ (0 < a.val ∧ 0 < b.val ∧ a.val < 9 ∧ b.val < 9) := by decide
  exact h ⟨a, ha⟩ ⟨b, hb⟩
end Dg
def NamesOK (w : World) : Prop := ∀ a, a < 10 → w.cell? ⟨1, a, none⟩ = some (.string (strN (Dg.nameL.getD a [])))
theorem NamesOK.lt {w : World} (h : NamesOK w) : 1 < w.heap.size := block_lt_of_cell (h 0 (by omega))
theorem NamesOK.below {w w' : World} {B : Nat} (h : NamesOK w) (hb : Below B w w') (hB : 1 < B) : NamesOK w' :=
  fun a ha => (hb.cell (p := ⟨1, a, none⟩) hB).trans (h a ha)
theorem name_ne (a : Nat) (h : a < 10) : (strN (Dg.nameL.getD a [])).toList.isEmpty = false := by
  rw [strN_toList]
  have h2 : ∀ a : Fin 10, (Dg.nameL.getD a []).isEmpty = false := by decide
  have := h2 ⟨a, h⟩
  simpa using this

set_option maxHeartbeats 400000 in
theorem name_ok (a : Nat) (w : World) (ha : a < 10) (ht : NamesOK w) :
    Calls Tryd.prog 43 #[.int .u8 a] w fun e w' => e = .returned (.tuple #[.string (strN (Dg.nameL.getD a [])), .int .i64 0]) ∧ w = w' := by
  have hc := ht a ha
  generalize Dg.nameL.getD a [] = s at *
  go_enter Tryd.func43, Tryd.ntmps43
  go_wp2
  go_ret2
  exact ⟨rfl, rfl⟩
set_option maxHeartbeats 400000 in
theorem name_bad (a : Nat) (w : World) (ha : 9 < a) :
    Calls Tryd.prog 43 #[.int .u8 a] w fun e w' => e = .returned (.tuple #[.string { data := #[] }, .int .i64 130]) ∧ w = w' := by
  go_enter Tryd.func43, Tryd.ntmps43
  go_wp2
  go_ret2
  exact ⟨rfl, rfl⟩

def rowT : List (List UInt8) := [[48, 48, 48, 48, 48, 48, 48, 48, 48, 48], [45, 48, 51, 51, 51, 51, 50, 50, 50, 48], [45, 45, 48, 50, 49, 50, 48, 49, 49, 48], [45, 45, 45, 48, 49, 50, 48, 50, 49, 48], [45, 45, 45, 45, 48, 51, 48, 49, 49, 48], [45, 45, 45, 45, 45, 49, 49, 49, 50, 48], [45, 45, 45, 45, 45, 45, 48, 49, 49, 48], [45, 45, 45, 45, 45, 45, 45, 48, 50, 48], [45, 45, 45, 45, 45, 45, 45, 45, 48, 48], [45, 45, 45, 45, 45, 45, 45, 45, 45, 48]]
def rowS (a : Nat) : ByteArray := ⟨(rowT.getD a []).toArray⟩
def rowsA : Array Value := (rowT.map fun r => Value.string ⟨r.toArray⟩).toArray
theorem rows_at (w : World) (a : Nat) (ha : a < 10) : (w.alloc (.cells rowsA 9)).cell? ⟨w.heap.size, a, none⟩ = some (.string (rowS a)) := by
  rw [(Bk.new w 9 rowsA).cell a]
  have h : rowT[a]? = some (rowT.getD a []) := (by decide : ∀ a : Fin 10, rowT[a.val]? = some (rowT.getD a.val [])) ⟨a, ha⟩
  show (rowT.map fun r => Value.string ⟨r.toArray⟩).toArray[a]? = _
  rw [List.getElem?_toArray, List.getElem?_map, h]; rfl
theorem rowT_ok : ∀ a : Fin 10, ∀ b : Fin 10, (rowT.getD a.val []).length = 10 ∧ (a.val ≤ b.val → ((rowT.getD a.val []).getD b.val 0).toNat = 48 + Dg.tab a.val b.val) := by decide
theorem rowS_at (a b : Nat) (ha : a ≤ b) (hb : b < 10) : ∃ h : b < (rowS a).size, (rowS a)[b].toNat = 48 + Dg.tab a b := by
  have h1 := rowT_ok ⟨a, by omega⟩ ⟨b, hb⟩
  simp only at h1
  have hl : (rowT.getD a []).length = 10 := h1.1
  have hsz : (rowS a).size = 10 := by show ((rowT.getD a []).toArray).size = 10; simpa using hl
  refine ⟨by omega, ?_⟩
  have h2 := h1.2 ha
  have h3 : (rowS a)[b]'(by omega) = (rowT.getD a []).getD b 0 := by
    have hbl : b < (rowT.getD a []).length := by omega
    show (rowT.getD a [])[b]'hbl = _
    generalize rowT.getD a [] = r at *
    rw [List.getD_eq_getElem?_getD, List.getElem?_eq_getElem hbl]; rfl
  rw [h3]; exact h2
set_option maxRecDepth 100000 in
set_option maxHeartbeats 1000000 in
theorem of_le (a b : Nat) (w : World) (hab : a ≤ b) (hb : b < 10) : Calls Tryd.prog 29 #[.int .u8 a, .int .u8 b] w fun e w' => e = .returned (.int .u8 (Dg.tab a b : Nat)) ∧ Below w.heap.size w w' := by
  have h1 : ¬ b < a := by omega
  have h2 : (a : Int) < 10 := by omega
  have h3 : decide (b < a) = false := by simp; omega
  have hc := rows_at w a (by omega)
  have hbe : Below w.heap.size w (w.alloc (.cells rowsA 9)) := (Below.refl _ _).alloc (Nat.le_refl _) _
  obtain ⟨hsz, hval⟩ := rowS_at a b hab hb
  have HV := Lib.hid hval
  have hv1 : 48 ≤ (rowS a)[b].toNat := by omega
  have hv2 : (rowS a)[b].toNat ≤ 51 := by have := Dg.tab_le a b (by omega) hb; omega
  clear hval
  generalize rowS a = st at *
  go_enter Tryd.func29, Tryd.ntmps29
  go_upto_region 4 with fail
  change Code.wp _ _ _ _ (w.alloc (.cells rowsA 9))
  generalize (w.alloc (.cells rowsA 9)) = W at *
  go_wp2
  go_ret
  exact ⟨ret_eq (vint (by have := HV.out; omega)), hbe⟩
theorem of_any (a b : Nat) (w : World) (ha : a < 10) (hb : b < 10) : Calls Tryd.prog 29 #[.int .u8 a, .int .u8 b] w fun e w' => e = .returned (.int .u8 (Dg.tab a b : Nat)) ∧ Below w.heap.size w w' := by
  by_cases hab : a ≤ b
  · exact of_le a b w hab hb
  · have h1 : b < a := by omega
    have hO := of_le b a w (by omega) ha
    rw [Dg.tab_symm b a hb ha] at hO
    have HO := Lib.hid hO; clear hO
    go_enter Tryd.func29, Tryd.ntmps29
    go_wp2_with (go_at_call 29; refine HO.out.mono ?_; rintro e w1 ⟨rfl, hb1⟩)
    go_ret
    exact ⟨rfl, hb1⟩

end Go.Proofs.YtmhikcleekfbpaaDoor
