/-
  Walks of the reference twistlockref13: Of, wrong, has.
-/
import Derived.Test.YtcjnabbggmbfgaaDoorDgG
import Derived.Test.YtcjnabbggmbfgaaDoorLib3
import Derived.Test.YtcjnabbggmbfgaaDoorDgPlain8
namespace Go.Proofs.YtcjnabbggmbfgaaDoor
open Go.RowKit

def rowT : List (List UInt8) := [[48, 48, 48, 48, 48, 48, 48, 48, 48, 48], [45, 48, 51, 51, 51, 51, 50, 50, 50, 48], [45, 45, 48, 50, 49, 50, 48, 49, 49, 48], [45, 45, 45, 48, 49, 50, 48, 50, 49, 48], [45, 45, 45, 45, 48, 51, 48, 49, 49, 48], [45, 45, 45, 45, 45, 49, 49, 49, 50, 48], [45, 45, 45, 45, 45, 45, 48, 49, 49, 48], [45, 45, 45, 45, 45, 45, 45, 48, 50, 48], [45, 45, 45, 45, 45, 45, 45, 45, 48, 48], [45, 45, 45, 45, 45, 45, 45, 45, 45, 48]]
def rowS (a : Nat) : ByteArray := ⟨(rowT.getD a []).toArray⟩
def rowsA : Array Value := (rowT.map fun r => Value.string ⟨r.toArray⟩).toArray
theorem rows_at (w : World) (a : Nat) (ha : a < 10) : (w.alloc (.cells rowsA 9)).cell? ⟨w.heap.size, a, none⟩ = some (.string (rowS a)) := by
  rw [(Bk.new w 9 rowsA).cell a]
  have h : rowT[a]? = some (rowT.getD a []) := (by decide : ∀ a : Fin 10, rowT[a.val]? = some (rowT.getD a.val [])) ⟨a, ha⟩
  show (rowT.map fun r => Value.string ⟨r.toArray⟩).toArray[a]? = _
  rw [List.getElem?_toArray, List.getElem?_map, h]; rfl
theorem rowT_ok : ∀ a : Fin 10, ∀ b : Fin 10, (rowT.getD a.val []).length = 10 ∧ (a.val ≤ b.val → ((rowT.getD a.val []).getD b.val 0).toNat = 48 + Dg.tab a.val b.val) := by decide
theorem rowS_at (a b : Nat) (ha : a ≤ b) (hb : b < 10) : ∃ h : b < (rowS a).size, (rowS a)[b].toNat = 48 + Dg.tab a b := by
  have h1 := rowT_ok ⟨a, by omega⟩ ⟨b, hb⟩
  simp only at h1
  have hl : (rowT.getD a []).length = 10 := h1.1
  have hsz : (rowS a).size = 10 := by show ((rowT.getD a []).toArray).size = 10; simpa using hl
  refine ⟨by omega, ?_⟩
  have h2 := h1.2 ha
  have h3 : (rowS a)[b]'(by omega) = (rowT.getD a []).getD b 0 := by
    have hbl : b < (rowT.getD a []).length := by omega
    show (rowT.getD a [])[b]'hbl = _
    generalize rowT.getD a [] = r at *
    rw [List.getD_eq_getElem?_getD, List.getElem?_eq_getElem hbl]; rfl
  rw [h3]; exact h2
set_option maxRecDepth 100000 in
set_option maxHeartbeats 1000000 in
theorem of_le (a b : Nat) (w : World) (hab : a ≤ b) (hb : b < 10) : Calls Tryd.prog 29 #[.int .u8 a, .int .u8 b] w fun e w' => e = .returned (.int .u8 (Dg.tab a b : Nat)) ∧ Below w.heap.size w w' := by
  have h1 : ¬ b < a := by omega
  have h2 : (a : Int) < 10 := by omega
  have h3 : decide (b < a) = false := by simp; omega
  have hc := rows_at w a (by omega)
  have hbe : Below w.heap.size w (w.alloc (.cells rowsA 9)) := (Below.refl _ _).alloc (Nat.le_refl _) _
  obtain ⟨hsz, hval⟩ := rowS_at a b hab hb
  have HV := Lib.hid hval
  have hv1 : 48 ≤ (rowS a)[b].toNat := by omega
  have hv2 : (rowS a)[b].toNat ≤ 51 := by have := Dg.tab_le a b (by omega) hb; omega
  clear hval
  generalize rowS a = st at *
  go_enter Tryd.func29, Tryd.ntmps29
  go_upto_region 4 with fail
  change Code.wp _ _ _ _ (w.alloc (.cells rowsA 9))
  generalize (w.alloc (.cells rowsA 9)) = W at *
  go_wp2
  go_ret
  exact ⟨ret_eq (vint (by have := HV.out; omega)), hbe⟩
theorem of_any (a b : Nat) (w : World) (ha : a < 10) (hb : b < 10) : Calls Tryd.prog 29 #[.int .u8 a, .int .u8 b] w fun e w' => e = .returned (.int .u8 (Dg.tab a b : Nat)) ∧ Below w.heap.size w w' := by
  by_cases hab : a ≤ b
  · exact of_le a b w hab hb
  · have h1 : b < a := by omega
    have hO := of_le b a w (by omega) ha
    rw [Dg.tabSymm b a hb ha] at hO
    have HO := Lib.hid hO; clear hO
    go_enter Tryd.func29, Tryd.ntmps29
    go_wp2_with (go_at_call 29; refine HO.out.mono ?_; rintro e w1 ⟨rfl, hb1⟩)
    go_ret
    exact ⟨rfl, hb1⟩

set_option maxHeartbeats 1000000 in
theorem wrong_any (A : Option Addr) (n c : Nat) (l : List Nat) (w : World) (hs : Sl w w.heap.size 1 A n (u8s l)) :
    Calls Tryd.prog 30 #[.slice A n c] w fun e w' => e = .returned (.int .i64 (Dg.err l)) ∧ w = w' := by
  have hll : l.length = n := by have := hs.len; rw [u8s_len] at this; omega
  by_cases hn : n ≤ 1000
  · have hd : decide ((1000 : Int) < (n : Int)) = false := by simp; omega
    have HL := Lib.hid hll; clear hll
    go_enter Tryd.func30, Tryd.ntmps30
    go_wp2
    go_loop [3] (fun i => ∃ k : Nat, k ≤ n ∧ i = .int .i64 k ∧ Hid (∀ y ∈ l.take k, y ≤ 9)) (fun i => n - (intOf i).toNat)
    case atStart => exact ⟨0, Nat.zero_le _, rfl, Lib.hid (by simp)⟩
    case round =>
      obtain ⟨k, hk, rfl, HP⟩ := hrel
      by_cases hlt : k < n
      · obtain ⟨b, off, rfl, hbB, hc⟩ := hs.u8 hlt
        have hkl : k < l.length := by rw [HL.out]; exact hlt
        generalize hx : l.getD k 0 = x at *
        have HX := Lib.hid hx; clear hx
        by_cases hx9 : 9 < x
        · go_wp2
          go_ret
          exact ⟨by rw [(Dg.pre_stop (by rw [HL.out]; exact hn) hkl HP.out HX.out hx9).2]; rfl, rfl⟩
        · have RP : Hid (∀ y ∈ l.take (k + 1), y ≤ 9) := Lib.hid (by
            rw [count_take_succ hkl HX.out]; intro y hy
            rcases List.mem_append.1 hy with h | h
            · exact HP.out y h
            · rw [List.mem_singleton.1 h]; omega)
          go_wp2
          go_round
          case rel => exact ⟨k + 1, by omega, by go_num, RP⟩
          case measure => simp [intOf]; omega
      · have hkn : l.take k = l := List.take_of_length_le (by rw [HL.out]; omega)
        rw [hkn] at HP
        clear hkn
        go_wp2
        go_ret
        exact ⟨by rw [(Dg.pre_all (by rw [HL.out]; exact hn) HP.out).2]; rfl, rfl⟩
  · have hd : decide ((1000 : Int) < (n : Int)) = true := by simp; omega
    have he := (Dg.pre_long (l := l) (by omega)).2
    rw [he]
    clear he hll
    go_enter Tryd.func30, Tryd.ntmps30
    go_wp2
    go_ret
    exact ⟨rfl, rfl⟩

def hasB (l : List Nat) (c : Nat) (tw : Bool) : Bool := decide (1 < l.count c) || (decide (0 < l.count c) && !tw)
theorem cnt_step {l : List Nat} {k x c : Nat} (hk : k < l.length) (hx : l.getD k 0 = x) : (l.take (k + 1)).count c = (l.take k).count c + if x = c then 1 else 0 := by
  rw [count_take_succ hk hx, Dg.count_add]
set_option maxHeartbeats 1000000 in
theorem has_any (A : Option Addr) (n c : Nat) (l : List Nat) (cls : Nat) (tw : Bool) (w : World) (hn : n ≤ 1000) (hs : Sl w w.heap.size 1 A n (u8s l)) :
    Calls Tryd.prog 31 #[.slice A n c, .int .u8 cls, .bool tw] w fun e w' => e = .returned (.bool (hasB l cls tw)) ∧ w = w' := by
  have hll : l.length = n := by have := hs.len; rw [u8s_len] at this; omega
  have HL := Lib.hid hll; clear hll
  go_enter Tryd.func31, Tryd.ntmps31
  go_wp2
  go_loop [7, 8] (fun m i => ∃ k q : Nat, k ≤ n ∧ q ≤ k ∧ i = .int .i64 k ∧ m = .int .i64 q ∧ Hid ((l.take k).count cls = q)) (fun _ i => n - (intOf i).toNat)
  case atStart => exact ⟨0, 0, Nat.zero_le _, Nat.le_refl _, rfl, rfl, Lib.hid (by simp)⟩
  case round =>
    obtain ⟨k, q, hk, hqk, rfl, rfl, HQ⟩ := hrel
    by_cases hlt : k < n
    · obtain ⟨b, off, rfl, hbB, hc⟩ := hs.u8 hlt
      have hkl : k < l.length := by rw [HL.out]; exact hlt
      have HS := Lib.hid (cnt_step (c := cls) hkl rfl)
      generalize l.getD k 0 = x at *
      by_cases hx : x = cls
      · subst hx
        go_wp2
        go_round
        case rel => exact ⟨k + 1, q + 1, by omega, by omega, by go_num, by go_num, Lib.hid (by rw [HS.out, HQ.out, if_pos rfl])⟩
        case measure => simp [intOf]; omega
      · have hx2 : ((x : Int) == (cls : Int)) = false := by simp; omega
        have hx3 : (x == cls) = false := by simp; omega
        go_wp2
        go_round
        case rel => exact ⟨k + 1, q, by omega, by omega, by go_num, rfl, Lib.hid (by rw [HS.out, HQ.out, if_neg hx]; rfl)⟩
        case measure => simp [intOf]; omega
    · have hkn : l.take k = l := List.take_of_length_le (by rw [HL.out]; omega)
      rw [hkn] at HQ
      clear hkn
      have hcs : q = 0 ∨ q = 1 ∨ 1 < q := by omega
      rcases hcs with rfl | rfl | h1
      · go_wp2
        go_ret
        exact ⟨by unfold hasB; rw [HQ.out]; rfl, rfl⟩
      · cases tw <;>
        · go_wp2
          go_ret
          exact ⟨by unfold hasB; rw [HQ.out]; rfl, rfl⟩
      · have h2 : decide ((1 : Int) < (q : Int)) = true := by simp; omega
        go_wp2
        go_ret
        exact ⟨by unfold hasB; rw [HQ.out, decide_eq_true h1]; rfl, rfl⟩
end Go.Proofs.YtcjnabbggmbfgaaDoor
