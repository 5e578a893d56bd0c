/-
  Walks of the reference of chapter 07: inside, Find, CoverOf, Along, Tallest, Places.
-/
import Derived.Test.YtpmhchbkhohmjaaDoorRfB
namespace Go.Proofs.YtpmhchbkhohmjaaDoor
open Go.RowKit

theorem pick_hit {α : Type} {p : α → Bool} {l : List α} {i : Nat} {d : α} (h0 : pick p (l.take i) = []) (hi : i < l.length) (hp : p (l.getD i d) = true) : ∃ r, pick p l = (i : Int) :: r := by
  have h1 := pick_take p hi d
  rw [h0, if_pos hp] at h1
  refine ⟨pickFrom p (l.drop (i + 1)) (0 + (l.take (i + 1)).length), ?_⟩
  show pickFrom p l 0 = _
  conv => lhs; rw [← List.take_append_drop (i + 1) l, pickFrom_append]
  rw [show pickFrom p (l.take (i + 1)) 0 = [(i : Int)] from h1]
  rfl
theorem pick_next {α : Type} {p : α → Bool} {l : List α} {i : Nat} {d : α} (h0 : pick p (l.take i) = []) (hi : i < l.length) (hp : p (l.getD i d) = false) : pick p (l.take (i + 1)) = [] := by
  rw [pick_take p hi d, h0, hp]; simp
theorem pickFrom_pos {α : Type} (p : α → Bool) : ∀ (l : List α) (k : Nat), decide (0 < (pickFrom p l k).length) = l.any p
  | [], _ => rfl
  | x :: l, k => by
    have ih := pickFrom_pos p l (k + 1)
    unfold pickFrom
    rw [List.any_cons]
    split
    · rename_i h; rw [h]; simp
    · rename_i h
      have h' : p x = false := by simpa using h
      rw [ih, h']
      simp
set_option maxRecDepth 100000 in
set_option maxHeartbeats 4000000 in
theorem inside_any (A : Option Addr) (c : Nat) (l : List Int) (row : Int) (w : World) (hs : SlT tInt w (Lt w.heap.size) A l) (hl : l.length ≤ 17592186043904) :
    Calls Tryd.prog 70 #[.slice A l.length c, .int .i64 row] w (Ret w (.bool (decide (0 < (pick (· == row) l).length)))) := by
  have HV : Hid (decide (0 < (pick (· == row) l).length) = l.any (· == row)) := Lib.hid (pickFrom_pos _ _ _)
  generalize decide (0 < (pick (· == row) l).length) = r at *
  have HS := Lib.hid hs
  clear hs
  go_enter Tryd.func70, Tryd.ntmps70
  go_wp2_with fail
  go_loopw [5] (fun i wr => ∃ k : Nat, k ≤ l.length ∧ i = .int .i64 k ∧ Hid ((∀ j, j < k → l.getD j 0 ≠ row) ∧ Below w.heap.size w wr)) (fun i _ => l.length - (intOf i).toNat)
  case atStart => exact ⟨0, Nat.zero_le _, rfl, Lib.hid (And.intro (fun j hj => absurd hj (by omega)) (Below.refl _ _))⟩
  case round =>
    obtain ⟨k, hk, rfl, HB⟩ := hrel
    obtain ⟨V, rfl⟩ : ∃ V, V = wr := ⟨_, rfl⟩
    by_cases hlt : k < l.length
    · obtain ⟨b1, o1, rfl, _, e1⟩ := (HS.out.on HB.out.2).int hlt
      have i0 : (0 : Int) ≤ (k : Int) := by omega
      have i1 : (k : Int) < (l.length : Int) := by omega
      by_cases hx : l.getD k 0 = row
      · have HY : Hid (r = true) := Lib.hid (by rw [HV.out]; exact List.any_eq_true.2 ⟨_, getD_memD hlt 0, by simpa using hx⟩)
        have b1 : (l.getD k 0 == row) = true := by simpa using hx
        have HE := Lib.hid HB.out.2
        clear hx HB
        generalize l.getD k 0 = x at *
        go_wp2_with fail
        go_ret
        exact ⟨by rw [HY.out]; rfl, HE.out⟩
      · have b1 : (l.getD k 0 == row) = false := by simpa using hx
        have HN := Lib.hid (And.intro (show ∀ j, j < k + 1 → l.getD j 0 ≠ row from fun j hj => by
          rcases Nat.lt_succ_iff_lt_or_eq.1 hj with h | h
          · exact HB.out.1 j h
          · rw [h]; exact hx) HB.out.2)
        clear hx HB
        generalize l.getD k 0 = x at *
        go_wp2_with fail
        go_roundw
        case rel => first | exact ⟨k + 1, by omega, by go_num, HN⟩ | ((repeat apply Exists.intro); (first | exact ⟨⟨k + 1, by omega, by go_num, HN⟩, rfl⟩ | exact ⟨by omega, by go_num, HN⟩))
        case measure => simp [intOf]; omega
    · obtain rfl : k = l.length := by omega
      have HY : Hid (r = false) := Lib.hid (by
        rw [HV.out, List.any_eq_false]
        intro x hx
        obtain ⟨j, hj, rfl⟩ := List.getElem_of_mem hx
        have := HB.out.1 j hj
        simpa [hj] using this)
      have HE := Lib.hid HB.out.2
      clear HB
      go_wp2_with fail
      go_ret
      exact ⟨by rw [HY.out]; rfl, HE.out⟩
end Go.Proofs.YtpmhchbkhohmjaaDoor
