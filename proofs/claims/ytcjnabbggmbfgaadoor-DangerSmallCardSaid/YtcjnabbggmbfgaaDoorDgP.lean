/-
  The walks of the reference's Code and Name, and of the statements' pair.
-/
import Derived.Test.YtcjnabbggmbfgaaDoorDgL
namespace Go.Proofs.YtcjnabbggmbfgaaDoor
open Go.RowKit

set_option maxHeartbeats 1000000 in
theorem rcode_ok (a b : Nat) (w : World) (ha : a < 10) (hb : b < 10) :
    Calls Tryd.prog 24 #[.int .u8 a, .int .u8 b] w fun e w' => e = .returned (.tuple #[.int .u8 (Dg.tab a b : Nat), .int .i64 0]) ∧ Below w.heap.size w w' := by
  have h1 : decide ((9 : Int) < (a : Int)) = false := by simp; omega
  have h2 : decide ((9 : Int) < (b : Int)) = false := by simp; omega
  have HO := Lib.hid (of_any a b w ha hb)
  generalize Dg.tab a b = t at *
  go_enter Tryd.func24, Tryd.ntmps24
  go_wp2_with (go_at_call 29; refine HO.out.mono ?_; rintro e w1 ⟨rfl, hb1⟩)
  go_ret2
  exact ⟨rfl, hb1⟩
set_option maxHeartbeats 1000000 in
theorem rcode_bad (a b : Nat) (w : World) (h : 9 < a ∨ 9 < b) :
    Calls Tryd.prog 24 #[.int .u8 a, .int .u8 b] w fun e w' => e = .returned (.tuple #[.int .u8 0, .int .i64 130]) ∧ Below w.heap.size w w' := by
  by_cases h1 : 9 < a
  · have h2 : decide ((9 : Int) < (a : Int)) = true := by simp; omega
    go_enter Tryd.func24, Tryd.ntmps24
    go_wp2_with fail
    go_ret2
    exact ⟨rfl, Below.refl _ _⟩
  · have h2 : decide ((9 : Int) < (a : Int)) = false := by simp; omega
    have h3 : decide ((9 : Int) < (b : Int)) = true := by simp; omega
    go_enter Tryd.func24, Tryd.ntmps24
    go_wp2_with fail
    go_ret2
    exact ⟨rfl, Below.refl _ _⟩
set_option maxHeartbeats 4000000 in
theorem rname_ok (a : Nat) (w : World) (ha : a < 10) :
    Calls Tryd.prog 25 #[.int .u8 a] w fun e w' => e = .returned (.tuple #[.string (strN (Dg.nameL.getD a [])), .int .i64 0]) ∧ w = w' := by
  have hc : a = 0 ∨ a = 1 ∨ a = 2 ∨ a = 3 ∨ a = 4 ∨ a = 5 ∨ a = 6 ∨ a = 7 ∨ a = 8 ∨ a = 9 := by omega
  rcases hc with rfl | rfl | rfl | rfl | rfl | rfl | rfl | rfl | rfl | rfl
  all_goals
    go_enter Tryd.func25, Tryd.ntmps25
    go_wp2_with fail
    go_ret2
    exact ⟨rfl, rfl⟩
set_option maxHeartbeats 4000000 in
theorem rname_bad (a : Nat) (w : World) (ha : 9 < a) :
    Calls Tryd.prog 25 #[.int .u8 a] w fun e w' => e = .returned (.tuple #[.string (strN []), .int .i64 130]) ∧ w = w' := by
  have c0 : ((a : Int) == 0) = false := by simp; omega
  have c1 : ((a : Int) == 1) = false := by simp; omega
  have c2 : ((a : Int) == 2) = false := by simp; omega
  have c3 : ((a : Int) == 3) = false := by simp; omega
  have c4 : ((a : Int) == 4) = false := by simp; omega
  have c5 : ((a : Int) == 5) = false := by simp; omega
  have c6 : ((a : Int) == 6) = false := by simp; omega
  have c7 : ((a : Int) == 7) = false := by simp; omega
  have c8 : ((a : Int) == 8) = false := by simp; omega
  have c9 : ((a : Int) == 9) = false := by simp; omega
  go_enter Tryd.func25, Tryd.ntmps25
  go_wp2_with fail
  go_ret2
  exact ⟨rfl, rfl⟩
/-- What Code and Name tell, whatever the classes. -/
def Dg.codeP (a b : Nat) : Nat × Int := if 9 < a ∨ 9 < b then (0, 130) else (Dg.tab a b, 0)
def Dg.nameP (a : Nat) : List Nat × Int := if 9 < a then ([], 130) else (Dg.nameL.getD a [], 0)
theorem code_p (a b : Nat) (w : World) (ht : TabOK w) : Calls Tryd.prog 18 #[.int .u8 a, .int .u8 b] w fun e w' => e = .returned (.tuple #[.int .u8 (Dg.codeP a b).1, .int .i64 (Dg.codeP a b).2]) ∧ w = w' := by
  unfold Dg.codeP
  by_cases h : 9 < a ∨ 9 < b
  · rw [if_pos h]; exact code_bad a b w h
  · rw [if_neg h]; exact code_ok a b w (by omega) (by omega) ht
theorem rcode_p (a b : Nat) (w : World) : Calls Tryd.prog 24 #[.int .u8 a, .int .u8 b] w fun e w' => e = .returned (.tuple #[.int .u8 (Dg.codeP a b).1, .int .i64 (Dg.codeP a b).2]) ∧ Below w.heap.size w w' := by
  unfold Dg.codeP
  by_cases h : 9 < a ∨ 9 < b
  · rw [if_pos h]; exact rcode_bad a b w h
  · rw [if_neg h]; exact rcode_ok a b w (by omega) (by omega)
theorem name_p (a : Nat) (w : World) (ht : NamesOK w) : Calls Tryd.prog 19 #[.int .u8 a] w fun e w' => e = .returned (.tuple #[.string (strN (Dg.nameP a).1), .int .i64 (Dg.nameP a).2]) ∧ w = w' := by
  unfold Dg.nameP
  by_cases h : 9 < a
  · rw [if_pos h]; exact name_bad a w h
  · rw [if_neg h]; exact name_ok a w (by omega) ht
theorem rname_p (a : Nat) (w : World) : Calls Tryd.prog 25 #[.int .u8 a] w fun e w' => e = .returned (.tuple #[.string (strN (Dg.nameP a).1), .int .i64 (Dg.nameP a).2]) ∧ w = w' := by
  unfold Dg.nameP
  by_cases h : 9 < a
  · rw [if_pos h]; exact rname_bad a w h
  · rw [if_neg h]; exact rname_ok a w (by omega)
set_option maxHeartbeats 4000000 in
theorem pair_any (a b : Nat) (w : World) (ht : TabOK w) (hm : NamesOK w) : Calls Tryd.prog 16 #[.int .u8 a, .int .u8 b] w (TrueRet w) := by
  have H1 := Lib.hid (code_p a b w ht)
  have H2 := Lib.hid (rcode_p a b w)
  have H3 := Lib.hid (fun W (hb : Below w.heap.size w W) => name_p a W (hm.below hb hm.lt))
  have H4 := Lib.hid (rname_p a)
  clear ht hm
  generalize (Dg.codeP a b).1 = x at *
  generalize (Dg.codeP a b).2 = y at *
  generalize strN (Dg.nameP a).1 = s at *
  generalize (Dg.nameP a).2 = z at *
  go_enter Tryd.func16, Tryd.ntmps16
  go_wp2_with fail
  refine H1.out.mono ?_
  rintro e _ ⟨rfl, rfl⟩
  go_wp2_with fail
  refine H2.out.mono ?_
  rintro e w1 ⟨rfl, hb1⟩
  go_wp2_with fail
  refine (H3.out w1 hb1).mono ?_
  rintro e _ ⟨rfl, rfl⟩
  go_wp2_with fail
  refine (H4.out w1).mono ?_
  rintro e _ ⟨rfl, rfl⟩
  go_wp2_with fail
  go_ret
  exact ⟨rfl, hb1⟩
end Go.Proofs.YtcjnabbggmbfgaaDoor
