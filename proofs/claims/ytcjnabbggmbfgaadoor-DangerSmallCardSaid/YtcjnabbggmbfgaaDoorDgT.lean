/-
  The walks of the statements DangerTells and DangerSmall.
-/
import Derived.Test.YtcjnabbggmbfgaaDoorDgS
namespace Go.Proofs.YtcjnabbggmbfgaaDoor
open Go.RowKit

set_option maxHeartbeats 1000000 in
theorem tells_any (a b : Nat) (A : Option Addr) (n c : Nat) (l : List Nat) (w : World) (hl : ∀ x ∈ l, x < 256) (ht : TabOK w) (hm : NamesOK w) (hs : Sl w w.heap.size 1 A n (u8s l)) :
    Calls Tryd.prog 6 #[.int .u8 a, .int .u8 b, .slice A n c] w (TrueRet w) := by
  have HT := Lib.hid ht; have HM := Lib.hid hm; have HS := Lib.hid hs; have HLT := Lib.hid hl; clear ht hm hs hl
  by_cases hn : n ≤ 1010
  · have hd : decide ((1010 : Int) < (n : Int)) = false := by simp; omega
    go_enter Tryd.func6, Tryd.ntmps6
    go_wp2_with fail
    refine (pair_any a b w HT.out HM.out).mono ?_
    rintro e w1 ⟨rfl, hb1⟩
    go_wp2_with fail
    refine (lists_any a A n c l w1 (by omega) HLT.out (HT.out.below hb1 HT.out.lt) (sl_later HS.out hb1)).mono ?_
    rintro e w2 ⟨rfl, hb2⟩
    have hb := hb1.trans (hb2.mono hb1.size)
    go_wp2_with fail
    refine (awake_true w2 (HT.out.below hb HT.out.lt)).mono ?_
    rintro e w3 ⟨rfl, hb3⟩
    go_wp2_with fail
    go_ret
    exact ⟨rfl, hb.trans (hb3.mono hb.size)⟩
  · have hd : decide ((1010 : Int) < (n : Int)) = true := by simp; omega
    go_enter Tryd.func6, Tryd.ntmps6
    go_wp2_with fail
    refine (pair_any a b w HT.out HM.out).mono ?_
    rintro e w1 ⟨rfl, hb⟩
    go_wp2_with fail
    refine (awake_true w1 (HT.out.below hb HT.out.lt)).mono ?_
    rintro e w3 ⟨rfl, hb3⟩
    go_wp2_with fail
    go_ret
    exact ⟨rfl, hb.trans (hb3.mono hb.size)⟩
end Go.Proofs.YtcjnabbggmbfgaaDoor
