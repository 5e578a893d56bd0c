/-
  Walks of package stack: Below.
-/
import Derived.Test.YtmkplemdnglhmaaStF
namespace Go.Proofs.Ytmkplemdnglhmaa
open Go.RowKit

def belowB (x y : Slt) : Bool := y.col == x.col && (decide (y.tier < x.tier) && (y.tier == x.tier - 1 && (y.half == x.half || (y.half == 0 || x.half == 0))))
set_option maxRecDepth 100000 in
set_option maxHeartbeats 4000000 in
theorem below1 (x y : Slt) (g : Nat) (w : World) (hx : Bk w g 40 (sltL x).toArray) (ht : -9223372036854775807 ≤ x.tier ∧ x.tier ≤ 9223372036854775807) :
    Calls Try.prog 64 #[.agg (sltL y).toArray, .pointer (some ⟨g, 0, none⟩)] w (Ret w (.bool (belowB x y))) := by
  obtain ⟨xc, xt, xh⟩ := x
  obtain ⟨yc, yt, yh⟩ := y
  have HV : Hid (belowB ⟨xc, xt, xh⟩ ⟨yc, yt, yh⟩ = (yc == xc && (decide (yt < xt) && (yt == xt - 1 && (yh == xh || (yh == 0 || xh == 0)))))) := Lib.hid rfl
  obtain ⟨t1, t2⟩ := ht
  simp only at t1 t2
  have x0 : w.cell? ⟨g, 0, none⟩ = some (.int .i64 xc) := hx.cell 0
  have x1 : w.cell? ⟨g, 1, none⟩ = some (.int .i64 xt) := hx.cell 1
  have x2 : w.cell? ⟨g, 2, none⟩ = some (.int .u8 (xh : Nat)) := hx.cell 2
  have hg := hx.lt
  clear hx
  unfold sltL
  simp only
  have s1 : IntKind.i64.wrap (xt - 1) = xt - 1 := IntWalk.i64_in _ (by omega)
  rw [← int_beq yh xh, ← int_beq yh 0, ← int_beq xh 0] at HV
  cases e1 : (yc == xc) with
  | false =>
    go_enter Try.func64, Try.ntmps64
    go_wp2
    go_ret
    exact ⟨by rw [HV.out, e1]; rfl, ba1 w _⟩
  | true =>
    by_cases e2 : yt < xt
    · cases e3 : (yt == xt - 1) with
      | false =>
        go_enter Try.func64, Try.ntmps64
        go_wp2
        go_ret
        exact ⟨by rw [HV.out, e1, e3, decide_eq_true e2]; rfl, ba1 w _⟩
      | true =>
        cases e4 : ((yh : Int) == (xh : Int)) <;> cases e5 : ((yh : Int) == ((0 : Nat) : Int)) <;> cases e6 : ((xh : Int) == ((0 : Nat) : Int))
        all_goals
          have e5' := e5
          have e6' := e6
          simp only [Int.ofNat_zero] at e5' e6'
          go_enter Try.func64, Try.ntmps64
          go_wp2
          go_ret
          exact ⟨by rw [HV.out, e1, e3, decide_eq_true e2, e4, e5, e6]; rfl, ba1 w _⟩
    · go_enter Try.func64, Try.ntmps64
      go_wp2
      go_ret
      exact ⟨by rw [HV.out, e1, decide_eq_false (Int.not_lt.2 e2)]; rfl, ba1 w _⟩
set_option maxRecDepth 100000 in
set_option maxHeartbeats 2000000 in
theorem stackBelow_any (A : Option Addr) (c : Nat) (boxes : List Bx) (A2 : Option Addr) (c2 : Nat) (l : List Stw) (x : Slt) (w : World) (hkg : KgOK boxes) (hb : SlT tBx w (Lt w.heap.size) A boxes) (hbl : boxes.length ≤ 1000000) (hs : SlT tStw w (Lt w.heap.size) A2 l) (hl : l.length ≤ 1000000)
    (ht : -9223372036854775807 ≤ x.tier ∧ x.tier ≤ 9223372036854775807) :
    Calls Try.prog 21 #[.slice A boxes.length c, .slice A2 l.length c2, .agg (sltL x).toArray] w (Ret w (.int .i64 (sumF boxes l (belowB x)))) := by
  have hbx := ba1 w (.cells (sltL x).toArray 40)
  have kx := Bk.new w 40 (sltL x).toArray
  have HC := Lib.hid (sum_any A c boxes A2 c2 l 64 #[.pointer (some ⟨w.heap.size, 0, none⟩)] (belowB x) (w.alloc (.cells (sltL x).toArray 40)) hkg ((hb.below hbx).up hbx.size) hbl ((hs.below hbx).up hbx.size) hl Try.call64
    (fun y w' hw' => below1 x y w.heap.size w' (kx.below hw' kx.lt) ht))
  have HB := Lib.hid hbx
  clear hb hs hkg hbx kx
  generalize sumF boxes l (belowB x) = v at *
  obtain ⟨xc, xt, xh⟩ := x
  unfold sltL at HC HB ⊢
  simp only at HC HB ⊢
  go_enter Try.func21, Try.ntmps21
  go_wp2_with fail
  refine HC.out.mono ?_
  rintro e w1 ⟨rfl, hb1⟩
  go_wp2
  go_ret
  exact ⟨rfl, HB.out.trans (hb1.mono HB.out.size)⟩
end Go.Proofs.Ytmkplemdnglhmaa
