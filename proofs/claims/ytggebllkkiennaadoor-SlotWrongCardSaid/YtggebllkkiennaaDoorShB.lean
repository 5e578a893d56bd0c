/-
  Walks of package ship: covers, Find.
-/
import Derived.Test.YtggebllkkiennaaDoorShA
import Derived.Deep.RegionHeld3
namespace Go.Proofs.YtggebllkkiennaaDoor
open Go.RowKit

theorem ba1 (w : World) (o : Obj) : Below w.heap.size w (w.alloc o) := (Below.refl _ _).alloc (Nat.le_refl _) _
theorem ba2 (w : World) (o p : Obj) : Below w.heap.size w ((w.alloc o).alloc p) := (ba1 w o).alloc (by simp) _
theorem ba3 (w : World) (o p q : Obj) : Below w.heap.size w (((w.alloc o).alloc p).alloc q) := (ba2 w o p).alloc (by simp; omega) _
theorem ba4 (w : World) (o p q r : Obj) : Below w.heap.size w ((((w.alloc o).alloc p).alloc q).alloc r) := (ba3 w o p q).alloc (by simp; omega) _

theorem bcell {W w1 : World} (hb : Below W.heap.size W w1) : (∀ b o, b < W.heap.size → w1.cell? ⟨b, o, none⟩ = W.cell? ⟨b, o, none⟩) ∧ (∀ b o, b < W.heap.size → w1.frozen? ⟨b, o, none⟩ = W.frozen? ⟨b, o, none⟩) :=
  ⟨fun b o h => hb.cell (p := ⟨b, o, none⟩) h, fun b o h => hb.frozen (p := ⟨b, o, none⟩) h⟩

/-- What a call that only makes memory leaves. -/
def Ret (w : World) (v : Value) (e : Ending) (w' : World) : Prop := e = .returned v ∧ Below w.heap.size w w'
theorem OwnInts.from {w W : World} {l : List Int} {e : Ending} {w' : World} (h : OwnInts W l e w') (hb : Below w.heap.size w W) : OwnInts w l e w' := by
  obtain ⟨v, h1, h2, h3⟩ := h
  exact ⟨v, h1, h2.down hb.size, hb.trans (h3.mono hb.size)⟩
theorem OwnInts.sl {w : World} {l : List Int} {e : Ending} {w' : World} (h : OwnInts w l e w') : ∃ A c, e = .returned (.slice A l.length c) ∧ l.length ≤ c ∧ SlT tInt w' (Lt w'.heap.size) A l ∧ Below w.heap.size w w' := by
  obtain ⟨v, h1, h2, h3⟩ := h
  obtain ⟨A, c, rfl, h4, h5, h6⟩ := h2.sl
  exact ⟨A, c, h1, h4, h6, h3⟩

def findB (bay row : Int) (deck : Bool) (c : Col) : Bool := c.bay == bay && (c.row == row && c.deck == deck)
def findF (s : Shp) (bay row : Int) (deck : Bool) : Int × Bool :=
  match pick (findB bay row deck) s.cols with
  | [] => (0, false)
  | i :: _ => (i, true)

set_option maxRecDepth 100000 in
set_option maxHeartbeats 1000000 in
theorem find1 (c : Col) (A : Option Addr) (q : Nat) (bay row : Int) (deck : Bool) (g1 g2 g3 : Nat) (w : World) (h1 : w.cell? ⟨g1, 0, none⟩ = some (.int .i64 bay)) (h2 : w.cell? ⟨g2, 0, none⟩ = some (.int .i64 row)) (h3 : w.cell? ⟨g3, 0, none⟩ = some (.bool deck)) :
    Calls Tryd.prog 81 #[.agg (colL c A q).toArray, .pointer (some ⟨g1, 0, none⟩), .pointer (some ⟨g2, 0, none⟩), .pointer (some ⟨g3, 0, none⟩)] w (Ret w (.bool (findB bay row deck c))) := by
  obtain ⟨xb, xr, xd, xt, xh, x2, x4, xl, xp, xx, xy, xz⟩ := c
  unfold findB colL
  simp only
  have n1 := block_lt_of_cell h1
  have n2 := block_lt_of_cell h2
  have n3 := block_lt_of_cell h3
  simp only at n1 n2 n3
  cases e1 : (xb == bay) <;> cases e2 : (xr == row)
  all_goals
    go_enter Tryd.func81, Tryd.ntmps81
    go_wp2
    go_ret
    exact ⟨rfl, ba1 w _⟩

set_option maxRecDepth 100000 in
set_option maxHeartbeats 1000000 in
theorem find_any (s : Shp) (h : Hd) (bay row : Int) (deck : Bool) (w : World) (hs : ShpR w (Lt w.heap.size) s h) (hl : s.cols.length ≤ 1000000) :
    Calls Tryd.prog 48 #[.agg (shpA s h), .int .i64 bay, .int .i64 row, .bool deck] w (Ret w (.tuple #[.int .i64 (findF s bay row deck).1, .bool (findF s bay row deck).2])) := by
  have HS := Lib.hid hs; clear hs
  have HFF : Hid (findF s bay row deck = match pick (findB bay row deck) s.cols with | [] => (0, false) | i :: _ => (i, true)) := Lib.hid rfl
  unfold shpA
  go_enter Tryd.func48, Tryd.ntmps48
  go_wp2_with fail
  have hbx := ba4 w (.cells (shpA s h) 32) (.cells #[.int .i64 bay] 3) (.cells #[.int .i64 row] 3) (.cells #[.bool deck] 4)
  refine (chosenCol_any h.A1 h.c1 s.cols 81 _ (findB bay row deck) _ ?_ hl Tryd.call81 ?_).mono ?_
  · exact (HS.out.cols.below hbx).up hbx.size
  · intro c A q w' _ hb' _ _
    have k1 := ((Bk.new (w.alloc (.cells (shpA s h) 32)) 3 #[.int .i64 bay]).alloc (.cells #[.int .i64 row] 3)).alloc (.cells #[.bool deck] 4)
    have k2 := (Bk.new ((w.alloc (.cells (shpA s h) 32)).alloc (.cells #[.int .i64 bay] 3)) 3 #[.int .i64 row]).alloc (.cells #[.bool deck] 4)
    have k3 := Bk.new (((w.alloc (.cells (shpA s h) 32)).alloc (.cells #[.int .i64 bay] 3)).alloc (.cells #[.int .i64 row] 3)) 4 #[.bool deck]
    simp at k1 k2 k3
    exact find1 c A q bay row deck _ _ _ w' ((k1.below hb' k1.lt).cell 0) ((k2.below hb' k2.lt).cell 0) ((k3.below hb' k3.lt).cell 0)
  · intro e w1 hO
    obtain ⟨A, c, rfl, hc, hsl, hb1⟩ := OwnInts.sl (OwnInts.from hO hbx)
    clear hO
    generalize pick (findB bay row deck) s.cols = L at *
    cases L with
    | nil =>
      simp only [List.length_nil]
      go_wp2
      go_ret2
      exact ⟨by rw [HFF.out]; rfl, hb1⟩
    | cons i L =>
      obtain ⟨b, off, rfl, hbB, hcell⟩ := hsl.int (j := 0) (by simp)
      simp only [List.getD_cons_zero, Nat.add_zero, List.length_cons] at hcell ⊢
      have hl0 : (((L.length + 1 : Nat) : Int) == 0) = false := by simp; omega
      have hl1 : (0 : Nat) < L.length + 1 := by omega
      generalize L.length + 1 = n at *
      go_wp2
      go_ret2
      exact ⟨by rw [HFF.out]; rfl, hb1⟩
end Go.Proofs.YtggebllkkiennaaDoor
