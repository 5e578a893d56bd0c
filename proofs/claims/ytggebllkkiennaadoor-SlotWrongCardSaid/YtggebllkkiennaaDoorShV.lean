/-
  Ships in variables whose columns or covers are stored anew. No walk.
-/
import Derived.Test.YtggebllkkiennaaDoorShP3
import Derived.Test.YtggebllkkiennaaDoorRep3
namespace Go.Proofs.YtggebllkkiennaaDoor
open Go.RowKit

/-- The ship s lies in variable g, its slices below B. -/
structure ShB (w W : World) (B g : Nat) (s : Shp) (h : Hd) : Prop where
  rd : ShpR W (Lt B) s h
  bk : Bk W g 32 (shpA s h)
  be : Below w.heap.size w W
  le : B ≤ W.heap.size
theorem ShB.sh {w W : World} {B g : Nat} {s : Shp} {h : Hd} (r : ShB w W B g s h) : Sh w W g s h := ⟨r.rd.up r.le, r.bk, r.be⟩
theorem Sh.toB {w W : World} {g : Nat} {s : Shp} {h : Hd} (r : Sh w W g s h) : ShB w W W.heap.size g s h := ⟨r.rd, r.bk, r.be, Nat.le_refl _⟩
theorem ShB.on {w W W' : World} {B g : Nat} {s : Shp} {h : Hd} (r : ShB w W B g s h) (hb : Below W.heap.size W W') : ShB w W' B g s h :=
  ⟨r.rd.below (hb.mono r.le), r.bk.below hb r.bk.lt, r.be.trans (hb.mono r.be.size), Nat.le_trans r.le hb.size⟩
theorem cell_far {w : World} {p : Addr} {u : Value} {b o : Nat} (h : b ≠ p.block) : (w.setCell p u).cell? ⟨b, o, none⟩ = w.cell? ⟨b, o, none⟩ := World.cell?_of_block (Below.heap_setCell w p u b h)
/-- Stored into another variable: the ship is as it was. -/
theorem ShB.far {w W w2 : World} {B g gs base : Nat} {s : Shp} {h : Hd} {v : Value} (r : ShB w W B g s h) (hb : Below base W w2) (hB : B ≤ base) (hg : g < base) (hgs : B ≤ gs) (hne : g ≠ gs) (hw : w.heap.size ≤ gs) (hwb : w.heap.size ≤ base) (o : Nat) : ShB w (w2.setCell ⟨gs, o, none⟩ v) B g s h := by
  refine ⟨(r.rd.below (hb.mono hB)).keep fun b o' hb' => cell_far (by have hb' : b < B := hb'; show b ≠ gs; omega), (r.bk.below hb hg).far (by simpa using hne) _, (r.be.trans (hb.mono hwb)).setCell hw _, ?_⟩
  simp [World.setCell]
  exact Nat.le_trans r.le hb.size
theorem own_or2 {α : Type} {T : Ty α} {w : World} {B base gs : Nat} {A : Option Addr} {l : List α} {v : Value} (h : SlT T w (Or2 (Lt B) base w) A l) (hgs : B ≤ gs) (hg : gs < base) (hB : B ≤ w.heap.size) (o : Nat) : SlT T (w.setCell ⟨gs, o, none⟩ v) (Lt (w.setCell ⟨gs, o, none⟩ v).heap.size) A l := by
  refine (h.keep (w' := w.setCell ⟨gs, o, none⟩ v) fun b o' hb => cell_far ?_).more fun b hb => ?_
  · show b ≠ gs
    rcases hb with hb | hb
    · have hb : b < B := hb; omega
    · omega
  · show b < _
    simp [World.setCell]
    rcases hb with hb | hb
    · have hb : b < B := hb; omega
    · exact hb.2
section
variable {w W w2 : World} {B gs : Nat} {s : Shp} {h : Hd} {v : Value}
theorem rd_stored (r : ShpR W (Lt B) s h) (hb : Below W.heap.size W w2) (hB : B ≤ W.heap.size) (hgs : B ≤ gs) (o : Nat) : ShpR (w2.setCell ⟨gs, o, none⟩ v) (Lt (w2.setCell ⟨gs, o, none⟩ v).heap.size) s h := by
  refine ((r.below (hb.mono hB)).keep (w' := w2.setCell ⟨gs, o, none⟩ v) fun b o' hb' => cell_far (by have hb' : b < B := hb'; show b ≠ gs; omega)).up ?_
  simp [World.setCell]
  exact Nat.le_trans hB hb.size
/-- Columns stored anew. -/
theorem sh_cols {l : List Col} (r : ShB w W B gs s h) (hgs : B ≤ gs) (hw : w.heap.size ≤ gs) (hb : Below W.heap.size W w2) (hO : OwnS tCol 54 w2 W.heap.size (Lt B) v l) :
    ∃ h', Sh w (w2.setCell ⟨gs, 0, none⟩ v) gs { s with cols := l } h' := by
  obtain ⟨A, c, rfl, h1, h2, h3⟩ := hO.sl
  have hlt := r.bk.lt
  have hR := rd_stored (v := .slice A l.length c) r.rd hb r.le hgs 0
  refine ⟨{ h with A1 := A, c1 := c }, ⟨{ hR with n1 := h1, m1 := h2, cols := own_or2 h3 hgs hlt (Nat.le_trans r.le hb.size) 0 }, ?_, (r.be.trans (hb.mono r.be.size)).setCell hw _⟩⟩
  have := (r.bk.below hb hlt).set_ 0 (.slice A l.length c)
  exact this
theorem sh_covs {l : List Cov} (r : ShB w W B gs s h) (hgs : B ≤ gs) (hw : w.heap.size ≤ gs) (hb : Below W.heap.size W w2) (hO : OwnS tCov 56 w2 W.heap.size (Lt B) v l) :
    ∃ h', Sh w (w2.setCell ⟨gs, 1, none⟩ v) gs { s with covs := l } h' := by
  obtain ⟨A, c, rfl, h1, h2, h3⟩ := hO.sl
  have hlt := r.bk.lt
  have hR := rd_stored (v := .slice A l.length c) r.rd hb r.le hgs 1
  refine ⟨{ h with A2 := A, c2 := c }, ⟨{ hR with n2 := h1, m2 := h2, covs := own_or2 h3 hgs hlt (Nat.le_trans r.le hb.size) 1 }, ?_, (r.be.trans (hb.mono r.be.size)).setCell hw _⟩⟩
  have := (r.bk.below hb hlt).set_ 1 (.slice A l.length c)
  exact this
end
end Go.Proofs.YtggebllkkiennaaDoor
