/-
  Walks of package stack: faults, the function value with its captured variables.
-/
import Derived.Test.YtnbpecnddjpfbaaDoorStI
import Derived.Test.YtnbpecnddjpfbaaDoorQe
namespace Go.Proofs.YtnbpecnddjpfbaaDoor
open Go.RowKit

theorem Bk.at_ {w : World} {g : Nat} (t : TypeId) (cs : Array Value) (h : w.heap.size = g) : Bk (w.alloc (.cells cs t)) g t cs := by subst h; exact Bk.new w t cs
theorem set12 {W : World} {g : Nat} {t : TypeId} {cs : Array Value} (h : Bk W g t cs) (v0 v1 v2 v3 v4 v5 v6 v7 v8 v9 v10 v11 : Value) (hz : cs.size = 12) : Bk ((((((((((((W.setCell ⟨g, 0, none⟩ v0).setCell ⟨g, 1, none⟩ v1).setCell ⟨g, 2, none⟩ v2).setCell ⟨g, 3, none⟩ v3).setCell ⟨g, 4, none⟩ v4).setCell ⟨g, 5, none⟩ v5).setCell ⟨g, 6, none⟩ v6).setCell ⟨g, 7, none⟩ v7).setCell ⟨g, 8, none⟩ v8).setCell ⟨g, 9, none⟩ v9).setCell ⟨g, 10, none⟩ v10).setCell ⟨g, 11, none⟩ v11) g t #[v0, v1, v2, v3, v4, v5, v6, v7, v8, v9, v10, v11] := by
  have h9 := (((((((((((h.set_ 0 v0).set_ 1 v1).set_ 2 v2).set_ 3 v3).set_ 4 v4).set_ 5 v5).set_ 6 v6).set_ 7 v7).set_ 8 v8).set_ 9 v9).set_ 10 v10).set_ 11 v11
  have e : ∀ cs : Array Value, cs.size = 12 → (((((((((((cs.setIfInBounds 0 v0).setIfInBounds 1 v1).setIfInBounds 2 v2).setIfInBounds 3 v3).setIfInBounds 4 v4).setIfInBounds 5 v5).setIfInBounds 6 v6).setIfInBounds 7 v7).setIfInBounds 8 v8).setIfInBounds 9 v9).setIfInBounds 10 v10).setIfInBounds 11 v11 = #[v0, v1, v2, v3, v4, v5, v6, v7, v8, v9, v10, v11] := by
    rintro ⟨l⟩ hz
    match l, hz with
    | [_, _, _, _, _, _, _, _, _, _, _, _], _ => simp
  rw [e cs hz] at h9
  exact h9
theorem be_set12 {w W : World} {B g : Nat} (h : Below B w W) (hg : B ≤ g) (v0 v1 v2 v3 v4 v5 v6 v7 v8 v9 v10 v11 : Value) : Below B w ((((((((((((W.setCell ⟨g, 0, none⟩ v0).setCell ⟨g, 1, none⟩ v1).setCell ⟨g, 2, none⟩ v2).setCell ⟨g, 3, none⟩ v3).setCell ⟨g, 4, none⟩ v4).setCell ⟨g, 5, none⟩ v5).setCell ⟨g, 6, none⟩ v6).setCell ⟨g, 7, none⟩ v7).setCell ⟨g, 8, none⟩ v8).setCell ⟨g, 9, none⟩ v9).setCell ⟨g, 10, none⟩ v10).setCell ⟨g, 11, none⟩ v11) :=
  (((((((((((h.setCell (p := ⟨g, 0, none⟩) hg v0).setCell (p := ⟨g, 1, none⟩) hg v1).setCell (p := ⟨g, 2, none⟩) hg v2).setCell (p := ⟨g, 3, none⟩) hg v3).setCell (p := ⟨g, 4, none⟩) hg v4).setCell (p := ⟨g, 5, none⟩) hg v5).setCell (p := ⟨g, 6, none⟩) hg v6).setCell (p := ⟨g, 7, none⟩) hg v7).setCell (p := ⟨g, 8, none⟩) hg v8).setCell (p := ⟨g, 9, none⟩) hg v9).setCell (p := ⟨g, 10, none⟩) hg v10).setCell (p := ⟨g, 11, none⟩) hg v11
theorem far12 {W : World} {g g' : Nat} {t : TypeId} {cs : Array Value} (h : Bk W g' t cs) (hn : g' ≠ g) (v0 v1 v2 v3 v4 v5 v6 v7 v8 v9 v10 v11 : Value) : Bk ((((((((((((W.setCell ⟨g, 0, none⟩ v0).setCell ⟨g, 1, none⟩ v1).setCell ⟨g, 2, none⟩ v2).setCell ⟨g, 3, none⟩ v3).setCell ⟨g, 4, none⟩ v4).setCell ⟨g, 5, none⟩ v5).setCell ⟨g, 6, none⟩ v6).setCell ⟨g, 7, none⟩ v7).setCell ⟨g, 8, none⟩ v8).setCell ⟨g, 9, none⟩ v9).setCell ⟨g, 10, none⟩ v10).setCell ⟨g, 11, none⟩ v11) g' t cs :=
  (((((((((((h.far (p := ⟨g, 0, none⟩) hn v0).far (p := ⟨g, 1, none⟩) hn v1).far (p := ⟨g, 2, none⟩) hn v2).far (p := ⟨g, 3, none⟩) hn v3).far (p := ⟨g, 4, none⟩) hn v4).far (p := ⟨g, 5, none⟩) hn v5).far (p := ⟨g, 6, none⟩) hn v6).far (p := ⟨g, 7, none⟩) hn v7).far (p := ⟨g, 8, none⟩) hn v8).far (p := ⟨g, 9, none⟩) hn v9).far (p := ⟨g, 10, none⟩) hn v10).far (p := ⟨g, 11, none⟩) hn v11
theorem far3 {W : World} {g g' : Nat} {t : TypeId} {cs : Array Value} (h : Bk W g' t cs) (hn : g' ≠ g) (v0 v1 v2 : Value) : Bk (((W.setCell ⟨g, 0, none⟩ v0).setCell ⟨g, 1, none⟩ v1).setCell ⟨g, 2, none⟩ v2) g' t cs :=
  ((h.far (p := ⟨g, 0, none⟩) hn v0).far (p := ⟨g, 1, none⟩) hn v1).far (p := ⟨g, 2, none⟩) hn v2
/-- A whole variable stored, in a region that draws its order: the world behind it is known by its blocks. -/
theorem step_store_abs {P : Program} {ops : Array Oper} {o : Oper} {a : Act} {K : Act → World → Prop} {Q : Exit → Act → World → Prop} {E : Prop} {w : World} (hgd : o.guard = none) (ty : TypeId) (x y : Operand) (ho : o.op = .store ty x y)
    (g : Nat) (cells : Array Value) (hx : a.eval x = .pointer (some ⟨g, 0, none⟩)) (hy : a.eval y = .agg cells)
    (t : TypeId) (old : Array Value) (hg : Bk w g t old) (hi : (P.info? ty).map (·.size) = some cells.size)
    (hold : old.size = cells.size) (h1 : cells.all (·.oneCell') = true)
    (h : ∀ w', Bk w g t old → Bk w' g t cells → w.grownBy w' (some g) → K (a.put o.dst undef) w') : if Region.wanted o (yielded ops a.tmps) = true then Oper.wp P o a w K Q else E := by
  have hw : Region.wanted o (yielded ops a.tmps) = true := by simp [Region.wanted, hgd]
  rw [if_pos hw]
  exact wp_store_row ty x y ho g cells hx hy t old hg hi hold h1 (h _ hg (hg.row cells) ⟨rfl, rfl, rfl, by simp, fun k _ hne => setRow_other w g k cells (by rintro rfl; exact hne rfl)⟩)
theorem Bk.grownT {w w' : World} {g g' : Nat} {t t' : TypeId} {cs cs' : Array Value} (h : Bk w g t cs) (h' : Bk w g' t' cs') (hne : t ≠ t') (hg : w.grownBy w' (some g')) : Bk w' g t cs := h.grown hg (by intro e; injection e with e; exact (Bk.ne_ h h' hne) e)
theorem below_st {W V V' : World} {g : Nat} (hb : Below W.heap.size W V) (hg : V.grownBy V' (some g)) (hl : W.heap.size ≤ g) : Below W.heap.size W V' := hb.trans (below_of_grown hg hl hb.size)
end Go.Proofs.YtnbpecnddjpfbaaDoor
