/-
  Walks of package stack: faults, the function value with its captured variables.
-/
import Derived.Test.YtmkplemdnglhmaaStI
import Derived.Test.YtmkplemdnglhmaaQe
namespace Go.Proofs.Ytmkplemdnglhmaa
open Go.RowKit

theorem Bk.at_ {w : World} {g : Nat} (t : TypeId) (cs : Array Value) (h : w.heap.size = g) : Bk (w.alloc (.cells cs t)) g t cs := by subst h; exact Bk.new w t cs
theorem set12 {W : World} {g : Nat} {t : TypeId} {cs : Array Value} (h : Bk W g t cs) (v0 v1 v2 v3 v4 v5 v6 v7 v8 v9 v10 v11 : Value) (hz : cs.size = 12) : Bk ((((((((((((W.setCell ⟨g, 0, none⟩ v0).setCell ⟨g, 1, none⟩ v1).setCell ⟨g, 2, none⟩ v2).setCell ⟨g, 3, none⟩ v3).setCell ⟨g, 4, none⟩ v4).setCell ⟨g, 5, none⟩ v5).setCell ⟨g, 6, none⟩ v6).setCell ⟨g, 7, none⟩ v7).setCell ⟨g, 8, none⟩ v8).setCell ⟨g, 9, none⟩ v9).setCell ⟨g, 10, none⟩ v10).setCell ⟨g, 11, none⟩ v11) g t #[v0, v1, v2, v3, v4, v5, v6, v7, v8, v9, v10, v11] := by
  have h9 := (((((((((((h.set_ 0 v0).set_ 1 v1).set_ 2 v2).set_ 3 v3).set_ 4 v4).set_ 5 v5).set_ 6 v6).set_ 7 v7).set_ 8 v8).set_ 9 v9).set_ 10 v10).set_ 11 v11
  have e : ∀ cs : Array Value, cs.size = 12 → (((((((((((cs.setIfInBounds 0 v0).setIfInBounds 1 v1).setIfInBounds 2 v2).setIfInBounds 3 v3).setIfInBounds 4 v4).setIfInBounds 5 v5).setIfInBounds 6 v6).setIfInBounds 7 v7).setIfInBounds 8 v8).setIfInBounds 9 v9).setIfInBounds 10 v10).setIfInBounds 11 v11 = #[v0, v1, v2, v3, v4, v5, v6, v7, v8, v9, v10, v11] := by
    rintro ⟨l⟩ hz
    match l, hz with
    | [_, _, _, _, _, _, _, _, _, _, _, _], _ => simp
  rw [e cs hz] at h9
  exact h9
theorem be_set12 {w W : World} {B g : Nat} (h : Below B w W) (hg : B ≤ g) (v0 v1 v2 v3 v4 v5 v6 v7 v8 v9 v10 v11 : Value) : Below B w ((((((((((((W.setCell ⟨g, 0, none⟩ v0).setCell ⟨g, 1, none⟩ v1).setCell ⟨g, 2, none⟩ v2).setCell ⟨g, 3, none⟩ v3).setCell ⟨g, 4, none⟩ v4).setCell ⟨g, 5, none⟩ v5).setCell ⟨g, 6, none⟩ v6).setCell ⟨g, 7, none⟩ v7).setCell ⟨g, 8, none⟩ v8).setCell ⟨g, 9, none⟩ v9).setCell ⟨g, 10, none⟩ v10).setCell ⟨g, 11, none⟩ v11) :=
  (((((((((((h.setCell (p := ⟨g, 0, none⟩) hg v0).setCell (p := ⟨g, 1, none⟩) hg v1).setCell (p := ⟨g, 2, none⟩) hg v2).setCell (p := ⟨g, 3, none⟩) hg v3).setCell (p := ⟨g, 4, none⟩) hg v4).setCell (p := ⟨g, 5, none⟩) hg v5).setCell (p := ⟨g, 6, none⟩) hg v6).setCell (p := ⟨g, 7, none⟩) hg v7).setCell (p := ⟨g, 8, none⟩) hg v8).setCell (p := ⟨g, 9, none⟩) hg v9).setCell (p := ⟨g, 10, none⟩) hg v10).setCell (p := ⟨g, 11, none⟩) hg v11
theorem far12 {W : World} {g g' : Nat} {t : TypeId} {cs : Array Value} (h : Bk W g' t cs) (hn : g' ≠ g) (v0 v1 v2 v3 v4 v5 v6 v7 v8 v9 v10 v11 : Value) : Bk ((((((((((((W.setCell ⟨g, 0, none⟩ v0).setCell ⟨g, 1, none⟩ v1).setCell ⟨g, 2, none⟩ v2).setCell ⟨g, 3, none⟩ v3).setCell ⟨g, 4, none⟩ v4).setCell ⟨g, 5, none⟩ v5).setCell ⟨g, 6, none⟩ v6).setCell ⟨g, 7, none⟩ v7).setCell ⟨g, 8, none⟩ v8).setCell ⟨g, 9, none⟩ v9).setCell ⟨g, 10, none⟩ v10).setCell ⟨g, 11, none⟩ v11) g' t cs :=
  (((((((((((h.far (p := ⟨g, 0, none⟩) hn v0).far (p := ⟨g, 1, none⟩) hn v1).far (p := ⟨g, 2, none⟩) hn v2).far (p := ⟨g, 3, none⟩) hn v3).far (p := ⟨g, 4, none⟩) hn v4).far (p := ⟨g, 5, none⟩) hn v5).far (p := ⟨g, 6, none⟩) hn v6).far (p := ⟨g, 7, none⟩) hn v7).far (p := ⟨g, 8, none⟩) hn v8).far (p := ⟨g, 9, none⟩) hn v9).far (p := ⟨g, 10, none⟩) hn v10).far (p := ⟨g, 11, none⟩) hn v11
theorem far3 {W : World} {g g' : Nat} {t : TypeId} {cs : Array Value} (h : Bk W g' t cs) (hn : g' ≠ g) (v0 v1 v2 : Value) : Bk (((W.setCell ⟨g, 0, none⟩ v0).setCell ⟨g, 1, none⟩ v1).setCell ⟨g, 2, none⟩ v2) g' t cs :=
  ((h.far (p := ⟨g, 0, none⟩) hn v0).far (p := ⟨g, 1, none⟩) hn v1).far (p := ⟨g, 2, none⟩) hn v2
/-- A whole variable stored, in a region that draws its order: the world behind it is known by its blocks. -/
theorem step_store_abs {P : Program} {ops : Array Oper} {o : Oper} {a : Act} {K : Act → World → Prop} {Q : Exit → Act → World → Prop} {E : Prop} {w : World} (hgd : o.guard = none) (ty : TypeId) (x y : Operand) (ho : o.op = .store ty x y)
    (g : Nat) (cells : Array Value) (hx : a.eval x = .pointer (some ⟨g, 0, none⟩)) (hy : a.eval y = .agg cells)
    (t : TypeId) (old : Array Value) (hg : Bk w g t old) (hi : (P.info? ty).map (·.size) = some cells.size)
    (hold : old.size = cells.size) (h1 : cells.all (·.oneCell') = true)
    (h : ∀ w', Bk w g t old → Bk w' g t cells → w.grownBy w' (some g) → K (a.put o.dst undef) w') : if Region.wanted o (yielded ops a.tmps) = true then Oper.wp P o a w K Q else E := by
  have hw : Region.wanted o (yielded ops a.tmps) = true := by simp [Region.wanted, hgd]
  rw [if_pos hw]
  exact wp_store_row ty x y ho g cells hx hy t old hg hi hold h1 (h _ hg (hg.row cells) ⟨rfl, rfl, rfl, by simp, fun k _ hne => setRow_other w g k cells (by rintro rfl; exact hne rfl)⟩)
theorem Bk.grownT {w w' : World} {g g' : Nat} {t t' : TypeId} {cs cs' : Array Value} (h : Bk w g t cs) (h' : Bk w g' t' cs') (hne : t ≠ t') (hg : w.grownBy w' (some g')) : Bk w' g t cs := h.grown hg (by intro e; injection e with e; exact (Bk.ne_ h h' hne) e)
theorem below_st {W V V' : World} {g : Nat} (hb : Below W.heap.size W V) (hg : V.grownBy V' (some g)) (hl : W.heap.size ≤ g) : Below W.heap.size W V' := hb.trans (below_of_grown hg hl hb.size)
/-- A column and its kilos, in variables of their own. -/
structure CK (w W : World) (boxes : List Bx) (l : List Stw) (col : Int) (cl : Col) (Ap : Option Addr) (q gc gk : Nat) : Prop where
  bc : Bk W gc 46 (colL cl Ap q).toArray
  bk : Bk W gk 55 (klL boxes l col).toArray
  be : Below w.heap.size w W
  lc : w.heap.size ≤ gc
  lk : w.heap.size ≤ gk
@[reducible] def z12 : Array Value := #[.int .i64 0, .int .i64 0, .bool false, .int .i64 0, .int .i64 0, .int .i64 0, .int .i64 0, .int .i64 0, .slice none 0 0, .int .i64 0, .int .i64 0, .int .i64 0]
@[reducible] def z3 : Array Value := #[.int .i64 0, .int .i64 0, .int .i64 0]
theorem CK.fin {w V : World} {gc gk : Nat} {x0 x1 x3 x4 x5 x6 x7 x9 x10 x11 : Int} {x2 : Bool} {xp : List Int} {Ap : Option Addr} {q : Nat} {s1 s2 s3 : Int} {boxes : List Bx} {l : List Stw} {col : Int}
    (hc : Bk V gc 46 z12) (hk : Bk V gk 55 z3) (hb : Below w.heap.size w V) (hlc : w.heap.size ≤ gc) (hlk : w.heap.size ≤ gk)
    (hv : Hid (klL boxes l col = [.int .i64 s1, .int .i64 s2, .int .i64 s3])) :
    CK w (((((((((((((((V.setCell ⟨gc, 0, none⟩ (.int .i64 x0)).setCell ⟨gc, 1, none⟩ (.int .i64 x1)).setCell ⟨gc, 2, none⟩ (.bool x2)).setCell ⟨gc, 3, none⟩ (.int .i64 x3)).setCell ⟨gc, 4, none⟩ (.int .i64 x4)).setCell ⟨gc, 5, none⟩ (.int .i64 x5)).setCell ⟨gc, 6, none⟩ (.int .i64 x6)).setCell ⟨gc, 7, none⟩ (.int .i64 x7)).setCell ⟨gc, 8, none⟩ (.slice Ap xp.length q)).setCell ⟨gc, 9, none⟩ (.int .i64 x9)).setCell ⟨gc, 10, none⟩ (.int .i64 x10)).setCell ⟨gc, 11, none⟩ (.int .i64 x11)).setCell ⟨gk, 0, none⟩ (.int .i64 s1)).setCell ⟨gk, 1, none⟩ (.int .i64 s2)).setCell ⟨gk, 2, none⟩ (.int .i64 s3))
      boxes l col ⟨x0, x1, x2, x3, x4, x5, x6, x7, xp, x9, x10, x11⟩ Ap q gc gk := by
  have hne : gc ≠ gk := Bk.ne_ hc hk (by decide)
  refine ⟨far3 (set12 hc _ _ _ _ _ _ _ _ _ _ _ _ rfl) hne _ _ _, ?_, be_set3 (be_set12 hb hlc _ _ _ _ _ _ _ _ _ _ _ _) hlk _ _ _, hlc, hlk⟩
  rw [hv.out]
  exact set3 (far12 hk (Ne.symm hne) _ _ _ _ _ _ _ _ _ _ _ _) _ _ _ rfl
/-- What faults$1 has captured. -/
structure FCap (w W : World) (s : Shp) (h : Hd) (A : Option Addr) (c : Nat) (boxes : List Bx) (A2 : Option Addr) (c2 : Nat) (l : List Stw) (k : Nat) (Ap : Option Addr) (q gk gc gi gl gb gs : Nat) : Prop where
  ck : CK w W boxes l k (s.cols.getD k default) Ap q gc gk
  bi : Bk W gi 3 #[.int .i64 k]
  bl : Bk W gl 38 #[.slice A2 l.length c2]
  bb : Bk W gb 33 #[.slice A boxes.length c]
  bs : Bk W gs 32 (shpA s h)
def FRet (w : World) (s : Shp) (h : Hd) (A : Option Addr) (c : Nat) (boxes : List Bx) (A2 : Option Addr) (c2 : Nat) (l : List Stw) (k : Nat) (e : Ending) (W : World) : Prop :=
  ∃ (Ap : Option Addr) (q gk gc gi gl gb gs : Nat), e = .returned (.func (.func 108) #[] #[.pointer (some ⟨gk, 0, none⟩), .pointer (some ⟨gc, 0, none⟩), .pointer (some ⟨gi, 0, none⟩), .pointer (some ⟨gl, 0, none⟩), .pointer (some ⟨gb, 0, none⟩), .pointer (some ⟨gs, 0, none⟩)]) ∧
    FCap w W s h A c boxes A2 c2 l k Ap q gk gc gi gl gb gs
set_option maxRecDepth 100000 in
set_option maxHeartbeats 8000000 in
theorem faults_any (s : Shp) (h : Hd) (A : Option Addr) (c : Nat) (boxes : List Bx) (A2 : Option Addr) (c2 : Nat) (l : List Stw) (k : Nat) (w : World) (hkg : KgOK boxes) (hsh : ShpR w (Lt w.heap.size) s h) (hk : k < s.cols.length) (hb : SlT tBx w (Lt w.heap.size) A boxes) (hbl : boxes.length ≤ 1000000) (hs : SlT tStw w (Lt w.heap.size) A2 l) (hl : l.length ≤ 1000000) :
    Calls Try.prog 68 #[.agg (shpA s h), .slice A boxes.length c, .slice A2 l.length c2, .int .i64 (k : Nat)] w (FRet w s h A c boxes A2 c2 l k) := by
  have KW : Hid (∀ V : World, Below w.heap.size w V → Calls Try.prog 19 #[.slice A boxes.length c, .slice A2 l.length c2, .int .i64 (k : Nat)] V (Ret V (.agg (klL boxes l k).toArray))) :=
    Lib.hid fun V hV => weigh_any A c boxes A2 c2 l k V hkg ((hb.below hV).up hV.size) hbl ((hs.below hV).up hV.size) hl
  obtain ⟨b, off, Ap, q, hA1, hB, hpq, hpl, c0, c1, c2', c3, c4, c5, c6, c7, c8, c9, c10, c11⟩ := hsh.cols.col (i := k) hk
  have HKL : Hid (klL boxes l k = [.int .i64 (sumF boxes l (halfB k 1)), .int .i64 (sumF boxes l (halfB k 2)), .int .i64 (sumF boxes l (colB k))]) := Lib.hid rfl
  have HKL2 := HKL
  rw [HKL.out] at KW
  have HCL : Hid (s.cols.getD k default = s.cols.getD k default) := Lib.hid rfl
  clear hb hs hkg hbl hl hsh hpq hpl
  obtain ⟨A1, cc1, A2', cc2, A3, cc3, A4, cc4, A5, cc5⟩ := h
  simp only at hA1
  subst hA1
  have hk0 : (0 : Int) ≤ (k : Int) := by omega
  have hk1 : (k : Int) < (s.cols.length : Int) := by omega
  have hB : b < w.heap.size := hB
  let WW := (((w.alloc (.cells (shpA s ⟨some ⟨b, off, none⟩, cc1, A2', cc2, A3, cc3, A4, cc4, A5, cc5⟩) 32)).alloc (.cells #[.slice A boxes.length c] 33)).alloc (.cells #[.slice A2 l.length c2] 38)).alloc (.cells #[.int .i64 (k : Nat)] 3)
  have bs : Bk WW w.heap.size 32 (shpA s ⟨some ⟨b, off, none⟩, cc1, A2', cc2, A3, cc3, A4, cc4, A5, cc5⟩) := ((Bk.new w _ _).alloc _).alloc _ |>.alloc _
  have bb : Bk WW (w.heap.size + 1) 33 #[.slice A boxes.length c] := ((Bk.at_ _ _ (by simp)).alloc _).alloc _
  have bl : Bk WW (w.heap.size + 1 + 1) 38 #[.slice A2 l.length c2] := (Bk.at_ _ _ (by simp)).alloc _
  have bi : Bk WW (w.heap.size + 1 + 1 + 1) 3 #[.int .i64 (k : Nat)] := Bk.at_ _ _ (by simp)
  have bw : Below w.heap.size w WW := ba4 w _ _ _ _
  have hsz : WW.heap.size = w.heap.size + 4 := by simp [WW]
  obtain ⟨W, hW⟩ : ∃ W, W = WW := ⟨_, rfl⟩
  rw [← hW] at bs bb bl bi bw hsz
  have HW := Lib.hid hW
  clear hW
  generalize hcl : s.cols.getD k default = cl at *
  obtain ⟨xb, xr, xd, xti, xhe, xk2, xk4, xl, xp, xx, xy, xz⟩ := cl
  simp only at c0 c1 c2' c3 c4 c5 c6 c7 c8 c9 c10 c11
  generalize sumF boxes l (halfB k 1) = s1 at *
  generalize sumF boxes l (halfB k 2) = s2 at *
  generalize sumF boxes l (colB k) = s3 at *
  have e0 : W.cell? ⟨w.heap.size, 0, none⟩ = some (.slice (some ⟨b, off, none⟩) s.cols.length cc1) := bs.cell 0
  have e1 : W.cell? ⟨w.heap.size + 1, 0, none⟩ = some (.slice A boxes.length c) := bb.cell 0
  have e2 : W.cell? ⟨w.heap.size + 1 + 1, 0, none⟩ = some (.slice A2 l.length c2) := bl.cell 0
  have e3 : W.cell? ⟨w.heap.size + 1 + 1 + 1, 0, none⟩ = some (.int .i64 (k : Nat)) := bi.cell 0
  replace c0 := (bw.cell (p := ⟨b, off + k * 12, none⟩) hB).trans c0
  replace c1 := (bw.cell (p := ⟨b, off + k * 12 + 1, none⟩) hB).trans c1
  replace c2' := (bw.cell (p := ⟨b, off + k * 12 + 2, none⟩) hB).trans c2'
  replace c3 := (bw.cell (p := ⟨b, off + k * 12 + 3, none⟩) hB).trans c3
  replace c4 := (bw.cell (p := ⟨b, off + k * 12 + 4, none⟩) hB).trans c4
  replace c5 := (bw.cell (p := ⟨b, off + k * 12 + 5, none⟩) hB).trans c5
  replace c6 := (bw.cell (p := ⟨b, off + k * 12 + 6, none⟩) hB).trans c6
  replace c7 := (bw.cell (p := ⟨b, off + k * 12 + 7, none⟩) hB).trans c7
  replace c8 := (bw.cell (p := ⟨b, off + k * 12 + 8, none⟩) hB).trans c8
  replace c9 := (bw.cell (p := ⟨b, off + k * 12 + 9, none⟩) hB).trans c9
  replace c10 := (bw.cell (p := ⟨b, off + k * 12 + 10, none⟩) hB).trans c10
  replace c11 := (bw.cell (p := ⟨b, off + k * 12 + 11, none⟩) hB).trans c11
  have hn0 : w.heap.size < W.heap.size := by omega
  have hn1 : w.heap.size + 1 < W.heap.size := by omega
  have hn2 : w.heap.size + 1 + 1 < W.heap.size := by omega
  have hn3 : w.heap.size + 1 + 1 + 1 < W.heap.size := by omega
  have hn4 : b < W.heap.size := by omega
  have BS := Lib.hid bs
  have BB := Lib.hid bb
  have BL := Lib.hid bl
  have BI := Lib.hid bi
  have BW := Lib.hid bw
  have KW2 : Hid (∀ V : World, Cb W V → Calls Try.prog 19 #[.slice A boxes.length c, .slice A2 l.length c2, .int .i64 (k : Nat)] V (Ret V (.agg #[.int .i64 s1, .int .i64 s2, .int .i64 s3]))) :=
    Lib.hid fun V hV => KW.out V (bw.trans (hV.mono (by omega)))
  clear bs bb bl bi bw hn0 hn1 hn2 hn3 hn4 KW
  have HZ := Lib.hid hsz
  clear hsz hB
  have hW' := HW.out.symm
  dsimp only [WW] at hW'
  clear HW
  unfold shpA at hW' ⊢
  go_enter Try.func68, Try.ntmps68
  go_upto_region 1 with fail
  try rw [hW']
  clear hW'
  refine wp_region_og [.val 0 (.pointer (some ⟨w.heap.size, 0, none⟩)), .val 1 (.slice (some ⟨b, off, none⟩) s.cols.length cc1), .val 2 (.int .i64 (k : Nat)), .val 3 (.pointer (some ⟨b, off + k * 12, none⟩)),
    .val 4 (.agg #[.int .i64 xb, .int .i64 xr, .bool xd, .int .i64 xti, .int .i64 xhe, .int .i64 xk2, .int .i64 xk4, .int .i64 xl, .slice Ap xp.length q, .int .i64 xx, .int .i64 xy, .int .i64 xz]),
    .val 5 (.slice A boxes.length c), .val 6 (.slice A2 l.length c2), .val 7 (.int .i64 (k : Nat)), .val 8 (.agg #[.int .i64 s1, .int .i64 s2, .int .i64 s3]),
    .blk 9 46 z12 W.heap.size, .blk 10 55 z3 W.heap.size, .blk 9 46 #[.int .i64 xb, .int .i64 xr, .bool xd, .int .i64 xti, .int .i64 xhe, .int .i64 xk2, .int .i64 xk4, .int .i64 xl, .slice Ap xp.length q, .int .i64 xx, .int .i64 xy, .int .i64 xz] W.heap.size, .blk 10 55 #[.int .i64 s1, .int .i64 s2, .int .i64 s3] W.heap.size]
    [[], [0], [], [1, 2], [3], [], [], [], [5, 6, 7], [], [], [9, 4], [10, 8]] [11, 12] (Cb W) (by kernel_rfl) (by kernel_rfl) (Cb.drew W) ⟨?_, ?_, ?_, ?_, ?_, ?_, ?_, ?_, ?_, ?_, ?_, ?_, ?_, trivial⟩ ?_
  case refine_1 =>
    refine StepL.up fun x V hV hu K Q hK => ?_
    clear hu
    skip
    rw [owp_eq]
    go_big_op
    exact hK _ _ (Below.refl _ _) rfl
  case refine_2 =>
    refine StepL.up fun x V hV hu K Q hK => ?_
    have u0 : x 0 = _ := hu 0 (by decide)
    have fe0 := hV.cell e0
    clear hu
    simp only [putL, List.set_cons_zero, List.set_cons_succ] at hK ⊢
    rw [owp_eq]
    go_big_op
    exact hK _ _ (Below.refl _ _) rfl
  case refine_3 =>
    refine StepL.up fun x V hV hu K Q hK => ?_
    have fe3 := hV.cell e3
    clear hu
    simp only [putL, List.set_cons_zero, List.set_cons_succ] at hK ⊢
    rw [owp_eq]
    go_big_op
    exact hK _ _ (Below.refl _ _) rfl
  case refine_4 =>
    refine StepL.up fun x V hV hu K Q hK => ?_
    have u1 : x 1 = _ := hu 1 (by decide)
    have u2 : x 2 = _ := hu 2 (by decide)
    clear hu
    simp only [putL, List.set_cons_zero, List.set_cons_succ] at hK ⊢
    rw [owp_eq]
    go_big_op
    exact hK _ _ (Below.refl _ _) rfl
  case refine_5 =>
    refine StepL.up fun x V hV hu K Q hK => ?_
    have u3 : x 3 = _ := hu 3 (by decide)
    have fc0 := hV.cell c0
    have fc1 := hV.cell c1
    have fc2' := hV.cell c2'
    have fc3 := hV.cell c3
    have fc4 := hV.cell c4
    have fc5 := hV.cell c5
    have fc6 := hV.cell c6
    have fc7 := hV.cell c7
    have fc8 := hV.cell c8
    have fc9 := hV.cell c9
    have fc10 := hV.cell c10
    have fc11 := hV.cell c11
    clear hu
    simp only [putL, List.set_cons_zero, List.set_cons_succ] at hK ⊢
    rw [owp_eq]
    go_big_op
    exact hK _ _ (Below.refl _ _) rfl
  case refine_6 =>
    refine StepL.up fun x V hV hu K Q hK => ?_
    have fe1 := hV.cell e1
    clear hu
    simp only [putL, List.set_cons_zero, List.set_cons_succ] at hK ⊢
    rw [owp_eq]
    go_big_op
    exact hK _ _ (Below.refl _ _) rfl
  case refine_7 =>
    refine StepL.up fun x V hV hu K Q hK => ?_
    have fe2 := hV.cell e2
    clear hu
    simp only [putL, List.set_cons_zero, List.set_cons_succ] at hK ⊢
    rw [owp_eq]
    go_big_op
    exact hK _ _ (Below.refl _ _) rfl
  case refine_8 =>
    refine StepL.up fun x V hV hu K Q hK => ?_
    have fe3 := hV.cell e3
    clear hu
    simp only [putL, List.set_cons_zero, List.set_cons_succ] at hK ⊢
    rw [owp_eq]
    go_big_op
    exact hK _ _ (Below.refl _ _) rfl
  case refine_9 =>
    refine StepL.up fun x V hV hu K Q hK => ?_
    have u5 : x 5 = _ := hu 5 (by decide)
    have u6 : x 6 = _ := hu 6 (by decide)
    have u7 : x 7 = _ := hu 7 (by decide)
    clear hu
    simp only [putL, List.set_cons_zero, List.set_cons_succ] at hK ⊢
    rw [owp_eq]
    go_big_op
    refine (KW2.out V hV).mono ?_
    rintro e V' ⟨rfl, hb⟩
    exact hK _ _ hb rfl
  case refine_10 =>
    refine StepL.up fun x V hV hu K Q hK => ?_
    clear hu
    simp only [putL, List.set_cons_zero, List.set_cons_succ] at hK ⊢
    rw [owp_eq]
    go_big_op
    exact hK _ _ (ba1 V _) ⟨_, rfl, hV.size, Bk.new V _ _⟩
  case refine_11 =>
    refine StepL.up fun x V hV hu K Q hK => ?_
    clear hu
    simp only [putL, List.set_cons_zero, List.set_cons_succ] at hK ⊢
    rw [owp_eq]
    go_big_op
    exact hK _ _ (ba1 V _) ⟨_, rfl, hV.size, Bk.new V _ _⟩
  case refine_12 =>
    refine StepL.wr [8, 10] (by kernel_rfl) fun x V hV hu K Q hK => ?_
    obtain ⟨g, u9, hg, hk⟩ := hu 9 (by decide)
    have u4 : x 4 = _ := hu 4 (by decide)
    clear hu
    simp only [putL, List.set_cons_zero, List.set_cons_succ] at hK ⊢
    refine wp_store_og 46 (.tmp 9) (.tmp 15) rfl g #[.int .i64 xb, .int .i64 xr, .bool xd, .int .i64 xti, .int .i64 xhe, .int .i64 xk2, .int .i64 xk4, .int .i64 xl, .slice Ap xp.length q, .int .i64 xx, .int .i64 xy, .int .i64 xz] u9 u4 46 z12 hk (by kernel_rfl) rfl (by kernel_rfl) fun V' h1 h2 => ?_
    refine hK undef _ (hV.store h2 hg) ⟨g, u9, hg, h1⟩ fun k hk' => ?_
    simp only [List.mem_cons, List.not_mem_nil, or_false] at hk'
    rcases hk' with rfl | rfl
    all_goals (first | exact fun h => h | (rintro ⟨g', e', l', k'⟩; exact ⟨g', e', l', k'.grownT hk (by decide) h2⟩))
  case refine_13 =>
    refine StepL.wr [11] (by kernel_rfl) fun x V hV hu K Q hK => ?_
    obtain ⟨g, u10, hg, hk⟩ := hu 10 (by decide)
    have u8 : x 8 = _ := hu 8 (by decide)
    clear hu
    simp only [putL, List.set_cons_zero, List.set_cons_succ] at hK ⊢
    refine wp_store_og 55 (.tmp 10) (.tmp 19) rfl g #[.int .i64 s1, .int .i64 s2, .int .i64 s3] u10 u8 55 z3 hk (by kernel_rfl) rfl (by kernel_rfl) fun V' h1 h2 => ?_
    refine hK undef _ (hV.store h2 hg) ⟨g, u10, hg, h1⟩ fun k hk' => ?_
    simp only [List.mem_cons, List.not_mem_nil, or_false] at hk'
    subst hk'
    rintro ⟨g', e', l', k'⟩
    exact ⟨g', e', l', k'.grownT hk (by decide) h2⟩
  case refine_14 =>
    intro x V hV hA
    obtain ⟨gc, ec, lc, kc⟩ := hA 11 rfl (by decide)
    obtain ⟨gk, ek, lk, kk⟩ := hA 12 rfl (by decide)
    have HCK : Hid (CK w V boxes l k ⟨xb, xr, xd, xti, xhe, xk2, xk4, xl, xp, xx, xy, xz⟩ Ap q gc gk) := Lib.hid ⟨kc, by rw [HKL2.out]; exact kk, BW.out.trans (Below.mono hV BW.out.size), Nat.le_trans BW.out.size lc, Nat.le_trans BW.out.size lk⟩
    have hVV := Lib.hid (show Below W.heap.size W V from hV)
    clear hA kc kk lc lk hV
    simp only [layL, putL, List.set_cons_zero, List.set_cons_succ]
    rw [ec, ek]
    clear ec ek
    go_wp2_with fail
    go_ret
    exact ⟨Ap, q, gk, gc, _, _, _, _, rfl, by rw [hcl]; exact HCK.out, BI.out.below hVV.out BI.out.lt, BL.out.below hVV.out BL.out.lt, BB.out.below hVV.out BB.out.lt, BS.out.below hVV.out BS.out.lt⟩
end Go.Proofs.Ytmkplemdnglhmaa
