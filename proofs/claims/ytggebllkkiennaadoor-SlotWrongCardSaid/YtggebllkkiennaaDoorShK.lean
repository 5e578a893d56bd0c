/-
  Walks of the statements' Example and awake.
-/
import Derived.Test.YtggebllkkiennaaDoorShJ
namespace Go.Proofs.YtggebllkkiennaaDoor
open Go.RowKit

theorem sl_flat {α : Type} {T : Ty α} {w : World} {S : Nat → Prop} {g : Nat} {t : TypeId} {cs : Array Value} {l : List α} (hb : Bk w g t cs) (hf : Flat T w S cs.toList l) (hS : S g) : SlT T w S (some ⟨g, 0, none⟩) l := by
  intro _
  refine ⟨g, 0, rfl, hS, fun i x hx => ?_⟩
  obtain ⟨cs', h1, h2⟩ := hf.at_ hx
  refine ⟨cs', h1, fun j u hu => ?_⟩
  rw [Nat.zero_add, hb.cell]
  have := h2 j u hu
  simpa using this
def col0 : Col := { bay := 0, row := 0, deck := false, tiers := 0, height := 0, k20 := 0, k40 := 0, lash := 0, plugs := [], x := 0, y := 0, z := 0 }
def exShp : Shp := { cols := [{ col0 with tiers := 2 }, { col0 with row := 1, tiers := 2 }, { col0 with deck := true, tiers := 3 }, { col0 with row := 1, deck := true, tiers := 3 }, { col0 with bay := 1, row := 1, deck := true, tiers := 4 }],
                     covs := [{ bay := 0, rows := [0, 1] }], l0 := 0, l1 := 0, l2 := 0, l3 := 0, rows := [], frames := [], tanks := [], m0 := 0, m1 := 0, m2 := 0, m3 := 0 }
/-- A ship comes back. -/
def ShpRet (w : World) (s : Shp) (e : Ending) (w' : World) : Prop := ∃ h, e = .returned (.agg (shpA s h)) ∧ ShpR w' (Lt w'.heap.size) s h ∧ Below w.heap.size w w'
theorem rd_col0 {w : World} {S : Nat → Prop} (c : Col) (h : c.plugs = []) (cs : List Value) (hcs : cs = colL c none 0) : tCol.rd w S cs c := ⟨none, 0, hcs, by rw [h]; simp, by rw [h]; exact SlT.nil⟩

def exC : Array Value := (exShp.cols.flatMap fun c => colL c none 0).toArray
def exH (n : Nat) : Hd := ⟨some ⟨n + 1, 0, none⟩, 5, some ⟨n + 1 + 1 + 1, 0, none⟩, 1, none, 0, none, 0, none, 0⟩
def exW (w : World) : World :=
  (((w.alloc (.cells (shpA exShp (exH w.heap.size)) 32)).alloc (.cells exC 54)).alloc (.cells #[.int .i64 0, .int .i64 1] 3)).alloc (.cells #[.int .i64 0, .slice (some ⟨w.heap.size + 1 + 1, 0, none⟩) 2 2] 56)
theorem exW_below (w : World) : Below w.heap.size w (exW w) := ba4 w _ _ _ _
theorem flat_col0 {w : World} {S : Nat → Prop} : ∀ l : List Col, (∀ c ∈ l, c.plugs = []) → Flat tCol w S (l.flatMap fun c => colL c none 0) l
  | [], _ => rfl
  | c :: l, h => ⟨_, _, by rw [List.flatMap_cons], rd_col0 c (h c (by simp)) _ rfl, flat_col0 l fun x hx => h x (by simp [hx])⟩
theorem exW_reads (w : World) : ShpR (exW w) (Lt (exW w).heap.size) exShp (exH w.heap.size) := by
  have hz : (exW w).heap.size = w.heap.size + 4 := by simp [exW]
  have k1 : Bk (exW w) (w.heap.size + 1) 54 exC := by
    have := ((Bk.new (w.alloc (.cells (shpA exShp (exH w.heap.size)) 32)) 54 exC).alloc (.cells #[.int .i64 0, .int .i64 1] 3)).alloc (.cells #[.int .i64 0, .slice (some ⟨w.heap.size + 1 + 1, 0, none⟩) 2 2] 56)
    rw [show (w.alloc (.cells (shpA exShp (exH w.heap.size)) 32)).heap.size = w.heap.size + 1 by simp] at this
    exact this
  have k2 : Bk (exW w) (w.heap.size + 1 + 1) 3 #[.int .i64 0, .int .i64 1] := by
    have := (Bk.new ((w.alloc (.cells (shpA exShp (exH w.heap.size)) 32)).alloc (.cells exC 54)) 3 #[.int .i64 0, .int .i64 1]).alloc (.cells #[.int .i64 0, .slice (some ⟨w.heap.size + 1 + 1, 0, none⟩) 2 2] 56)
    rw [show ((w.alloc (.cells (shpA exShp (exH w.heap.size)) 32)).alloc (.cells exC 54)).heap.size = w.heap.size + 1 + 1 by simp] at this
    exact this
  have k3 : Bk (exW w) (w.heap.size + 1 + 1 + 1) 56 #[.int .i64 0, .slice (some ⟨w.heap.size + 1 + 1, 0, none⟩) 2 2] := by
    have := Bk.new (((w.alloc (.cells (shpA exShp (exH w.heap.size)) 32)).alloc (.cells exC 54)).alloc (.cells #[.int .i64 0, .int .i64 1] 3)) 56 #[.int .i64 0, .slice (some ⟨w.heap.size + 1 + 1, 0, none⟩) 2 2]
    rw [show (((w.alloc (.cells (shpA exShp (exH w.heap.size)) 32)).alloc (.cells exC 54)).alloc (.cells #[.int .i64 0, .int .i64 1] 3)).heap.size = w.heap.size + 1 + 1 + 1 by simp] at this
    exact this
  refine ⟨by simp [exShp, exH], by simp [exShp, exH], by simp [exShp, exH], by simp [exShp, exH], by simp [exShp, exH], by simp [exH, maxLen], by simp [exH, maxLen], by simp [exH], by simp [exH], by simp [exH], ?_, ?_, SlT.nil, SlT.nil, SlT.nil⟩
  · refine sl_flat k1 (by unfold exC; exact flat_col0 _ (by decide)) (by rw [Lt, hz]; omega)
  · refine sl_flat k3 ⟨[.int .i64 0, .slice (some ⟨w.heap.size + 1 + 1, 0, none⟩) 2 2], [], rfl, ⟨some ⟨w.heap.size + 1 + 1, 0, none⟩, 2, rfl, by decide, ?_⟩, rfl⟩ (by rw [Lt, hz]; omega)
    exact sl_flat k2 ⟨[.int .i64 0], [.int .i64 1], rfl, rfl, [.int .i64 1], [], rfl, rfl, rfl⟩ (by rw [Lt, hz]; omega)

set_option maxRecDepth 100000 in
set_option maxHeartbeats 1000000 in
theorem example_any (w : World) : Calls Tryd.prog 37 #[] w (ShpRet w exShp) := by
  go_enter Tryd.func37, Tryd.ntmps37
  go_wp2
  have hb := exW_below w
  have hr := exW_reads w
  exact bodyPost_ret (v := .agg (shpA exShp (exH w.heap.size))) (by simp [results, Tryd.results37, go_sem, shpA, exShp, exH]) rfl ⟨_, rfl, hr, hb⟩

theorem ex_few : Few exShp := ⟨by decide, by decide, by decide, by decide⟩
theorem ex_ints : Ints exShp := ⟨by unfold I64; decide⟩
theorem sl_ints {w : World} {g : Nat} {t : TypeId} {l : List Int} (hb : Bk w g t (i64s l).toArray) : SlT tInt w (Lt w.heap.size) (some ⟨g, 0, none⟩) l := by
  refine sl_flat hb ?_ hb.lt
  have : ∀ l : List Int, Flat tInt w (Lt w.heap.size) (i64s l) l := by
    intro l
    induction l with
    | nil => rfl
    | cons x l ih => exact ⟨[.int .i64 x], i64s l, rfl, rfl, ih⟩
  simpa using this l
def TrueRet (w : World) (e : Ending) (w' : World) : Prop := e = .returned (.bool true) ∧ Below w.heap.size w w'
theorem Rets.below {w w' : World} {v : Value} {e : Ending} (h : Rets w v e w') : Ret w v e w' := by
  obtain ⟨h1, m, rfl⟩ := h
  exact ⟨h1, below_drewN (Below.refl _ _) m⟩
/-- SameInts of a row of a call's own and a row just laid. -/
theorem sameLit (A : Option Addr) (c : Nat) (l : List Int) (cs : Array Value) (hcs : cs = (i64s l).toArray) (w : World) (h : SlT tInt w (Lt w.heap.size) A l) (hl : l.length ≤ 1000) :
    Calls Tryd.prog 102 #[.slice A l.length c, .slice (some ⟨w.heap.size, 0, none⟩) l.length l.length] (w.alloc (.cells cs 3)) (Ret (w.alloc (.cells cs 3)) (.bool true)) := by
  subst hcs
  refine (sameInts_any A _ c _ l l _ _ _ (h.on (ba1 w _)) (sl_ints (Bk.new w 3 (i64s l).toArray)) (by unfold maxLen; omega)).mono fun e w' hh => ?_
  have := hh.below
  simpa using this

/-- A ship in a variable: what it reads as, and its cells. -/
structure Sh (w W : World) (g : Nat) (s : Shp) (h : Hd) : Prop where
  rd : ShpR W (Lt W.heap.size) s h
  bk : Bk W g 32 (shpA s h)
  be : Below w.heap.size w W
theorem Sh.on {w W W' : World} {g : Nat} {s : Shp} {h : Hd} (r : Sh w W g s h) (hb : Below W.heap.size W W') : Sh w W' g s h := ⟨r.rd.on hb, r.bk.below hb r.bk.lt, r.be.trans (hb.mono r.be.size)⟩
theorem Sh.cells {w W : World} {g : Nat} {s : Shp} {h : Hd} (r : Sh w W g s h) :
    W.cell? ⟨g, 0, none⟩ = some (.slice h.A1 s.cols.length h.c1) ∧ W.cell? ⟨g, 1, none⟩ = some (.slice h.A2 s.covs.length h.c2) ∧ W.cell? ⟨g, 2, none⟩ = some (.int .i64 s.l0) ∧ W.cell? ⟨g, 3, none⟩ = some (.int .i64 s.l1) ∧ W.cell? ⟨g, 4, none⟩ = some (.int .i64 s.l2) ∧ W.cell? ⟨g, 5, none⟩ = some (.int .i64 s.l3) ∧
      W.cell? ⟨g, 6, none⟩ = some (.slice h.A3 s.rows.length h.c3) ∧ W.cell? ⟨g, 7, none⟩ = some (.slice h.A4 s.frames.length h.c4) ∧ W.cell? ⟨g, 8, none⟩ = some (.slice h.A5 s.tanks.length h.c5) ∧ W.cell? ⟨g, 9, none⟩ = some (.int .i64 s.m0) ∧ W.cell? ⟨g, 10, none⟩ = some (.int .i64 s.m1) ∧ W.cell? ⟨g, 11, none⟩ = some (.int .i64 s.m2) ∧ W.cell? ⟨g, 12, none⟩ = some (.int .i64 s.m3) :=
  ⟨r.bk.cell 0, r.bk.cell 1, r.bk.cell 2, r.bk.cell 3, r.bk.cell 4, r.bk.cell 5, r.bk.cell 6, r.bk.cell 7, r.bk.cell 8, r.bk.cell 9, r.bk.cell 10, r.bk.cell 11, r.bk.cell 12⟩
theorem ex_find : findF exShp 1 1 true = (4, true) := by decide
theorem ex_apart : apartF exShp 0 4 = (1, true) := by decide
theorem ex_right : rightF exShp = true := by decide +kernel
theorem ex_cov0 : coverOfF exShp 0 = 0 := by decide
theorem ex_cov3 : coverOfF exShp 3 = 0 := by decide
theorem ex_cov4 : coverOfF exShp 4 = -1 := by decide
theorem ex_under : alongF exShp 0 false = [0, 1] := by decide
theorem ex_upon : alongF exShp 0 true = [2, 3] := by decide
theorem ex_beside : besideF exShp 0 = [1] := by decide
theorem ex_tall : tallTo exShp.cols exShp.cols.length = 4 := by decide
theorem ex_places : placesTo exShp.cols exShp.cols.length = 28 := by decide +kernel
theorem ex_len : exShp.cols.length ≤ 1000000 := by decide
theorem ex_rows : ∀ c ∈ exShp.cols, I64 c.row := by unfold I64; decide

end Go.Proofs.YtggebllkkiennaaDoor
