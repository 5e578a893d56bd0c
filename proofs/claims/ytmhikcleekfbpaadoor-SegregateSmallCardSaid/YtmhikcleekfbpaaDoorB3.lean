/-
  Contracts and lemmas, in one text: ShK, ShL, ShN, ShM, ShP, ShQ, OpenA.
-/
import Derived.Test.YtmhikcleekfbpaaDoorB2
import Derived.IntWalk
import Derived.Test.YtmhikcleekfbpaaDoorB1
import Derived.Deep.Slices
import Derived.ChangeArms
namespace Go.Proofs.YtmhikcleekfbpaaDoor
open Go.RowKit

theorem sl_flat {α : Type} {T : Ty α} {w : World} {S : Nat → Prop} {g : Nat} {t : TypeId} {cs : Array Value} {l : List α} (hb : Bk w g t cs) (hf : Flat T w S cs.toList l) (hS : S g) : SlT T w S (some ⟨g, 0, none⟩) l := by
  intro _
  refine ⟨g, 0, rfl, hS, fun i x hx => ?_⟩
  obtain ⟨cs', h1, h2⟩ := hf.at_ hx
  refine ⟨cs', h1, fun j u hu => ?_⟩
  rw [Nat.zero_add, hb.cell]
  have := h2 j u hu
  simpa using this
def col0 : Col := { bay := 0, row := 0, deck := false, tiers := 0, height := 0, k20 := 0, k40 := 0, lash := 0, plugs := [], x := 0, y := 0, z := 0 }
def exShp : Shp := { cols := [{ col0 with tiers := 2 }, { col0 with row := 1, tiers := 2 }, { col0 with deck := true, tiers := 3 }, { col0 with row := 1, deck := true, tiers := 3 }, { col0 with bay := 1, row := 1, deck := true, tiers := 4 }],
                     covs := [{ bay := 0, rows := [0, 1] }], l0 := 0, l1 := 0, l2 := 0, l3 := 0, rows := [], frames := [], tanks := [], m0 := 0, m1 := 0, m2 := 0, m3 := 0 }
/-- A ship comes back. -/
def ShpRet (w : World) (s : Shp) (e : Ending) (w' : World) : Prop := ∃ h, e = .returned (.agg (shpA s h)) ∧ ShpR w' (Lt w'.heap.size) s h ∧ Below w.heap.size w w'
/-- Columns without plugs, as they lie where they were just laid. -/
def tColN : Ty Col where
  k := 12
  pos := by decide
  rd := fun _ _ cs c => cs = colL c none 0 ∧ c.plugs = []
  len := by rintro _ _ _ _ ⟨rfl, _⟩; rfl
  one := by rintro _ _ _ _ ⟨rfl, _⟩; rfl
  keep := fun h _ => h
  more := fun h _ => h
theorem rd_colN {w : World} {S : Nat → Prop} (c : Col) (h : c.plugs = []) (cs : List Value) (hcs : cs = colL c none 0) : tColN.rd w S cs c := ⟨hcs, h⟩
theorem rd_col0 {w : World} {S : Nat → Prop} (c : Col) (h : c.plugs = []) (cs : List Value) (hcs : cs = colL c none 0) : tCol.rd w S cs c := ⟨none, 0, hcs, by rw [h]; simp, by rw [h]; exact SlT.nil⟩

def exC : Array Value := (exShp.cols.flatMap fun c => colL c none 0).toArray
def exH (n : Nat) : Hd := ⟨some ⟨n + 1, 0, none⟩, 5, some ⟨n + 1 + 1 + 1, 0, none⟩, 1, none, 0, none, 0, none, 0⟩
def exW (w : World) : World :=
  (((w.alloc (.cells (shpA exShp (exH w.heap.size)) 32)).alloc (.cells exC 35)).alloc (.cells #[.int .i64 0, .int .i64 1] 3)).alloc (.cells #[.int .i64 0, .slice (some ⟨w.heap.size + 1 + 1, 0, none⟩) 2 2] 98)
theorem exW_below (w : World) : Below w.heap.size w (exW w) := ba4 w _ _ _ _
theorem Flat.ofN {w : World} {S : Nat → Prop} : ∀ {xs : List Value} {l : List Col}, Flat tColN w S xs l → Flat tCol w S xs l
  | _, [], h => h
  | _, _ :: _, ⟨cs, ys, e, h1, h2⟩ => ⟨cs, ys, e, rd_col0 _ h1.2 _ h1.1, Flat.ofN h2⟩
theorem OwnT.ofN {e : TypeId} {w : World} {base : Nat} {v : Value} {l : List Col} (h : OwnT tColN e w base v l) : OwnT tCol e w base v l := by
  obtain ⟨xs, h1, h2⟩ := h
  exact ⟨xs, h1, h2.ofN⟩
theorem flat_col0 {w : World} {S : Nat → Prop} : ∀ l : List Col, (∀ c ∈ l, c.plugs = []) → Flat tCol w S (l.flatMap fun c => colL c none 0) l
  | [], _ => rfl
  | c :: l, h => ⟨_, _, by rw [List.flatMap_cons], rd_col0 c (h c (by simp)) _ rfl, flat_col0 l fun x hx => h x (by simp [hx])⟩
theorem exW_reads (w : World) : ShpR (exW w) (Lt (exW w).heap.size) exShp (exH w.heap.size) := by
  have hz : (exW w).heap.size = w.heap.size + 4 := by simp [exW]
  have k1 : Bk (exW w) (w.heap.size + 1) 35 exC := by
    have := ((Bk.new (w.alloc (.cells (shpA exShp (exH w.heap.size)) 32)) 35 exC).alloc (.cells #[.int .i64 0, .int .i64 1] 3)).alloc (.cells #[.int .i64 0, .slice (some ⟨w.heap.size + 1 + 1, 0, none⟩) 2 2] 98)
    rw [show (w.alloc (.cells (shpA exShp (exH w.heap.size)) 32)).heap.size = w.heap.size + 1 by simp] at this
    exact this
  have k2 : Bk (exW w) (w.heap.size + 1 + 1) 3 #[.int .i64 0, .int .i64 1] := by
    have := (Bk.new ((w.alloc (.cells (shpA exShp (exH w.heap.size)) 32)).alloc (.cells exC 35)) 3 #[.int .i64 0, .int .i64 1]).alloc (.cells #[.int .i64 0, .slice (some ⟨w.heap.size + 1 + 1, 0, none⟩) 2 2] 98)
    rw [show ((w.alloc (.cells (shpA exShp (exH w.heap.size)) 32)).alloc (.cells exC 35)).heap.size = w.heap.size + 1 + 1 by simp] at this
    exact this
  have k3 : Bk (exW w) (w.heap.size + 1 + 1 + 1) 98 #[.int .i64 0, .slice (some ⟨w.heap.size + 1 + 1, 0, none⟩) 2 2] := by
    have := Bk.new (((w.alloc (.cells (shpA exShp (exH w.heap.size)) 32)).alloc (.cells exC 35)).alloc (.cells #[.int .i64 0, .int .i64 1] 3)) 98 #[.int .i64 0, .slice (some ⟨w.heap.size + 1 + 1, 0, none⟩) 2 2]
    rw [show (((w.alloc (.cells (shpA exShp (exH w.heap.size)) 32)).alloc (.cells exC 35)).alloc (.cells #[.int .i64 0, .int .i64 1] 3)).heap.size = w.heap.size + 1 + 1 + 1 by simp] at this
    exact this
  refine ⟨by simp [exShp, exH], by simp [exShp, exH], by simp [exShp, exH], by simp [exShp, exH], by simp [exShp, exH], by simp [exH, maxLen], by simp [exH, maxLen], by simp [exH], by simp [exH], by simp [exH], ?_, ?_, SlT.nil, SlT.nil, SlT.nil⟩
  · refine sl_flat k1 (by unfold exC; exact flat_col0 _ (by decide)) (by rw [Lt, hz]; omega)
  · refine sl_flat k3 ⟨[.int .i64 0, .slice (some ⟨w.heap.size + 1 + 1, 0, none⟩) 2 2], [], rfl, ⟨some ⟨w.heap.size + 1 + 1, 0, none⟩, 2, rfl, by decide, ?_⟩, rfl⟩ (by rw [Lt, hz]; omega)
    exact sl_flat k2 ⟨[.int .i64 0], [.int .i64 1], rfl, rfl, [.int .i64 1], [], rfl, rfl, rfl⟩ (by rw [Lt, hz]; omega)

set_option maxRecDepth 100000 in
set_option maxHeartbeats 1000000 in
theorem example_any (w : World) : Calls Tryd.prog 21 #[] w (ShpRet w exShp) := by
  go_enter Tryd.func21, Tryd.ntmps21
  go_wp2
  have hb := exW_below w
  have hr := exW_reads w
  exact bodyPost_ret (v := .agg (shpA exShp (exH w.heap.size))) (by simp [results, Tryd.results21, go_sem, shpA, exShp, exH]) rfl ⟨_, rfl, hr, hb⟩

theorem ex_few : Few exShp := ⟨by decide, by decide, by decide, by decide⟩
theorem ex_ints : Ints exShp := ⟨by unfold I64; decide⟩
theorem sl_ints {w : World} {g : Nat} {t : TypeId} {l : List Int} (hb : Bk w g t (i64s l).toArray) : SlT tInt w (Lt w.heap.size) (some ⟨g, 0, none⟩) l := by
  refine sl_flat hb ?_ hb.lt
  have : ∀ l : List Int, Flat tInt w (Lt w.heap.size) (i64s l) l := by
    intro l
    induction l with
    | nil => rfl
    | cons x l ih => exact ⟨[.int .i64 x], i64s l, rfl, rfl, ih⟩
  simpa using this l
def TrueRet (w : World) (e : Ending) (w' : World) : Prop := e = .returned (.bool true) ∧ Below w.heap.size w w'
theorem Rets.below {w w' : World} {v : Value} {e : Ending} (h : Rets w v e w') : Ret w v e w' := by
  obtain ⟨h1, m, rfl⟩ := h
  exact ⟨h1, below_drewN (Below.refl _ _) m⟩
/-- SameInts of a row of a call's own and a row just laid. -/
theorem sameLit (A : Option Addr) (c : Nat) (l : List Int) (cs : Array Value) (hcs : cs = (i64s l).toArray) (w : World) (h : SlT tInt w (Lt w.heap.size) A l) (hl : l.length ≤ 1000) :
    Calls Tryd.prog 19 #[.slice A l.length c, .slice (some ⟨w.heap.size, 0, none⟩) l.length l.length] (w.alloc (.cells cs 3)) (Ret (w.alloc (.cells cs 3)) (.bool true)) := by
  subst hcs
  refine (sameInts_any A _ c _ l l _ _ _ (h.on (ba1 w _)) (sl_ints (Bk.new w 3 (i64s l).toArray)) (by unfold maxLen; omega)).mono fun e w' hh => ?_
  have := hh.below
  simpa using this

/-- A ship in a variable: what it reads as, and its cells. -/
structure Sh (w W : World) (g : Nat) (s : Shp) (h : Hd) : Prop where
  rd : ShpR W (Lt W.heap.size) s h
  bk : Bk W g 32 (shpA s h)
  be : Below w.heap.size w W
theorem Sh.on {w W W' : World} {g : Nat} {s : Shp} {h : Hd} (r : Sh w W g s h) (hb : Below W.heap.size W W') : Sh w W' g s h := ⟨r.rd.on hb, r.bk.below hb r.bk.lt, r.be.trans (hb.mono r.be.size)⟩
theorem Sh.cells {w W : World} {g : Nat} {s : Shp} {h : Hd} (r : Sh w W g s h) :
    W.cell? ⟨g, 0, none⟩ = some (.slice h.A1 s.cols.length h.c1) ∧ W.cell? ⟨g, 1, none⟩ = some (.slice h.A2 s.covs.length h.c2) ∧ W.cell? ⟨g, 2, none⟩ = some (.int .i64 s.l0) ∧ W.cell? ⟨g, 3, none⟩ = some (.int .i64 s.l1) ∧ W.cell? ⟨g, 4, none⟩ = some (.int .i64 s.l2) ∧ W.cell? ⟨g, 5, none⟩ = some (.int .i64 s.l3) ∧
      W.cell? ⟨g, 6, none⟩ = some (.slice h.A3 s.rows.length h.c3) ∧ W.cell? ⟨g, 7, none⟩ = some (.slice h.A4 s.frames.length h.c4) ∧ W.cell? ⟨g, 8, none⟩ = some (.slice h.A5 s.tanks.length h.c5) ∧ W.cell? ⟨g, 9, none⟩ = some (.int .i64 s.m0) ∧ W.cell? ⟨g, 10, none⟩ = some (.int .i64 s.m1) ∧ W.cell? ⟨g, 11, none⟩ = some (.int .i64 s.m2) ∧ W.cell? ⟨g, 12, none⟩ = some (.int .i64 s.m3) :=
  ⟨r.bk.cell 0, r.bk.cell 1, r.bk.cell 2, r.bk.cell 3, r.bk.cell 4, r.bk.cell 5, r.bk.cell 6, r.bk.cell 7, r.bk.cell 8, r.bk.cell 9, r.bk.cell 10, r.bk.cell 11, r.bk.cell 12⟩
theorem ex_find : findF exShp 1 1 true = (4, true) := by decide
theorem ex_apart : apartF exShp 0 4 = (1, true) := by decide
theorem ex_right : rightF exShp = true := by decide +kernel
theorem ex_cov0 : coverOfF exShp 0 = 0 := by decide
theorem ex_cov3 : coverOfF exShp 3 = 0 := by decide
theorem ex_cov4 : coverOfF exShp 4 = -1 := by decide
theorem ex_under : alongF exShp 0 false = [0, 1] := by decide
theorem ex_upon : alongF exShp 0 true = [2, 3] := by decide
theorem ex_beside : besideF exShp 0 = [1] := by decide
theorem ex_tall : tallTo exShp.cols exShp.cols.length = 4 := by decide
theorem ex_places : placesTo exShp.cols exShp.cols.length = 28 := by decide +kernel
theorem ex_len : exShp.cols.length ≤ 1000000 := by decide
theorem ex_rows : ∀ c ∈ exShp.cols, I64 c.row := by unfold I64; decide

end Go.Proofs.YtmhikcleekfbpaaDoor
namespace Go.Proofs.YtmhikcleekfbpaaDoor
open Go.RowKit

theorem el_col : El Tryd.prog 22 35 12 112 := El.mk' Tryd.underlying22 (by kernel_rfl) (by decide)
theorem el_cov : El Tryd.prog 23 98 2 32 := El.mk' Tryd.underlying23 (by kernel_rfl) (by decide)

def plL (p : Nat × Nat × Nat × Bool) : List Value := [.int .u8 (p.1 : Nat), .int .u8 (p.2.1 : Nat), .int .u8 (p.2.2.1 : Nat), .bool p.2.2.2]
def tPl : Ty (Nat × Nat × Nat × Bool) where
  k := 4
  pos := by decide
  rd := fun _ _ cs t => cs = plL t
  len := by rintro _ _ _ _ rfl; rfl
  one := by rintro _ _ _ _ rfl; rfl
  keep := fun h _ => h
  more := fun h _ => h
theorem SlT.pl {w : World} {S : Nat → Prop} {A : Option Addr} {l : List (Nat × Nat × Nat × Bool)} (h : SlT tPl w S A l) {i : Nat} (hi : i < l.length) :
    ∃ b off, A = some ⟨b, off, none⟩ ∧ S b ∧ w.cell? ⟨b, off + i * 4, none⟩ = some (.int .u8 ((l.getD i default).1 : Nat)) ∧ w.cell? ⟨b, off + i * 4 + 1, none⟩ = some (.int .u8 ((l.getD i default).2.1 : Nat)) ∧ w.cell? ⟨b, off + i * 4 + 2, none⟩ = some (.int .u8 ((l.getD i default).2.2.1 : Nat)) ∧ w.cell? ⟨b, off + i * 4 + 3, none⟩ = some (.bool (l.getD i default).2.2.2) := by
  obtain ⟨b, off, cs, e, hb, h1, hc⟩ := h.at_ hi default
  rw [show cs = _ from h1] at hc
  exact ⟨b, off, e, hb, hc 0 _ rfl, hc 1 _ rfl, hc 2 _ rfl, hc 3 _ rfl⟩
/-- A ship of columns and covers alone. -/
def shp0 (cols : List Col) (covs : List Cov) : Shp := { cols := cols, covs := covs, l0 := 0, l1 := 0, l2 := 0, l3 := 0, rows := [], frames := [], tanks := [], m0 := 0, m1 := 0, m2 := 0, m3 := 0 }
def hd0 (A1 : Option Addr) (c1 : Nat) (A2 : Option Addr) (c2 : Nat) : Hd := ⟨A1, c1, A2, c2, none, 0, none, 0, none, 0⟩
/-- A column as Built makes it. -/
structure GoodCol (c : Col) : Prop where
  bay : 0 ≤ c.bay ∧ c.bay ≤ 4
  row : 0 ≤ c.row ∧ c.row ≤ 4
  tiers : 2 ≤ c.tiers ∧ c.tiers ≤ 5
  height : c.height = 0
  k20 : c.k20 = 500000000
  k40 : c.k40 = 500000000
  lash : c.lash = 0
  plugs : c.plugs = []
  x : -26000 ≤ c.x ∧ c.x ≤ 26000
  y : -5000 ≤ c.y ∧ c.y ≤ 5000
  z : c.z = if c.deck then 20000 else 2000
def Cols (l : List Col) : Prop := (∀ c ∈ l, GoodCol c) ∧ (l.map keyC).Nodup
theorem find_none {l : List Col} {bay row : Int} {deck : Bool} (h : (findF (shp0 l []) bay row deck).2 = false) : ∀ c ∈ l, findB bay row deck c = false := by
  intro c hc
  unfold findF at h
  have key : ∀ (l : List Col) (k : Nat), c ∈ l → findB bay row deck c = true → pickFrom (findB bay row deck) l k ≠ [] := by
    intro l
    induction l with
    | nil => intro k h; cases h
    | cons x l ih =>
      intro k hm hp
      unfold pickFrom
      rcases List.mem_cons.1 hm with rfl | hm
      · rw [if_pos hp]; simp
      · split
        · simp
        · exact ih _ hm hp
  cases hp : findB bay row deck c with
  | false => rfl
  | true =>
    exfalso
    have := key (shp0 l []).cols 0 hc hp
    unfold pick at h
    cases hq : pickFrom (findB bay row deck) (shp0 l []).cols 0 with
    | nil => exact this hq
    | cons i L => rw [hq] at h; simp at h
theorem cols_add {l : List Col} {c : Col} (h : Cols l) (hc : GoodCol c) (hf : ∀ x ∈ l, findB c.bay c.row c.deck x = false) : Cols (l ++ [c]) := by
  refine ⟨fun x hx => ?_, ?_⟩
  · rcases List.mem_append.1 hx with hx | hx
    · exact h.1 x hx
    · simp at hx; subst hx; exact hc
  · rw [List.map_append, List.nodup_append]
    refine ⟨h.2, by simp, fun a ha b hb => ?_⟩
    simp only [List.map_cons, List.map_nil, List.mem_singleton] at hb
    subst hb
    obtain ⟨x, hx, rfl⟩ := List.mem_map.1 ha
    intro e
    have := hf x hx
    unfold keyC at e
    simp only [Prod.mk.injEq] at e
    obtain ⟨e1, e2, e3⟩ := e
    have e4 : x.deck = c.deck := by
      cases h1 : x.deck <;> cases h2 : c.deck <;> simp_all
    simp [findB, e1, e2, e4] at this
end Go.Proofs.YtmhikcleekfbpaaDoor
namespace Go.Proofs.YtmhikcleekfbpaaDoor
open Go.RowKit

/-- One element, laid in block g0, appended to a row of the call's own. -/
theorem wpList_append_bk {P : Program} {ops : Array Oper} {rest : List Oper} {o : Oper} {a : Act} {Q : Exit → Act → World → Prop} {w : World} {t e : TypeId} {size bytes : Nat} (hE : El P t e size bytes)
    (hgd : o.guard = none) (s x : Operand) (ho : o.op = .call { callee := .builtin .append, args := #[s, x], argTypes := #[t, t] })
    (base : Nat) (v : Value) (n : Nat) (xs : List Value) (hs : a.eval s = v) (hown : w.ownsRow base e size v n xs)
    (g0 : Nat) (cs : Array Value) (c : Nat) (hx : a.eval x = .slice (some ⟨g0, 0, none⟩) 1 c) (hsrc : Bk w g0 e cs) (hcs : cs.size = size) (h1 : cs.toList.all (·.oneCell') = true)
    (h63 : n + 1 ≤ maxLen) (hbytes : (n + 1) * bytes ≤ 140737488355328) (hbase : base ≤ w.heap.size)
    (h : ∀ v' w', w'.ownsRow base e size v' (n + 1) (xs ++ cs.toList) → w.grownBy w' v.ownBlock → (v'.ownBlock = v.ownBlock ∨ ∃ g, v'.ownBlock = some g ∧ w.heap.size ≤ g) → Below base w w' → wpList P ops Q rest (a.put o.dst v') w') :
    wpList P ops Q (o :: rest) a w := by
  obtain ⟨v', w', hrun, h2, h3, h4, h5⟩ := run_append_blk hE o.type base v n xs hown g0 cs c hsrc hcs h1 h63 hbytes hbase
  refine wpList_plain hgd fun _ hK => ?_
  unfold Oper.wp execOp
  simp only [ho, resolve, invoke, builtin, Sem.run_bind, Sem.run_pure, Result.andThen_ok, List.map_toArray, List.map_cons, List.map_nil, hs, hx, hrun]
  exact hK _ _ (h v' w' h2 h3 h4 h5)
theorem Bk.new2 (w : World) (o : Obj) (t : TypeId) (cs : Array Value) : Bk ((w.alloc o).alloc (.cells cs t)) (w.heap.size + 1) t cs := by
  have := Bk.new (w.alloc o) t cs
  rw [show (w.alloc o).heap.size = w.heap.size + 1 by simp] at this
  exact this
def covCells : List Cov → List Nat → List Value
  | x :: l, g :: gs => .int .i64 x.bay :: .slice (some ⟨g, 0, none⟩) x.rows.length x.rows.length :: covCells l gs
  | _, _ => []
/-- The rows of the covers lie in the blocks gs, one by one. -/
def CovR (w : World) (base : Nat) : List Cov → List Nat → Prop
  | x :: l, g :: gs => Bk w g 3 (i64s x.rows).toArray ∧ base ≤ g ∧ g ∉ gs ∧ CovR w base l gs
  | [], [] => True
  | _, _ => False
theorem CovR.len {w : World} {base : Nat} : ∀ {l : List Cov} {gs : List Nat}, CovR w base l gs → l.length = gs.length
  | [], [], _ => rfl
  | _ :: _, _ :: _, h => by simp [h.2.2.2.len]
  | [], _ :: _, h => h.elim
  | _ :: _, [], h => h.elim
theorem CovR.keep {w w' : World} {base : Nat} : ∀ {l : List Cov} {gs : List Nat}, CovR w base l gs → (∀ g ∈ gs, w'.heap[g]? = w.heap[g]?) → CovR w' base l gs
  | [], [], _, _ => trivial
  | _ :: _, g :: _, ⟨h1, h2, h3, h4⟩, hk => ⟨(hk g (by simp)).trans h1, h2, h3, h4.keep fun x hx => hk x (by simp [hx])⟩
  | [], _ :: _, h, _ => h.elim
  | _ :: _, [], h, _ => h.elim
theorem CovR.lt {w : World} {base : Nat} : ∀ {l : List Cov} {gs : List Nat}, CovR w base l gs → ∀ g ∈ gs, base ≤ g ∧ g < w.heap.size ∧ ∃ cs, Bk w g 3 cs
  | [], [], _, g, hg => by cases hg
  | _ :: _, g :: _, ⟨h1, h2, h3, h4⟩, x, hx => by
    rcases List.mem_cons.1 hx with rfl | hx
    · exact ⟨h2, h1.lt, _, h1⟩
    · exact h4.lt x hx
  | [], _ :: _, h, _, _ => h.elim
  | _ :: _, [], h, _, _ => h.elim
theorem CovR.down {w : World} {base base' : Nat} (hb : base' ≤ base) : ∀ {l : List Cov} {gs : List Nat}, CovR w base l gs → CovR w base' l gs
  | [], [], _ => trivial
  | _ :: _, _ :: _, ⟨h1, h2, h3, h4⟩ => ⟨h1, Nat.le_trans hb h2, h3, h4.down hb⟩
  | [], _ :: _, h => h.elim
  | _ :: _, [], h => h.elim
theorem CovR.add {w : World} {base g : Nat} {x : Cov} (hb : Bk w g 3 (i64s x.rows).toArray) (hg : base ≤ g) : ∀ {l : List Cov} {gs : List Nat}, CovR w base l gs → g ∉ gs → CovR w base (l ++ [x]) (gs ++ [g])
  | [], [], _, _ => ⟨hb, hg, by simp, trivial⟩
  | _ :: _, g' :: gs, ⟨h1, h2, h3, h4⟩, hn => ⟨h1, h2, by
      intro hm
      rcases List.mem_append.1 hm with hm | hm
      · exact h3 hm
      · simp at hm; subst hm; exact hn (by simp), h4.add hb hg fun hm => hn (by simp [hm])⟩
  | [], _ :: _, h, _ => h.elim
  | _ :: _, [], h, _ => h.elim
theorem covCells_add {x : Cov} {g : Nat} : ∀ {l : List Cov} {gs : List Nat}, l.length = gs.length → covCells (l ++ [x]) (gs ++ [g]) = covCells l gs ++ [.int .i64 x.bay, .slice (some ⟨g, 0, none⟩) x.rows.length x.rows.length]
  | [], [], _ => rfl
  | _ :: l, _ :: gs, h => by simp [covCells, covCells_add (l := l) (gs := gs) (by simpa using h)]
  | [], _ :: _, h => by simp at h
  | _ :: _, [], h => by simp at h
theorem sl_ints' {w : World} {S : Nat → Prop} {g : Nat} {t : TypeId} {l : List Int} (hb : Bk w g t (i64s l).toArray) (hS : S g) : SlT tInt w S (some ⟨g, 0, none⟩) l := by
  refine sl_flat hb ?_ hS
  have : ∀ l : List Int, Flat tInt w S (i64s l) l := by
    intro l
    induction l with
    | nil => rfl
    | cons x l ih => exact ⟨[.int .i64 x], i64s l, rfl, rfl, ih⟩
  simpa using this l
theorem CovR.flat {w : World} {base : Nat} {S : Nat → Prop} : ∀ {l : List Cov} {gs : List Nat}, CovR w base l gs → (∀ g ∈ gs, S g) → Flat tCov w S (covCells l gs) l
  | [], [], _, _ => rfl
  | x :: l, g :: gs, ⟨h1, h2, h3, h4⟩, hS => ⟨[.int .i64 x.bay, .slice (some ⟨g, 0, none⟩) x.rows.length x.rows.length], covCells l gs, rfl, ⟨some ⟨g, 0, none⟩, x.rows.length, rfl, Nat.le_refl _, sl_ints' h1 (hS g (by simp))⟩, h4.flat fun y hy => hS y (by simp [hy])⟩
  | [], _ :: _, h, _ => h.elim
  | _ :: _, [], h, _ => h.elim
/-- Covers of a call's own. -/
structure CovOwn (w : World) (base : Nat) (v : Value) (covs : List Cov) (gs : List Nat) : Prop where
  own : w.ownsRow base 98 2 v covs.length (covCells covs gs)
  rows : CovR w base covs gs
theorem CovOwn.flat {w : World} {base : Nat} {v : Value} {covs : List Cov} {gs : List Nat} (h : CovOwn w base v covs gs) : Flat tCov w (But w v) (covCells covs gs) covs :=
  h.rows.flat fun g hg => by
    obtain ⟨_, h2, cs, h3⟩ := h.rows.lt g hg
    exact ⟨h2, Ne.symm (own_ne h.own h3 (by decide))⟩
theorem CovOwn.ownT {w : World} {base : Nat} {v : Value} {covs : List Cov} {gs : List Nat} (h : CovOwn w base v covs gs) : OwnT tCov 98 w base v covs := ⟨_, h.own, h.flat⟩
theorem CovOwn.below {w w' : World} {base : Nat} {v : Value} {covs : List Cov} {gs : List Nat} (h : CovOwn w base v covs gs) (hb : Below w.heap.size w w') : CovOwn w' base v covs gs :=
  ⟨own_below h.own hb (Nat.le_refl _), h.rows.keep fun g hg => hb.block g (h.rows.lt g hg).2.1⟩
/-- .. while other blocks are written. -/
theorem CovOwn.far {w : World} {base : Nat} {v : Value} {covs : List Cov} {gs : List Nat} (h : CovOwn w base v covs gs) {p : Addr} (hp : p.block < base) (u : Value) : CovOwn (w.setCell p u) base v covs gs :=
  ⟨own_far h.own p u (by intro e; have := (h.own.lt _ e).1; omega), h.rows.keep fun g hg => Below.heap_setCell w p u g (by have := (h.rows.lt g hg).1; omega)⟩
/-- One cover more: its rows were just laid, then the cover was appended. -/
theorem CovOwn.push {w w3 : World} {base : Nat} {v v' : Value} {covs : List Cov} {gs : List Nat} {x : Cov} (h : CovOwn w base v covs gs) (hb : base ≤ w.heap.size)
    (ho : w3.ownsRow base 98 2 v' (covs.length + 1) (covCells covs gs ++ [.int .i64 x.bay, .slice (some ⟨w.heap.size, 0, none⟩) x.rows.length x.rows.length]))
    (o : Obj) (hg : ((w.alloc (.cells (i64s x.rows).toArray 3)).alloc o).grownBy w3 v.ownBlock) : CovOwn w3 base v' (covs ++ [x]) (gs ++ [w.heap.size]) := by
  have h1 := h.below (ba2 w (.cells (i64s x.rows).toArray 3) o)
  have hk : ∀ g ∈ gs, w3.heap[g]? = ((w.alloc (.cells (i64s x.rows).toArray 3)).alloc o).heap[g]? := fun g hg' => by
    obtain ⟨_, h2, cs, h3⟩ := h1.rows.lt g hg'
    exact hg.block g h2 (Ne.symm (own_ne h1.own h3 (by decide)))
  have hn : Bk w3 w.heap.size 3 (i64s x.rows).toArray := by
    have := (Bk.new w 3 (i64s x.rows).toArray).alloc o
    refine this.grown hg ?_
    exact Ne.symm (own_ne h1.own this (by decide))
  refine ⟨by rw [covCells_add h.rows.len, List.length_append, List.length_singleton]; exact ho, (h1.rows.keep hk).add hn hb ?_⟩
  intro hm
  have := (h.rows.lt _ hm).2.1
  omega
/-- All covers that Built may make, up to a bay. -/
def allTo : Nat → List Cov
  | 0 => []
  | b + 1 => allTo b ++ [⟨b, [0, 1]⟩, ⟨b, [2, 3, 4]⟩]
end Go.Proofs.YtmhikcleekfbpaaDoor
namespace Go.Proofs.YtmhikcleekfbpaaDoor
open Go.RowKit

theorem info_ship : (Tryd.prog.info? 32).map (·.size) = some 13 := by kernel_rfl
theorem shp_one (s : Shp) (h : Hd) : (shpA s h).all (·.oneCell') = true := by simp [shpA, Value.oneCell']
theorem results_row1 {P : Program} {fn : Func} {p : Tmp} {ty : TypeId} (h : fn.results = #[.cell p ty]) (tmps : Array Value) (w : World) (g : Nat) (t : TypeId) (cs : Array Value) (d : TypeDesc)
    (hp : tmps.getD p undef = .pointer (some ⟨g, 0, none⟩)) (hg : Bk w g t cs)
    (hu : P.underlying ty = some d) (hd : (match d with | .struct _ | .array _ _ => true | _ => false) = true) (hi : (P.info? ty).map (·.size) = some cs.size) :
    (results fn tmps).run P w = .ok (.agg cs) w := by
  simp only [results, h]
  simp [Sem.run_bind, Result.andThen]
  simp only [Array.getD_eq_getD_getElem?] at hp
  rw [hp]
  simp only [asAddr, Sem.run_pure, run_loadVar_row w g t ty cs (0, 0) d hg hu hd hi]
def zShp : Array Value := shpA (shp0 [] []) (hd0 none 0 none 0)
/-- What the first loop of Built keeps. -/
structure B1 (w wr : World) (g : Nat) (l : List Col) (A1 : Option Addr) (c1 : Nat) : Prop where
  good : Cols l
  own : OwnT tColN 35 wr (g + 2) (.slice A1 l.length c1) l
  cap : l.length ≤ c1 ∧ c1 ≤ maxLen
  kz : Bk wr g 32 zShp
  ks : Bk wr (g + 1) 32 (shpA (shp0 l []) (hd0 A1 c1 none 0))
  be : Below g w wr
theorem B1.on {w wr wx : World} {g : Nat} {l : List Col} {A1 : Option Addr} {c1 : Nat} (h : B1 w wr g l A1 c1) (hb : Below wr.heap.size wr wx) : B1 w wx g l A1 c1 :=
  ⟨h.good, h.own.below hb, h.cap, h.kz.below hb h.kz.lt, h.ks.below hb h.ks.lt, h.be.trans (hb.mono (by have := h.kz.lt; omega))⟩
theorem B1.rd {w wr : World} {g : Nat} {l : List Col} {A1 : Option Addr} {c1 : Nat} (h : B1 w wr g l A1 c1) : ShpR wr (Lt wr.heap.size) (shp0 l []) (hd0 A1 c1 none 0) := by
  obtain ⟨A, c, e, h1, h2, h3⟩ := h.own.ofN.sl
  injection e with e1 _ e3
  subst e1
  exact ⟨h.cap.1, Nat.zero_le _, Nat.zero_le _, Nat.zero_le _, Nat.zero_le _, h.cap.2, by simp [hd0], by simp [hd0], by simp [hd0], by simp [hd0], h3, SlT.nil, SlT.nil, SlT.nil, SlT.nil⟩
theorem B1.cells {w wr : World} {g : Nat} {l : List Col} {A1 : Option Addr} {c1 : Nat} (h : B1 w wr g l A1 c1) :
    wr.cell? ⟨g + 1, 0, none⟩ = some (.slice A1 l.length c1) ∧ wr.cell? ⟨g + 1, 1, none⟩ = some (.slice none 0 0) ∧ wr.cell? ⟨g + 1, 2, none⟩ = some (.int .i64 0) ∧ wr.cell? ⟨g + 1, 3, none⟩ = some (.int .i64 0) ∧ wr.cell? ⟨g + 1, 4, none⟩ = some (.int .i64 0) ∧ wr.cell? ⟨g + 1, 5, none⟩ = some (.int .i64 0) ∧
      wr.cell? ⟨g + 1, 6, none⟩ = some (.slice none 0 0) ∧ wr.cell? ⟨g + 1, 7, none⟩ = some (.slice none 0 0) ∧ wr.cell? ⟨g + 1, 8, none⟩ = some (.slice none 0 0) ∧ wr.cell? ⟨g + 1, 9, none⟩ = some (.int .i64 0) ∧ wr.cell? ⟨g + 1, 10, none⟩ = some (.int .i64 0) ∧ wr.cell? ⟨g + 1, 11, none⟩ = some (.int .i64 0) ∧ wr.cell? ⟨g + 1, 12, none⟩ = some (.int .i64 0) :=
  ⟨h.ks.cell 0, h.ks.cell 1, h.ks.cell 2, h.ks.cell 3, h.ks.cell 4, h.ks.cell 5, h.ks.cell 6, h.ks.cell 7, h.ks.cell 8, h.ks.cell 9, h.ks.cell 10, h.ks.cell 11, h.ks.cell 12⟩
theorem B1.start (w : World) : B1 w ((w.alloc (.cells zShp 32)).alloc (.cells zShp 32)) w.heap.size [] none 0 := by
  refine ⟨⟨by simp, by simp⟩, OwnT.nil, ⟨Nat.le_refl _, by simp⟩, (Bk.new w _ _).alloc _, ?_, ba2 w _ _⟩
  have := Bk.new (w.alloc (.cells zShp 32)) 32 zShp
  simp at this
  exact this
/-- One column more. -/
theorem B1.push {w W w3 : World} {g : Nat} {l : List Col} {A1 A3 : Option Addr} {c1 c3 : Nat} {c : Col} {xs : List Value} (h : B1 w W g l A1 c1) (hc : GoodCol c) (hn : ∀ x ∈ l, findB c.bay c.row c.deck x = false)
    (hf : Flat tColN W (But W (.slice A1 l.length c1)) xs l) (ho : w3.ownsRow (g + 2) 35 12 (.slice A3 (l.length + 1) c3) (l.length + 1) (xs ++ colL c none 0)) (hg : W.grownBy w3 (Value.slice A1 l.length c1).ownBlock)
    (hd : (Value.slice A3 (l.length + 1) c3).ownBlock = (Value.slice A1 l.length c1).ownBlock ∨ ∃ q, (Value.slice A3 (l.length + 1) c3).ownBlock = some q ∧ W.heap.size ≤ q) (hcc : l.length + 1 ≤ c3 ∧ c3 ≤ maxLen) :
    B1 w (w3.setCell ⟨g + 1, 0, none⟩ (.slice A3 (l.length + 1) c3)) g (l ++ [c]) A3 c3 := by
  have hlt := h.own
  obtain ⟨xs', ho', _⟩ := hlt
  have hblk : ∀ k, (Value.slice A1 l.length c1).ownBlock = some k → g + 2 ≤ k := fun k hk => (ho'.lt k hk).1
  have hgz := h.kz.lt
  have kz3 : Bk w3 g 32 zShp := h.kz.grown hg (by intro e; have := hblk g e.symm; omega)
  have ks3 : Bk w3 (g + 1) 32 (shpA (shp0 l []) (hd0 A1 c1 none 0)) := h.ks.grown hg (by intro e; have := hblk (g + 1) e.symm; omega)
  have own3 := OwnT.append1 (x := c) (cs := colL c none 0) hf (rd_colN c hc.plugs _ rfl) ho hg hd
  refine ⟨cols_add h.good hc hn, ?_, by simpa using hcc, kz3.far (by simp) _, ?_, ?_⟩
  · obtain ⟨ys, hy1, hy2⟩ := own3
    rw [List.length_append, List.length_singleton]
    rw [List.length_append, List.length_singleton] at hy1
    have hne : (Value.slice A3 (l.length + 1) c3).ownBlock ≠ some (g + 1) := by
      intro e
      have := (hy1.lt (g + 1) e).1
      omega
    refine ⟨ys, by rw [List.length_append, List.length_singleton]; exact own_far hy1 _ _ hne, ?_⟩
    have conv : ∀ (ys : List Value) (m : List Col) (S S' : Nat → Prop) (W' : World), (∀ c ∈ m, c.plugs = []) → Flat tColN w3 S ys m → Flat tColN W' S' ys m := by
      intro ys m
      induction m generalizing ys with
      | nil => intro S S' W' _ h; exact h
      | cons x m ih =>
        intro S S' W' hp ⟨cs, zs, e, h1, h3⟩
        exact ⟨cs, zs, e, h1, ih zs S S' W' (fun c hc => hp c (by simp [hc])) h3⟩
    exact conv ys _ _ _ _ (fun x hx => ((cols_add h.good hc hn).1 x hx).plugs) hy2
  · have := ks3.set_ 0 (.slice A3 (l.length + 1) c3)
    have e : (shpA (shp0 l []) (hd0 A1 c1 none 0)).setIfInBounds 0 (.slice A3 (l.length + 1) c3) = shpA (shp0 (l ++ [c]) []) (hd0 A3 c3 none 0) := by simp [shpA, shp0, hd0]
    rw [e] at this
    exact this
  · have hb3 : Below g W w3 := ⟨hg.os, hg.tape, hg.output, hg.size, fun k hk => hg.block k (by omega) (by intro e; have := hblk k e.symm; omega)⟩
    exact (h.be.trans hb3).setCell (by simp) _

/-- What the second loop of Built keeps. -/
structure B2 (w wr : World) (g b : Nat) (l : List Col) (covs : List Cov) (A1 : Option Addr) (c1 : Nat) (A2 : Option Addr) (c2 : Nat) (gs : List Nat) : Prop where
  good : Cols l
  short : 1 ≤ l.length ∧ l.length ≤ 12
  own : OwnT tColN 35 wr (g + 2) (.slice A1 l.length c1) l
  cap : l.length ≤ c1 ∧ c1 ≤ maxLen
  cov : CovOwn wr (g + 2) (.slice A2 covs.length c2) covs gs
  cap2 : covs.length ≤ c2 ∧ c2 ≤ maxLen
  kz : Bk wr g 32 zShp
  ks : Bk wr (g + 1) 32 (shpA (shp0 l covs) (hd0 A1 c1 A2 c2))
  be : Below g w wr
  base : g + 2 ≤ wr.heap.size
/-- Columns of Built point to no memory: they stay what they are wherever they are read. -/
theorem flat_any {w W : World} {S S' : Nat → Prop} : ∀ (ys : List Value) (m : List Col), (∀ c ∈ m, c.plugs = []) → Flat tCol w S ys m → Flat tCol W S' ys m := by
  intro ys m
  induction m generalizing ys with
  | nil => intro _ h; exact h
  | cons x m ih =>
    intro hp ⟨cs, zs, e, ⟨A, p, e2, h1, _⟩, h3⟩
    have hx := hp x (by simp)
    exact ⟨cs, zs, e, ⟨A, p, e2, h1, by rw [hx]; exact SlT.nil⟩, ih zs (fun c hc => hp c (by simp [hc])) h3⟩
theorem flat_anyN {w W : World} {S S' : Nat → Prop} : ∀ (ys : List Value) (m : List Col), Flat tColN w S ys m → Flat tColN W S' ys m
  | _, [], h => h
  | _, _ :: m, ⟨cs, zs, e, h1, h3⟩ => ⟨cs, zs, e, h1, flat_anyN zs m h3⟩
theorem own_cols {w W : World} {base : Nat} {v : Value} {l : List Col} (_ : Cols l) (h : OwnT tColN 35 w base v l) (hk : ∀ n xs, w.ownsRow base 35 12 v n xs → W.ownsRow base 35 12 v n xs) : OwnT tColN 35 W base v l := by
  obtain ⟨xs, h1, h2⟩ := h
  exact ⟨xs, hk _ _ h1, flat_anyN xs l h2⟩
theorem B2.cells {w wr : World} {g b : Nat} {l : List Col} {covs : List Cov} {A1 A2 : Option Addr} {c1 c2 : Nat} {gs : List Nat} (h : B2 w wr g b l covs A1 c1 A2 c2 gs) : wr.cell? ⟨g + 1, 1, none⟩ = some (.slice A2 covs.length c2) := h.ks.cell 1
theorem B2.push {w W w3 : World} {g b b' : Nat} {l : List Col} {covs : List Cov} {A1 A2 A3 : Option Addr} {c1 c2 c3 : Nat} {gs : List Nat} {x : Cov} (h : B2 w W g b l covs A1 c1 A2 c2 gs)
    (ho : w3.ownsRow (g + 2) 98 2 (.slice A3 (covs.length + 1) c3) (covs.length + 1) (covCells covs gs ++ [.int .i64 x.bay, .slice (some ⟨W.heap.size, 0, none⟩) x.rows.length x.rows.length]))
    (o : Obj) (hg : ((W.alloc (.cells (i64s x.rows).toArray 3)).alloc o).grownBy w3 (Value.slice A2 covs.length c2).ownBlock) (hcc : covs.length + 1 ≤ c3 ∧ c3 ≤ maxLen) :
    B2 w (w3.setCell ⟨g + 1, 1, none⟩ (.slice A3 (covs.length + 1) c3)) g b' l (covs ++ [x]) A1 c1 A3 c3 (gs ++ [W.heap.size]) := by
  have hblk : ∀ k, (Value.slice A2 covs.length c2).ownBlock = some k → g + 2 ≤ k := fun k hk => (h.cov.own.lt k hk).1
  have hba := ba2 W (.cells (i64s x.rows).toArray 3) o
  have hgz := h.kz.lt
  have hgs := h.ks.lt
  have kz3 : Bk w3 g 32 zShp := ((h.kz.alloc _).alloc _).grown hg (by intro e; have := hblk g e.symm; omega)
  have ks3 : Bk w3 (g + 1) 32 (shpA (shp0 l covs) (hd0 A1 c1 A2 c2)) := ((h.ks.alloc _).alloc _).grown hg (by intro e; have := hblk (g + 1) e.symm; omega)
  have hcov3 := h.cov.push h.base ho o hg
  have hz3 : g + 2 ≤ w3.heap.size := by have := hg.size; simp at this; have := h.base; omega
  refine ⟨h.good, h.short, ?_, h.cap, ?_, by simpa using hcc, kz3.far (by simp) _, ?_, ?_, by simpa [World.setCell] using hz3⟩
  · refine own_cols h.good h.own fun n xs hx => ?_
    have h1 := own_below hx hba (Nat.le_refl _)
    have h2 := h1.kept hg (by
      rcases h1.2 with ⟨e, _⟩ | ⟨g', cap, cur, e, _, hh, _⟩
      · rw [e]; exact .inl rfl
      · rw [e]
        refine .inr ?_
        have := own_ne (own_below h.cov.own hba (Nat.le_refl _)) (show Bk _ g' 35 cur from hh) (by decide)
        simp only [Value.ownBlock] at this ⊢
        exact Ne.symm this)
    exact own_far h2 _ _ (by intro e; have := (h2.lt _ e).1; simp only at this; omega)
  · have := hcov3.far (p := ⟨g + 1, 1, none⟩) (by simp) (.slice A3 (covs.length + 1) c3)
    simpa using this
  · have := ks3.set_ 1 (.slice A3 (covs.length + 1) c3)
    have e : (shpA (shp0 l covs) (hd0 A1 c1 A2 c2)).setIfInBounds 1 (.slice A3 (covs.length + 1) c3) = shpA (shp0 l (covs ++ [x])) (hd0 A1 c1 A3 c3) := by simp [shpA, shp0, hd0]
    rw [e] at this
    exact this
  · have hb3 : Below g ((W.alloc (.cells (i64s x.rows).toArray 3)).alloc o) w3 := ⟨hg.os, hg.tape, hg.output, hg.size, fun k hk => hg.block k (by simp; omega) (by intro e; have := hblk k e.symm; omega)⟩
    exact ((h.be.trans (hba.mono (by omega))).trans hb3).setCell (by simp) _
/-- What Built returns. -/
def BuiltRet (w : World) (e : Ending) (w' : World) : Prop :=
  ∃ (l : List Col) (covs : List Cov) (A1 : Option Addr) (c1 : Nat) (A2 : Option Addr) (c2 : Nat) (gs : List Nat), e = .returned (.agg (shpA (shp0 l covs) (hd0 A1 c1 A2 c2))) ∧ Cols l ∧ (1 ≤ l.length ∧ l.length ≤ 12) ∧ covs.Sublist (allTo 5) ∧
    OwnT tColN 35 w' w.heap.size (.slice A1 l.length c1) l ∧ CovOwn w' w.heap.size (.slice A2 covs.length c2) covs gs ∧ (l.length ≤ c1 ∧ c1 ≤ maxLen) ∧ (covs.length ≤ c2 ∧ c2 ≤ maxLen) ∧ Below w.heap.size w w'

def plCol (p : Nat × Nat × Nat × Bool) : Col :=
  { bay := (p.1 : Int) % 5, row := (p.2.1 : Int) % 5, deck := p.2.2.2, tiers := 2 + (p.2.2.1 : Int) % 4, height := 0, k20 := 500000000, k40 := 500000000, lash := 0, plugs := [], x := 13000 * ((p.1 : Int) % 5) - 26000, y := 2500 * ((p.2.1 : Int) % 5) - 5000, z := if p.2.2.2 then 20000 else 2000 }
theorem plCol_good (p : Nat × Nat × Nat × Bool) : GoodCol (plCol p) := by
  unfold plCol
  constructor <;> simp only <;> omega

end Go.Proofs.YtmhikcleekfbpaaDoor
namespace Go.Proofs.YtmhikcleekfbpaaDoor
open Go.RowKit

theorem mem_pickFrom {α : Type} (p : α → Bool) (d : α) (z : Int) : ∀ (l : List α) (k : Nat), z ∈ pickFrom p l k ↔ ∃ m : Nat, m < l.length ∧ z = ((k + m : Nat) : Int) ∧ p (l.getD m d) = true
  | [], k => by simp [pickFrom]
  | x :: l, k => by
    have ih := mem_pickFrom p d z l (k + 1)
    unfold pickFrom
    constructor
    · intro h
      by_cases hp : p x = true
      · rw [if_pos hp] at h
        rcases List.mem_cons.1 h with h | h
        · exact ⟨0, by simp, by simpa using h, by simpa using hp⟩
        · obtain ⟨m, h1, h2, h3⟩ := ih.1 h
          exact ⟨m + 1, by simpa using h1, by omega, by simpa using h3⟩
      · rw [if_neg hp] at h
        obtain ⟨m, h1, h2, h3⟩ := ih.1 h
        exact ⟨m + 1, by simpa using h1, by omega, by simpa using h3⟩
    · rintro ⟨m, h1, h2, h3⟩
      cases m with
      | zero =>
        have hp : p x = true := by simpa using h3
        rw [if_pos hp]
        exact List.mem_cons.2 (.inl (by simpa using h2))
      | succ m =>
        have : z ∈ pickFrom p l (k + 1) := ih.2 ⟨m, by simpa using h1, by omega, by simpa using h3⟩
        split
        · exact List.mem_cons.2 (.inr this)
        · exact this
theorem mem_pick {α : Type} (p : α → Bool) (d : α) (z : Int) (l : List α) : z ∈ pick p l ↔ ∃ m : Nat, m < l.length ∧ z = (m : Int) ∧ p (l.getD m d) = true := by
  unfold pick
  rw [mem_pickFrom p d z l 0]
  simp
theorem pickFrom_lt {α : Type} (p : α → Bool) : ∀ (l : List α) (k : Nat), (pickFrom p l k).Pairwise (· < ·) ∧ ∀ z ∈ pickFrom p l k, (k : Int) ≤ z
  | [], k => by simp [pickFrom]
  | x :: l, k => by
    have ih := pickFrom_lt p l (k + 1)
    unfold pickFrom
    split
    · refine ⟨List.pairwise_cons.2 ⟨fun z hz => by have := ih.2 z hz; omega, ih.1⟩, fun z hz => ?_⟩
      rcases List.mem_cons.1 hz with h | h
      · omega
      · have := ih.2 z h; omega
    · exact ⟨ih.1, fun z hz => by have := ih.2 z hz; omega⟩
theorem pick_nodup {α : Type} (p : α → Bool) (l : List α) : (pick p l).Nodup := (pickFrom_lt p l 0).1.imp fun h => by omega
theorem pick_nil {α : Type} (p : α → Bool) (l : List α) (d : α) (h : ∀ m, m < l.length → p (l.getD m d) = false) : pick p l = [] := by
  cases hp : pick p l with
  | nil => rfl
  | cons z L =>
    have : z ∈ pick p l := by rw [hp]; simp
    obtain ⟨m, h1, _, h3⟩ := (mem_pick p d z l).1 this
    rw [h m h1] at h3
    cases h3
/-- The first that is wanted. -/
theorem pick_first {α : Type} (p : α → Bool) (l : List α) (d : α) (m : Nat) (hm : m < l.length) (h1 : p (l.getD m d) = true) (h2 : ∀ j, j < m → p (l.getD j d) = false) : ∃ L, pick p l = (m : Int) :: L := by
  have hmem := (mem_pick p d m l).2 ⟨m, hm, rfl, h1⟩
  cases hp : pick p l with
  | nil => rw [hp] at hmem; cases hmem
  | cons z L =>
    have hz : z ∈ pick p l := by rw [hp]; simp
    obtain ⟨j, hj, rfl, hj3⟩ := (mem_pick p d z l).1 hz
    have hord := (pickFrom_lt p l 0).1
    rw [show pickFrom p l 0 = pick p l from rfl, hp] at hord
    rw [hp] at hmem
    rw [List.pairwise_cons] at hord
    rcases List.mem_cons.1 hmem with e | hin
    · exact ⟨L, by rw [e]⟩
    · have := hord.1 _ hin
      have hjm : j < m := by omega
      rw [h2 j hjm] at hj3
      cases hj3
theorem nodup_sub {α : Type} [DecidableEq α] : ∀ {l m : List α}, l.Nodup → (∀ x ∈ l, x ∈ m) → l.length ≤ m.length
  | [], m, _, _ => by simp
  | x :: l, m, hn, hs => by
    rw [List.nodup_cons] at hn
    have hx : x ∈ m := hs x (by simp)
    have := nodup_sub (l := l) (m := m.erase x) hn.2 (fun y hy => by
      rw [List.mem_erase_of_ne (by rintro rfl; exact hn.1 hy)]
      exact hs y (by simp [hy]))
    rw [List.length_erase_of_mem hx] at this
    have h0 : 0 < m.length := List.length_pos_of_mem hx
    simp only [List.length_cons]
    omega
theorem nodup_map_on {α β : Type} {f : α → β} {l : List α} (h : l.Nodup) (hf : ∀ x ∈ l, ∀ y ∈ l, f x = f y → x = y) : (l.map f).Nodup := by
  unfold List.Nodup
  rw [List.pairwise_map]
  exact List.Pairwise.imp_of_mem (fun ha hb hne e => hne (hf _ ha _ hb e)) h
/-- Two columns of one ship with the same place are one. -/
theorem cols_inj {l : List Col} (h : Cols l) {i j : Nat} (hi : i < l.length) (hj : j < l.length) (he : keyC (l.getD i default) = keyC (l.getD j default)) : i = j := by
  have hn := h.2
  have h1 : (l.map keyC)[i]'(by simpa using hi) = (l.map keyC)[j]'(by simpa using hj) := by
    simpa [hi, hj] using he
  exact (List.getElem_inj hn).1 h1
theorem cols_mem {l : List Col} (h : Cols l) {i : Nat} (hi : i < l.length) : GoodCol (l.getD i default) := h.1 _ (getD_memD hi default)
theorem good_i64 {c : Col} (h : GoodCol c) : I64 c.bay ∧ I64 c.row ∧ I64 c.tiers := by
  have := h.bay; have := h.row; have := h.tiers
  unfold I64
  omega
theorem once_of_nodup {L : List (Int × Int × Int)} (h : L.Nodup) : once L = true := by
  unfold once
  rw [List.all_eq_true]
  intro k _
  simpa using List.nodup_iff_count.1 h k
theorem sub_flatMap {α β : Type} (f : α → List β) {l m : List α} (h : l.Sublist m) : (l.flatMap f).Sublist (m.flatMap f) := by
  induction h with
  | slnil => exact List.Sublist.refl _
  | cons a _ ih =>
    rw [List.flatMap_cons]
    exact ih.trans (List.sublist_append_right _ _)
  | cons_cons a _ ih =>
    rw [List.flatMap_cons, List.flatMap_cons]
    exact (List.Sublist.refl _).append ih
theorem all_keys : ((allTo 5).flatMap keysX).Nodup := by decide
theorem all_covs : ∀ x ∈ allTo 5, covOK x = true ∧ 0 ≤ x.bay ∧ x.bay ≤ 4 ∧ x.rows.length ≤ 3 := by decide
theorem good_ok {c : Col} (h : GoodCol c) : colOK c = true := by
  have h1 := h.bay; have h2 := h.row; have h3 := h.tiers; have h4 := h.x; have h5 := h.y; have h6 := h.z
  unfold colOK spans
  rw [h.plugs, h.height, h.k20, h.k40, h.lash, h6]
  simp [inB]
  split <;> omega
theorem built_few {l : List Col} {covs : List Cov} (h : Cols l) (hl : l.length ≤ 12) (hc : covs.Sublist (allTo 5)) : Few (shp0 l covs) := by
  refine ⟨by show l.length ≤ 1000000; omega, ?_, fun x hx => ?_, fun x hx => ?_⟩
  · have := hc.length_le
    have h2 : (allTo 5).length = 10 := by decide
    show covs.length ≤ 1000000
    omega
  · have := (all_covs x (hc.subset hx)).2.2.2
    omega
  · rw [(h.1 x hx).plugs]; simp
theorem built_ints {l : List Col} {covs : List Cov} (h : Cols l) : Ints (shp0 l covs) := ⟨fun c hc => good_i64 (h.1 c hc)⟩
theorem built_rows {l : List Col} {covs : List Cov} (h : Cols l) : ∀ c ∈ (shp0 l covs).cols, I64 c.row := fun c hc => (good_i64 (h.1 c hc)).2.1
theorem built_right {l : List Col} {covs : List Cov} (h : Cols l) (hl : 1 ≤ l.length ∧ l.length ≤ 12) (hc : covs.Sublist (allTo 5)) : rightF (shp0 l covs) = true := by
  have hcl := hc.length_le
  have h10 : (allTo 5).length = 10 := by decide
  unfold rightF
  rw [show decide (1 ≤ (shp0 l covs).cols.length ∧ (shp0 l covs).cols.length ≤ 200 ∧ (shp0 l covs).covs.length ≤ 40) = true by
    rw [decide_eq_true_iff]
    refine ⟨hl.1, ?_, ?_⟩
    · show l.length ≤ 200; omega
    · show covs.length ≤ 40; omega]
  rw [show (shp0 l covs).cols.all colOK = true by rw [List.all_eq_true]; exact fun c hc => good_ok (h.1 c hc)]
  rw [show (shp0 l covs).covs.all covOK = true by rw [List.all_eq_true]; exact fun x hx => (all_covs x (hc.subset hx)).1]
  rw [show once (keysOf (shp0 l covs)) = true by
    apply once_of_nodup
    unfold keysOf
    rw [List.nodup_append]
    refine ⟨h.2, (sub_flatMap keysX hc).nodup all_keys, fun a ha b hb e => ?_⟩
    subst e
    obtain ⟨c, hcm, rfl⟩ := List.mem_map.1 ha
    obtain ⟨x, hx, hk⟩ := List.mem_flatMap.1 hb
    unfold keysX at hk
    obtain ⟨r, hr, e⟩ := List.mem_map.1 hk
    unfold keyC at e
    simp only [Prod.mk.injEq] at e
    have := e.2.2
    split at this <;> omega]
  rfl
/-- Who is beside whom. -/
theorem besB_symm (a c : Col) : besB a c = besB c a := by
  unfold besB
  rw [Bool.eq_iff_iff]
  simp
  constructor
  · rintro ⟨h1, h2, h3⟩; exact ⟨h1.symm, h2.symm, by omega⟩
  · rintro ⟨h1, h2, h3⟩; exact ⟨h1.symm, h2.symm, by omega⟩
theorem besB_iff (a c : Col) : besB a c = true ↔ c.bay = a.bay ∧ c.deck = a.deck ∧ (c.row = a.row + 1 ∨ c.row = a.row - 1) := by
  unfold besB
  simp
  intro _ _
  omega
theorem beside_mem {l : List Col} {covs : List Cov} {i : Nat} (hi : i < l.length) (z : Int) : z ∈ besideF (shp0 l covs) i ↔ ∃ m : Nat, m < l.length ∧ z = (m : Int) ∧ besB (l.getD i default) (l.getD m default) = true := by
  have : besideF (shp0 l covs) i = pick (besB (l.getD i default)) l := by
    unfold besideF
    rw [if_neg (by show ¬ ((i : Int) < 0 ∨ (l.length : Int) ≤ (i : Int)); omega), Int.toNat_natCast]
    rfl
  rw [this, mem_pick _ default]
theorem beside_two {l : List Col} {covs : List Cov} (h : Cols l) {i : Nat} (hi : i < l.length) : (besideF (shp0 l covs) i).length ≤ 2 := by
  have he : besideF (shp0 l covs) i = pick (besB (l.getD i default)) l := by
    unfold besideF
    rw [if_neg (by show ¬ ((i : Int) < 0 ∨ (l.length : Int) ≤ (i : Int)); omega), Int.toNat_natCast]
    rfl
  generalize ha : l.getD i default = a at *
  have hnd := pick_nodup (besB a) l
  have hmem : ∀ z ∈ pick (besB a) l, ∃ m : Nat, m < l.length ∧ z = (m : Int) ∧ besB a (l.getD m default) = true := fun z hz => (mem_pick _ default z l).1 hz
  rw [he]
  have hk : ((pick (besB a) l).map fun z => keyC (l.getD z.toNat default)).Nodup := by
    refine nodup_map_on hnd fun x hx y hy e => ?_
    obtain ⟨m, hm, rfl, _⟩ := hmem x hx
    obtain ⟨n, hn, rfl, _⟩ := hmem y hy
    simp only [Int.toNat_natCast] at e
    rw [cols_inj h hm hn e]
  have hs : ∀ k ∈ (pick (besB a) l).map fun z => keyC (l.getD z.toNat default), k ∈ [(a.bay, a.row + 1, if a.deck then (1 : Int) else 0), (a.bay, a.row - 1, if a.deck then (1 : Int) else 0)] := by
    intro k hk
    obtain ⟨z, hz, rfl⟩ := List.mem_map.1 hk
    obtain ⟨m, hm, rfl, hb⟩ := hmem z hz
    rw [Int.toNat_natCast]
    obtain ⟨h1, h2, h3⟩ := (besB_iff _ _).1 hb
    unfold keyC
    rw [h1, h2]
    rcases h3 with h3 | h3 <;> rw [h3] <;> simp
  have := nodup_sub hk hs
  simpa using this
theorem apart_same {l : List Col} {covs : List Cov} (h : Cols l) {i k : Nat} (hi : i < l.length) (hk : k < l.length) :
    apartF (shp0 l covs) i k = (if (l.getD i default).bay < (l.getD k default).bay then (l.getD k default).bay - (l.getD i default).bay else (l.getD i default).bay - (l.getD k default).bay, true) := by
  have h1 := (cols_mem h hi).bay
  have h2 := (cols_mem h hk).bay
  unfold apartF
  rw [if_neg (by show ¬ (((i : Int) < 0 ∨ (k : Int) < 0) ∨ ((l.length : Int) ≤ (i : Int) ∨ (l.length : Int) ≤ (k : Int))); omega)]
  simp only [Int.toNat_natCast]
  show (if (((l.getD i default).bay < 0 ∨ (l.getD k default).bay < 0) ∨ (40 ≤ (l.getD i default).bay ∨ 40 ≤ (l.getD k default).bay)) then ((0 : Int), false) else _) = _
  rw [if_neg (by omega)]
  show (if (l.getD i default).bay < (l.getD k default).bay then _ else _) = _
  split <;> rfl
end Go.Proofs.YtmhikcleekfbpaaDoor
namespace Go.Proofs.YtmhikcleekfbpaaDoor
open Go.RowKit

theorem ownT_sl {α : Type} {T : Ty α} {e : TypeId} {w : World} {base : Nat} {A : Option Addr} {n c : Nat} {l : List α} (h : OwnT T e w base (.slice A n c) l) : SlT T w (Lt w.heap.size) A l := by
  obtain ⟨A', c', e, _, _, h3⟩ := h.sl
  injection e with e1 _ _
  subst e1
  exact h3
theorem built_rd {w : World} {base : Nat} {l : List Col} {covs : List Cov} {A1 A2 : Option Addr} {c1 c2 : Nat} {gs : List Nat} (h1 : OwnT tCol 35 w base (.slice A1 l.length c1) l) (h2 : CovOwn w base (.slice A2 covs.length c2) covs gs)
    (h3 : l.length ≤ c1 ∧ c1 ≤ maxLen) (h4 : covs.length ≤ c2 ∧ c2 ≤ maxLen) : ShpR w (Lt w.heap.size) (shp0 l covs) (hd0 A1 c1 A2 c2) :=
  ⟨h3.1, h4.1, Nat.zero_le _, Nat.zero_le _, Nat.zero_le _, h3.2, h4.2, by simp [hd0], by simp [hd0], by simp [hd0], ownT_sl h1, ownT_sl h2.ownT, SlT.nil, SlT.nil, SlT.nil⟩
/-- A ship that Built makes. -/
structure Bu (s : Shp) : Prop where
  cols : Cols s.cols
  one : 1 ≤ s.cols.length
  few : s.cols.length ≤ 12
  sub : s.covs.Sublist (allTo 5)
  eq : s = shp0 s.cols s.covs
theorem Bu.right {s : Shp} (h : Bu s) : rightF s = true := by rw [h.eq]; exact built_right h.cols ⟨h.one, h.few⟩ h.sub
theorem Bu.Few {s : Shp} (h : Bu s) : Few s := by rw [h.eq]; exact built_few h.cols h.few h.sub
theorem Bu.ints {s : Shp} (h : Bu s) : Ints s := by rw [h.eq]; exact built_ints h.cols
theorem Bu.rows {s : Shp} (h : Bu s) : ∀ c ∈ s.cols, I64 c.row := by rw [h.eq]; exact built_rows h.cols
theorem Bu.short {s : Shp} (h : Bu s) : s.cols.length ≤ 1000000 := by have := h.few; omega
theorem Bu.col {s : Shp} (h : Bu s) {i : Nat} (hi : i < s.cols.length) : GoodCol (s.cols.getD i default) := cols_mem h.cols hi
theorem Bu.beside {s : Shp} (h : Bu s) {i : Nat} (hi : i < s.cols.length) (z : Int) : z ∈ besideF s i ↔ ∃ m : Nat, m < s.cols.length ∧ z = (m : Int) ∧ besB (s.cols.getD i default) (s.cols.getD m default) = true := by
  have := beside_mem (covs := s.covs) hi z
  rw [← h.eq] at this
  exact this
theorem Bu.two {s : Shp} (h : Bu s) {i : Nat} (hi : i < s.cols.length) : (besideF s i).length ≤ 2 := by
  have := beside_two (covs := s.covs) h.cols hi
  rw [← h.eq] at this
  exact this
def dist (a b : Col) : Int := if a.bay < b.bay then b.bay - a.bay else a.bay - b.bay
theorem Bu.apart {s : Shp} (h : Bu s) {i k : Nat} (hi : i < s.cols.length) (hk : k < s.cols.length) : apartF s i k = (dist (s.cols.getD i default) (s.cols.getD k default), true) := by
  have := apart_same (covs := s.covs) h.cols hi hk
  rw [← h.eq] at this
  exact this
/-- What Built returns, as a ship of its own. -/
def BuRet (w : World) (e : Ending) (w' : World) : Prop :=
  ∃ (s : Shp) (h : Hd) (gs : List Nat), e = .returned (.agg (shpA s h)) ∧ Bu s ∧ OwnT tCol 35 w' w.heap.size (.slice h.A1 s.cols.length h.c1) s.cols ∧ CovOwn w' w.heap.size (.slice h.A2 s.covs.length h.c2) s.covs gs ∧ ShpR w' (Lt w'.heap.size) s h ∧ Below w.heap.size w w'
/-- The same, and the columns' plugs are nil. -/
def BuRetN (w : World) (e : Ending) (w' : World) : Prop :=
  ∃ (s : Shp) (h : Hd) (gs : List Nat), e = .returned (.agg (shpA s h)) ∧ Bu s ∧ OwnT tColN 35 w' w.heap.size (.slice h.A1 s.cols.length h.c1) s.cols ∧ CovOwn w' w.heap.size (.slice h.A2 s.covs.length h.c2) s.covs gs ∧ ShpR w' (Lt w'.heap.size) s h ∧ Below w.heap.size w w'
theorem drew_below (W : World) (m : Nat) : Below W.heap.size W (W.drewN m) := below_drewN (Below.refl _ _) m
theorem any_take {α : Type} (p : α → Bool) {l : List α} {k : Nat} (h : k < l.length) (d : α) : (l.take (k + 1)).any p = ((l.take k).any p || p (l.getD k d)) := by
  rw [List.take_succ_eq_append_getElem h, List.any_append]; simp [h]

end Go.Proofs.YtmhikcleekfbpaaDoor
namespace Go.Proofs.YtmhikcleekfbpaaDoor
open Go.ChangeShapes Go.WideShapes Go.ChangeAt Go.RowKit Go.Deep

theorem own : ownKnob Tryd.prog.godebug = none := by kernel_rfl
theorem laidOut : laidOutB Tryd.prog = true := by kernel_rfl
/-- Values of type t read as T says. -/
def Opens {α : Type} {H : Type} (enc : TypeId × Value → H) (W : World) (T : Ty α) (t : TypeId) (Q : α → Prop) : Prop :=
  ∀ (fuel : Nat) (cs : List Value) (x : DataW H × List MemPlace), DataW.trod enc Tryd.prog W 0 (fun _ => true) true fuel t cs = some x → ∃ a, T.rd W (Lt W.heap.size) cs a ∧ Q a
theorem cellsI : Tryd.prog.cellsOf 3 = 1 := by kernel_rfl
theorem cellsB : Tryd.prog.cellsOf 4 = 1 := by kernel_rfl
theorem cells8 : Tryd.prog.cellsOf 5 = 1 := by kernel_rfl
section
variable {H : Type} {enc : TypeId × Value → H} {W : World}
theorem opens_int : Opens enc W tInt 3 I64 := fun fuel cs x h => by
  obtain ⟨n, rfl, _, hw⟩ := DataW.trod_int Tryd.underlying3 h
  exact ⟨n, rfl, bounds_i64 hw⟩
/-- A list out of a list of what is known of each place. -/
theorem pick_list {α : Type} (d : α) : ∀ (n : Nat) (R : Nat → α → Prop), (∀ i, i < n → ∃ a, R i a) → ∃ l : List α, l.length = n ∧ ∀ i, i < n → R i (l.getD i d)
  | 0, _, _ => ⟨[], rfl, fun i hi => absurd hi (by omega)⟩
  | n + 1, R, h => by
    obtain ⟨l, hl, hr⟩ := pick_list d n R fun i hi => h i (by omega)
    obtain ⟨a, ha⟩ := h n (by omega)
    refine ⟨l ++ [a], by simp [hl], fun i hi => ?_⟩
    by_cases e : i < n
    · have := hr i e
      simp only [List.getD_eq_getElem?_getD] at this ⊢
      rw [List.getElem?_append_left (by omega)]
      exact this
    · have : i = n := by omega
      subst this
      rw [← hl]
      simpa [hl] using ha
theorem open_slT {α : Type} {T : Ty α} {t e : TypeId} {Q : α → Prop} [Inhabited α] (ht : Tryd.prog.underlying t = some (.slice e)) (hk : Tryd.prog.cellsOf e = T.k) (hel : Opens enc W T e Q)
    {fuel : Nat} {cs : List Value} {x : DataW H × List MemPlace} (h : DataW.trod enc Tryd.prog W 0 (fun _ => true) true fuel t cs = some x) :
    ∃ (A : Option Addr) (c : Nat) (l : List α), cs = [.slice A l.length c] ∧ l.length ≤ c ∧ c ≤ maxLen ∧ SlT T W (Lt W.heap.size) A l ∧ ∀ a ∈ l, Q a := by
  rcases open_slice ht h with ⟨rfl, _⟩ | ⟨a, len, cap, m, n, D, Pl, rfl, _, hl, hm, hmm, _, hi⟩
  · exact ⟨none, 0, [], rfl, Nat.le_refl _, by simp, SlT.nil, by simp⟩
  · simp only [if_true] at hmm
    subst hmm
    rw [hk] at hi
    obtain ⟨l, hll, hR⟩ := pick_list (default : α) len (fun i x => ∃ cs', (∀ j u, cs'[j]? = some u → W.cell? (a.add (i * T.k + j)) = some u) ∧ T.rd W (Lt W.heap.size) cs' x ∧ Q x) fun i hil => by
      obtain ⟨cs', hc, ht'⟩ := hi i (by omega)
      obtain ⟨_, hcl, hat⟩ := World.cells?_some hc
      obtain ⟨x, hx, hq⟩ := hel n cs' _ ht'
      refine ⟨x, cs', fun j u hu => ?_, hx, hq⟩
      have hj : j < T.k := by rw [← hcl]; exact (List.getElem?_eq_some_iff.1 hu).1
      rw [← add_add, hat j hj, hu]
    subst hll
    refine ⟨some a, m, l, rfl, by omega, by omega, fun hn => ?_, fun x hx => ?_⟩
    · have hp : 0 < l.length := by cases l with | nil => exact absurd rfl hn | cons x l => simp
      obtain ⟨b, off, spot⟩ := a
      obtain ⟨cs0, hc0, hrd0, _⟩ := hR 0 hp
      have hl0 := T.len hrd0
      have hk0 := T.pos
      have hcell0 := hc0 0 (cs0[0]'(by omega)) (List.getElem?_eq_getElem _)
      have hspot : spot = none := by simpa [Addr.add] using World.cell?_spot hcell0
      subst hspot
      refine ⟨b, off, rfl, ?_, fun i x hx => ?_⟩
      · rw [add_mk] at hcell0
        exact block_lt_of_cell hcell0
      · have hil := (List.getElem?_eq_some_iff.1 hx).1
        obtain ⟨cs', hc', hrd', _⟩ := hR i hil
        have hxe : l.getD i default = x := by simp [hx]
        rw [hxe] at hrd'
        refine ⟨cs', hrd', fun j u hu => ?_⟩
        have := hc' j u hu
        rw [add_mk] at this
        rw [Nat.add_assoc]
        exact this
    · obtain ⟨i, hil, rfl⟩ := List.getElem_of_mem hx
      obtain ⟨_, _, _, hq⟩ := hR i hil
      simpa [hil] using hq
theorem opens_list {α : Type} {T : Ty α} {t e : TypeId} {Q : α → Prop} [Inhabited α] (ht : Tryd.prog.underlying t = some (.slice e)) (hk : Tryd.prog.cellsOf e = T.k) (hel : Opens enc W T e Q) : Opens enc W (tList T) t (fun l => ∀ a ∈ l, Q a) := fun fuel cs x h => by
  obtain ⟨A, c, l, rfl, h1, h2, h3, h4⟩ := open_slT ht hk hel h
  exact ⟨l, ⟨A, c, rfl, h1, h3⟩, h4⟩
end
end Go.Proofs.YtmhikcleekfbpaaDoor
