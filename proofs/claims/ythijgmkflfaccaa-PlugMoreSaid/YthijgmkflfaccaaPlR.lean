/-
  The walk of twistlocklaw12.Plugged.
-/
import Derived.Test.YthijgmkflfaccaaPlQ
import Derived.Deep.RegionLaw
namespace Go.Proofs.Ythijgmkflfaccaa
open Go.RowKit

/-- Columns whose plugs are nil where there are none. -/
def tColM : Ty Col where
  k := 12
  pos := by decide
  rd := fun w S cs c => ∃ A p, cs = colL c A p ∧ c.plugs.length ≤ p ∧ SlT tInt w S A c.plugs ∧ (c.plugs = [] → A = none ∧ p = 0)
  len := by rintro _ _ _ _ ⟨A, c, rfl, _⟩; rfl
  one := by rintro _ _ _ _ ⟨A, c, rfl, _⟩; rfl
  keep := by rintro _ _ _ _ _ ⟨A, c, rfl, h1, h2, h3⟩ hk; exact ⟨A, c, rfl, h1, h2.keep hk, h3⟩
  more := by rintro _ _ _ _ _ ⟨A, c, rfl, h1, h2, h3⟩ hk; exact ⟨A, c, rfl, h1, h2.more hk, h3⟩
theorem Flat.toM {w : World} {S : Nat → Prop} : ∀ {xs : List Value} {l : List Col}, Flat tColN w S xs l → Flat tColM w S xs l
  | _, [], h => h
  | _, _ :: _, ⟨cs, ys, e, h1, h2⟩ => ⟨cs, ys, e, ⟨none, 0, h1.1, by rw [h1.2]; simp, by rw [h1.2]; exact SlT.nil, fun _ => ⟨rfl, rfl⟩⟩, h2.toM⟩
theorem Flat.ofM {w : World} {S : Nat → Prop} : ∀ {xs : List Value} {l : List Col}, Flat tColM w S xs l → Flat tCol w S xs l
  | _, [], h => h
  | _, _ :: _, ⟨cs, ys, e, ⟨A, p, h1, h2, h3, _⟩, h4⟩ => ⟨cs, ys, e, ⟨A, p, h1, h2, h3⟩, h4.ofM⟩
/-- Behind the result's block, below n, and neither the columns' block nor the ship's. -/
def Sp (r n b g x : Nat) : Prop := r < x ∧ x < n ∧ x ≠ b ∧ x ≠ g
theorem Sp.up {r n n' b g : Nat} (h : n ≤ n') : ∀ x, Sp r n b g x → Sp r n' b g x := fun _ ⟨h1, h2, h3⟩ => ⟨h1, Nat.lt_of_lt_of_le h2 h, h3⟩
/-- The ship in its variable, between two columns. -/
structure PW (w V : World) (g b cc : Nat) (s : Shp) (h : Hd) (l : List Col) : Prop where
  bk : Bk V g 37 (shpA { s with cols := l } { h with A1 := some ⟨b, 0, none⟩, c1 := cc })
  res : Bk V w.heap.size 37 zS
  own : ∃ xs, V.ownsRow w.heap.size 66 12 (.slice (some ⟨b, 0, none⟩) l.length cc) l.length xs ∧ Flat tColM V (Sp w.heap.size V.heap.size b g) xs l
  cov : SlT tCov V (Sp w.heap.size g b g) h.A2 s.covs
  be : Below w.heap.size w V
  rb : w.heap.size < b
  bg : b < g
  gv : g < V.heap.size
  lc : l.length ≤ cc
  cm : cc ≤ maxLen
/-- The same, while plugs are appended to column k; V: the world in which that began. -/
structure PV (w V W : World) (g b cc : Nat) (s : Shp) (h : Hd) (l : List Col) (k : Nat) (pl : List Int) : Prop where
  bk : Bk W g 37 (shpA { s with cols := l } { h with A1 := some ⟨b, 0, none⟩, c1 := cc })
  res : Bk W w.heap.size 37 zS
  own : ∃ xs vp, W.ownsRow w.heap.size 66 12 (.slice (some ⟨b, 0, none⟩) l.length cc) l.length xs ∧ xs[k * 12 + 8]? = some vp ∧ Flat tColM W (Sp w.heap.size V.heap.size b g) (xs.set (k * 12 + 8) (.slice none 0 0)) l ∧
    OwnT tInt 3 W V.heap.size vp pl ∧ (pl = [] → vp = .slice none 0 0)
  cov : SlT tCov W (Sp w.heap.size g b g) h.A2 s.covs
  be : Below w.heap.size w W
  rb : w.heap.size < b
  bg : b < g
  gv : g < V.heap.size
  vw : V.heap.size ≤ W.heap.size
  lc : l.length ≤ cc
  cm : cc ≤ maxLen
theorem set_same_at {α : Type} {l : List α} {i : Nat} {v : α} (h : l[i]? = some v) : l.set i v = l := by
  apply List.ext_getElem?
  intro j
  rw [List.getElem?_set]
  split
  · rename_i e; subst e
    obtain ⟨h1, h2⟩ := List.getElem?_eq_some_iff.1 h
    simp [h1, h2]
  · rfl
section
variable {w V W : World} {g b cc : Nat} {s : Shp} {h : Hd} {l : List Col}
theorem PW.start {k : Nat} {x : Col} (r : PW w V g b cc s h l) (hx : l[k]? = some x) (hp : x.plugs = []) : PV w V V g b cc s h l k [] := by
  obtain ⟨xs, ho, hf⟩ := r.own
  obtain ⟨cs, ⟨A, p, rfl, h1, h2, h3⟩, hc⟩ := hf.at_ hx
  obtain ⟨rfl, rfl⟩ := h3 hp
  have h8 : xs[k * 12 + 8]? = some (.slice none 0 0) := by
    have := hc 8 (.slice none x.plugs.length 0) rfl
    rw [hp] at this
    exact this
  refine ⟨r.bk, r.res, ⟨xs, _, ho, h8, ?_, OwnT.nil, fun _ => rfl⟩, r.cov, r.be, r.rb, r.bg, r.gv, Nat.le_refl _, r.lc, r.cm⟩
  rw [set_same_at h8]
  exact hf
theorem PV.stop {k : Nat} {x : Col} {pl : List Int} (r : PV w V W g b cc s h l k pl) (hx : l[k]? = some x) (hp : x.plugs = []) : PW w W g b cc s h (l.set k { x with plugs := pl }) := by
  obtain ⟨xs, vp, ho, h8, hf, hw, hn⟩ := r.own
  obtain ⟨A, c, rfl, hc1, hc2, _⟩ := OwnT.sl hw
  have hS : SlT tInt W (Sp w.heap.size W.heap.size b g) A pl := by
    intro hne
    obtain ⟨ys, hy, hyf⟩ := hw
    obtain ⟨A', c', e, _, _, hs⟩ := OwnT.sl ⟨ys, hy, hyf⟩
    injection e with e1 _ _
    subst e1
    obtain ⟨q, off, e, hq, hcell⟩ := hs hne
    subst e
    have hlt := hy.lt q rfl
    refine ⟨q, off, rfl, ⟨?_, hq, ?_, ?_⟩, hcell⟩
    · have := r.rb; have := r.bg; have := r.gv; omega
    · have := r.bg; have := r.gv; omega
    · have := r.gv; omega
  have hset := (hf.more (Sp.up r.vw)).set (i := k) (x' := { x with plugs := pl }) (j := 8) (u := .slice A pl.length c) hx (by decide) (by
    rintro cs ⟨A0, p0, rfl, q1, q2, q3⟩
    refine ⟨A, c, rfl, hc1, hS, fun e => ?_⟩
    have := hn e
    injection this with e1 _ e3
    exact ⟨e1, e3⟩)
  rw [show tColM.k = 12 from rfl, List.set_set, set_same_at h8] at hset
  have hlen : (l.set k { x with plugs := pl }).length = l.length := List.length_set
  refine ⟨?_, r.res, ⟨xs, by rw [hlen]; exact ho, hset⟩, r.cov, r.be, r.rb, r.bg, Nat.lt_of_lt_of_le r.gv r.vw, by rw [hlen]; exact r.lc, r.cm⟩
  have e : shpA { s with cols := l.set k { x with plugs := pl } } { h with A1 := some ⟨b, 0, none⟩, c1 := cc } = shpA { s with cols := l } { h with A1 := some ⟨b, 0, none⟩, c1 := cc } := by unfold shpA; simp
  rw [e]; exact r.bk
theorem own_blkP {e : TypeId} {k : Nat} {w : World} {base n g : Nat} {v : Value} {xs : List Value} (ho : w.ownsRow base e k v n xs) (hg : v.ownBlock = some g) : ∃ cs, Bk w g e cs := by
  rcases ho.2 with ⟨rfl, _⟩ | ⟨g', cap, cur, rfl, _, hh, _⟩
  · cases hg
  · simp only [Value.ownBlock, Option.some.injEq] at hg
    subst hg
    exact ⟨cur, hh⟩
/-- What is read of a column while plugs are appended to it. -/
theorem PV.cells {k : Nat} {x : Col} {pl : List Int} (r : PV w V W g b cc s h l k pl) (hx : l[k]? = some x) :
    W.cell? ⟨b, k * 12 + 3, none⟩ = some (.int .i64 x.tiers) ∧ ∃ A c, W.cell? ⟨b, k * 12 + 8, none⟩ = some (.slice A pl.length c) ∧ W.frozen? ⟨b, k * 12 + 8, none⟩ = false ∧ (∃ cs, Bk W b 66 cs) ∧ ∃ ys, W.ownsRow V.heap.size 3 1 (.slice A pl.length c) pl.length ys ∧ Flat tInt W (But W (.slice A pl.length c)) ys pl := by
  obtain ⟨xs, vp, ho, h8, hf, hw, hn⟩ := r.own
  obtain ⟨A, c, rfl, _, _, _⟩ := OwnT.sl hw
  obtain ⟨cs, ⟨A0, p0, rfl, _⟩, hc⟩ := hf.at_ hx
  have h3 := hc 3 (.int .i64 x.tiers) rfl
  have h3' : xs[k * 12 + 3]? = some (.int .i64 x.tiers) := by
    rw [List.getElem?_set] at h3
    rw [if_neg (by simp [tColM])] at h3
    exact h3
  have c3 := ho.cells (g := b) rfl (k * 12 + 3) _ h3'
  have c8 := ho.cells (g := b) rfl (k * 12 + 8) _ h8
  rw [add_mk, Nat.zero_add] at c3 c8
  exact ⟨c3, A, c, c8, ho.frozenAt _, own_blkP ho rfl, hw⟩
theorem plain_int : Plain tInt := fun h => h
/-- One plug more. -/
theorem PV.push {k : Nat} {x : Col} {pl : List Int} {A : Option Addr} {c : Nat} {ys : List Value} {t : Int} {W3 : World} {v' : Value} (r : PV w V W g b cc s h l k pl) (hx : l[k]? = some x)
    (h8 : W.cell? ⟨b, k * 12 + 8, none⟩ = some (.slice A pl.length c)) (hy : W.ownsRow V.heap.size 3 1 (.slice A pl.length c) pl.length ys) (hyf : Flat tInt W (But W (.slice A pl.length c)) ys pl)
    {W1 : World} (h1 : Below W.heap.size W W1) (ho3 : W3.ownsRow V.heap.size 3 1 v' (pl.length + 1) (ys ++ [.int .i64 t])) (hg3 : W1.grownBy W3 (Value.slice A pl.length c).ownBlock) :
    PV w V (W3.setCell ⟨b, k * 12 + 8, none⟩ v') g b cc s h l k (pl ++ [t]) := by
  obtain ⟨xs, vp, ho, q8, hf, hw, hn⟩ := r.own
  have hrb := r.rb; have hbg := r.bg; have hgv := r.gv; have hvw := r.vw
  have hge : ∀ q, (Value.slice A pl.length c).ownBlock = some q → V.heap.size ≤ q := fun q hq => (hy.lt q hq).1
  have hkeep : ∀ x o, x < V.heap.size → x ≠ b → (W3.setCell ⟨b, k * 12 + 8, none⟩ v').cell? ⟨x, o, none⟩ = W.cell? ⟨x, o, none⟩ := fun x o h1' h2' => by
    rw [cell_far (by simpa using h2')]
    have hx1 : x < W1.heap.size := Nat.lt_of_lt_of_le h1' (Nat.le_trans hvw h1.size)
    rw [World.cell?_of_block (hg3.block x hx1 (fun e => by have := hge x e.symm; omega))]
    exact h1.cell (p := ⟨x, o, none⟩) (Nat.lt_of_lt_of_le h1' hvw)
  have hne3 : v'.ownBlock ≠ some b := fun e => by have := (ho3.lt b e).1; omega
  have hlenx : xs.length = l.length * 12 := by
    have := hf.len
    rw [List.length_set] at this
    exact this
  have hki : k < l.length := by
    rcases Nat.lt_or_ge k l.length with h' | h'
    · exact h'
    · rw [List.getElem?_eq_none h'] at hx; cases hx
  have ho1 := own_below ho h1 (Nat.le_refl _)
  have ho2 := ho1.kept hg3 (.inr fun e => by
    have e' : some b = (Value.slice A pl.length c).ownBlock := e
    have := hge b e'.symm
    omega)
  obtain ⟨ho4, _⟩ := ho2.stored (k * 12 + 8) v'
  have hbe : Below w.heap.size w (W3.setCell ⟨b, k * 12 + 8, none⟩ v') := by
    have b1 := r.be.trans (h1.mono r.be.size)
    have b2 : Below w.heap.size W1 W3 := ⟨hg3.os, hg3.tape, hg3.output, hg3.size, fun i hi => hg3.block i (Nat.lt_of_lt_of_le hi b1.size) (fun e => by have := hge i e.symm; omega)⟩
    exact (b1.trans b2).setCell (p := ⟨b, k * 12 + 8, none⟩) (by show w.heap.size ≤ b; omega) _
  have hbk : ∀ {q : Nat} {ty : TypeId} {cs : Array Value}, Bk W q ty cs → q < V.heap.size → q ≠ b → Bk (W3.setCell ⟨b, k * 12 + 8, none⟩ v') q ty cs := fun hq h1' h2' =>
    ((hq.below h1 hq.lt).grown hg3 (fun e => by have := hge _ e.symm; omega)).far (p := ⟨b, k * 12 + 8, none⟩) h2' _
  refine ⟨hbk r.bk hgv (by omega), hbk r.res (by omega) (by omega), ⟨xs.set (k * 12 + 8) v', v', ho4, ?_, ?_, ?_, fun e => by simp at e⟩, ?_, hbe, hrb, hbg, hgv, ?_, r.lc, r.cm⟩
  · rw [List.getElem?_set_self (by rw [hlenx]; omega)]
  · rw [List.set_set]
    exact hf.keep fun x o hS => hkeep x o hS.2.1 hS.2.2.1
  · refine ⟨ys ++ [.int .i64 t], by rw [List.length_append]; exact own_far ho3 _ _ hne3, ?_⟩
    exact (hyf.append (.single (cs := [.int .i64 t]) (x := t) rfl)).plain plain_int
  · exact r.cov.keep fun x o hS => hkeep x o (by have := hS.2.1; omega) hS.2.2.1
  · have e1 := hg3.size
    have e2 := h1.size
    have e3 : (W3.setCell ⟨b, k * 12 + 8, none⟩ v').heap.size = W3.heap.size := by simp [World.setCell]
    rw [e3]
    omega
end
/-- A bit of a number. -/
def bitOf (p n : Nat) : Bool := bits BinOp.and IntKind.u64 ((p : Int) / 2 ^ n) 1 == 1
/-- What Plugged returns. -/
def PlgRet (bt : Nat → Bool) (w : World) (e : Ending) (w' : World) : Prop :=
  ∃ (s : Shp) (h : Hd) (v1 v2 : Value) (bs : List Bx) (st : List Stw), e = .returned (.tuple #[.agg (shpA s h), v1, v2]) ∧ Lm s ∧ Pg bt s ∧ Ld s bs st ∧ ShpR w' (Ap2 w' v1 v2) s h ∧ OwnP tBx 51 w' w.heap.size v1 bs ∧ OwnP tStw 49 w' w.heap.size v2 st ∧ Below w.heap.size w w'
/-- The columns lie in block b, between r and B, and nothing else of the ship does. -/
structure PO (r B b : Nat) (V : World) (s : Shp) (h : Hd) : Prop where
  own : ∃ xs, V.ownsRow r 66 12 (.slice (some ⟨b, 0, none⟩) s.cols.length h.c1) s.cols.length xs ∧ Flat tCol V (fun x => r < x ∧ x < B ∧ x ≠ b) xs s.cols
  cov : SlT tCov V (fun x => r < x ∧ x < B ∧ x ≠ b) h.A2 s.covs
  a1 : h.A1 = some ⟨b, 0, none⟩
  lb : r < b ∧ b < B
  sz : B ≤ V.heap.size
  z : s.rows = [] ∧ s.frames = [] ∧ s.tanks = []
theorem PO.grown {r B b : Nat} {V V' : World} {s : Shp} {h : Hd} (p : PO r B b V s h) {q : Nat} (hg : V.grownBy V' (some q)) (hq : q = r ∨ B ≤ q) : PO r B b V' s h := by
  obtain ⟨xs, ho, hf⟩ := p.own
  have hlb := p.lb
  have hsz := p.sz
  have hne : ∀ x, r < x → x < B → some x ≠ some q := fun x h1 h2 e => by injection e with e; omega
  have hk : ∀ x o, (r < x ∧ x < B ∧ x ≠ b) → V'.cell? ⟨x, o, none⟩ = V.cell? ⟨x, o, none⟩ := fun x o hx => World.cell?_of_block (hg.block x (Nat.lt_of_lt_of_le hx.2.1 hsz) (hne x hx.1 hx.2.1))
  exact ⟨⟨xs, ho.kept hg (.inr (hne b hlb.1 hlb.2)), hf.keep hk⟩, p.cov.keep hk, p.a1, p.lb, Nat.le_trans hsz hg.size, p.z⟩
theorem PO.below {r B b : Nat} {V V' : World} {s : Shp} {h : Hd} (p : PO r B b V s h) (hb : Below V.heap.size V V') : PO r B b V' s h := by
  obtain ⟨xs, ho, hf⟩ := p.own
  have hsz := p.sz
  have hk : ∀ x o, (r < x ∧ x < B ∧ x ≠ b) → V'.cell? ⟨x, o, none⟩ = V.cell? ⟨x, o, none⟩ := fun x o hx => hb.cell (p := ⟨x, o, none⟩) (Nat.lt_of_lt_of_le hx.2.1 hsz)
  exact ⟨⟨xs, own_below ho hb (Nat.le_refl _), hf.keep hk⟩, p.cov.keep hk, p.a1, p.lb, Nat.le_trans hsz hb.size, p.z⟩
/-- What Plugged returns, with the word on the columns' block. -/
def PlgRetO (bt : Nat → Bool) (w : World) (e : Ending) (w' : World) : Prop :=
  ∃ (s : Shp) (h : Hd) (v1 v2 : Value) (bs : List Bx) (st : List Stw), e = .returned (.tuple #[.agg (shpA s h), v1, v2]) ∧ Lm s ∧ Pg bt s ∧ Ld s bs st ∧ ShpR w' (Ap2 w' v1 v2) s h ∧ OwnP tBx 51 w' w.heap.size v1 bs ∧ OwnP tStw 49 w' w.heap.size v2 st ∧ Below w.heap.size w w' ∧
    ∃ B b, PO w.heap.size B b w' s h ∧ (∀ x, v1.ownBlock = some x → B ≤ x) ∧ ∀ x, v2.ownBlock = some x → B ≤ x
theorem cov_sl {w : World} {base : Nat} {A : Option Addr} {c : Nat} {covs : List Cov} {gs : List Nat} (h : CovOwn w base (.slice A covs.length c) covs gs) (S : Nat → Prop) (hS : ∀ x t cs, Bk w x t cs → base ≤ x → t = 109 ∨ t = 3 → S x) : SlT tCov w S A covs := by
  have hfl : Flat tCov w S (covCells covs gs) covs := h.rows.flat fun g hg => by
    obtain ⟨h1, _, cs, h3⟩ := h.rows.lt g hg
    exact hS g _ _ h3 h1 (.inr rfl)
  obtain ⟨A', c', e, h1, h2, h3⟩ := own_sl h.own
  injection e with eA _ ec
  intro hn
  have hp : 0 < covs.length := by cases hh : covs with | nil => exact absurd hh hn | cons x l => simp
  obtain ⟨b', off, hA, hbB, hcell⟩ := h3.mem hp
  have hob : (Value.slice A covs.length c).ownBlock = some b' := by rw [eA, hA]; rfl
  obtain ⟨csb, hkb⟩ : ∃ cs, Bk w b' 109 cs := by
    rcases h.own.2 with ⟨hv, _⟩ | ⟨g', cap, cur, hv, _, hh, _⟩
    · rw [hv] at hob; cases hob
    · rw [hv] at hob; simp only [Value.ownBlock, Option.some.injEq] at hob; subst hob; exact ⟨cur, hh⟩
  rw [eA]
  refine ⟨b', off, hA, hS b' _ _ hkb (h.own.lt b' hob).1 (.inl rfl), fun i x hx => ?_⟩
  obtain ⟨cs, k1, k2⟩ := hfl.at_ hx
  refine ⟨cs, k1, fun j u hu => ?_⟩
  rw [Nat.add_assoc]
  exact hcell _ u (k2 j u hu)
theorem size_setP (V : World) (p : Addr) (v : Value) : (V.setCell p v).heap.size = V.heap.size := by simp [World.setCell]
set_option maxRecDepth 100000 in
set_option maxHeartbeats 8000000 in
theorem plugged_own (A : Option Addr) (c : Nat) (pl : List (Nat × Nat × Nat × Bool)) (covers plugs reefers : Nat) (hpl : plugs < 18446744073709551616) (hrf : reefers < 65536) (A2 : Option Addr) (c2 : Nat) (ds : List Drp) (w : World)
    (hs : SlT tPl w (Lt w.heap.size) A pl) (hl : ∀ p ∈ pl, p.1 < 256 ∧ p.2.1 < 256 ∧ p.2.2.1 < 256) (hc : pl.length ≤ c) (hcm : c ≤ maxLen)
    (hs2 : SlT tDrp w (Lt w.heap.size) A2 ds) (hd : ∀ d ∈ ds, d.col < 256 ∧ d.kilos < 256) (hc2 : ds.length ≤ c2) (hcm2 : c2 ≤ maxLen) :
    Calls Try.prog 8 #[.slice A pl.length c, .int .u32 covers, .int .u64 (plugs : Nat), .int .u16 (reefers : Nat), .slice A2 ds.length c2] w (PlgRetO (bitOf plugs) w) := by
  have bw := ba1 w (.cells zS 37)
  have kr := Bk.new w 37 zS
  have HC := Lib.hid (built_n (covers := covers) (hs.on bw) hl hc hcm)
  have HDS := Lib.hid hs2
  have KR := Lib.hid kr
  have BW := Lib.hid bw
  clear hs hl hc hcm hs2 bw kr
  go_enter Try.func8, Try.ntmps8
  go_upto_region 1 with fail
  go_wp2_with fail
  refine HC.out.mono ?_
  rintro e w1 ⟨s, h, gs, rfl, hBu, ho1, ho2, hrd, hb1⟩
  simp only
  have hrows : s.rows = [] ∧ s.frames = [] ∧ s.tanks = [] := by rw [hBu.eq]; exact ⟨rfl, rfl, rfl⟩
  have h1 := hBu.one
  obtain ⟨xs0, hox, hfx⟩ := ho1
  have hoP : OwnP tColN 66 w1 (w.alloc (.cells zS 37)).heap.size (.slice h.A1 s.cols.length h.c1) s.cols := ⟨xs0, hox, flat_anyN _ _ hfx, fun _ h => h.elim⟩
  obtain ⟨b, cc, e1, hbb, hcc, hccm⟩ := OwnS.form hoP (by omega)
  injection e1 with eA _ ec
  have HRD : Hid (∃ w0 S, ShpR w0 S s h) := Lib.hid ⟨_, _, hrd⟩
  have hbw1 := ba1 w1 (.cells (shpA s h) 37)
  have hP0 : PW w (w1.alloc (.cells (shpA s h) 37)) w1.heap.size b cc s h (pgTo (bitOf plugs) s.cols 0) := by
    rw [pgTo_zero]
    have hsz := BW.out.size
    have hsz1 := hb1.size
    have hbb1 : b < w1.heap.size := by
      have := (hox.lt b (by rw [eA]; rfl)).2
      exact this
    have hrb : w.heap.size < b := by have : w.heap.size + 1 ≤ b := by simpa using hbb
                                     omega
    have hbe1 : Below w.heap.size w w1 := BW.out.trans (hb1.mono hsz)
    have e0 : shpA { s with cols := s.cols } { h with A1 := some ⟨b, 0, none⟩, c1 := cc } = shpA s h := by unfold shpA; rw [eA, ec]
    refine ⟨by rw [e0]; exact Bk.new w1 _ _, (KR.out.below hb1 KR.out.lt).alloc _, ⟨xs0, ?_, (flat_anyN _ _ hfx).toM⟩, ?_, hbe1.trans (hbw1.mono hbe1.size), hrb, hbb1, by simp, hcc, hccm⟩
    · have := own_below (own_mono hox hsz) hbw1 (Nat.le_refl _)
      rw [eA, ec] at this
      exact this
    · obtain ⟨csb, hkb⟩ : ∃ cs, Bk w1 b 66 cs := OwnS.blk hoP (by rw [eA]; rfl)
      have hrx : ∀ x : Nat, (w.alloc (.cells zS 37)).heap.size ≤ x → w.heap.size < x := fun x hx => by
        have : w.heap.size + 1 ≤ x := by simpa using hx
        omega
      refine SlT.keepB (B := w1.heap.size) (cov_sl ho2 (Sp w.heap.size w1.heap.size b w1.heap.size) fun x ty cs hk hx ht => ⟨hrx x hx, hk.lt, Bk.ne_ hk hkb (by rcases ht with rfl | rfl <;> decide), Nat.ne_of_lt hk.lt⟩) (fun x hx => hx.2.1) hbw1
  have HP0 := Lib.hid hP0
  have HHD : Hid (shpA s h = shpA { s with cols := pgTo (bitOf plugs) s.cols 0 } { h with A1 := some ⟨b, 0, none⟩, c1 := cc }) := Lib.hid (by rw [pgTo_zero]; unfold shpA; rw [eA, ec])
  have HRW := Lib.hid hrows
  clear HC KR BW ho2 hrd hb1 hoP hbb hbw1 eA ec hrows hP0 hox hfx
  unfold shpA at HP0 ⊢
  go_upto_region 2 with fail
  generalize w1.heap.size = g at *
  generalize (w1.alloc _) = V at *
  clear w1
  have hn12 := hBu.few
  have e0 : V.cell? ⟨g, 0, none⟩ = some (.slice (some ⟨b, 0, none⟩) s.cols.length cc) := by
    have h0 : V.cell? ⟨g, 0, none⟩ = some (.slice (some ⟨b, 0, none⟩) (pgTo (bitOf plugs) s.cols 0).length cc) := HP0.out.bk.cell 0
    rw [pgTo_len] at h0
    exact h0
  go_wp2_with fail
  clear e0
  go_loopw [15, 25] (fun _ i wr => ∃ k : Nat, k ≤ s.cols.length ∧ i = .int .i64 k ∧ Hid (PW w wr g b cc s h (pgTo (bitOf plugs) s.cols k))) (fun _ i _ => s.cols.length - (intOf i).toNat)
  case atStart => exact ⟨0, Nat.zero_le _, rfl, HP0⟩
  case round =>
    clear HP0
    clear V
    obtain ⟨k, hk, rfl, HL⟩ := hrel
    obtain ⟨V, rfl⟩ : ∃ V, V = wr := ⟨_, rfl⟩
    by_cases hlt : k < s.cols.length
    · have i0 : (0 : Int) ≤ (k : Int) := by omega
      have i1 : (k : Int) < (s.cols.length : Int) := by omega
      have hgood := hBu.cols.1 _ (getD_memD hlt default)
      have hat := pgTo_at (bitOf plugs) s.cols (k := k) hlt
      rw [if_neg (Nat.lt_irrefl k)] at hat
      have HSET := Lib.hid (pgTo_set (bitOf plugs) s.cols hlt)
      have hln := pgTo_len (bitOf plugs) s.cols k
      have htt := hgood.tiers
      have HPC : Hid (pgC (bitOf plugs) k (s.cols.getD k default) = { s.cols.getD k default with plugs := pgN (bitOf plugs) k (s.cols.getD k default).tiers.toNat }) := Lib.hid rfl
      have HST := Lib.hid (HL.out.start hat hgood.plugs)
      have hpx := hgood.plugs
      generalize s.cols.getD k default = x at *
      generalize hLk : pgTo (bitOf plugs) s.cols k = L at *
      clear hLk
      have HPX := Lib.hid hpx
      have HAT := Lib.hid hat
      clear hat hpx hgood HL
      go_wp2_with fail
      obtain ⟨W0, hW0⟩ : ∃ W, W = V := ⟨_, rfl⟩
      go_loopw [15] (fun t wr => ∃ t0 : Nat, (t0 : Int) ≤ x.tiers ∧ t = .int .i64 t0 ∧ Hid (PV w W0 wr g b cc s h L k (pgN (bitOf plugs) k t0))) (fun t _ => x.tiers.toNat - (intOf t).toNat)
      case atStart => exact ⟨0, by omega, rfl, by rw [hW0]; exact HST⟩
      case round =>
        clear HST hW0
        obtain ⟨t, ht, rfl, HL⟩ := hrel
        obtain ⟨W, rfl⟩ : ∃ V, V = wr := ⟨_, rfl⟩
        have d0 : W.cell? ⟨g, 0, none⟩ = some (.slice (some ⟨b, 0, none⟩) s.cols.length cc) := by
          have h0 : W.cell? ⟨g, 0, none⟩ = some (.slice (some ⟨b, 0, none⟩) L.length cc) := HL.out.bk.cell 0
          rw [hln] at h0
          exact h0
        obtain ⟨d3, Ap, cp, d8, f8, ⟨csb, kb⟩, ys, hy, hyf⟩ := HL.out.cells HAT.out
        have HY := Lib.hid hy
        have HYF := Lib.hid hyf
        clear hy hyf
        have hpn := pgN_len (bitOf plugs) k t
        have HPN := Lib.hid (pgN_succ (bitOf plugs) k t)
        generalize hP : pgN (bitOf plugs) k t = P at *
        have HPE := Lib.hid hP
        clear hP
        by_cases htl : (t : Int) < x.tiers
        · have hkk : k ≤ 12 := by omega
          have ht5 : t < 5 := by omega
          go_upto_if 46 with fail
          have HBT : Hid (bitOf plugs ((5 * k + t) % 64) = (bits BinOp.and IntKind.u64 ((plugs : Int) / 2 ^ ((5 * k + t) % 64)) 1 == 1)) := Lib.hid rfl
          generalize (bits BinOp.and IntKind.u64 ((plugs : Int) / 2 ^ ((5 * k + t) % 64)) 1 == 1) = q at *
          cases q with
          | false =>
            have HN : Hid (PV w W0 W g b cc s h L k (pgN (bitOf plugs) k (t + 1))) := Lib.hid (by rw [HPN.out, HBT.out]; simpa using HL.out)
            go_wp2_with fail
            go_roundw
            case rel => (repeat apply Exists.intro); (first | exact ⟨⟨t + 1, by omega, by go_num, HN⟩, rfl⟩ | exact ⟨by omega, by go_num, HN⟩)
            case measure => simp [intOf]; omega
          | true =>
            have HPUSH : Hid (∀ (W1 W3 : World) (v' : Value), Below W.heap.size W W1 → W3.ownsRow W0.heap.size 3 1 v' (P.length + 1) (ys ++ [.int .i64 t]) → W1.grownBy W3 (Value.slice Ap P.length cp).ownBlock → PV w W0 (W3.setCell ⟨b, k * 12 + 8, none⟩ v') g b cc s h L k (pgN (bitOf plugs) k (t + 1))) := Lib.hid fun W1 W3 v' h1 h2 h3 => by
              have := HL.out.push HAT.out d8 HY.out HYF.out h1 h2 h3
              rw [HPN.out, HBT.out]
              exact this
            have hvw := HL.out.vw
            have hgv := HL.out.gv
            have hbg := HL.out.bg
            have HGE : Hid (∀ q, (Value.slice Ap P.length cp).ownBlock = some q → W0.heap.size ≤ q) := Lib.hid fun q hq => (HY.out.lt q hq).1
            have hbw0 : b < W.heap.size := by omega
            have hgw0 : g < W.heap.size := by omega
            clear d3 HL
            go_step
            have hbd : Below W.heap.size W (W.alloc (.cells #[.int .i64 t] 3)).drew := (ba1 W _).drew
            go_region_law (refine step_append1 el_int rfl (.tmp 55) (.tmp 57) rfl W0.heap.size (.slice Ap P.length cp) P.length ys (by simp [Act.eval]) (own_below HY.out hbd (Nat.le_refl _)) W.heap.size #[.int .i64 t] 1 (by simp [Act.eval]) (Bk.new W _ _) rfl rfl (by unfold maxLen; omega) (by omega) (by simp; omega) ?_; intro v' w3 ho3 hg3 hd3 hb3; obtain ⟨A', c', rfl, hA1, hA2, hS3⟩ := own_sl ho3; have kg3 : w3.cell? ⟨b, k * 12 + 8, none⟩ = some (.slice Ap P.length cp) := (hb3.cell (p := ⟨b, k * 12 + 8, none⟩) (by show b < W0.heap.size; omega)).trans ((hbd.cell (p := ⟨b, k * 12 + 8, none⟩) (by show b < W.heap.size; omega)).trans d8); have fg3 : w3.frozen? ⟨b, k * 12 + 8, none⟩ = false := Bk.frozen (show Bk w3 b 66 csb from (hb3.block b (by omega)).trans (kb.alloc (.cells #[.int .i64 t] 3))) _; have g03 : w3.cell? ⟨g, 0, none⟩ = some (.slice (some ⟨b, 0, none⟩) s.cols.length cc) := (hb3.cell (p := ⟨g, 0, none⟩) (by show g < W0.heap.size; omega)).trans ((hbd.cell (p := ⟨g, 0, none⟩) (by show g < W.heap.size; omega)).trans d0); have H3 := Lib.hid (HPUSH.out _ w3 _ hbd ho3 hg3); clear ho3 hg3 hd3 hb3 hA1 hA2 hS3)
            all_goals
              go_wp2_with fail
              go_roundw
              case rel => (repeat apply Exists.intro); (first | exact ⟨⟨t + 1, by omega, by go_num, H3⟩, rfl⟩ | exact ⟨by omega, by go_num, H3⟩)
              case measure => simp [intOf]; omega
        · obtain rfl : t = x.tiers.toNat := by omega
          have HN : Hid (PW w W g b cc s h (pgTo (bitOf plugs) s.cols (k + 1))) := Lib.hid (by
            rw [← HSET.out, HPC.out]
            have := HL.out.stop HAT.out HPX.out
            rw [← HPE.out] at this
            exact this)
          clear HL kb HY HYF
          go_wp2_with fail
          go_roundw
          case rel => (repeat apply Exists.intro); (first | exact ⟨⟨k + 1, by omega, by go_num, HN⟩, rfl⟩ | exact ⟨by omega, by go_num, HN⟩)
          case measure => simp [intOf]; omega
    · obtain rfl : k = s.cols.length := by omega
      obtain ⟨s', h', PO1, KS, KR, RD, LM, PG, BE, GV⟩ : ∃ s' h', Hid (PO w.heap.size V.heap.size b V s' h') ∧ Hid (Bk V g 37 (shpA s' h')) ∧ Hid (Bk V w.heap.size 37 zS) ∧ Hid (ShpR V (fun x => w.heap.size < x ∧ x < V.heap.size) s' h') ∧ Hid (Lm s') ∧ Hid (Pg (bitOf plugs) s') ∧ Hid (Below w.heap.size w V) ∧ Hid (w.heap.size < g ∧ g < V.heap.size) := by
        obtain ⟨w0, S0, hrd⟩ := HRD.out
        have r := HL.out
        have e : { s with cols := pgTo (bitOf plugs) s.cols s.cols.length } = pgS (bitOf plugs) s := rfl
        obtain ⟨xs, ho, hf⟩ := r.own
        refine ⟨pgS (bitOf plugs) s, { h with A1 := some ⟨b, 0, none⟩, c1 := cc }, Lib.hid ?_, Lib.hid (by rw [← e]; exact r.bk), Lib.hid r.res, Lib.hid ?_, Lib.hid (pg_lm hBu), Lib.hid (pgS_pg _ _), Lib.hid r.be, Lib.hid ⟨Nat.lt_trans r.rb r.bg, r.gv⟩⟩
        · refine ⟨⟨xs, ?_, hf.ofM.more fun x hx => ⟨hx.1, hx.2.1, hx.2.2.1⟩⟩, r.cov.more fun x hx => ⟨hx.1, Nat.lt_trans hx.2.1 r.gv, hx.2.2.1⟩, rfl, ⟨r.rb, Nat.lt_trans r.bg r.gv⟩, Nat.le_refl _, HRW.out⟩
          have hl2 : (pgTo (bitOf plugs) s.cols s.cols.length).length = (pgS (bitOf plugs) s).cols.length := rfl
          rw [← hl2]
          exact ho
        have hlen : (pgS (bitOf plugs) s).cols.length = s.cols.length := pgS_len _ _
        have hsub : ∀ x, Sp w.heap.size V.heap.size b g x → (w.heap.size < x ∧ x < V.heap.size) := fun x hx => ⟨hx.1, hx.2.1⟩
        refine ⟨by rw [hlen]; exact hcc, hrd.n2, by show s.rows.length ≤ _; rw [HRW.out.1]; exact Nat.zero_le _, by show s.frames.length ≤ _; rw [HRW.out.2.1]; exact Nat.zero_le _, by show s.tanks.length ≤ _; rw [HRW.out.2.2]; exact Nat.zero_le _, hccm, hrd.m2, hrd.m3, hrd.m4, hrd.m5, ?_, ?_, ?_, ?_, ?_⟩
        · intro hn
          have hbv : b < V.heap.size := Nat.lt_trans r.bg r.gv
          refine ⟨b, 0, rfl, ⟨r.rb, hbv⟩, fun i x hx => ?_⟩
          obtain ⟨cs, h1', h2'⟩ := (hf.ofM.more hsub).at_ hx
          refine ⟨cs, h1', fun j u hu => ?_⟩
          have := ho.cells (g := b) rfl (i * tCol.k + j) u (h2' j u hu)
          rw [add_mk] at this
          rw [Nat.add_assoc]
          exact this
        · exact r.cov.more fun x hx => ⟨hx.1, Nat.lt_trans hx.2.1 r.gv⟩
        · show SlT tRow V _ h.A3 s.rows; rw [HRW.out.1]; exact SlT.nil
        · show SlT tRow V _ h.A4 s.frames; rw [HRW.out.2.1]; exact SlT.nil
        · show SlT tTnk V _ h.A5 s.tanks; rw [HRW.out.2.2]; exact SlT.nil
      clear HL
      obtain ⟨e0, e1, e2, e3, e4, e5, e6, e7, e8, e9, e10, e11, e12⟩ : V.cell? ⟨g, 0, none⟩ = some (.slice h'.A1 s'.cols.length h'.c1) ∧ V.cell? ⟨g, 1, none⟩ = some (.slice h'.A2 s'.covs.length h'.c2) ∧ V.cell? ⟨g, 2, none⟩ = some (.int .i64 s'.l0) ∧ V.cell? ⟨g, 3, none⟩ = some (.int .i64 s'.l1) ∧ V.cell? ⟨g, 4, none⟩ = some (.int .i64 s'.l2) ∧ V.cell? ⟨g, 5, none⟩ = some (.int .i64 s'.l3) ∧ V.cell? ⟨g, 6, none⟩ = some (.slice h'.A3 s'.rows.length h'.c3) ∧ V.cell? ⟨g, 7, none⟩ = some (.slice h'.A4 s'.frames.length h'.c4) ∧ V.cell? ⟨g, 8, none⟩ = some (.slice h'.A5 s'.tanks.length h'.c5) ∧ V.cell? ⟨g, 9, none⟩ = some (.int .i64 s'.m0) ∧ V.cell? ⟨g, 10, none⟩ = some (.int .i64 s'.m1) ∧ V.cell? ⟨g, 11, none⟩ = some (.int .i64 s'.m2) ∧ V.cell? ⟨g, 12, none⟩ = some (.int .i64 s'.m3) := ⟨KS.out.cell 0, KS.out.cell 1, KS.out.cell 2, KS.out.cell 3, KS.out.cell 4, KS.out.cell 5, KS.out.cell 6, KS.out.cell 7, KS.out.cell 8, KS.out.cell 9, KS.out.cell 10, KS.out.cell 11, KS.out.cell 12⟩
      have HLD := Lib.hid (loaded_any s' h' A2 c2 ds 9 V (by decide) (RD.out.more fun x hx => hx.2) LM.out.right LM.out.few LM.out.ints LM.out.one LM.out.short (fun c => Nat.le_trans (LM.out.tiersN c) (by decide)) LM.out.all (HDS.out.on BE.out) hd hc2 hcm2)
      have HLL := Lib.hid (loaded_ld (s := s') LM.out.right ds hd)
      generalize loadedF s' ds 9 = r at *
      obtain ⟨bs, st⟩ := r
      unfold shpA at HLD
      unfold maxLen at hcm2
      go_wp2_with fail
      refine HLD.out.mono ?_
      rintro e w9 ⟨v1, v2, rfl, ob, os, hb9⟩
      simp only
      clear e0 e1 e2 e3 e4 e5 e6 e7 e8 e9 e10 e11 e12 HLD
      have OB := Lib.hid (OwnS.toP plain_bx ob)
      have OS := Lib.hid (OwnS.toP plain_stw os)
      have KS9 := Lib.hid (KS.out.below hb9 KS.out.lt)
      have KR9 := Lib.hid (KR.out.below hb9 KR.out.lt)
      have BE9 := Lib.hid (BE.out.trans (hb9.mono BE.out.size))
      have RD9 : Hid (ShpR w9 (fun x => w.heap.size < x ∧ x < V.heap.size) s' h') := Lib.hid (RD.out.keep fun x o hx => hb9.cell (p := ⟨x, o, none⟩) hx.2)
      have PO9 := Lib.hid (PO1.out.below hb9)
      have HB9 := Lib.hid hb9.size
      have HBZ := Lib.hid BE.out.size
      clear PO1 KS KR RD BE ob os hb9
      generalize V.heap.size = B at *
      try clear V
      obtain ⟨bc, hbc⟩ : ∃ x, x = b := ⟨_, rfl⟩
      rw [← hbc] at PO9
      clear hbc
      obtain ⟨A4, c4, rfl, hc4, hcm4, -⟩ := OB.out.sl'
      have hbl9 := HLL.out.nine
      go_wp2_with fail
      go_loopw [70] (fun i wr => ∃ (k : Nat) (ms : List Bx), k ≤ bs.length ∧ i = .int .i64 k ∧ ms.length = bs.length ∧ Hid (ms.map nr = bs.map nr) ∧ Hid (OwnP tBx 51 wr B (.slice A4 bs.length c4) ms) ∧ Hid (OwnP tStw 49 wr B v2 st) ∧ Hid (Bk wr g 37 (shpA s' h')) ∧ Hid (Bk wr w.heap.size 37 zS) ∧ Hid (ShpR wr (fun x => w.heap.size < x ∧ x < B) s' h') ∧ Hid (Below w.heap.size w wr) ∧ Hid (B ≤ wr.heap.size) ∧ Hid (PO w.heap.size B bc wr s' h')) (fun i _ => bs.length - (intOf i).toNat)
      case atStart => exact ⟨0, bs, Nat.zero_le _, rfl, rfl, Lib.hid rfl, OB, OS, KS9, KR9, RD9, BE9, HB9, PO9⟩
      case round =>
        clear OB OS KS9 KR9 RD9 BE9 HB9 PO9
        obtain ⟨k, ms, hk, rfl, hbl, HNR, OB, OS, KS9, KR9, RD9, BE9, HB9, PO9⟩ := hrel
        obtain ⟨V, rfl⟩ : ∃ V, V = wr := ⟨_, rfl⟩
        by_cases hlt : k < bs.length
        · have i0 : (0 : Int) ≤ (k : Int) := by omega
          have i1 : (k : Int) < (bs.length : Int) := by omega
          have hkm : k < ms.length := by omega
          have huk : (k : Int) < 16 := by omega
          have HOB : Hid (∃ b, A4 = some ⟨b, 0, none⟩ ∧ B ≤ b ∧ b < V.heap.size ∧ V.frozen? ⟨b, k * 9 + 8, none⟩ = false ∧ (∃ z, V.cell? ⟨b, k * 9 + 8, none⟩ = some z) ∧ ∀ q : Bool, OwnP tBx 51 (V.setCell ⟨b, k * 9 + 8, none⟩ (.bool q)) B (.slice (some ⟨b, 0, none⟩) bs.length c4) (ms.set k (rfB q (ms.getD k zBx)))) := Lib.hid (by
            obtain ⟨b, cc', e, hbB, _, _⟩ := OwnS.form (l := ms) (v := .slice A4 ms.length c4) (by rw [hbl]; exact OB.out) (by omega)
            injection e with e1 _ e3
            subst e1 e3
            have hob := OB.out
            obtain ⟨xs, ho, hf, _⟩ := OB.out
            have hx : ms[k]? = some (ms.getD k zBx) := by simp [hkm]
            obtain ⟨cs, hcs, hc⟩ := hf.at_ hx
            have hcs' : cs = bxL (ms.getD k zBx) := hcs
            subst hcs'
            have h8 := hc 8 (.bool (ms.getD k zBx).reefer) rfl
            have c8 := ho.cells (g := b) rfl (k * 9 + 8) _ h8
            rw [add_mk, Nat.zero_add] at c8
            refine ⟨b, rfl, hbB, (ho.lt b rfl).2, (show V.ownsRow B 51 tBx.k (.slice (some ⟨b, 0, none⟩) bs.length c4) bs.length xs from hbl ▸ ho).frozenAt _, ⟨_, c8⟩, fun q => ?_⟩
            rw [← hbl] at hob ⊢
            have := OwnS.set (T := tBx) (x' := rfB q (ms.getD k zBx)) (j := 8) (u := .bool q) hob hx (by decide) (by
              rintro cs rfl
              rfl)
            rw [List.length_set] at this
            exact this)
          obtain ⟨b, rfl, hbB, hbV, fb, ⟨z, cb⟩, _⟩ := HOB.out
          have HSETq : Hid (∀ q : Bool, OwnP tBx 51 (V.setCell ⟨b, k * 9 + 8, none⟩ (.bool q)) B (.slice (some ⟨b, 0, none⟩) bs.length c4) (ms.set k (rfB q (ms.getD k zBx)))) := Lib.hid (by
            obtain ⟨b', e, _, _, _, _, h6⟩ := HOB.out
            cases e
            exact h6)
          clear HOB
          have HGW : Hid (g < B ∧ w.heap.size < B) := Lib.hid ⟨GV.out.2, Nat.lt_trans GV.out.1 GV.out.2⟩
          have HBZ2 := HBZ.out
          have HNEXT : Hid (∀ q : Bool, ((ms.set k (rfB q (ms.getD k zBx))).length = bs.length) ∧ ((ms.set k (rfB q (ms.getD k zBx))).map nr = bs.map nr) ∧ OwnP tBx 51 (V.setCell ⟨b, k * 9 + 8, none⟩ (.bool q)) B (.slice (some ⟨b, 0, none⟩) bs.length c4) (ms.set k (rfB q (ms.getD k zBx))) ∧ OwnP tStw 49 (V.setCell ⟨b, k * 9 + 8, none⟩ (.bool q)) B v2 st ∧ Bk (V.setCell ⟨b, k * 9 + 8, none⟩ (.bool q)) g 37 (shpA s' h') ∧ Bk (V.setCell ⟨b, k * 9 + 8, none⟩ (.bool q)) w.heap.size 37 zS ∧ ShpR (V.setCell ⟨b, k * 9 + 8, none⟩ (.bool q)) (fun x => w.heap.size < x ∧ x < B) s' h' ∧ Below w.heap.size w (V.setCell ⟨b, k * 9 + 8, none⟩ (.bool q)) ∧ B ≤ (V.setCell ⟨b, k * 9 + 8, none⟩ (.bool q)).heap.size ∧ PO w.heap.size B bc (V.setCell ⟨b, k * 9 + 8, none⟩ (.bool q)) s' h') := Lib.hid fun q => by
            obtain ⟨csb, hkb⟩ : ∃ cs, Bk V b 51 cs := OwnS.blk OB.out rfl
            have hg' := HGW.out
            refine ⟨by rw [List.length_set]; exact hbl, nr_set HNR.out q, HSETq.out q, OS.out.grown (grown_setCell _ _ _) (.inr (OS.out.ne hkb (by decide))), KS9.out.far (p := ⟨b, k * 9 + 8, none⟩) (by show g ≠ b; omega) _, KR9.out.far (p := ⟨b, k * 9 + 8, none⟩) (by show w.heap.size ≠ b; omega) _, RD9.out.keep fun x o hx => cell_far (by have := hx.2; show x ≠ b; omega), BE9.out.setCell (by show w.heap.size ≤ b; omega) _, by rw [size_setP]; exact HB9.out, PO9.out.grown (grown_setCell _ _ _) (.inr hbB)⟩
          clear HSETq HNR OB OS KS9 KR9 RD9 BE9 HB9 PO9
          go_wp2_with fail
          generalize (bits BinOp.and IntKind.u16 _ 1 == 1) = q at *
          have hnx := HNEXT.out q
          go_roundw
          case rel => exact ⟨k + 1, _, by omega, by go_num, hnx.1, Lib.hid hnx.2.1, Lib.hid hnx.2.2.1, Lib.hid hnx.2.2.2.1, Lib.hid hnx.2.2.2.2.1, Lib.hid hnx.2.2.2.2.2.1, Lib.hid hnx.2.2.2.2.2.2.1, Lib.hid hnx.2.2.2.2.2.2.2.1, Lib.hid hnx.2.2.2.2.2.2.2.2.1, Lib.hid hnx.2.2.2.2.2.2.2.2.2⟩
          case measure => simp [intOf]; omega
        · obtain rfl : k = bs.length := by omega
          have kr := KR9.out
          have z0 : V.cell? ⟨w.heap.size, 0, none⟩ = some (.slice none 0 0) := kr.cell 0
          have f0 := kr.frozen 0
          have z1 : V.cell? ⟨w.heap.size, 1, none⟩ = some (.slice none 0 0) := kr.cell 1
          have f1 := kr.frozen 1
          have z2 : V.cell? ⟨w.heap.size, 2, none⟩ = some (.int .i64 0) := kr.cell 2
          have f2 := kr.frozen 2
          have z3 : V.cell? ⟨w.heap.size, 3, none⟩ = some (.int .i64 0) := kr.cell 3
          have f3 := kr.frozen 3
          have z4 : V.cell? ⟨w.heap.size, 4, none⟩ = some (.int .i64 0) := kr.cell 4
          have f4 := kr.frozen 4
          have z5 : V.cell? ⟨w.heap.size, 5, none⟩ = some (.int .i64 0) := kr.cell 5
          have f5 := kr.frozen 5
          have z6 : V.cell? ⟨w.heap.size, 6, none⟩ = some (.slice none 0 0) := kr.cell 6
          have f6 := kr.frozen 6
          have z7 : V.cell? ⟨w.heap.size, 7, none⟩ = some (.slice none 0 0) := kr.cell 7
          have f7 := kr.frozen 7
          have z8 : V.cell? ⟨w.heap.size, 8, none⟩ = some (.slice none 0 0) := kr.cell 8
          have f8 := kr.frozen 8
          have z9 : V.cell? ⟨w.heap.size, 9, none⟩ = some (.int .i64 0) := kr.cell 9
          have f9 := kr.frozen 9
          have z10 : V.cell? ⟨w.heap.size, 10, none⟩ = some (.int .i64 0) := kr.cell 10
          have f10 := kr.frozen 10
          have z11 : V.cell? ⟨w.heap.size, 11, none⟩ = some (.int .i64 0) := kr.cell 11
          have f11 := kr.frozen 11
          have z12 : V.cell? ⟨w.heap.size, 12, none⟩ = some (.int .i64 0) := kr.cell 12
          have f12 := kr.frozen 12
          clear kr
          obtain ⟨e0, e1, e2, e3, e4, e5, e6, e7, e8, e9, e10, e11, e12⟩ : V.cell? ⟨g, 0, none⟩ = some (.slice h'.A1 s'.cols.length h'.c1) ∧ V.cell? ⟨g, 1, none⟩ = some (.slice h'.A2 s'.covs.length h'.c2) ∧ V.cell? ⟨g, 2, none⟩ = some (.int .i64 s'.l0) ∧ V.cell? ⟨g, 3, none⟩ = some (.int .i64 s'.l1) ∧ V.cell? ⟨g, 4, none⟩ = some (.int .i64 s'.l2) ∧ V.cell? ⟨g, 5, none⟩ = some (.int .i64 s'.l3) ∧ V.cell? ⟨g, 6, none⟩ = some (.slice h'.A3 s'.rows.length h'.c3) ∧ V.cell? ⟨g, 7, none⟩ = some (.slice h'.A4 s'.frames.length h'.c4) ∧ V.cell? ⟨g, 8, none⟩ = some (.slice h'.A5 s'.tanks.length h'.c5) ∧ V.cell? ⟨g, 9, none⟩ = some (.int .i64 s'.m0) ∧ V.cell? ⟨g, 10, none⟩ = some (.int .i64 s'.m1) ∧ V.cell? ⟨g, 11, none⟩ = some (.int .i64 s'.m2) ∧ V.cell? ⟨g, 12, none⟩ = some (.int .i64 s'.m3) := ⟨KS9.out.cell 0, KS9.out.cell 1, KS9.out.cell 2, KS9.out.cell 3, KS9.out.cell 4, KS9.out.cell 5, KS9.out.cell 6, KS9.out.cell 7, KS9.out.cell 8, KS9.out.cell 9, KS9.out.cell 10, KS9.out.cell 11, KS9.out.cell 12⟩
          have HGZ : Hid (g ≠ w.heap.size) := Lib.hid (by have := GV.out.1; omega)
          go_wp2_with fail
          refine bodyPost_ret (results_row_tmp2 rfl _ _ w.heap.size 37 #[.slice h'.A1 s'.cols.length h'.c1, .slice h'.A2 s'.covs.length h'.c2, .int .i64 s'.l0, .int .i64 s'.l1, .int .i64 s'.l2, .int .i64 s'.l3, .slice h'.A3 s'.rows.length h'.c3, .slice h'.A4 s'.frames.length h'.c4, .slice h'.A5 s'.tanks.length h'.c5, .int .i64 s'.m0, .int .i64 s'.m1, .int .i64 s'.m2, .int .i64 s'.m3] _ rfl (set13 KR9.out _ _ _ _ _ _ _ _ _ _ _ _ _ rfl) Try.underlying37 rfl info_ship) rfl ?_
          have hg13 := grown13 V w.heap.size (.slice h'.A1 s'.cols.length h'.c1) (.slice h'.A2 s'.covs.length h'.c2) (.int .i64 s'.l0) (.int .i64 s'.l1) (.int .i64 s'.l2) (.int .i64 s'.l3) (.slice h'.A3 s'.rows.length h'.c3) (.slice h'.A4 s'.frames.length h'.c4) (.slice h'.A5 s'.tanks.length h'.c5) (.int .i64 s'.m0) (.int .i64 s'.m1) (.int .i64 s'.m2) (.int .i64 s'.m3)
          have OB2 := Lib.hid (OB.out.grown hg13 (.inr (OB.out.ne KR9.out (by decide))))
          have OS2 := Lib.hid (OS.out.grown hg13 (.inr (OS.out.ne KR9.out (by decide))))
          have BE2 := Lib.hid (BE9.out.trans (below_of_grown hg13 (Nat.le_refl _) BE9.out.size))
          have hsz := hg13.size
          have PO2 := Lib.hid (PO9.out.grown hg13 (.inl rfl))
          have RD2 := Lib.hid (RD9.out.keep (w' := _) fun x o hx => World.cell?_of_block (hg13.block x (Nat.lt_of_lt_of_le hx.2 HB9.out) (fun e => by injection e with e; omega)))
          clear hg13
          generalize (World.setCell (World.setCell _ _ _) _ _) = W13 at *
          have hB : B ≤ W13.heap.size := Nat.le_trans HB9.out hsz
          refine ⟨s', h', _, v2, ms, st, rfl, LM.out, PG.out, nr_ld HNR.out HLL.out, RD2.out.more (fun x hx => ⟨Nat.lt_of_lt_of_le hx.2 hB, fun e => ?_, fun e => ?_⟩), OB2.out.down HBZ.out, OS2.out.down HBZ.out, BE2.out, B, bc, PO2.out, fun x e => (OB2.out.lt x e).1, fun x e => (OS2.out.lt x e).1⟩
          · have := (OB2.out.lt x e).1; omega
          · have := (OS2.out.lt x e).1; omega
theorem plugged_any (A : Option Addr) (c : Nat) (pl : List (Nat × Nat × Nat × Bool)) (covers plugs reefers : Nat) (hpl : plugs < 18446744073709551616) (hrf : reefers < 65536) (A2 : Option Addr) (c2 : Nat) (ds : List Drp) (w : World)
    (hs : SlT tPl w (Lt w.heap.size) A pl) (hl : ∀ p ∈ pl, p.1 < 256 ∧ p.2.1 < 256 ∧ p.2.2.1 < 256) (hc : pl.length ≤ c) (hcm : c ≤ maxLen)
    (hs2 : SlT tDrp w (Lt w.heap.size) A2 ds) (hd : ∀ d ∈ ds, d.col < 256 ∧ d.kilos < 256) (hc2 : ds.length ≤ c2) (hcm2 : c2 ≤ maxLen) :
    Calls Try.prog 8 #[.slice A pl.length c, .int .u32 covers, .int .u64 (plugs : Nat), .int .u16 (reefers : Nat), .slice A2 ds.length c2] w (PlgRet (bitOf plugs) w) := by
  refine (plugged_own A c pl covers plugs reefers hpl hrf A2 c2 ds w hs hl hc hcm hs2 hd hc2 hcm2).mono ?_
  rintro e w' ⟨s, h, v1, v2, bs, st, h1, h2, h3, h4, h5, h6, h7, h8, _⟩
  exact ⟨s, h, v1, v2, bs, st, h1, h2, h3, h4, h5, h6, h7, h8⟩
end Go.Proofs.Ythijgmkflfaccaa
