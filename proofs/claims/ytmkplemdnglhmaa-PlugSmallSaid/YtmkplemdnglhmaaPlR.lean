/-
  The walk of twistlocklaw12.Plugged.
-/
import Derived.Test.YtmkplemdnglhmaaPlQ
import Derived.Deep.RegionLaw
namespace Go.Proofs.Ytmkplemdnglhmaa
open Go.RowKit

/-- Columns whose plugs are nil where there are none. -/
def tColM : Ty Col where
  k := 12
  pos := by decide
  rd := fun w S cs c => ∃ A p, cs = colL c A p ∧ c.plugs.length ≤ p ∧ SlT tInt w S A c.plugs ∧ (c.plugs = [] → A = none ∧ p = 0)
  len := by rintro _ _ _ _ ⟨A, c, rfl, _⟩; rfl
  one := by rintro _ _ _ _ ⟨A, c, rfl, _⟩; rfl
  keep := by rintro _ _ _ _ _ ⟨A, c, rfl, h1, h2, h3⟩ hk; exact ⟨A, c, rfl, h1, h2.keep hk, h3⟩
  more := by rintro _ _ _ _ _ ⟨A, c, rfl, h1, h2, h3⟩ hk; exact ⟨A, c, rfl, h1, h2.more hk, h3⟩
theorem Flat.toM {w : World} {S : Nat → Prop} : ∀ {xs : List Value} {l : List Col}, Flat tColN w S xs l → Flat tColM w S xs l
  | _, [], h => h
  | _, _ :: _, ⟨cs, ys, e, h1, h2⟩ => ⟨cs, ys, e, ⟨none, 0, h1.1, by rw [h1.2]; simp, by rw [h1.2]; exact SlT.nil, fun _ => ⟨rfl, rfl⟩⟩, h2.toM⟩
theorem Flat.ofM {w : World} {S : Nat → Prop} : ∀ {xs : List Value} {l : List Col}, Flat tColM w S xs l → Flat tCol w S xs l
  | _, [], h => h
  | _, _ :: _, ⟨cs, ys, e, ⟨A, p, h1, h2, h3, _⟩, h4⟩ => ⟨cs, ys, e, ⟨A, p, h1, h2, h3⟩, h4.ofM⟩
/-- Behind the result's block, below n, and neither the columns' block nor the ship's. -/
def Sp (r n b g x : Nat) : Prop := r < x ∧ x < n ∧ x ≠ b ∧ x ≠ g
theorem Sp.up {r n n' b g : Nat} (h : n ≤ n') : ∀ x, Sp r n b g x → Sp r n' b g x := fun _ ⟨h1, h2, h3⟩ => ⟨h1, Nat.lt_of_lt_of_le h2 h, h3⟩
/-- The ship in its variable, between two columns. -/
structure PW (w V : World) (g b cc : Nat) (s : Shp) (h : Hd) (l : List Col) : Prop where
  bk : Bk V g 32 (shpA { s with cols := l } { h with A1 := some ⟨b, 0, none⟩, c1 := cc })
  res : Bk V w.heap.size 32 zS
  own : ∃ xs, V.ownsRow w.heap.size 46 12 (.slice (some ⟨b, 0, none⟩) l.length cc) l.length xs ∧ Flat tColM V (Sp w.heap.size V.heap.size b g) xs l
  cov : SlT tCov V (Sp w.heap.size g b g) h.A2 s.covs
  be : Below w.heap.size w V
  rb : w.heap.size < b
  bg : b < g
  gv : g < V.heap.size
  lc : l.length ≤ cc
  cm : cc ≤ maxLen
/-- The same, while plugs are appended to column k; V: the world in which that began. -/
structure PV (w V W : World) (g b cc : Nat) (s : Shp) (h : Hd) (l : List Col) (k : Nat) (pl : List Int) : Prop where
  bk : Bk W g 32 (shpA { s with cols := l } { h with A1 := some ⟨b, 0, none⟩, c1 := cc })
  res : Bk W w.heap.size 32 zS
  own : ∃ xs vp, W.ownsRow w.heap.size 46 12 (.slice (some ⟨b, 0, none⟩) l.length cc) l.length xs ∧ xs[k * 12 + 8]? = some vp ∧ Flat tColM W (Sp w.heap.size V.heap.size b g) (xs.set (k * 12 + 8) (.slice none 0 0)) l ∧
    OwnT tInt 3 W V.heap.size vp pl ∧ (pl = [] → vp = .slice none 0 0)
  cov : SlT tCov W (Sp w.heap.size g b g) h.A2 s.covs
  be : Below w.heap.size w W
  rb : w.heap.size < b
  bg : b < g
  gv : g < V.heap.size
  vw : V.heap.size ≤ W.heap.size
  lc : l.length ≤ cc
  cm : cc ≤ maxLen
theorem set_same_at {α : Type} {l : List α} {i : Nat} {v : α} (h : l[i]? = some v) : l.set i v = l := by
  apply List.ext_getElem?
  intro j
  rw [List.getElem?_set]
  split
  · rename_i e; subst e
    obtain ⟨h1, h2⟩ := List.getElem?_eq_some_iff.1 h
    simp [h1, h2]
  · rfl
section
variable {w V W : World} {g b cc : Nat} {s : Shp} {h : Hd} {l : List Col}
theorem PW.start {k : Nat} {x : Col} (r : PW w V g b cc s h l) (hx : l[k]? = some x) (hp : x.plugs = []) : PV w V V g b cc s h l k [] := by
  obtain ⟨xs, ho, hf⟩ := r.own
  obtain ⟨cs, ⟨A, p, rfl, h1, h2, h3⟩, hc⟩ := hf.at_ hx
  obtain ⟨rfl, rfl⟩ := h3 hp
  have h8 : xs[k * 12 + 8]? = some (.slice none 0 0) := by
    have := hc 8 (.slice none x.plugs.length 0) rfl
    rw [hp] at this
    exact this
  refine ⟨r.bk, r.res, ⟨xs, _, ho, h8, ?_, OwnT.nil, fun _ => rfl⟩, r.cov, r.be, r.rb, r.bg, r.gv, Nat.le_refl _, r.lc, r.cm⟩
  rw [set_same_at h8]
  exact hf
theorem PV.stop {k : Nat} {x : Col} {pl : List Int} (r : PV w V W g b cc s h l k pl) (hx : l[k]? = some x) (hp : x.plugs = []) : PW w W g b cc s h (l.set k { x with plugs := pl }) := by
  obtain ⟨xs, vp, ho, h8, hf, hw, hn⟩ := r.own
  obtain ⟨A, c, rfl, hc1, hc2, _⟩ := OwnT.sl hw
  have hS : SlT tInt W (Sp w.heap.size W.heap.size b g) A pl := by
    intro hne
    obtain ⟨ys, hy, hyf⟩ := hw
    obtain ⟨A', c', e, _, _, hs⟩ := OwnT.sl ⟨ys, hy, hyf⟩
    injection e with e1 _ _
    subst e1
    obtain ⟨q, off, e, hq, hcell⟩ := hs hne
    subst e
    have hlt := hy.lt q rfl
    refine ⟨q, off, rfl, ⟨?_, hq, ?_, ?_⟩, hcell⟩
    · have := r.rb; have := r.bg; have := r.gv; omega
    · have := r.bg; have := r.gv; omega
    · have := r.gv; omega
  have hset := (hf.more (Sp.up r.vw)).set (i := k) (x' := { x with plugs := pl }) (j := 8) (u := .slice A pl.length c) hx (by decide) (by
    rintro cs ⟨A0, p0, rfl, q1, q2, q3⟩
    refine ⟨A, c, rfl, hc1, hS, fun e => ?_⟩
    have := hn e
    injection this with e1 _ e3
    exact ⟨e1, e3⟩)
  rw [show tColM.k = 12 from rfl, List.set_set, set_same_at h8] at hset
  have hlen : (l.set k { x with plugs := pl }).length = l.length := List.length_set
  refine ⟨?_, r.res, ⟨xs, by rw [hlen]; exact ho, hset⟩, r.cov, r.be, r.rb, r.bg, Nat.lt_of_lt_of_le r.gv r.vw, by rw [hlen]; exact r.lc, r.cm⟩
  have e : shpA { s with cols := l.set k { x with plugs := pl } } { h with A1 := some ⟨b, 0, none⟩, c1 := cc } = shpA { s with cols := l } { h with A1 := some ⟨b, 0, none⟩, c1 := cc } := by unfold shpA; simp
  rw [e]; exact r.bk
theorem own_blkP {e : TypeId} {k : Nat} {w : World} {base n g : Nat} {v : Value} {xs : List Value} (ho : w.ownsRow base e k v n xs) (hg : v.ownBlock = some g) : ∃ cs, Bk w g e cs := by
  rcases ho.2 with ⟨rfl, _⟩ | ⟨g', cap, cur, rfl, _, hh, _⟩
  · cases hg
  · simp only [Value.ownBlock, Option.some.injEq] at hg
    subst hg
    exact ⟨cur, hh⟩
/-- What is read of a column while plugs are appended to it. -/
theorem PV.cells {k : Nat} {x : Col} {pl : List Int} (r : PV w V W g b cc s h l k pl) (hx : l[k]? = some x) :
    W.cell? ⟨b, k * 12 + 3, none⟩ = some (.int .i64 x.tiers) ∧ ∃ A c, W.cell? ⟨b, k * 12 + 8, none⟩ = some (.slice A pl.length c) ∧ W.frozen? ⟨b, k * 12 + 8, none⟩ = false ∧ (∃ cs, Bk W b 46 cs) ∧ ∃ ys, W.ownsRow V.heap.size 3 1 (.slice A pl.length c) pl.length ys ∧ Flat tInt W (But W (.slice A pl.length c)) ys pl := by
  obtain ⟨xs, vp, ho, h8, hf, hw, hn⟩ := r.own
  obtain ⟨A, c, rfl, _, _, _⟩ := OwnT.sl hw
  obtain ⟨cs, ⟨A0, p0, rfl, _⟩, hc⟩ := hf.at_ hx
  have h3 := hc 3 (.int .i64 x.tiers) rfl
  have h3' : xs[k * 12 + 3]? = some (.int .i64 x.tiers) := by
    rw [List.getElem?_set] at h3
    rw [if_neg (by simp [tColM])] at h3
    exact h3
  have c3 := ho.cells (g := b) rfl (k * 12 + 3) _ h3'
  have c8 := ho.cells (g := b) rfl (k * 12 + 8) _ h8
  rw [add_mk, Nat.zero_add] at c3 c8
  exact ⟨c3, A, c, c8, ho.frozenAt _, own_blkP ho rfl, hw⟩
theorem plain_int : Plain tInt := fun h => h
/-- One plug more. -/
theorem PV.push {k : Nat} {x : Col} {pl : List Int} {A : Option Addr} {c : Nat} {ys : List Value} {t : Int} {W3 : World} {v' : Value} (r : PV w V W g b cc s h l k pl) (hx : l[k]? = some x)
    (h8 : W.cell? ⟨b, k * 12 + 8, none⟩ = some (.slice A pl.length c)) (hy : W.ownsRow V.heap.size 3 1 (.slice A pl.length c) pl.length ys) (hyf : Flat tInt W (But W (.slice A pl.length c)) ys pl)
    {W1 : World} (h1 : Below W.heap.size W W1) (ho3 : W3.ownsRow V.heap.size 3 1 v' (pl.length + 1) (ys ++ [.int .i64 t])) (hg3 : W1.grownBy W3 (Value.slice A pl.length c).ownBlock) :
    PV w V (W3.setCell ⟨b, k * 12 + 8, none⟩ v') g b cc s h l k (pl ++ [t]) := by
  obtain ⟨xs, vp, ho, q8, hf, hw, hn⟩ := r.own
  have hrb := r.rb; have hbg := r.bg; have hgv := r.gv; have hvw := r.vw
  have hge : ∀ q, (Value.slice A pl.length c).ownBlock = some q → V.heap.size ≤ q := fun q hq => (hy.lt q hq).1
  have hkeep : ∀ x o, x < V.heap.size → x ≠ b → (W3.setCell ⟨b, k * 12 + 8, none⟩ v').cell? ⟨x, o, none⟩ = W.cell? ⟨x, o, none⟩ := fun x o h1' h2' => by
    rw [cell_far (by simpa using h2')]
    have hx1 : x < W1.heap.size := Nat.lt_of_lt_of_le h1' (Nat.le_trans hvw h1.size)
    rw [World.cell?_of_block (hg3.block x hx1 (fun e => by have := hge x e.symm; omega))]
    exact h1.cell (p := ⟨x, o, none⟩) (Nat.lt_of_lt_of_le h1' hvw)
  have hne3 : v'.ownBlock ≠ some b := fun e => by have := (ho3.lt b e).1; omega
  have hlenx : xs.length = l.length * 12 := by
    have := hf.len
    rw [List.length_set] at this
    exact this
  have hki : k < l.length := by
    rcases Nat.lt_or_ge k l.length with h' | h'
    · exact h'
    · rw [List.getElem?_eq_none h'] at hx; cases hx
  have ho1 := own_below ho h1 (Nat.le_refl _)
  have ho2 := ho1.kept hg3 (.inr fun e => by
    have e' : some b = (Value.slice A pl.length c).ownBlock := e
    have := hge b e'.symm
    omega)
  obtain ⟨ho4, _⟩ := ho2.stored (k * 12 + 8) v'
  have hbe : Below w.heap.size w (W3.setCell ⟨b, k * 12 + 8, none⟩ v') := by
    have b1 := r.be.trans (h1.mono r.be.size)
    have b2 : Below w.heap.size W1 W3 := ⟨hg3.os, hg3.tape, hg3.output, hg3.size, fun i hi => hg3.block i (Nat.lt_of_lt_of_le hi b1.size) (fun e => by have := hge i e.symm; omega)⟩
    exact (b1.trans b2).setCell (p := ⟨b, k * 12 + 8, none⟩) (by show w.heap.size ≤ b; omega) _
  have hbk : ∀ {q : Nat} {ty : TypeId} {cs : Array Value}, Bk W q ty cs → q < V.heap.size → q ≠ b → Bk (W3.setCell ⟨b, k * 12 + 8, none⟩ v') q ty cs := fun hq h1' h2' =>
    ((hq.below h1 hq.lt).grown hg3 (fun e => by have := hge _ e.symm; omega)).far (p := ⟨b, k * 12 + 8, none⟩) h2' _
  refine ⟨hbk r.bk hgv (by omega), hbk r.res (by omega) (by omega), ⟨xs.set (k * 12 + 8) v', v', ho4, ?_, ?_, ?_, fun e => by simp at e⟩, ?_, hbe, hrb, hbg, hgv, ?_, r.lc, r.cm⟩
  · rw [List.getElem?_set_self (by rw [hlenx]; omega)]
  · rw [List.set_set]
    exact hf.keep fun x o hS => hkeep x o hS.2.1 hS.2.2.1
  · refine ⟨ys ++ [.int .i64 t], by rw [List.length_append]; exact own_far ho3 _ _ hne3, ?_⟩
    exact (hyf.append (.single (cs := [.int .i64 t]) (x := t) rfl)).plain plain_int
  · exact r.cov.keep fun x o hS => hkeep x o (by have := hS.2.1; omega) hS.2.2.1
  · have e1 := hg3.size
    have e2 := h1.size
    have e3 : (W3.setCell ⟨b, k * 12 + 8, none⟩ v').heap.size = W3.heap.size := by simp [World.setCell]
    rw [e3]
    omega
end
/-- A bit of a number. -/
def bitOf (p n : Nat) : Bool := bits BinOp.and IntKind.u64 ((p : Int) / 2 ^ n) 1 == 1
/-- What Plugged returns. -/
def PlgRet (bt : Nat → Bool) (w : World) (e : Ending) (w' : World) : Prop :=
  ∃ (s : Shp) (h : Hd) (v1 v2 : Value) (bs : List Bx) (st : List Stw), e = .returned (.tuple #[.agg (shpA s h), v1, v2]) ∧ Lm s ∧ Pg bt s ∧ Ld s bs st ∧ ShpR w' (Ap2 w' v1 v2) s h ∧ OwnP tBx 37 w' w.heap.size v1 bs ∧ OwnP tStw 42 w' w.heap.size v2 st ∧ Below w.heap.size w w'
/-- The columns lie in block b, between r and B, and nothing else of the ship does. -/
structure PO (r B b : Nat) (V : World) (s : Shp) (h : Hd) : Prop where
  own : ∃ xs, V.ownsRow r 46 12 (.slice (some ⟨b, 0, none⟩) s.cols.length h.c1) s.cols.length xs ∧ Flat tCol V (fun x => r < x ∧ x < B ∧ x ≠ b) xs s.cols
  cov : SlT tCov V (fun x => r < x ∧ x < B ∧ x ≠ b) h.A2 s.covs
  a1 : h.A1 = some ⟨b, 0, none⟩
  lb : r < b ∧ b < B
  sz : B ≤ V.heap.size
  z : s.rows = [] ∧ s.frames = [] ∧ s.tanks = []
theorem PO.grown {r B b : Nat} {V V' : World} {s : Shp} {h : Hd} (p : PO r B b V s h) {q : Nat} (hg : V.grownBy V' (some q)) (hq : q = r ∨ B ≤ q) : PO r B b V' s h := by
  obtain ⟨xs, ho, hf⟩ := p.own
  have hlb := p.lb
  have hsz := p.sz
  have hne : ∀ x, r < x → x < B → some x ≠ some q := fun x h1 h2 e => by injection e with e; omega
  have hk : ∀ x o, (r < x ∧ x < B ∧ x ≠ b) → V'.cell? ⟨x, o, none⟩ = V.cell? ⟨x, o, none⟩ := fun x o hx => World.cell?_of_block (hg.block x (Nat.lt_of_lt_of_le hx.2.1 hsz) (hne x hx.1 hx.2.1))
  exact ⟨⟨xs, ho.kept hg (.inr (hne b hlb.1 hlb.2)), hf.keep hk⟩, p.cov.keep hk, p.a1, p.lb, Nat.le_trans hsz hg.size, p.z⟩
theorem PO.below {r B b : Nat} {V V' : World} {s : Shp} {h : Hd} (p : PO r B b V s h) (hb : Below V.heap.size V V') : PO r B b V' s h := by
  obtain ⟨xs, ho, hf⟩ := p.own
  have hsz := p.sz
  have hk : ∀ x o, (r < x ∧ x < B ∧ x ≠ b) → V'.cell? ⟨x, o, none⟩ = V.cell? ⟨x, o, none⟩ := fun x o hx => hb.cell (p := ⟨x, o, none⟩) (Nat.lt_of_lt_of_le hx.2.1 hsz)
  exact ⟨⟨xs, own_below ho hb (Nat.le_refl _), hf.keep hk⟩, p.cov.keep hk, p.a1, p.lb, Nat.le_trans hsz hb.size, p.z⟩
/-- What Plugged returns, with the word on the columns' block. -/
def PlgRetO (bt : Nat → Bool) (w : World) (e : Ending) (w' : World) : Prop :=
  ∃ (s : Shp) (h : Hd) (v1 v2 : Value) (bs : List Bx) (st : List Stw), e = .returned (.tuple #[.agg (shpA s h), v1, v2]) ∧ Lm s ∧ Pg bt s ∧ Ld s bs st ∧ ShpR w' (Ap2 w' v1 v2) s h ∧ OwnP tBx 37 w' w.heap.size v1 bs ∧ OwnP tStw 42 w' w.heap.size v2 st ∧ Below w.heap.size w w' ∧
    ∃ B b, PO w.heap.size B b w' s h ∧ (∀ x, v1.ownBlock = some x → B ≤ x) ∧ ∀ x, v2.ownBlock = some x → B ≤ x
theorem cov_sl {w : World} {base : Nat} {A : Option Addr} {c : Nat} {covs : List Cov} {gs : List Nat} (h : CovOwn w base (.slice A covs.length c) covs gs) (S : Nat → Prop) (hS : ∀ x t cs, Bk w x t cs → base ≤ x → t = 102 ∨ t = 3 → S x) : SlT tCov w S A covs := by
  have hfl : Flat tCov w S (covCells covs gs) covs := h.rows.flat fun g hg => by
    obtain ⟨h1, _, cs, h3⟩ := h.rows.lt g hg
    exact hS g _ _ h3 h1 (.inr rfl)
  obtain ⟨A', c', e, h1, h2, h3⟩ := own_sl h.own
  injection e with eA _ ec
  intro hn
  have hp : 0 < covs.length := by cases hh : covs with | nil => exact absurd hh hn | cons x l => simp
  obtain ⟨b', off, hA, hbB, hcell⟩ := h3.mem hp
  have hob : (Value.slice A covs.length c).ownBlock = some b' := by rw [eA, hA]; rfl
  obtain ⟨csb, hkb⟩ : ∃ cs, Bk w b' 102 cs := by
    rcases h.own.2 with ⟨hv, _⟩ | ⟨g', cap, cur, hv, _, hh, _⟩
    · rw [hv] at hob; cases hob
    · rw [hv] at hob; simp only [Value.ownBlock, Option.some.injEq] at hob; subst hob; exact ⟨cur, hh⟩
  rw [eA]
  refine ⟨b', off, hA, hS b' _ _ hkb (h.own.lt b' hob).1 (.inl rfl), fun i x hx => ?_⟩
  obtain ⟨cs, k1, k2⟩ := hfl.at_ hx
  refine ⟨cs, k1, fun j u hu => ?_⟩
  rw [Nat.add_assoc]
  exact hcell _ u (k2 j u hu)
theorem size_setP (V : World) (p : Addr) (v : Value) : (V.setCell p v).heap.size = V.heap.size := by simp [World.setCell]
end Go.Proofs.Ytmkplemdnglhmaa
