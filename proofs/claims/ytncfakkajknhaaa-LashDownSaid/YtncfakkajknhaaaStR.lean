/-
  The walk of twistlocklaw10.Limited.
-/
import Derived.Deep.CutBlock
import Derived.Test.YtncfakkajknhaaaStQ
import Derived.Test.YtncfakkajknhaaaStO
namespace Go.Proofs.Ytncfakkajknhaaa
open Go.RowKit

theorem set13 {W : World} {g : Nat} {t : TypeId} {cs : Array Value} (h : Bk W g t cs) (v0 v1 v2 v3 v4 v5 v6 v7 v8 v9 v10 v11 v12 : Value) (hz : cs.size = 13) : Bk (((((((((((((W.setCell ⟨g, 0, none⟩ v0).setCell ⟨g, 1, none⟩ v1).setCell ⟨g, 2, none⟩ v2).setCell ⟨g, 3, none⟩ v3).setCell ⟨g, 4, none⟩ v4).setCell ⟨g, 5, none⟩ v5).setCell ⟨g, 6, none⟩ v6).setCell ⟨g, 7, none⟩ v7).setCell ⟨g, 8, none⟩ v8).setCell ⟨g, 9, none⟩ v9).setCell ⟨g, 10, none⟩ v10).setCell ⟨g, 11, none⟩ v11).setCell ⟨g, 12, none⟩ v12) g t #[v0, v1, v2, v3, v4, v5, v6, v7, v8, v9, v10, v11, v12] := by
  have h9 := (((((((((((((h.set_ 0 v0).set_ 1 v1).set_ 2 v2).set_ 3 v3).set_ 4 v4).set_ 5 v5).set_ 6 v6).set_ 7 v7).set_ 8 v8).set_ 9 v9).set_ 10 v10).set_ 11 v11).set_ 12 v12)
  have e : ∀ cs : Array Value, cs.size = 13 → (((((((((((((cs.setIfInBounds 0 v0).setIfInBounds 1 v1).setIfInBounds 2 v2).setIfInBounds 3 v3).setIfInBounds 4 v4).setIfInBounds 5 v5).setIfInBounds 6 v6).setIfInBounds 7 v7).setIfInBounds 8 v8).setIfInBounds 9 v9).setIfInBounds 10 v10).setIfInBounds 11 v11).setIfInBounds 12 v12) = #[v0, v1, v2, v3, v4, v5, v6, v7, v8, v9, v10, v11, v12] := by
    rintro ⟨l⟩ hz
    match l, hz with
    | [_, _, _, _, _, _, _, _, _, _, _, _, _], _ => simp
  rw [e cs hz] at h9
  exact h9
theorem grown13 (W : World) (g : Nat) (v0 v1 v2 v3 v4 v5 v6 v7 v8 v9 v10 v11 v12 : Value) : W.grownBy (((((((((((((W.setCell ⟨g, 0, none⟩ v0).setCell ⟨g, 1, none⟩ v1).setCell ⟨g, 2, none⟩ v2).setCell ⟨g, 3, none⟩ v3).setCell ⟨g, 4, none⟩ v4).setCell ⟨g, 5, none⟩ v5).setCell ⟨g, 6, none⟩ v6).setCell ⟨g, 7, none⟩ v7).setCell ⟨g, 8, none⟩ v8).setCell ⟨g, 9, none⟩ v9).setCell ⟨g, 10, none⟩ v10).setCell ⟨g, 11, none⟩ v11).setCell ⟨g, 12, none⟩ v12) (some g) :=
  (((((((((((((grown_setCell _ ⟨g, 0, none⟩ v0).trans (grown_setCell _ ⟨g, 1, none⟩ v1)).trans (grown_setCell _ ⟨g, 2, none⟩ v2)).trans (grown_setCell _ ⟨g, 3, none⟩ v3)).trans (grown_setCell _ ⟨g, 4, none⟩ v4)).trans (grown_setCell _ ⟨g, 5, none⟩ v5)).trans (grown_setCell _ ⟨g, 6, none⟩ v6)).trans (grown_setCell _ ⟨g, 7, none⟩ v7)).trans (grown_setCell _ ⟨g, 8, none⟩ v8)).trans (grown_setCell _ ⟨g, 9, none⟩ v9)).trans (grown_setCell _ ⟨g, 10, none⟩ v10)).trans (grown_setCell _ ⟨g, 11, none⟩ v11)).trans (grown_setCell _ ⟨g, 12, none⟩ v12))
theorem cell_far {w : World} {p : Addr} {u : Value} {b o : Nat} (h : b ≠ p.block) : (w.setCell p u).cell? ⟨b, o, none⟩ = w.cell? ⟨b, o, none⟩ := World.cell?_of_block (Below.heap_setCell w p u b h)
theorem Flat.set {α : Type} {T : Ty α} {w : World} {S : Nat → Prop} : ∀ {xs : List Value} {l : List α} {i : Nat} {x x' : α} {j : Nat} {u : Value}, Flat T w S xs l → l[i]? = some x → j < T.k → (∀ cs, T.rd w S cs x → T.rd w S (cs.set j u) x') → Flat T w S (xs.set (i * T.k + j) u) (l.set i x')
  | xs, [], i, x, x', j, u, _, hx, _, _ => by simp at hx
  | xs, y :: l, 0, x, x', j, u, ⟨cs, ys, e, h1, h2⟩, hx, hj, hr => by
    simp at hx; subst hx
    refine ⟨cs.set j u, ys, ?_, hr cs h1, h2⟩
    rw [e, Nat.zero_mul, Nat.zero_add, List.set_append_left _ _ (by rw [T.len h1]; exact hj)]
  | xs, y :: l, i + 1, x, x', j, u, ⟨cs, ys, e, h1, h2⟩, hx, hj, hr => by
    have ih := h2.set (i := i) (x' := x') (u := u) (by simpa using hx) hj hr
    refine ⟨cs, ys.set (i * T.k + j) u, ?_, h1, ih⟩
    have hl := T.len h1
    rw [e, List.set_append_right _ _ (by rw [hl, Nat.add_mul]; omega), hl, show (i + 1) * T.k + j - T.k = i * T.k + j by rw [Nat.add_mul]; omega]
theorem OwnS.set {α : Type} {T : Ty α} {e : TypeId} {w : World} {base b c : Nat} {S : Nat → Prop} {l : List α} (h : OwnS T e w base S (.slice (some ⟨b, 0, none⟩) l.length c) l) {i : Nat} {x x' : α} {j : Nat} {u : Value} (hx : l[i]? = some x) (hj : j < T.k) (hr : ∀ cs, T.rd w S cs x → T.rd w S (cs.set j u) x') :
    OwnS T e (w.setCell ⟨b, i * T.k + j, none⟩ u) base S (.slice (some ⟨b, 0, none⟩) (l.set i x').length c) (l.set i x') := by
  obtain ⟨xs, h1, h2, h3⟩ := h
  obtain ⟨k1, k2⟩ := h1.stored (i * T.k + j) u
  have hk : ∀ b' o, S b' → (w.setCell ⟨b, i * T.k + j, none⟩ u).cell? ⟨b', o, none⟩ = w.cell? ⟨b', o, none⟩ := fun b' o hb => cell_far (by have := (h3 b' hb).2; simpa [Value.ownBlock] using this)
  refine ⟨xs.set (i * T.k + j) u, by rw [List.length_set]; exact k1, (h2.set hx hj hr).keep hk, fun b' hb => ⟨Nat.lt_of_lt_of_le (h3 b' hb).1 k2.size, ?_⟩⟩
  rw [List.length_set]
  exact (h3 b' hb).2
theorem OwnS.form {α : Type} {T : Ty α} {e : TypeId} {w : World} {base : Nat} {S : Nat → Prop} {v : Value} {l : List α} (h : OwnS T e w base S v l) (hl : 0 < l.length) : ∃ b c, v = .slice (some ⟨b, 0, none⟩) l.length c ∧ base ≤ b ∧ l.length ≤ c ∧ c ≤ maxLen := by
  obtain ⟨xs, h1, _, _⟩ := h
  obtain ⟨_, h0 | ⟨g, cap, cur, hv, hb, _, hn, hm, _⟩⟩ := h1
  · omega
  · exact ⟨g, cap, hv, hb, hn, hm⟩
theorem rd_f {V : World} {S : Nat → Prop} {x : Col} (j : Nat) (u : Value) (x' : Col) (hp : x'.plugs = x.plugs) (hc : ∀ A p, (colL x A p).set j u = colL x' A p) : ∀ cs, tCol.rd V S cs x → tCol.rd V S (cs.set j u) x' := by
  rintro cs ⟨A, p, rfl, h1, h2⟩
  exact ⟨A, p, hc A p, by rw [hp]; exact h1, by rw [hp]; exact h2⟩
theorem results_row_tmp2 {P : Program} {fn : Func} {p u v : Tmp} {ty : TypeId} (h : fn.results = #[.cell p ty, .tmp u, .tmp v]) (tmps : Array Value) (w : World) (g : Nat) (t : TypeId) (cs : Array Value) (d : TypeDesc)
    (hp : tmps.getD p undef = .pointer (some ⟨g, 0, none⟩)) (hg : Bk w g t cs)
    (hu : P.underlying ty = some d) (hd : (match d with | .struct _ | .array _ _ => true | _ => false) = true) (hi : (P.info? ty).map (·.size) = some cs.size) :
    (results fn tmps).run P w = .ok (.tuple #[.agg cs, tmps.getD u undef, tmps.getD v undef]) w := by
  simp only [results, h]
  simp [Sem.run_bind, Result.andThen]
  simp only [Array.getD_eq_getD_getElem?] at hp
  rw [hp]
  simp [asAddr, Sem.run_pure, run_loadVar_row w g t ty cs (0, 0) d hg hu hd hi, Sem.run_bind, Result.andThen]
/-- A slice of the call's own whose elements point to nothing. -/
def OwnP {α : Type} (T : Ty α) (e : TypeId) (w : World) (B : Nat) (v : Value) (l : List α) : Prop := OwnS T e w B (fun _ => False) v l
theorem OwnS.toP {α : Type} {T : Ty α} (hp : Plain T) {e : TypeId} {w : World} {B : Nat} {S : Nat → Prop} {v : Value} {l : List α} (h : OwnS T e w B S v l) : OwnP T e w B v l := by
  obtain ⟨xs, ho, hf, _⟩ := h
  exact ⟨xs, ho, hf.plain hp, fun _ h => h.elim⟩
theorem OwnP.toS {α : Type} {T : Ty α} (hp : Plain T) {e : TypeId} {w : World} {B : Nat} {v : Value} {l : List α} (h : OwnP T e w B v l) (hB : B ≤ w.heap.size) : OwnS T e w B (Lt B) v l := by
  obtain ⟨xs, ho, hf, _⟩ := h
  refine ⟨xs, ho, hf.plain hp, fun b hb => ⟨Nat.lt_of_lt_of_le hb hB, fun e => ?_⟩⟩
  have h1 := (ho.lt b e.symm).1
  have h2 : b < B := hb
  omega
theorem OwnP.grown {α : Type} {T : Ty α} {e : TypeId} {w w' : World} {B : Nat} {v : Value} {l : List α} {row : Option Nat} (h : OwnP T e w B v l) (hg : w.grownBy w' row) (hne : v.ownBlock = none ∨ v.ownBlock ≠ row) : OwnP T e w' B v l := by
  obtain ⟨xs, ho, hf, _⟩ := h
  exact ⟨xs, ho.kept hg hne, hf.keep fun b o hb => hb.elim, fun b hb => hb.elim⟩
theorem OwnP.on {α : Type} {T : Ty α} {e : TypeId} {w w' : World} {B : Nat} {v : Value} {l : List α} (h : OwnP T e w B v l) (hb : Below w.heap.size w w') : OwnP T e w' B v l := OwnS.below h hb
theorem OwnP.down {α : Type} {T : Ty α} {e : TypeId} {w : World} {B B' : Nat} {v : Value} {l : List α} (h : OwnP T e w B v l) (hB : B' ≤ B) : OwnP T e w B' v l := by
  obtain ⟨xs, ho, hf, hS⟩ := h
  exact ⟨xs, own_mono ho hB, hf, hS⟩
theorem OwnP.lt {α : Type} {T : Ty α} {e : TypeId} {w : World} {B : Nat} {v : Value} {l : List α} (h : OwnP T e w B v l) : ∀ g, v.ownBlock = some g → B ≤ g ∧ g < w.heap.size := by
  obtain ⟨xs, ho, _⟩ := h
  exact fun g hg => ho.lt g hg
theorem OwnP.ne {α : Type} {T : Ty α} {e t : TypeId} {w : World} {B g : Nat} {v : Value} {l : List α} {cs : Array Value} (h : OwnP T e w B v l) (hb : Bk w g t cs) (hne : e ≠ t) : v.ownBlock ≠ some g := OwnS.ne h hb hne
theorem own_free {e : TypeId} {w : World} {B : Nat} {v : Value} {l : List Col} (hp : ∀ c ∈ l, c.plugs = []) (h : OwnT tCol e w B v l) : OwnP tCol e w B v l := by
  obtain ⟨xs, ho, hf⟩ := h
  exact ⟨xs, ho, flat_any xs l hp hf, fun _ h => h.elim⟩
theorem CovOwn.grown {w w' : World} {base b : Nat} {v : Value} {covs : List Cov} {gs : List Nat} {t : TypeId} {cs : Array Value} (h : CovOwn w base v covs gs) (hk : Bk w b t cs) (h1 : 131 ≠ t) (h2 : 3 ≠ t) (hg : w.grownBy w' (some b)) : CovOwn w' base v covs gs :=
  ⟨h.own.kept hg (.inr fun e => own_ne h.own hk h1 (e.trans rfl)), h.rows.keep fun g hg' => hg.block g (h.rows.lt g hg').2.1 (by
    obtain ⟨_, _, cs', h3⟩ := h.rows.lt g hg'
    intro e
    injection e with e
    exact Bk.ne_ h3 hk h2 e)⟩
theorem CovOwn.down {w : World} {base base' : Nat} {v : Value} {covs : List Cov} {gs : List Nat} (h : CovOwn w base v covs gs) (hB : base' ≤ base) : CovOwn w base' v covs gs := ⟨own_mono h.own hB, CovR.down hB h.rows⟩
/-- The columns of which the first k are limited. -/
def limTo (f : Col → Int × Int × Int) (l : List Col) (k : Nat) : List Col := (l.take k).map (limC f) ++ l.drop k
theorem limTo_len (f : Col → Int × Int × Int) (l : List Col) (k : Nat) : (limTo f l k).length = l.length := by unfold limTo; simp; omega
theorem limTo_at (f : Col → Int × Int × Int) (l : List Col) {k : Nat} (h : k < l.length) : (limTo f l k)[k]? = some (l.getD k default) := by
  unfold limTo
  rw [List.getElem?_append_right (by simp; omega)]
  simp [Nat.min_eq_left (Nat.le_of_lt h), h]
theorem limTo_set (f : Col → Int × Int × Int) (l : List Col) {k : Nat} (h : k < l.length) : (limTo f l k).set k (limC f (l.getD k default)) = limTo f l (k + 1) := by
  unfold limTo
  rw [List.set_append_right _ _ (by simp; omega)]
  rw [show k - ((l.take k).map (limC f)).length = 0 by simp; omega, List.drop_eq_getElem_cons h, List.set_cons_zero, List.take_succ_eq_append_getElem h, List.map_append, List.append_assoc]
  simp [h]
theorem limTo_all (f : Col → Int × Int × Int) (l : List Col) : limTo f l l.length = l.map (limC f) := by unfold limTo; simp
/-- The ship in its variable, while limits are written into its columns. -/
structure LW (w V : World) (g b cc : Nat) (gs : List Nat) (s : Shp) (h : Hd) (l : List Col) : Prop where
  bk : Bk V g 37 (shpA { s with cols := l } { h with A1 := some ⟨b, 0, none⟩, c1 := cc })
  own : OwnP tCol 67 V w.heap.size (.slice (some ⟨b, 0, none⟩) l.length cc) l
  cov : CovOwn V w.heap.size (.slice h.A2 s.covs.length h.c2) s.covs gs
  be : Below w.heap.size w V
  lg : w.heap.size ≤ g
  lb : w.heap.size ≤ b
  lc : l.length ≤ cc
  cm : cc ≤ maxLen
section
variable {w V V' : World} {g b cc : Nat} {gs : List Nat} {s : Shp} {h : Hd} {l : List Col}
theorem LW.on (r : LW w V g b cc gs s h l) (hb : Below V.heap.size V V') : LW w V' g b cc gs s h l :=
  ⟨r.bk.below hb r.bk.lt, r.own.on hb, r.cov.below hb, r.be.trans (hb.mono r.be.size), r.lg, r.lb, r.lc, r.cm⟩
theorem LW.blk (r : LW w V g b cc gs s h l) : ∃ cs, Bk V b 67 cs := OwnS.blk r.own rfl
theorem LW.at_ (r : LW w V g b cc gs s h l) {k : Nat} {x : Col} (hx : l[k]? = some x) : ∃ Ap q, (∀ j u, (colL x Ap q)[j]? = some u → V.cell? ⟨b, k * 12 + j, none⟩ = some u) ∧ ∀ j, V.frozen? ⟨b, k * 12 + j, none⟩ = false := by
  obtain ⟨xs, ho, hfl, _⟩ := r.own
  obtain ⟨cs, ⟨Ap, q, rfl, hq1, hq2⟩, hc⟩ := hfl.at_ hx
  refine ⟨Ap, q, fun j u hu => ?_, fun j => ho.frozenAt _⟩
  have := ho.cells (g := b) rfl (k * 12 + j) u (hc j u hu)
  rw [add_mk, Nat.zero_add] at this
  exact this
theorem LW.set (r : LW w V g b cc gs s h l) {i : Nat} {x x' : Col} {j : Nat} {u : Value} (hx : l[i]? = some x) (hj : j < 12) (hr : ∀ cs, tCol.rd V (fun _ => False) cs x → tCol.rd V (fun _ => False) (cs.set j u) x') :
    LW w (V.setCell ⟨b, i * 12 + j, none⟩ u) g b cc gs s h (l.set i x') := by
  obtain ⟨cs, hkb⟩ := r.blk
  have hne : g ≠ b := Bk.ne_ r.bk hkb (by decide)
  refine ⟨?_, OwnS.set (T := tCol) r.own hx hj hr, r.cov.grown hkb (by decide) (by decide) (grown_setCell _ _ _), r.be.setCell (by show w.heap.size ≤ b; exact r.lb) _, r.lg, r.lb, by rw [List.length_set]; exact r.lc, r.cm⟩
  have := r.bk.far (p := ⟨b, i * 12 + j, none⟩) hne u
  have e : shpA { s with cols := l.set i x' } { h with A1 := some ⟨b, 0, none⟩, c1 := cc } = shpA { s with cols := l } { h with A1 := some ⟨b, 0, none⟩, c1 := cc } := by unfold shpA; simp
  rw [e]; exact this
theorem LW.rd (r : LW w V g b cc gs s h l) (h1 : s.rows = []) (h2 : s.frames = []) (h3 : s.tanks = []) {w0 : World} {S : Nat → Prop} (h0 : ShpR w0 S s h) (m : Int) : ShpR V (Lt V.heap.size) { s with cols := l, m0 := m } { h with A1 := some ⟨b, 0, none⟩, c1 := cc } := by
  obtain ⟨A, c', e, _, _, hsl⟩ := r.own.sl'
  injection e with e1 _ e2
  subst e1 e2
  refine ⟨r.lc, h0.n2, h0.n3, h0.n4, h0.n5, r.cm, h0.m2, h0.m3, h0.m4, h0.m5, hsl, ownT_sl r.cov.ownT, ?_, ?_, ?_⟩
  · show SlT tRow V _ h.A3 s.rows; rw [h1]; exact SlT.nil
  · show SlT tRow V _ h.A4 s.frames; rw [h2]; exact SlT.nil
  · show SlT tTnk V _ h.A5 s.tanks; rw [h3]; exact SlT.nil
theorem LW.off (r : LW w V g b cc gs s h l) {t : TypeId} {q : Nat} {cs : Array Value} (hk : Bk V q t cs) (h1 : t ≠ 67) (h2 : t ≠ 37) (h3 : 131 ≠ t) (h4 : 3 ≠ t) (hq : w.heap.size ≤ q) (hg : V.grownBy V' (some q)) : LW w V' g b cc gs s h l := by
  obtain ⟨cb, hkb⟩ := r.blk
  refine ⟨r.bk.grownT hk (Ne.symm h2) hg, r.own.grown hg (.inr ?_), r.cov.grown hk h3 h4 hg, r.be.trans (below_of_grown hg hq r.be.size), r.lg, r.lb, r.lc, r.cm⟩
  intro e
  injection e with e
  exact Bk.ne_ hkb hk (Ne.symm h1) e
theorem LW.tol (r : LW w V g b cc gs s h l) (m : Int) : LW w (V.setCell ⟨g, 9, none⟩ (.int .i64 m)) g b cc gs { s with m0 := m } h l := by
  refine ⟨?_, r.own.grown (grown_setCell _ _ _) (.inr (r.own.ne r.bk (by decide))), r.cov.grown r.bk (by decide) (by decide) (grown_setCell _ _ _), r.be.setCell r.lg _, r.lg, r.lb, r.lc, r.cm⟩
  have := r.bk.set_ 9 (.int .i64 m)
  exact this
end
/-- A ship of the call's own, in its variable and below. -/
structure ShOwn (w V : World) (g : Nat) (s : Shp) (h : Hd) : Prop where
  lw : ∃ b gs, LW w V g b h.c1 gs s h s.cols ∧ h.A1 = some ⟨b, 0, none⟩
  z : s.rows = [] ∧ s.frames = [] ∧ s.tanks = []
  n2 : s.covs.length ≤ h.c2
  m2 : h.c2 ≤ maxLen
  m3 : h.c3 ≤ maxLen
  m4 : h.c4 ≤ maxLen
  m5 : h.c5 ≤ maxLen
theorem ShOwn.on {w V V' : World} {g : Nat} {s : Shp} {h : Hd} (r : ShOwn w V g s h) (hb : Below V.heap.size V V') : ShOwn w V' g s h := by
  obtain ⟨b, gs, r1, r2⟩ := r.lw
  exact ⟨⟨b, gs, r1.on hb, r2⟩, r.z, r.n2, r.m2, r.m3, r.m4, r.m5⟩
theorem ShOwn.off {w V V' : World} {g q : Nat} {s : Shp} {h : Hd} {cs : Array Value} (r : ShOwn w V g s h) (hk : Bk V q 37 cs) (hgq : g ≠ q) (hq : w.heap.size ≤ q) (hg : V.grownBy V' (some q)) : ShOwn w V' g s h := by
  obtain ⟨b, gs, r1, r2⟩ := r.lw
  refine ⟨⟨b, gs, ⟨r1.bk.grown hg (by intro e; injection e with e; exact hgq e), r1.own.grown hg (.inr fun e => r1.own.ne hk (by decide) e), r1.cov.grown hk (by decide) (by decide) hg, r1.be.trans (below_of_grown hg hq r1.be.size), r1.lg, r1.lb, r1.lc, r1.cm⟩, r2⟩, r.z, r.n2, r.m2, r.m3, r.m4, r.m5⟩
theorem ShOwn.rd {w V : World} {g : Nat} {s : Shp} {h : Hd} (r : ShOwn w V g s h) (S : Nat → Prop) (hS : ∀ x t cs, Bk V x t cs → t = 67 ∨ t = 131 ∨ t = 3 → S x) : ShpR V S s h := by
  obtain ⟨b, gs, r1, r2⟩ := r.lw
  obtain ⟨z1, z2, z3⟩ := r.z
  refine ⟨r1.lc, r.n2, by rw [z1]; exact Nat.zero_le _, by rw [z2]; exact Nat.zero_le _, by rw [z3]; exact Nat.zero_le _, r1.cm, r.m2, r.m3, r.m4, r.m5, ?_, ?_, by rw [z1]; exact SlT.nil, by rw [z2]; exact SlT.nil, by rw [z3]; exact SlT.nil⟩
  · rw [r2]
    intro hn
    obtain ⟨cb, hkb⟩ := r1.blk
    obtain ⟨xs, ho, hfl, _⟩ := r1.own
    refine ⟨b, 0, rfl, hS b _ _ hkb (.inl rfl), fun i x hx => ?_⟩
    obtain ⟨cs, h1, h2⟩ := (hfl.more (S' := S) fun _ h => h.elim).at_ hx
    refine ⟨cs, h1, fun j u hu => ?_⟩
    have := ho.cells (g := b) rfl (i * tCol.k + j) u (h2 j u hu)
    rw [add_mk] at this
    rw [Nat.add_assoc]
    exact this
  · have hfl : Flat tCov V S (covCells s.covs gs) s.covs := r1.cov.rows.flat fun g hg => by
      obtain ⟨_, _, cs, h3⟩ := r1.cov.rows.lt g hg
      exact hS g _ _ h3 (.inr (.inr rfl))
    obtain ⟨A, c, e, h1, h2, h3⟩ := own_sl r1.cov.own
    injection e with eA _ ec
    intro hn
    have hp : 0 < s.covs.length := by cases hh : s.covs with | nil => exact absurd hh hn | cons x l => simp
    obtain ⟨b', off, hA, hbB, hcell⟩ := h3.mem hp
    obtain ⟨csb, hkb⟩ : ∃ cs, Bk V b' 131 cs := by
      have hob : (Value.slice h.A2 s.covs.length h.c2).ownBlock = some b' := by rw [eA, hA]; rfl
      rcases r1.cov.own.2 with ⟨hv, _⟩ | ⟨g', cap, cur, hv, _, hh, _⟩
      · rw [hv] at hob; cases hob
      · rw [hv] at hob; simp only [Value.ownBlock, Option.some.injEq] at hob; subst hob; exact ⟨cur, hh⟩
    rw [eA]
    refine ⟨b', off, hA, hS b' _ _ hkb (.inr (.inl rfl)), fun i x hx => ?_⟩
    obtain ⟨cs, k1, k2⟩ := hfl.at_ hx
    refine ⟨cs, k1, fun j u hu => ?_⟩
    rw [Nat.add_assoc]
    exact hcell _ u (k2 j u hu)
/-- Below the world's size, and in no block of two slices. -/
def Ap2 (w : World) (v1 v2 : Value) (x : Nat) : Prop := x < w.heap.size ∧ v1.ownBlock ≠ some x ∧ v2.ownBlock ≠ some x
/-- What Limited returns. -/
def LimRet (w : World) (e : Ending) (w' : World) : Prop :=
  ∃ (s : Shp) (h : Hd) (v1 v2 : Value) (bs : List Bx) (st : List Stw), e = .returned (.tuple #[.agg (shpA s h), v1, v2]) ∧ Lm s ∧ Ld s bs st ∧ ShpR w' (Ap2 w' v1 v2) s h ∧ OwnP tBx 43 w' w.heap.size v1 bs ∧ OwnP tStw 61 w' w.heap.size v2 st ∧ Below w.heap.size w w'
@[reducible] def zS : Array Value := #[.slice none 0 0, .slice none 0 0, .int .i64 0, .int .i64 0, .int .i64 0, .int .i64 0, .slice none 0 0, .slice none 0 0, .slice none 0 0, .int .i64 0, .int .i64 0, .int .i64 0, .int .i64 0]
/-- A cell that holds a value. -/
def As.cellAt (a : Addr) (v : Value) : As := ⟨[], fun _ V => V.cell? a = some v, fun _ h => h, fun hb h => (hb.cell (block_lt_of_cell h)).trans h⟩
theorem lim_x (f : Col → Int × Int × Int) {x : Col} (hx : GoodCol x) (h0 : (f x).2.2 = 0) : { x with k20 := (f x).1, k40 := (f x).2.1 } = limC f x := by
  unfold limC
  rw [h0, ← hx.lash]
def fW (ha hb : Nat) (_ : Col) : Int × Int × Int := (10000 + 200 * (ha : Int), 20000 + 500 * (hb : Int), 0)
theorem u8_w {d : Nat} (h : d < 256) : IntKind.i64.wrap (200 * (d : Int)) = 200 * (d : Int) ∧ IntKind.i64.wrap (10000 + 200 * (d : Int)) = 10000 + 200 * (d : Int) ∧ IntKind.i64.wrap (500 * (d : Int)) = 500 * (d : Int) ∧ IntKind.i64.wrap (20000 + 500 * (d : Int)) = 20000 + 500 * (d : Int) ∧ IntKind.i64.wrap (100 * (d : Int)) = 100 * (d : Int) :=
  ⟨IntWalk.i64_in _ (by omega), IntWalk.i64_in _ (by omega), IntWalk.i64_in _ (by omega), IntWalk.i64_in _ (by omega), IntWalk.i64_in _ (by omega)⟩
set_option maxRecDepth 100000 in
set_option maxHeartbeats 8000000 in
theorem limited_any (A : Option Addr) (c : Nat) (pl : List (Nat × Nat × Nat × Bool)) (covers : Nat) (ha hb ht : Nat) (hha : ha < 256) (hhb : hb < 256) (hht : ht < 256) (A2 : Option Addr) (c2 : Nat) (ds : List Drp) (w : World)
    (hs : SlT tPl w (Lt w.heap.size) A pl) (hl : ∀ p ∈ pl, p.1 < 256 ∧ p.2.1 < 256 ∧ p.2.2.1 < 256) (hc : pl.length ≤ c) (hcm : c ≤ maxLen)
    (hs2 : SlT tDrp w (Lt w.heap.size) A2 ds) (hd : ∀ d ∈ ds, d.col < 256 ∧ d.kilos < 256) (hc2 : ds.length ≤ c2) (hcm2 : c2 ≤ maxLen) :
    Calls Try.prog 13 #[.slice A pl.length c, .int .u32 covers, .agg #[.int .u8 (ha : Nat), .int .u8 (hb : Nat), .int .u8 (ht : Nat)], .slice A2 ds.length c2] w (LimRet w) := by
  let WW := (w.alloc (.cells #[.int .u8 (ha : Nat), .int .u8 (hb : Nat), .int .u8 (ht : Nat)] 25)).alloc (.cells zS 37)
  have bw : Below w.heap.size w WW := ba2 w _ _
  have kw : Bk WW w.heap.size 25 #[.int .u8 (ha : Nat), .int .u8 (hb : Nat), .int .u8 (ht : Nat)] := (Bk.new w _ _).alloc _
  have kr : Bk WW (w.heap.size + 1) 37 zS := Bk.at_ _ _ (by simp)
  obtain ⟨W, hW⟩ : ∃ W, W = WW := ⟨_, rfl⟩
  rw [← hW] at bw kw kr
  have HC := Lib.hid (built_s (covers := covers) (hs.on bw) hl hc hcm)
  have HDS := Lib.hid hs2
  have KW := Lib.hid kw
  have KR := Lib.hid kr
  have BW := Lib.hid bw
  have hW' := hW.symm
  dsimp only [WW, zS] at hW'
  clear hs hl hc hcm hs2 bw kw kr hW
  clear WW
  go_enter Try.func13, Try.ntmps13
  go_upto_region 1 with fail
  try rw [hW']
  clear hW'
  go_wp2_with fail
  refine HC.out.mono ?_
  rintro e w1 ⟨s, h, gs, rfl, hBu, ho1, ho2, hrd, hb1⟩
  simp only
  have hrows : s.rows = [] ∧ s.frames = [] ∧ s.tanks = [] := by rw [hBu.eq]; exact ⟨rfl, rfl, rfl⟩
  have hp0 : ∀ c ∈ s.cols, c.plugs = [] := fun c hc => (hBu.cols.1 c hc).plugs
  have hoP := own_free hp0 ho1
  have h1 := hBu.one
  obtain ⟨b, cc, e1, hbb, hcc, hccm⟩ := OwnS.form hoP (by omega)
  injection e1 with eA _ ec
  have HRD : Hid (∃ w0 S, ShpR w0 S s h) := Lib.hid ⟨_, _, hrd⟩
  have hbw1 := ba1 w1 (.cells (shpA s h) 37)
  have hl0 : limTo (fW ha hb) s.cols 0 = s.cols := by unfold limTo; simp
  have HL0 : Hid (LW w (w1.alloc (.cells (shpA s h) 37)) w1.heap.size b cc gs s h (limTo (fW ha hb) s.cols 0)) := Lib.hid (by
    rw [hl0]
    have hsz := BW.out.size
    have hsz1 := hb1.size
    have hbe1 : Below w.heap.size w w1 := BW.out.trans (hb1.mono hsz)
    have hkg := Bk.new w1 37 (shpA s h)
    have hoQ := (OwnP.down hoP hsz).on hbw1
    refine ⟨?_, ?_, (ho2.down hsz).below hbw1, hbe1.trans (hbw1.mono hbe1.size), Nat.le_trans hsz hsz1, Nat.le_trans hsz hbb, hcc, hccm⟩
    · have : shpA { s with cols := s.cols } { h with A1 := some ⟨b, 0, none⟩, c1 := cc } = shpA s h := by unfold shpA; rw [eA, ec]
      rw [this]; exact hkg
    · rw [eA, ec] at hoQ; exact hoQ)
  have KW1 := Lib.hid ((KW.out.below hb1 KW.out.lt).alloc (.cells (shpA s h) 37))
  have KR1 := Lib.hid ((KR.out.below hb1 KR.out.lt).alloc (.cells (shpA s h) 37))
  have HHD : Hid (shpA s h = shpA { s with cols := limTo (fW ha hb) s.cols 0 } { h with A1 := some ⟨b, 0, none⟩, c1 := cc }) := Lib.hid (by rw [hl0]; unfold shpA; rw [eA, ec])
  have HRW := Lib.hid hrows
  have HGZ : Hid (w1.heap.size ≠ w.heap.size + 1) := Lib.hid (by have := KR.out.lt; have := hb1.size; omega)
  clear HC KW KR BW ho1 ho2 hrd hb1 hoP hbb hbw1 hl0 eA ec hrows
  unfold shpA at HL0 KW1 KR1 ⊢
  go_upto_region 2 with fail
  generalize w1.heap.size = g at *
  generalize (w1.alloc _) = V at *
  clear w1
  have hn12 := hBu.few
  have e0 : V.cell? ⟨g, 0, none⟩ = some (.slice (some ⟨b, 0, none⟩) s.cols.length cc) := by
    have h0 : V.cell? ⟨g, 0, none⟩ = some (.slice (some ⟨b, 0, none⟩) (limTo (fW ha hb) s.cols 0).length cc) := HL0.out.bk.cell 0
    rw [limTo_len] at h0
    exact h0
  go_wp2_with fail
  clear e0
  go_loopw [21] (fun i wr => ∃ k : Nat, k ≤ s.cols.length ∧ i = .int .i64 k ∧ Hid (LW w wr g b cc gs s h (limTo (fW ha hb) s.cols k)) ∧ Hid (Bk wr w.heap.size 25 #[.int .u8 (ha : Nat), .int .u8 (hb : Nat), .int .u8 (ht : Nat)]) ∧ Hid (Bk wr (w.heap.size + 1) 37 zS)) (fun i _ => s.cols.length - (intOf i).toNat)
  case atStart => exact ⟨0, Nat.zero_le _, rfl, HL0, KW1, KR1⟩
  case round =>
    clear HL0 KW1 KR1
    clear V
    obtain ⟨k, hk, rfl, HL, KW, KR⟩ := hrel
    obtain ⟨V, rfl⟩ : ∃ V, V = wr := ⟨_, rfl⟩
    by_cases hlt : k < s.cols.length
    · have i0 : (0 : Int) ≤ (k : Int) := by omega
      have i1 : (k : Int) < (s.cols.length : Int) := by omega
      have hgood := hBu.cols.1 _ (getD_memD hlt default)
      have hat := limTo_at (fW ha hb) s.cols hlt
      have HSET := Lib.hid (limTo_set (fW ha hb) s.cols hlt)
      have hln := limTo_len (fW ha hb) s.cols k
      have HLX : Hid ({ s.cols.getD k default with k20 := 10000 + 200 * (ha : Int), k40 := 20000 + 500 * (hb : Int) } = limC (fW ha hb) (s.cols.getD k default)) := Lib.hid (lim_x (fW ha hb) hgood rfl)
      have hua := u8_in hha
      have hub := u8_in hhb
      obtain ⟨hm1, hm2, -, -, -⟩ := u8_w hha
      obtain ⟨-, -, hm3, hm4, -⟩ := u8_w hhb
      generalize s.cols.getD k default = x at *
      generalize hLk : limTo (fW ha hb) s.cols k = L at *
      have hsame : L.set k { x with k20 := x.k20, k40 := x.k40 } = L := by
        obtain ⟨hkl, hx⟩ := List.getElem?_eq_some_iff.1 hat
        apply List.ext_getElem?
        intro i
        rw [List.getElem?_set]
        split
        · rename_i e; subst e; simp [hkl, hx]
        · rfl
      have hkL : k < L.length := by rw [hln]; exact hlt
      go_step
      go_step
      go_upto_region 5 with fail
      let C : World → Prop := fun V => ∃ X Y : Int, Hid (LW w V g b cc gs s h (L.set k { x with k20 := X, k40 := Y })) ∧ Hid (Bk V w.heap.size 25 #[.int .u8 (ha : Nat), .int .u8 (hb : Nat), .int .u8 (ht : Nat)]) ∧ Hid (Bk V (w.heap.size + 1) 37 zS)
      have hC : ∀ {w w' : World}, C w → Below w.heap.size w w' → C w' := fun ⟨X, Y, h1, h2, h3⟩ hb => ⟨X, Y, Lib.hid (h1.out.on hb), Lib.hid (h2.out.below hb h2.out.lt), Lib.hid (h3.out.below hb h3.out.lt)⟩
      have hC0 : C V := ⟨x.k20, x.k40, Lib.hid (by rw [hsame]; exact HL.out), KW, KR⟩
      have c5 : ∀ {V : World} {X Y : Int}, LW w V g b cc gs s h (L.set k { x with k20 := X, k40 := Y }) → V.cell? ⟨b, k * 12 + 5, none⟩ = some (.int .i64 X) ∧ V.cell? ⟨b, k * 12 + 6, none⟩ = some (.int .i64 Y) ∧ V.frozen? ⟨b, k * 12 + 5, none⟩ = false ∧ V.frozen? ⟨b, k * 12 + 6, none⟩ = false := fun r => by
        obtain ⟨Ap, q, h1, h2⟩ := r.at_ (k := k) (by rw [List.getElem?_set_self hkL])
        exact ⟨h1 5 _ rfl, h1 6 _ rfl, h2 5, h2 6⟩
      have c0 : ∀ {V : World} {X Y : Int}, LW w V g b cc gs s h (L.set k { x with k20 := X, k40 := Y }) → V.cell? ⟨g, 0, none⟩ = some (.slice (some ⟨b, 0, none⟩) s.cols.length cc) := fun {V X Y} r => by
        have h0 : V.cell? ⟨g, 0, none⟩ = some (.slice (some ⟨b, 0, none⟩) (L.set k { x with k20 := X, k40 := Y }).length cc) := r.bk.cell 0
        rw [List.length_set, hln] at h0
        exact h0
      refine wp_region_og [.val 0 (.pointer (some ⟨g, 0, none⟩)),
        .val 1 (.slice (some ⟨b, 0, none⟩) s.cols.length cc),
        .val 2 (.int .i64 (k : Nat)),
        .val 3 (.pointer (some ⟨g, 0, none⟩)),
        .val 4 (.slice (some ⟨b, 0, none⟩) s.cols.length cc),
        .val 5 (.int .i64 (k : Nat)),
        .val 6 (.pointer (some ⟨w.heap.size, 0, none⟩)),
        .val 7 (.int .u8 (ha : Nat)),
        .val 8 (.int .i64 (ha : Nat)),
        .val 9 (.int .i64 (200 * (ha : Int))),
        .val 10 (.int .i64 (10000 + 200 * (ha : Int))),
        .val 11 (.pointer (some ⟨w.heap.size, 1, none⟩)),
        .val 12 (.int .u8 (hb : Nat)),
        .val 13 (.int .i64 (hb : Nat)),
        .val 14 (.int .i64 (500 * (hb : Int))),
        .val 15 (.int .i64 (20000 + 500 * (hb : Int))),
        .val 16 (.pointer (some ⟨b, k * 12, none⟩)),
        .val 17 (.pointer (some ⟨b, k * 12 + 5, none⟩)),
        .cellAt ⟨b, k * 12 + 5, none⟩ (.int .i64 (10000 + 200 * (ha : Int))),
        .val 19 (.pointer (some ⟨b, k * 12, none⟩)),
        .val 20 (.pointer (some ⟨b, k * 12 + 6, none⟩)),
        .cellAt ⟨b, k * 12 + 6, none⟩ (.int .i64 (20000 + 500 * (hb : Int)))]
        [[], [0], [], [], [3], [], [], [6], [7], [8], [9], [], [11], [12], [13], [14], [1, 2], [16], [17, 10], [4, 5], [19], [20, 15]] [18, 21] C (by kernel_rfl) (by kernel_rfl) (hC hC0 (Cb.drew V)) ⟨?_, ?_, ?_, ?_, ?_, ?_, ?_, ?_, ?_, ?_, ?_, ?_, ?_, ?_, ?_, ?_, ?_, ?_, ?_, ?_, ?_, ?_, trivial⟩ ?_
      case refine_1 =>
        refine StepL.grow hC fun xx V hV hu K Q hK => ?_
        clear hu
        rw [owp_eq]
        go_big_op
        exact hK _ _ (Below.refl _ _) rfl
      case refine_2 =>
        refine StepL.grow hC fun xx V hV hu K Q hK => ?_
        have u0 : xx 0 = _ := hu 0 (by decide)
        obtain ⟨X, Y, L1, K1, K2⟩ := hV
        have d0 := c0 L1.out
        clear L1 K1 K2
        clear hu
        simp only [putL, List.set_cons_zero, List.set_cons_succ] at hK ⊢
        rw [owp_eq]
        go_big_op
        exact hK _ _ (Below.refl _ _) rfl
      case refine_3 =>
        refine StepL.grow hC fun xx V hV hu K Q hK => ?_
        clear hu
        simp only [putL, List.set_cons_zero, List.set_cons_succ] at hK ⊢
        rw [owp_eq]
        go_big_op
        exact hK _ _ (Below.refl _ _) rfl
      case refine_4 =>
        refine StepL.grow hC fun xx V hV hu K Q hK => ?_
        clear hu
        simp only [putL, List.set_cons_zero, List.set_cons_succ] at hK ⊢
        rw [owp_eq]
        go_big_op
        exact hK _ _ (Below.refl _ _) rfl
      case refine_5 =>
        refine StepL.grow hC fun xx V hV hu K Q hK => ?_
        have u3 : xx 3 = _ := hu 3 (by decide)
        obtain ⟨X, Y, L1, K1, K2⟩ := hV
        have d0 := c0 L1.out
        clear L1 K1 K2
        clear hu
        simp only [putL, List.set_cons_zero, List.set_cons_succ] at hK ⊢
        rw [owp_eq]
        go_big_op
        exact hK _ _ (Below.refl _ _) rfl
      case refine_6 =>
        refine StepL.grow hC fun xx V hV hu K Q hK => ?_
        clear hu
        simp only [putL, List.set_cons_zero, List.set_cons_succ] at hK ⊢
        rw [owp_eq]
        go_big_op
        exact hK _ _ (Below.refl _ _) rfl
      case refine_7 =>
        refine StepL.grow hC fun xx V hV hu K Q hK => ?_
        clear hu
        simp only [putL, List.set_cons_zero, List.set_cons_succ] at hK ⊢
        rw [owp_eq]
        go_big_op
        exact hK _ _ (Below.refl _ _) rfl
      case refine_8 =>
        refine StepL.grow hC fun xx V hV hu K Q hK => ?_
        have u6 : xx 6 = _ := hu 6 (by decide)
        obtain ⟨X, Y, L1, K1, K2⟩ := hV
        have d0 : V.cell? ⟨w.heap.size, 0, none⟩ = some (.int .u8 (ha : Nat)) := K1.out.cell 0
        clear L1 K1 K2
        clear hu
        simp only [putL, List.set_cons_zero, List.set_cons_succ] at hK ⊢
        rw [owp_eq]
        go_big_op
        exact hK _ _ (Below.refl _ _) rfl
      case refine_9 =>
        refine StepL.grow hC fun xx V hV hu K Q hK => ?_
        have u7 : xx 7 = _ := hu 7 (by decide)
        clear hu
        simp only [putL, List.set_cons_zero, List.set_cons_succ] at hK ⊢
        rw [owp_eq]
        go_big_op
        exact hK _ _ (Below.refl _ _) rfl
      case refine_10 =>
        refine StepL.grow hC fun xx V hV hu K Q hK => ?_
        have u8 : xx 8 = _ := hu 8 (by decide)
        clear hu
        simp only [putL, List.set_cons_zero, List.set_cons_succ] at hK ⊢
        rw [owp_eq]
        go_big_op
        exact hK _ _ (Below.refl _ _) rfl
      case refine_11 =>
        refine StepL.grow hC fun xx V hV hu K Q hK => ?_
        have u9 : xx 9 = _ := hu 9 (by decide)
        clear hu
        simp only [putL, List.set_cons_zero, List.set_cons_succ] at hK ⊢
        rw [owp_eq]
        go_big_op
        exact hK _ _ (Below.refl _ _) rfl
      case refine_12 =>
        refine StepL.grow hC fun xx V hV hu K Q hK => ?_
        clear hu
        simp only [putL, List.set_cons_zero, List.set_cons_succ] at hK ⊢
        rw [owp_eq]
        go_big_op
        exact hK _ _ (Below.refl _ _) rfl
      case refine_13 =>
        refine StepL.grow hC fun xx V hV hu K Q hK => ?_
        have u11 : xx 11 = _ := hu 11 (by decide)
        obtain ⟨X, Y, L1, K1, K2⟩ := hV
        have d0 : V.cell? ⟨w.heap.size, 1, none⟩ = some (.int .u8 (hb : Nat)) := K1.out.cell 1
        clear L1 K1 K2
        clear hu
        simp only [putL, List.set_cons_zero, List.set_cons_succ] at hK ⊢
        rw [owp_eq]
        go_big_op
        exact hK _ _ (Below.refl _ _) rfl
      case refine_14 =>
        refine StepL.grow hC fun xx V hV hu K Q hK => ?_
        have u12 : xx 12 = _ := hu 12 (by decide)
        clear hu
        simp only [putL, List.set_cons_zero, List.set_cons_succ] at hK ⊢
        rw [owp_eq]
        go_big_op
        exact hK _ _ (Below.refl _ _) rfl
      case refine_15 =>
        refine StepL.grow hC fun xx V hV hu K Q hK => ?_
        have u13 : xx 13 = _ := hu 13 (by decide)
        clear hu
        simp only [putL, List.set_cons_zero, List.set_cons_succ] at hK ⊢
        rw [owp_eq]
        go_big_op
        exact hK _ _ (Below.refl _ _) rfl
      case refine_16 =>
        refine StepL.grow hC fun xx V hV hu K Q hK => ?_
        have u14 : xx 14 = _ := hu 14 (by decide)
        clear hu
        simp only [putL, List.set_cons_zero, List.set_cons_succ] at hK ⊢
        rw [owp_eq]
        go_big_op
        exact hK _ _ (Below.refl _ _) rfl
      case refine_17 =>
        refine StepL.grow hC fun xx V hV hu K Q hK => ?_
        have u1 : xx 1 = _ := hu 1 (by decide)
        have u2 : xx 2 = _ := hu 2 (by decide)
        clear hu
        simp only [putL, List.set_cons_zero, List.set_cons_succ] at hK ⊢
        rw [owp_eq]
        go_big_op
        exact hK _ _ (Below.refl _ _) rfl
      case refine_18 =>
        refine StepL.grow hC fun xx V hV hu K Q hK => ?_
        have u16 : xx 16 = _ := hu 16 (by decide)
        clear hu
        simp only [putL, List.set_cons_zero, List.set_cons_succ] at hK ⊢
        rw [owp_eq]
        go_big_op
        exact hK _ _ (Below.refl _ _) rfl
      case refine_19 =>
        refine StepL.wr [3, 4, 5, 11, 12, 13, 14, 15] (by kernel_rfl) fun xx V hV hu K Q hK => ?_
        have u17 : xx 17 = _ := hu 17 (by decide)
        have u10 : xx 10 = _ := hu 10 (by decide)
        obtain ⟨X, Y, L1, K1, K2⟩ := hV
        obtain ⟨d5, d6, f5, f6⟩ := c5 L1.out
        clear hu
        simp only [putL, List.set_cons_zero, List.set_cons_succ] at hK ⊢
        rw [owp_eq]
        go_big_op
        refine hK undef _ ⟨10000 + 200 * (ha : Int), Y, Lib.hid ?_, Lib.hid ?_, Lib.hid ?_⟩ ?_ ?_
        · have := L1.out.set (i := k) (j := 5) (u := .int .i64 (10000 + 200 * (ha : Int))) (x' := { x with k20 := 10000 + 200 * (ha : Int), k40 := Y }) (List.getElem?_set_self hkL) (by decide) (rd_f 5 _ _ rfl fun _ _ => rfl)
          rw [List.set_set] at this
          exact this
        · obtain ⟨cs, hkb⟩ := L1.out.blk
          exact K1.out.far (Bk.ne_ K1.out hkb (by decide)) _
        · obtain ⟨cs, hkb⟩ := L1.out.blk
          exact K2.out.far (Bk.ne_ K2.out hkb (by decide)) _
        · exact World.cell?_setCell_same _ _ _ d5
        · intro j hj
          simp only [List.mem_cons, List.not_mem_nil, or_false] at hj
          rcases hj with rfl | rfl | rfl | rfl | rfl | rfl | rfl | rfl
          all_goals exact fun h => h
      case refine_20 =>
        refine StepL.grow hC fun xx V hV hu K Q hK => ?_
        have u4 : xx 4 = _ := hu 4 (by decide)
        have u5 : xx 5 = _ := hu 5 (by decide)
        clear hu
        simp only [putL, List.set_cons_zero, List.set_cons_succ] at hK ⊢
        rw [owp_eq]
        go_big_op
        exact hK _ _ (Below.refl _ _) rfl
      case refine_21 =>
        refine StepL.grow hC fun xx V hV hu K Q hK => ?_
        have u19 : xx 19 = _ := hu 19 (by decide)
        clear hu
        simp only [putL, List.set_cons_zero, List.set_cons_succ] at hK ⊢
        rw [owp_eq]
        go_big_op
        exact hK _ _ (Below.refl _ _) rfl
      case refine_22 =>
        refine StepL.wr [18] (by kernel_rfl) fun xx V hV hu K Q hK => ?_
        have u20 : xx 20 = _ := hu 20 (by decide)
        have u15 : xx 15 = _ := hu 15 (by decide)
        obtain ⟨X, Y, L1, K1, K2⟩ := hV
        obtain ⟨d5, d6, f5, f6⟩ := c5 L1.out
        clear hu
        simp only [putL, List.set_cons_zero, List.set_cons_succ] at hK ⊢
        rw [owp_eq]
        go_big_op
        refine hK undef _ ⟨X, 20000 + 500 * (hb : Int), Lib.hid ?_, Lib.hid ?_, Lib.hid ?_⟩ ?_ ?_
        · have := L1.out.set (i := k) (j := 6) (u := .int .i64 (20000 + 500 * (hb : Int))) (x' := { x with k20 := X, k40 := 20000 + 500 * (hb : Int) }) (List.getElem?_set_self hkL) (by decide) (rd_f 6 _ _ rfl fun _ _ => rfl)
          rw [List.set_set] at this
          exact this
        · obtain ⟨cs, hkb⟩ := L1.out.blk
          exact K1.out.far (Bk.ne_ K1.out hkb (by decide)) _
        · obtain ⟨cs, hkb⟩ := L1.out.blk
          exact K2.out.far (Bk.ne_ K2.out hkb (by decide)) _
        · exact World.cell?_setCell_same _ _ _ d6
        · intro j hj
          simp only [List.mem_cons, List.not_mem_nil, or_false] at hj
          subst hj
          exact fun h => (World.cell?_setCell_other _ _ _ _ (by simp)).trans h
      case refine_23 =>
        intro xx V2 hV hA
        have y5 : V2.cell? ⟨b, k * 12 + 5, none⟩ = some (.int .i64 (10000 + 200 * (ha : Int))) := hA 18 rfl (by decide)
        have y6 : V2.cell? ⟨b, k * 12 + 6, none⟩ = some (.int .i64 (20000 + 500 * (hb : Int))) := hA 21 rfl (by decide)
        obtain ⟨X, Y, L1, K1, K2⟩ := hV
        obtain ⟨d5, d6, _, _⟩ := c5 L1.out
        have eX : X = 10000 + 200 * (ha : Int) := by rw [d5] at y5; injection y5 with y5; injection y5
        have eY : Y = 20000 + 500 * (hb : Int) := by rw [d6] at y6; injection y6 with y6; injection y6
        have HLN : Hid (LW w V2 g b cc gs s h (limTo (fW ha hb) s.cols (k + 1))) := Lib.hid (by
          have := L1.out
          rw [eX, eY, HLX.out, HSET.out] at this
          exact this)
        simp only [layL, putL, List.set_cons_zero, List.set_cons_succ]
        clear hA y5 y6 d5 d6 L1 c5 c0 hC hC0
        go_wp2_with fail
        go_roundw
        case rel => (repeat apply Exists.intro); (first | exact ⟨⟨k + 1, hlt, by go_num, HLN, K1, K2⟩, rfl⟩ | exact ⟨hlt, by go_num, HLN, K1, K2⟩)
        case measure => simp [intOf]; omega
    · obtain rfl : k = s.cols.length := by omega
      have w2c : V.cell? ⟨w.heap.size, 2, none⟩ = some (.int .u8 (ht : Nat)) := KW.out.cell 2
      have hut := u8_in hht
      obtain ⟨-, -, -, -, hmt⟩ := u8_w hht
      have f9 := HL.out.bk.frozen 9
      have m9 : V.cell? ⟨g, 9, none⟩ = some (.int .i64 s.m0) := HL.out.bk.cell 9
      obtain ⟨s', h', SO, KS, RD, LM, BE, KR2⟩ : ∃ s' h', Hid (ShOwn w (V.setCell ⟨g, 9, none⟩ (.int .i64 (100 * (ht : Int)))) g s' h') ∧ Hid (Bk (V.setCell ⟨g, 9, none⟩ (.int .i64 (100 * (ht : Int)))) g 37 (shpA s' h')) ∧ Hid (ShpR (V.setCell ⟨g, 9, none⟩ (.int .i64 (100 * (ht : Int)))) (Lt (V.setCell ⟨g, 9, none⟩ (.int .i64 (100 * (ht : Int)))).heap.size) s' h') ∧ Hid (Lm s') ∧ Hid (Below w.heap.size w (V.setCell ⟨g, 9, none⟩ (.int .i64 (100 * (ht : Int))))) ∧ Hid (Bk (V.setCell ⟨g, 9, none⟩ (.int .i64 (100 * (ht : Int)))) (w.heap.size + 1) 37 zS) := by
        have hgz : g ≠ w.heap.size + 1 := HGZ.out
        obtain ⟨w0, S0, hrd⟩ := HRD.out
        have r2 := HL.out.tol (100 * (ht : Int))
        have r3 := r2.rd HRW.out.1 HRW.out.2.1 HRW.out.2.2 (w0 := w0) (S := S0) ⟨hrd.n1, hrd.n2, hrd.n3, hrd.n4, hrd.n5, hrd.m1, hrd.m2, hrd.m3, hrd.m4, hrd.m5, hrd.cols, hrd.covs, hrd.rows, hrd.frames, hrd.tanks⟩ (100 * (ht : Int))
        have hall := limTo_all (fW ha hb) s.cols
        rw [hall] at r3 r2
        refine ⟨limS (fW ha hb) (100 * (ht : Int)) s, { h with A1 := some ⟨b, 0, none⟩, c1 := cc }, Lib.hid ⟨⟨b, gs, ⟨r2.bk, r2.own, r2.cov, r2.be, r2.lg, r2.lb, r2.lc, r2.cm⟩, rfl⟩, HRW.out, hrd.n2, hrd.m2, hrd.m3, hrd.m4, hrd.m5⟩, Lib.hid r2.bk, Lib.hid r3, Lib.hid (lim_lm hBu _ _ (fun _ => ?_) ?_), Lib.hid r2.be, Lib.hid (KR.out.far (Ne.symm hgz) _)⟩
        · unfold fW; simp only; omega
        · omega
      go_step
      go_step
      go_upto_region 8 with fail
      clear w2c hut hmt f9 m9 HL KW KR
      generalize (V.setCell ⟨g, 9, none⟩ _) = V2 at *
      clear V
      obtain ⟨e0, e1, e2, e3, e4, e5, e6, e7, e8, e9, e10, e11, e12⟩ : V2.cell? ⟨g, 0, none⟩ = some (.slice h'.A1 s'.cols.length h'.c1) ∧ V2.cell? ⟨g, 1, none⟩ = some (.slice h'.A2 s'.covs.length h'.c2) ∧ V2.cell? ⟨g, 2, none⟩ = some (.int .i64 s'.l0) ∧ V2.cell? ⟨g, 3, none⟩ = some (.int .i64 s'.l1) ∧ V2.cell? ⟨g, 4, none⟩ = some (.int .i64 s'.l2) ∧ V2.cell? ⟨g, 5, none⟩ = some (.int .i64 s'.l3) ∧ V2.cell? ⟨g, 6, none⟩ = some (.slice h'.A3 s'.rows.length h'.c3) ∧ V2.cell? ⟨g, 7, none⟩ = some (.slice h'.A4 s'.frames.length h'.c4) ∧ V2.cell? ⟨g, 8, none⟩ = some (.slice h'.A5 s'.tanks.length h'.c5) ∧ V2.cell? ⟨g, 9, none⟩ = some (.int .i64 s'.m0) ∧ V2.cell? ⟨g, 10, none⟩ = some (.int .i64 s'.m1) ∧ V2.cell? ⟨g, 11, none⟩ = some (.int .i64 s'.m2) ∧ V2.cell? ⟨g, 12, none⟩ = some (.int .i64 s'.m3) := ⟨KS.out.cell 0, KS.out.cell 1, KS.out.cell 2, KS.out.cell 3, KS.out.cell 4, KS.out.cell 5, KS.out.cell 6, KS.out.cell 7, KS.out.cell 8, KS.out.cell 9, KS.out.cell 10, KS.out.cell 11, KS.out.cell 12⟩
      have HLD := Lib.hid (loaded_any s' h' A2 c2 ds 9 V2 (by decide) RD.out LM.out.right LM.out.few LM.out.ints LM.out.one LM.out.short (fun c => Nat.le_trans (LM.out.tiersN c) (by decide)) LM.out.all ((HDS.out.below BE.out).up BE.out.size) hd hc2 hcm2)
      have HLL := Lib.hid (loaded_ld (s := s') LM.out.right ds hd)
      generalize loadedF s' ds 9 = r at *
      obtain ⟨bs, st⟩ := r
      unfold shpA at HLD
      unfold maxLen at hcm2
      go_wp2_with fail
      refine HLD.out.mono ?_
      rintro e w9 ⟨v1, v2, rfl, ob, os, hb9⟩
      simp only
      clear e0 e1 e2 e3 e4 e5 e6 e7 e8 e9 e10 e11 e12 HLD
      have OB := Lib.hid (OwnS.toP plain_bx ob)
      have OS := Lib.hid (OwnS.toP plain_stw os)
      have KS9 := Lib.hid (KS.out.below hb9 KS.out.lt)
      have KR9 := Lib.hid (KR2.out.below hb9 KR2.out.lt)
      have SO9 := Lib.hid (SO.out.on hb9)
      have BE9 := Lib.hid (BE.out.trans (hb9.mono BE.out.size))
      have BZ := Lib.hid (BE.out.size)
      have KRL := Lib.hid KR2.out.lt
      have KSL := Lib.hid KS.out.lt
      clear KS KR2 RD BE ob os hb9 SO
      generalize V2.heap.size = B at *
      clear V2
      obtain ⟨e0, e1, e2, e3, e4, e5, e6, e7, e8, e9, e10, e11, e12⟩ : w9.cell? ⟨g, 0, none⟩ = some (.slice h'.A1 s'.cols.length h'.c1) ∧ w9.cell? ⟨g, 1, none⟩ = some (.slice h'.A2 s'.covs.length h'.c2) ∧ w9.cell? ⟨g, 2, none⟩ = some (.int .i64 s'.l0) ∧ w9.cell? ⟨g, 3, none⟩ = some (.int .i64 s'.l1) ∧ w9.cell? ⟨g, 4, none⟩ = some (.int .i64 s'.l2) ∧ w9.cell? ⟨g, 5, none⟩ = some (.int .i64 s'.l3) ∧ w9.cell? ⟨g, 6, none⟩ = some (.slice h'.A3 s'.rows.length h'.c3) ∧ w9.cell? ⟨g, 7, none⟩ = some (.slice h'.A4 s'.frames.length h'.c4) ∧ w9.cell? ⟨g, 8, none⟩ = some (.slice h'.A5 s'.tanks.length h'.c5) ∧ w9.cell? ⟨g, 9, none⟩ = some (.int .i64 s'.m0) ∧ w9.cell? ⟨g, 10, none⟩ = some (.int .i64 s'.m1) ∧ w9.cell? ⟨g, 11, none⟩ = some (.int .i64 s'.m2) ∧ w9.cell? ⟨g, 12, none⟩ = some (.int .i64 s'.m3) := ⟨KS9.out.cell 0, KS9.out.cell 1, KS9.out.cell 2, KS9.out.cell 3, KS9.out.cell 4, KS9.out.cell 5, KS9.out.cell 6, KS9.out.cell 7, KS9.out.cell 8, KS9.out.cell 9, KS9.out.cell 10, KS9.out.cell 11, KS9.out.cell 12⟩
      have kr := KR9.out
      have z0 : w9.cell? ⟨w.heap.size + 1, 0, none⟩ = some (.slice none 0 0) := kr.cell 0
      have f0 := kr.frozen 0
      have z1 : w9.cell? ⟨w.heap.size + 1, 1, none⟩ = some (.slice none 0 0) := kr.cell 1
      have f1 := kr.frozen 1
      have z2 : w9.cell? ⟨w.heap.size + 1, 2, none⟩ = some (.int .i64 0) := kr.cell 2
      have f2 := kr.frozen 2
      have z3 : w9.cell? ⟨w.heap.size + 1, 3, none⟩ = some (.int .i64 0) := kr.cell 3
      have f3 := kr.frozen 3
      have z4 : w9.cell? ⟨w.heap.size + 1, 4, none⟩ = some (.int .i64 0) := kr.cell 4
      have f4 := kr.frozen 4
      have z5 : w9.cell? ⟨w.heap.size + 1, 5, none⟩ = some (.int .i64 0) := kr.cell 5
      have f5 := kr.frozen 5
      have z6 : w9.cell? ⟨w.heap.size + 1, 6, none⟩ = some (.slice none 0 0) := kr.cell 6
      have f6 := kr.frozen 6
      have z7 : w9.cell? ⟨w.heap.size + 1, 7, none⟩ = some (.slice none 0 0) := kr.cell 7
      have f7 := kr.frozen 7
      have z8 : w9.cell? ⟨w.heap.size + 1, 8, none⟩ = some (.slice none 0 0) := kr.cell 8
      have f8 := kr.frozen 8
      have z9 : w9.cell? ⟨w.heap.size + 1, 9, none⟩ = some (.int .i64 0) := kr.cell 9
      have f9 := kr.frozen 9
      have z10 : w9.cell? ⟨w.heap.size + 1, 10, none⟩ = some (.int .i64 0) := kr.cell 10
      have f10 := kr.frozen 10
      have z11 : w9.cell? ⟨w.heap.size + 1, 11, none⟩ = some (.int .i64 0) := kr.cell 11
      have f11 := kr.frozen 11
      have z12 : w9.cell? ⟨w.heap.size + 1, 12, none⟩ = some (.int .i64 0) := kr.cell 12
      have f12 := kr.frozen 12
      clear kr
      go_wp2_with fail
      refine bodyPost_ret (results_row_tmp2 rfl _ _ (w.heap.size + 1) 37 #[.slice h'.A1 s'.cols.length h'.c1, .slice h'.A2 s'.covs.length h'.c2, .int .i64 s'.l0, .int .i64 s'.l1, .int .i64 s'.l2, .int .i64 s'.l3, .slice h'.A3 s'.rows.length h'.c3, .slice h'.A4 s'.frames.length h'.c4, .slice h'.A5 s'.tanks.length h'.c5, .int .i64 s'.m0, .int .i64 s'.m1, .int .i64 s'.m2, .int .i64 s'.m3] _ rfl (set13 KR9.out _ _ _ _ _ _ _ _ _ _ _ _ _ rfl) Try.underlying37 rfl info_ship) rfl ?_
      have hg13 := grown13 w9 (w.heap.size + 1) (.slice h'.A1 s'.cols.length h'.c1) (.slice h'.A2 s'.covs.length h'.c2) (.int .i64 s'.l0) (.int .i64 s'.l1) (.int .i64 s'.l2) (.int .i64 s'.l3) (.slice h'.A3 s'.rows.length h'.c3) (.slice h'.A4 s'.frames.length h'.c4) (.slice h'.A5 s'.tanks.length h'.c5) (.int .i64 s'.m0) (.int .i64 s'.m1) (.int .i64 s'.m2) (.int .i64 s'.m3)
      have hgq : g ≠ w.heap.size + 1 := HGZ.out
      have OB2 := Lib.hid (OB.out.grown hg13 (.inr (OB.out.ne KR9.out (by decide))))
      have OS2 := Lib.hid (OS.out.grown hg13 (.inr (OS.out.ne KR9.out (by decide))))
      have SO2 := Lib.hid (SO9.out.off KR9.out hgq (Nat.le_succ _) hg13)
      have BE2 := Lib.hid (BE9.out.trans (below_of_grown hg13 (Nat.le_succ _) BE9.out.size))
      clear hg13
      generalize (World.setCell (World.setCell _ _ _) _ _) = W13 at *
      exact ⟨s', h', v1, v2, bs, st, rfl, LM.out, HLL.out, SO2.out.rd _ (fun x t cs hk ht => ⟨hk.lt, OB2.out.ne hk (by rcases ht with rfl | rfl | rfl <;> decide), OS2.out.ne hk (by rcases ht with rfl | rfl | rfl <;> decide)⟩), OB2.out.down BZ.out, OS2.out.down BZ.out, BE2.out⟩
end Go.Proofs.Ytncfakkajknhaaa
