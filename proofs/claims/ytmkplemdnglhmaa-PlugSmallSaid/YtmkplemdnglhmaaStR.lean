/-
  The walk of twistlocklaw10.Limited.
-/
import Derived.Deep.CutBlock
import Derived.Test.YtmkplemdnglhmaaStQ
import Derived.Test.YtmkplemdnglhmaaStO
namespace Go.Proofs.Ytmkplemdnglhmaa
open Go.RowKit

theorem set13 {W : World} {g : Nat} {t : TypeId} {cs : Array Value} (h : Bk W g t cs) (v0 v1 v2 v3 v4 v5 v6 v7 v8 v9 v10 v11 v12 : Value) (hz : cs.size = 13) : Bk (((((((((((((W.setCell ⟨g, 0, none⟩ v0).setCell ⟨g, 1, none⟩ v1).setCell ⟨g, 2, none⟩ v2).setCell ⟨g, 3, none⟩ v3).setCell ⟨g, 4, none⟩ v4).setCell ⟨g, 5, none⟩ v5).setCell ⟨g, 6, none⟩ v6).setCell ⟨g, 7, none⟩ v7).setCell ⟨g, 8, none⟩ v8).setCell ⟨g, 9, none⟩ v9).setCell ⟨g, 10, none⟩ v10).setCell ⟨g, 11, none⟩ v11).setCell ⟨g, 12, none⟩ v12) g t #[v0, v1, v2, v3, v4, v5, v6, v7, v8, v9, v10, v11, v12] := by
  have h9 := (((((((((((((h.set_ 0 v0).set_ 1 v1).set_ 2 v2).set_ 3 v3).set_ 4 v4).set_ 5 v5).set_ 6 v6).set_ 7 v7).set_ 8 v8).set_ 9 v9).set_ 10 v10).set_ 11 v11).set_ 12 v12)
  have e : ∀ cs : Array Value, cs.size = 13 → (((((((((((((cs.setIfInBounds 0 v0).setIfInBounds 1 v1).setIfInBounds 2 v2).setIfInBounds 3 v3).setIfInBounds 4 v4).setIfInBounds 5 v5).setIfInBounds 6 v6).setIfInBounds 7 v7).setIfInBounds 8 v8).setIfInBounds 9 v9).setIfInBounds 10 v10).setIfInBounds 11 v11).setIfInBounds 12 v12) = #[v0, v1, v2, v3, v4, v5, v6, v7, v8, v9, v10, v11, v12] := by
    rintro ⟨l⟩ hz
    match l, hz with
    | [_, _, _, _, _, _, _, _, _, _, _, _, _], _ => simp
  rw [e cs hz] at h9
  exact h9
theorem grown13 (W : World) (g : Nat) (v0 v1 v2 v3 v4 v5 v6 v7 v8 v9 v10 v11 v12 : Value) : W.grownBy (((((((((((((W.setCell ⟨g, 0, none⟩ v0).setCell ⟨g, 1, none⟩ v1).setCell ⟨g, 2, none⟩ v2).setCell ⟨g, 3, none⟩ v3).setCell ⟨g, 4, none⟩ v4).setCell ⟨g, 5, none⟩ v5).setCell ⟨g, 6, none⟩ v6).setCell ⟨g, 7, none⟩ v7).setCell ⟨g, 8, none⟩ v8).setCell ⟨g, 9, none⟩ v9).setCell ⟨g, 10, none⟩ v10).setCell ⟨g, 11, none⟩ v11).setCell ⟨g, 12, none⟩ v12) (some g) :=
  (((((((((((((grown_setCell _ ⟨g, 0, none⟩ v0).trans (grown_setCell _ ⟨g, 1, none⟩ v1)).trans (grown_setCell _ ⟨g, 2, none⟩ v2)).trans (grown_setCell _ ⟨g, 3, none⟩ v3)).trans (grown_setCell _ ⟨g, 4, none⟩ v4)).trans (grown_setCell _ ⟨g, 5, none⟩ v5)).trans (grown_setCell _ ⟨g, 6, none⟩ v6)).trans (grown_setCell _ ⟨g, 7, none⟩ v7)).trans (grown_setCell _ ⟨g, 8, none⟩ v8)).trans (grown_setCell _ ⟨g, 9, none⟩ v9)).trans (grown_setCell _ ⟨g, 10, none⟩ v10)).trans (grown_setCell _ ⟨g, 11, none⟩ v11)).trans (grown_setCell _ ⟨g, 12, none⟩ v12))
theorem cell_far {w : World} {p : Addr} {u : Value} {b o : Nat} (h : b ≠ p.block) : (w.setCell p u).cell? ⟨b, o, none⟩ = w.cell? ⟨b, o, none⟩ := World.cell?_of_block (Below.heap_setCell w p u b h)
theorem Flat.set {α : Type} {T : Ty α} {w : World} {S : Nat → Prop} : ∀ {xs : List Value} {l : List α} {i : Nat} {x x' : α} {j : Nat} {u : Value}, Flat T w S xs l → l[i]? = some x → j < T.k → (∀ cs, T.rd w S cs x → T.rd w S (cs.set j u) x') → Flat T w S (xs.set (i * T.k + j) u) (l.set i x')
  | xs, [], i, x, x', j, u, _, hx, _, _ => by simp at hx
  | xs, y :: l, 0, x, x', j, u, ⟨cs, ys, e, h1, h2⟩, hx, hj, hr => by
    simp at hx; subst hx
    refine ⟨cs.set j u, ys, ?_, hr cs h1, h2⟩
    rw [e, Nat.zero_mul, Nat.zero_add, List.set_append_left _ _ (by rw [T.len h1]; exact hj)]
  | xs, y :: l, i + 1, x, x', j, u, ⟨cs, ys, e, h1, h2⟩, hx, hj, hr => by
    have ih := h2.set (i := i) (x' := x') (u := u) (by simpa using hx) hj hr
    refine ⟨cs, ys.set (i * T.k + j) u, ?_, h1, ih⟩
    have hl := T.len h1
    rw [e, List.set_append_right _ _ (by rw [hl, Nat.add_mul]; omega), hl, show (i + 1) * T.k + j - T.k = i * T.k + j by rw [Nat.add_mul]; omega]
theorem OwnS.set {α : Type} {T : Ty α} {e : TypeId} {w : World} {base b c : Nat} {S : Nat → Prop} {l : List α} (h : OwnS T e w base S (.slice (some ⟨b, 0, none⟩) l.length c) l) {i : Nat} {x x' : α} {j : Nat} {u : Value} (hx : l[i]? = some x) (hj : j < T.k) (hr : ∀ cs, T.rd w S cs x → T.rd w S (cs.set j u) x') :
    OwnS T e (w.setCell ⟨b, i * T.k + j, none⟩ u) base S (.slice (some ⟨b, 0, none⟩) (l.set i x').length c) (l.set i x') := by
  obtain ⟨xs, h1, h2, h3⟩ := h
  obtain ⟨k1, k2⟩ := h1.stored (i * T.k + j) u
  have hk : ∀ b' o, S b' → (w.setCell ⟨b, i * T.k + j, none⟩ u).cell? ⟨b', o, none⟩ = w.cell? ⟨b', o, none⟩ := fun b' o hb => cell_far (by have := (h3 b' hb).2; simpa [Value.ownBlock] using this)
  refine ⟨xs.set (i * T.k + j) u, by rw [List.length_set]; exact k1, (h2.set hx hj hr).keep hk, fun b' hb => ⟨Nat.lt_of_lt_of_le (h3 b' hb).1 k2.size, ?_⟩⟩
  rw [List.length_set]
  exact (h3 b' hb).2
theorem OwnS.form {α : Type} {T : Ty α} {e : TypeId} {w : World} {base : Nat} {S : Nat → Prop} {v : Value} {l : List α} (h : OwnS T e w base S v l) (hl : 0 < l.length) : ∃ b c, v = .slice (some ⟨b, 0, none⟩) l.length c ∧ base ≤ b ∧ l.length ≤ c ∧ c ≤ maxLen := by
  obtain ⟨xs, h1, _, _⟩ := h
  obtain ⟨_, h0 | ⟨g, cap, cur, hv, hb, _, hn, hm, _⟩⟩ := h1
  · omega
  · exact ⟨g, cap, hv, hb, hn, hm⟩
theorem rd_f {V : World} {S : Nat → Prop} {x : Col} (j : Nat) (u : Value) (x' : Col) (hp : x'.plugs = x.plugs) (hc : ∀ A p, (colL x A p).set j u = colL x' A p) : ∀ cs, tCol.rd V S cs x → tCol.rd V S (cs.set j u) x' := by
  rintro cs ⟨A, p, rfl, h1, h2⟩
  exact ⟨A, p, hc A p, by rw [hp]; exact h1, by rw [hp]; exact h2⟩
theorem results_row_tmp2 {P : Program} {fn : Func} {p u v : Tmp} {ty : TypeId} (h : fn.results = #[.cell p ty, .tmp u, .tmp v]) (tmps : Array Value) (w : World) (g : Nat) (t : TypeId) (cs : Array Value) (d : TypeDesc)
    (hp : tmps.getD p undef = .pointer (some ⟨g, 0, none⟩)) (hg : Bk w g t cs)
    (hu : P.underlying ty = some d) (hd : (match d with | .struct _ | .array _ _ => true | _ => false) = true) (hi : (P.info? ty).map (·.size) = some cs.size) :
    (results fn tmps).run P w = .ok (.tuple #[.agg cs, tmps.getD u undef, tmps.getD v undef]) w := by
  simp only [results, h]
  simp [Sem.run_bind, Result.andThen]
  simp only [Array.getD_eq_getD_getElem?] at hp
  rw [hp]
  simp [asAddr, Sem.run_pure, run_loadVar_row w g t ty cs (0, 0) d hg hu hd hi, Sem.run_bind, Result.andThen]
/-- A slice of the call's own whose elements point to nothing. -/
def OwnP {α : Type} (T : Ty α) (e : TypeId) (w : World) (B : Nat) (v : Value) (l : List α) : Prop := OwnS T e w B (fun _ => False) v l
theorem OwnS.toP {α : Type} {T : Ty α} (hp : Plain T) {e : TypeId} {w : World} {B : Nat} {S : Nat → Prop} {v : Value} {l : List α} (h : OwnS T e w B S v l) : OwnP T e w B v l := by
  obtain ⟨xs, ho, hf, _⟩ := h
  exact ⟨xs, ho, hf.plain hp, fun _ h => h.elim⟩
theorem OwnP.toS {α : Type} {T : Ty α} (hp : Plain T) {e : TypeId} {w : World} {B : Nat} {v : Value} {l : List α} (h : OwnP T e w B v l) (hB : B ≤ w.heap.size) : OwnS T e w B (Lt B) v l := by
  obtain ⟨xs, ho, hf, _⟩ := h
  refine ⟨xs, ho, hf.plain hp, fun b hb => ⟨Nat.lt_of_lt_of_le hb hB, fun e => ?_⟩⟩
  have h1 := (ho.lt b e.symm).1
  have h2 : b < B := hb
  omega
theorem OwnP.grown {α : Type} {T : Ty α} {e : TypeId} {w w' : World} {B : Nat} {v : Value} {l : List α} {row : Option Nat} (h : OwnP T e w B v l) (hg : w.grownBy w' row) (hne : v.ownBlock = none ∨ v.ownBlock ≠ row) : OwnP T e w' B v l := by
  obtain ⟨xs, ho, hf, _⟩ := h
  exact ⟨xs, ho.kept hg hne, hf.keep fun b o hb => hb.elim, fun b hb => hb.elim⟩
theorem OwnP.on {α : Type} {T : Ty α} {e : TypeId} {w w' : World} {B : Nat} {v : Value} {l : List α} (h : OwnP T e w B v l) (hb : Below w.heap.size w w') : OwnP T e w' B v l := OwnS.below h hb
theorem OwnP.down {α : Type} {T : Ty α} {e : TypeId} {w : World} {B B' : Nat} {v : Value} {l : List α} (h : OwnP T e w B v l) (hB : B' ≤ B) : OwnP T e w B' v l := by
  obtain ⟨xs, ho, hf, hS⟩ := h
  exact ⟨xs, own_mono ho hB, hf, hS⟩
theorem OwnP.lt {α : Type} {T : Ty α} {e : TypeId} {w : World} {B : Nat} {v : Value} {l : List α} (h : OwnP T e w B v l) : ∀ g, v.ownBlock = some g → B ≤ g ∧ g < w.heap.size := by
  obtain ⟨xs, ho, _⟩ := h
  exact fun g hg => ho.lt g hg
theorem OwnP.ne {α : Type} {T : Ty α} {e t : TypeId} {w : World} {B g : Nat} {v : Value} {l : List α} {cs : Array Value} (h : OwnP T e w B v l) (hb : Bk w g t cs) (hne : e ≠ t) : v.ownBlock ≠ some g := OwnS.ne h hb hne
theorem own_free {e : TypeId} {w : World} {B : Nat} {v : Value} {l : List Col} (hp : ∀ c ∈ l, c.plugs = []) (h : OwnT tCol e w B v l) : OwnP tCol e w B v l := by
  obtain ⟨xs, ho, hf⟩ := h
  exact ⟨xs, ho, flat_any xs l hp hf, fun _ h => h.elim⟩
theorem CovOwn.grown {w w' : World} {base b : Nat} {v : Value} {covs : List Cov} {gs : List Nat} {t : TypeId} {cs : Array Value} (h : CovOwn w base v covs gs) (hk : Bk w b t cs) (h1 : 102 ≠ t) (h2 : 3 ≠ t) (hg : w.grownBy w' (some b)) : CovOwn w' base v covs gs :=
  ⟨h.own.kept hg (.inr fun e => own_ne h.own hk h1 (e.trans rfl)), h.rows.keep fun g hg' => hg.block g (h.rows.lt g hg').2.1 (by
    obtain ⟨_, _, cs', h3⟩ := h.rows.lt g hg'
    intro e
    injection e with e
    exact Bk.ne_ h3 hk h2 e)⟩
theorem CovOwn.down {w : World} {base base' : Nat} {v : Value} {covs : List Cov} {gs : List Nat} (h : CovOwn w base v covs gs) (hB : base' ≤ base) : CovOwn w base' v covs gs := ⟨own_mono h.own hB, CovR.down hB h.rows⟩
/-- The columns of which the first k are limited. -/
def limTo (f : Col → Int × Int × Int) (l : List Col) (k : Nat) : List Col := (l.take k).map (limC f) ++ l.drop k
theorem limTo_len (f : Col → Int × Int × Int) (l : List Col) (k : Nat) : (limTo f l k).length = l.length := by unfold limTo; simp; omega
theorem limTo_at (f : Col → Int × Int × Int) (l : List Col) {k : Nat} (h : k < l.length) : (limTo f l k)[k]? = some (l.getD k default) := by
  unfold limTo
  rw [List.getElem?_append_right (by simp; omega)]
  simp [Nat.min_eq_left (Nat.le_of_lt h), h]
theorem limTo_set (f : Col → Int × Int × Int) (l : List Col) {k : Nat} (h : k < l.length) : (limTo f l k).set k (limC f (l.getD k default)) = limTo f l (k + 1) := by
  unfold limTo
  rw [List.set_append_right _ _ (by simp; omega)]
  rw [show k - ((l.take k).map (limC f)).length = 0 by simp; omega, List.drop_eq_getElem_cons h, List.set_cons_zero, List.take_succ_eq_append_getElem h, List.map_append, List.append_assoc]
  simp [h]
theorem limTo_all (f : Col → Int × Int × Int) (l : List Col) : limTo f l l.length = l.map (limC f) := by unfold limTo; simp
/-- The ship in its variable, while limits are written into its columns. -/
structure LW (w V : World) (g b cc : Nat) (gs : List Nat) (s : Shp) (h : Hd) (l : List Col) : Prop where
  bk : Bk V g 32 (shpA { s with cols := l } { h with A1 := some ⟨b, 0, none⟩, c1 := cc })
  own : OwnP tCol 46 V w.heap.size (.slice (some ⟨b, 0, none⟩) l.length cc) l
  cov : CovOwn V w.heap.size (.slice h.A2 s.covs.length h.c2) s.covs gs
  be : Below w.heap.size w V
  lg : w.heap.size ≤ g
  lb : w.heap.size ≤ b
  lc : l.length ≤ cc
  cm : cc ≤ maxLen
section
variable {w V V' : World} {g b cc : Nat} {gs : List Nat} {s : Shp} {h : Hd} {l : List Col}
theorem LW.on (r : LW w V g b cc gs s h l) (hb : Below V.heap.size V V') : LW w V' g b cc gs s h l :=
  ⟨r.bk.below hb r.bk.lt, r.own.on hb, r.cov.below hb, r.be.trans (hb.mono r.be.size), r.lg, r.lb, r.lc, r.cm⟩
theorem LW.blk (r : LW w V g b cc gs s h l) : ∃ cs, Bk V b 46 cs := OwnS.blk r.own rfl
theorem LW.at_ (r : LW w V g b cc gs s h l) {k : Nat} {x : Col} (hx : l[k]? = some x) : ∃ Ap q, (∀ j u, (colL x Ap q)[j]? = some u → V.cell? ⟨b, k * 12 + j, none⟩ = some u) ∧ ∀ j, V.frozen? ⟨b, k * 12 + j, none⟩ = false := by
  obtain ⟨xs, ho, hfl, _⟩ := r.own
  obtain ⟨cs, ⟨Ap, q, rfl, hq1, hq2⟩, hc⟩ := hfl.at_ hx
  refine ⟨Ap, q, fun j u hu => ?_, fun j => ho.frozenAt _⟩
  have := ho.cells (g := b) rfl (k * 12 + j) u (hc j u hu)
  rw [add_mk, Nat.zero_add] at this
  exact this
theorem LW.set (r : LW w V g b cc gs s h l) {i : Nat} {x x' : Col} {j : Nat} {u : Value} (hx : l[i]? = some x) (hj : j < 12) (hr : ∀ cs, tCol.rd V (fun _ => False) cs x → tCol.rd V (fun _ => False) (cs.set j u) x') :
    LW w (V.setCell ⟨b, i * 12 + j, none⟩ u) g b cc gs s h (l.set i x') := by
  obtain ⟨cs, hkb⟩ := r.blk
  have hne : g ≠ b := Bk.ne_ r.bk hkb (by decide)
  refine ⟨?_, OwnS.set (T := tCol) r.own hx hj hr, r.cov.grown hkb (by decide) (by decide) (grown_setCell _ _ _), r.be.setCell (by show w.heap.size ≤ b; exact r.lb) _, r.lg, r.lb, by rw [List.length_set]; exact r.lc, r.cm⟩
  have := r.bk.far (p := ⟨b, i * 12 + j, none⟩) hne u
  have e : shpA { s with cols := l.set i x' } { h with A1 := some ⟨b, 0, none⟩, c1 := cc } = shpA { s with cols := l } { h with A1 := some ⟨b, 0, none⟩, c1 := cc } := by unfold shpA; simp
  rw [e]; exact this
theorem LW.rd (r : LW w V g b cc gs s h l) (h1 : s.rows = []) (h2 : s.frames = []) (h3 : s.tanks = []) {w0 : World} {S : Nat → Prop} (h0 : ShpR w0 S s h) (m : Int) : ShpR V (Lt V.heap.size) { s with cols := l, m0 := m } { h with A1 := some ⟨b, 0, none⟩, c1 := cc } := by
  obtain ⟨A, c', e, _, _, hsl⟩ := r.own.sl'
  injection e with e1 _ e2
  subst e1 e2
  refine ⟨r.lc, h0.n2, h0.n3, h0.n4, h0.n5, r.cm, h0.m2, h0.m3, h0.m4, h0.m5, hsl, ownT_sl r.cov.ownT, ?_, ?_, ?_⟩
  · show SlT tRow V _ h.A3 s.rows; rw [h1]; exact SlT.nil
  · show SlT tRow V _ h.A4 s.frames; rw [h2]; exact SlT.nil
  · show SlT tTnk V _ h.A5 s.tanks; rw [h3]; exact SlT.nil
theorem LW.off (r : LW w V g b cc gs s h l) {t : TypeId} {q : Nat} {cs : Array Value} (hk : Bk V q t cs) (h1 : t ≠ 46) (h2 : t ≠ 32) (h3 : 102 ≠ t) (h4 : 3 ≠ t) (hq : w.heap.size ≤ q) (hg : V.grownBy V' (some q)) : LW w V' g b cc gs s h l := by
  obtain ⟨cb, hkb⟩ := r.blk
  refine ⟨r.bk.grownT hk (Ne.symm h2) hg, r.own.grown hg (.inr ?_), r.cov.grown hk h3 h4 hg, r.be.trans (below_of_grown hg hq r.be.size), r.lg, r.lb, r.lc, r.cm⟩
  intro e
  injection e with e
  exact Bk.ne_ hkb hk (Ne.symm h1) e
theorem LW.tol (r : LW w V g b cc gs s h l) (m : Int) : LW w (V.setCell ⟨g, 9, none⟩ (.int .i64 m)) g b cc gs { s with m0 := m } h l := by
  refine ⟨?_, r.own.grown (grown_setCell _ _ _) (.inr (r.own.ne r.bk (by decide))), r.cov.grown r.bk (by decide) (by decide) (grown_setCell _ _ _), r.be.setCell r.lg _, r.lg, r.lb, r.lc, r.cm⟩
  have := r.bk.set_ 9 (.int .i64 m)
  exact this
end
/-- A ship of the call's own, in its variable and below. -/
structure ShOwn (w V : World) (g : Nat) (s : Shp) (h : Hd) : Prop where
  lw : ∃ b gs, LW w V g b h.c1 gs s h s.cols ∧ h.A1 = some ⟨b, 0, none⟩
  z : s.rows = [] ∧ s.frames = [] ∧ s.tanks = []
  n2 : s.covs.length ≤ h.c2
  m2 : h.c2 ≤ maxLen
  m3 : h.c3 ≤ maxLen
  m4 : h.c4 ≤ maxLen
  m5 : h.c5 ≤ maxLen
theorem ShOwn.on {w V V' : World} {g : Nat} {s : Shp} {h : Hd} (r : ShOwn w V g s h) (hb : Below V.heap.size V V') : ShOwn w V' g s h := by
  obtain ⟨b, gs, r1, r2⟩ := r.lw
  exact ⟨⟨b, gs, r1.on hb, r2⟩, r.z, r.n2, r.m2, r.m3, r.m4, r.m5⟩
theorem ShOwn.off {w V V' : World} {g q : Nat} {s : Shp} {h : Hd} {cs : Array Value} (r : ShOwn w V g s h) (hk : Bk V q 32 cs) (hgq : g ≠ q) (hq : w.heap.size ≤ q) (hg : V.grownBy V' (some q)) : ShOwn w V' g s h := by
  obtain ⟨b, gs, r1, r2⟩ := r.lw
  refine ⟨⟨b, gs, ⟨r1.bk.grown hg (by intro e; injection e with e; exact hgq e), r1.own.grown hg (.inr fun e => r1.own.ne hk (by decide) e), r1.cov.grown hk (by decide) (by decide) hg, r1.be.trans (below_of_grown hg hq r1.be.size), r1.lg, r1.lb, r1.lc, r1.cm⟩, r2⟩, r.z, r.n2, r.m2, r.m3, r.m4, r.m5⟩
theorem ShOwn.rd {w V : World} {g : Nat} {s : Shp} {h : Hd} (r : ShOwn w V g s h) (S : Nat → Prop) (hS : ∀ x t cs, Bk V x t cs → t = 46 ∨ t = 102 ∨ t = 3 → S x) : ShpR V S s h := by
  obtain ⟨b, gs, r1, r2⟩ := r.lw
  obtain ⟨z1, z2, z3⟩ := r.z
  refine ⟨r1.lc, r.n2, by rw [z1]; exact Nat.zero_le _, by rw [z2]; exact Nat.zero_le _, by rw [z3]; exact Nat.zero_le _, r1.cm, r.m2, r.m3, r.m4, r.m5, ?_, ?_, by rw [z1]; exact SlT.nil, by rw [z2]; exact SlT.nil, by rw [z3]; exact SlT.nil⟩
  · rw [r2]
    intro hn
    obtain ⟨cb, hkb⟩ := r1.blk
    obtain ⟨xs, ho, hfl, _⟩ := r1.own
    refine ⟨b, 0, rfl, hS b _ _ hkb (.inl rfl), fun i x hx => ?_⟩
    obtain ⟨cs, h1, h2⟩ := (hfl.more (S' := S) fun _ h => h.elim).at_ hx
    refine ⟨cs, h1, fun j u hu => ?_⟩
    have := ho.cells (g := b) rfl (i * tCol.k + j) u (h2 j u hu)
    rw [add_mk] at this
    rw [Nat.add_assoc]
    exact this
  · have hfl : Flat tCov V S (covCells s.covs gs) s.covs := r1.cov.rows.flat fun g hg => by
      obtain ⟨_, _, cs, h3⟩ := r1.cov.rows.lt g hg
      exact hS g _ _ h3 (.inr (.inr rfl))
    obtain ⟨A, c, e, h1, h2, h3⟩ := own_sl r1.cov.own
    injection e with eA _ ec
    intro hn
    have hp : 0 < s.covs.length := by cases hh : s.covs with | nil => exact absurd hh hn | cons x l => simp
    obtain ⟨b', off, hA, hbB, hcell⟩ := h3.mem hp
    obtain ⟨csb, hkb⟩ : ∃ cs, Bk V b' 102 cs := by
      have hob : (Value.slice h.A2 s.covs.length h.c2).ownBlock = some b' := by rw [eA, hA]; rfl
      rcases r1.cov.own.2 with ⟨hv, _⟩ | ⟨g', cap, cur, hv, _, hh, _⟩
      · rw [hv] at hob; cases hob
      · rw [hv] at hob; simp only [Value.ownBlock, Option.some.injEq] at hob; subst hob; exact ⟨cur, hh⟩
    rw [eA]
    refine ⟨b', off, hA, hS b' _ _ hkb (.inr (.inl rfl)), fun i x hx => ?_⟩
    obtain ⟨cs, k1, k2⟩ := hfl.at_ hx
    refine ⟨cs, k1, fun j u hu => ?_⟩
    rw [Nat.add_assoc]
    exact hcell _ u (k2 j u hu)
/-- Below the world's size, and in no block of two slices. -/
def Ap2 (w : World) (v1 v2 : Value) (x : Nat) : Prop := x < w.heap.size ∧ v1.ownBlock ≠ some x ∧ v2.ownBlock ≠ some x
/-- What Limited returns. -/
def LimRet (w : World) (e : Ending) (w' : World) : Prop :=
  ∃ (s : Shp) (h : Hd) (v1 v2 : Value) (bs : List Bx) (st : List Stw), e = .returned (.tuple #[.agg (shpA s h), v1, v2]) ∧ Lm s ∧ Ld s bs st ∧ ShpR w' (Ap2 w' v1 v2) s h ∧ OwnP tBx 37 w' w.heap.size v1 bs ∧ OwnP tStw 42 w' w.heap.size v2 st ∧ Below w.heap.size w w'
@[reducible] def zS : Array Value := #[.slice none 0 0, .slice none 0 0, .int .i64 0, .int .i64 0, .int .i64 0, .int .i64 0, .slice none 0 0, .slice none 0 0, .slice none 0 0, .int .i64 0, .int .i64 0, .int .i64 0, .int .i64 0]
/-- A cell that holds a value. -/
def As.cellAt (a : Addr) (v : Value) : As := ⟨[], fun _ V => V.cell? a = some v, fun _ h => h, fun hb h => (hb.cell (block_lt_of_cell h)).trans h⟩
theorem lim_x (f : Col → Int × Int × Int) {x : Col} (hx : GoodCol x) (h0 : (f x).2.2 = 0) : { x with k20 := (f x).1, k40 := (f x).2.1 } = limC f x := by
  unfold limC
  rw [h0, ← hx.lash]
def fW (ha hb : Nat) (_ : Col) : Int × Int × Int := (10000 + 200 * (ha : Int), 20000 + 500 * (hb : Int), 0)
theorem u8_w {d : Nat} (h : d < 256) : IntKind.i64.wrap (200 * (d : Int)) = 200 * (d : Int) ∧ IntKind.i64.wrap (10000 + 200 * (d : Int)) = 10000 + 200 * (d : Int) ∧ IntKind.i64.wrap (500 * (d : Int)) = 500 * (d : Int) ∧ IntKind.i64.wrap (20000 + 500 * (d : Int)) = 20000 + 500 * (d : Int) ∧ IntKind.i64.wrap (100 * (d : Int)) = 100 * (d : Int) :=
  ⟨IntWalk.i64_in _ (by omega), IntWalk.i64_in _ (by omega), IntWalk.i64_in _ (by omega), IntWalk.i64_in _ (by omega), IntWalk.i64_in _ (by omega)⟩
end Go.Proofs.Ytmkplemdnglhmaa
