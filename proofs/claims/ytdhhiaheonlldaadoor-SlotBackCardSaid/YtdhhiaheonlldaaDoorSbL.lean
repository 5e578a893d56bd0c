/-
  A ship of the call's own, its columns and covers written in place (the frame of the walk of SlotBack).
-/
import Derived.Test.YtdhhiaheonlldaaDoorSbR
import Derived.Test.YtdhhiaheonlldaaDoorQf
namespace Go.Proofs.YtdhhiaheonlldaaDoor
open Go.RowKit

theorem cell_far {w : World} {p : Addr} {u : Value} {b o : Nat} (h : b ≠ p.block) : (w.setCell p u).cell? ⟨b, o, none⟩ = w.cell? ⟨b, o, none⟩ := World.cell?_of_block (Below.heap_setCell w p u b h)
theorem Flat.set {α : Type} {T : Ty α} {w : World} {S : Nat → Prop} : ∀ {xs : List Value} {l : List α} {i : Nat} {x x' : α} {j : Nat} {u : Value}, Flat T w S xs l → l[i]? = some x → j < T.k → (∀ cs, T.rd w S cs x → T.rd w S (cs.set j u) x') → Flat T w S (xs.set (i * T.k + j) u) (l.set i x')
  | xs, [], i, x, x', j, u, _, hx, _, _ => by simp at hx
  | xs, y :: l, 0, x, x', j, u, ⟨cs, ys, e, h1, h2⟩, hx, hj, hr => by
    simp at hx; subst hx
    refine ⟨cs.set j u, ys, ?_, hr cs h1, h2⟩
    rw [e, Nat.zero_mul, Nat.zero_add, List.set_append_left _ _ (by rw [T.len h1]; exact hj)]
  | xs, y :: l, i + 1, x, x', j, u, ⟨cs, ys, e, h1, h2⟩, hx, hj, hr => by
    have ih := h2.set (i := i) (x' := x') (u := u) (by simpa using hx) hj hr
    refine ⟨cs, ys.set (i * T.k + j) u, ?_, h1, ih⟩
    have hl := T.len h1
    rw [e, List.set_append_right _ _ (by rw [hl, Nat.add_mul]; omega), hl, show (i + 1) * T.k + j - T.k = i * T.k + j by rw [Nat.add_mul]; omega]
theorem OwnS.set {α : Type} {T : Ty α} {e : TypeId} {w : World} {base b c : Nat} {S : Nat → Prop} {l : List α} (h : OwnS T e w base S (.slice (some ⟨b, 0, none⟩) l.length c) l) {i : Nat} {x x' : α} {j : Nat} {u : Value} (hx : l[i]? = some x) (hj : j < T.k) (hr : ∀ cs, T.rd w S cs x → T.rd w S (cs.set j u) x') :
    OwnS T e (w.setCell ⟨b, i * T.k + j, none⟩ u) base S (.slice (some ⟨b, 0, none⟩) (l.set i x').length c) (l.set i x') := by
  obtain ⟨xs, h1, h2, h3⟩ := h
  obtain ⟨k1, k2⟩ := h1.stored (i * T.k + j) u
  have hk : ∀ b' o, S b' → (w.setCell ⟨b, i * T.k + j, none⟩ u).cell? ⟨b', o, none⟩ = w.cell? ⟨b', o, none⟩ := fun b' o hb => cell_far (by have := (h3 b' hb).2; simpa [Value.ownBlock] using this)
  refine ⟨xs.set (i * T.k + j) u, by rw [List.length_set]; exact k1, (h2.set hx hj hr).keep hk, fun b' hb => ⟨Nat.lt_of_lt_of_le (h3 b' hb).1 k2.size, ?_⟩⟩
  rw [List.length_set]
  exact (h3 b' hb).2
theorem OwnS.form {α : Type} {T : Ty α} {e : TypeId} {w : World} {base : Nat} {S : Nat → Prop} {v : Value} {l : List α} (h : OwnS T e w base S v l) (hl : 0 < l.length) : ∃ b c, v = .slice (some ⟨b, 0, none⟩) l.length c ∧ base ≤ b ∧ l.length ≤ c ∧ c ≤ maxLen := by
  obtain ⟨xs, h1, _, _⟩ := h
  obtain ⟨_, h0 | ⟨g, cap, cur, hv, hb, _, hn, hm, _⟩⟩ := h1
  · omega
  · exact ⟨g, cap, hv, hb, hn, hm⟩
theorem rd_f {V : World} {S : Nat → Prop} {x : Col} (j : Nat) (u : Value) (x' : Col) (hp : x'.plugs = x.plugs) (hc : ∀ A p, (colL x A p).set j u = colL x' A p) : ∀ cs, tCol.rd V S cs x → tCol.rd V S (cs.set j u) x' := by
  rintro cs ⟨A, p, rfl, h1, h2⟩
  exact ⟨A, p, hc A p, by rw [hp]; exact h1, by rw [hp]; exact h2⟩
/-- A slice of the call's own whose elements point to nothing. -/
def OwnP {α : Type} (T : Ty α) (e : TypeId) (w : World) (B : Nat) (v : Value) (l : List α) : Prop := OwnS T e w B (fun _ => False) v l
theorem OwnP.grown {α : Type} {T : Ty α} {e : TypeId} {w w' : World} {B : Nat} {v : Value} {l : List α} {row : Option Nat} (h : OwnP T e w B v l) (hg : w.grownBy w' row) (hne : v.ownBlock = none ∨ v.ownBlock ≠ row) : OwnP T e w' B v l := by
  obtain ⟨xs, ho, hf, _⟩ := h
  exact ⟨xs, ho.kept hg hne, hf.keep fun b o hb => hb.elim, fun b hb => hb.elim⟩
theorem OwnP.on {α : Type} {T : Ty α} {e : TypeId} {w w' : World} {B : Nat} {v : Value} {l : List α} (h : OwnP T e w B v l) (hb : Below w.heap.size w w') : OwnP T e w' B v l := OwnS.below h hb
theorem OwnP.down {α : Type} {T : Ty α} {e : TypeId} {w : World} {B B' : Nat} {v : Value} {l : List α} (h : OwnP T e w B v l) (hB : B' ≤ B) : OwnP T e w B' v l := by
  obtain ⟨xs, ho, hf, hS⟩ := h
  exact ⟨xs, own_mono ho hB, hf, hS⟩
theorem OwnP.lt {α : Type} {T : Ty α} {e : TypeId} {w : World} {B : Nat} {v : Value} {l : List α} (h : OwnP T e w B v l) : ∀ g, v.ownBlock = some g → B ≤ g ∧ g < w.heap.size := by
  obtain ⟨xs, ho, _⟩ := h
  exact fun g hg => ho.lt g hg
theorem OwnP.ne {α : Type} {T : Ty α} {e t : TypeId} {w : World} {B g : Nat} {v : Value} {l : List α} {cs : Array Value} (h : OwnP T e w B v l) (hb : Bk w g t cs) (hne : e ≠ t) : v.ownBlock ≠ some g := OwnS.ne h hb hne
theorem own_free {e : TypeId} {w : World} {B : Nat} {v : Value} {l : List Col} (hp : ∀ c ∈ l, c.plugs = []) (h : OwnT tCol e w B v l) : OwnP tCol e w B v l := by
  obtain ⟨xs, ho, hf⟩ := h
  exact ⟨xs, ho, flat_any xs l hp hf, fun _ h => h.elim⟩
theorem CovOwn.grown {w w' : World} {base b : Nat} {v : Value} {covs : List Cov} {gs : List Nat} {t : TypeId} {cs : Array Value} (h : CovOwn w base v covs gs) (hk : Bk w b t cs) (h1 : 40 ≠ t) (h2 : 3 ≠ t) (hg : w.grownBy w' (some b)) : CovOwn w' base v covs gs :=
  ⟨h.own.kept hg (.inr fun e => own_ne h.own hk h1 (e.trans rfl)), h.rows.keep fun g hg' => hg.block g (h.rows.lt g hg').2.1 (by
    obtain ⟨_, _, cs', h3⟩ := h.rows.lt g hg'
    intro e
    injection e with e
    exact Bk.ne_ h3 hk h2 e)⟩
theorem CovOwn.down {w : World} {base base' : Nat} {v : Value} {covs : List Cov} {gs : List Nat} (h : CovOwn w base v covs gs) (hB : base' ≤ base) : CovOwn w base' v covs gs := ⟨own_mono h.own hB, CovR.down hB h.rows⟩
/-- The ship in its variable, while limits are written into its columns. -/
structure LW (w V : World) (g b cc : Nat) (gs : List Nat) (s : Shp) (h : Hd) (l : List Col) : Prop where
  bk : Bk V g 34 (shpA { s with cols := l } { h with A1 := some ⟨b, 0, none⟩, c1 := cc })
  own : OwnP tCol 38 V w.heap.size (.slice (some ⟨b, 0, none⟩) l.length cc) l
  cov : CovOwn V w.heap.size (.slice h.A2 s.covs.length h.c2) s.covs gs
  be : Below w.heap.size w V
  lg : w.heap.size ≤ g
  lb : w.heap.size ≤ b
  lc : l.length ≤ cc
  cm : cc ≤ maxLen
section
variable {w V V' : World} {g b cc : Nat} {gs : List Nat} {s : Shp} {h : Hd} {l : List Col}
theorem LW.on (r : LW w V g b cc gs s h l) (hb : Below V.heap.size V V') : LW w V' g b cc gs s h l :=
  ⟨r.bk.below hb r.bk.lt, r.own.on hb, r.cov.below hb, r.be.trans (hb.mono r.be.size), r.lg, r.lb, r.lc, r.cm⟩
theorem LW.blk (r : LW w V g b cc gs s h l) : ∃ cs, Bk V b 38 cs := OwnS.blk r.own rfl
theorem LW.at_ (r : LW w V g b cc gs s h l) {k : Nat} {x : Col} (hx : l[k]? = some x) : ∃ Ap q, (∀ j u, (colL x Ap q)[j]? = some u → V.cell? ⟨b, k * 12 + j, none⟩ = some u) ∧ ∀ j, V.frozen? ⟨b, k * 12 + j, none⟩ = false := by
  obtain ⟨xs, ho, hfl, _⟩ := r.own
  obtain ⟨cs, ⟨Ap, q, rfl, hq1, hq2⟩, hc⟩ := hfl.at_ hx
  refine ⟨Ap, q, fun j u hu => ?_, fun j => ho.frozenAt _⟩
  have := ho.cells (g := b) rfl (k * 12 + j) u (hc j u hu)
  rw [add_mk, Nat.zero_add] at this
  exact this
theorem LW.set (r : LW w V g b cc gs s h l) {i : Nat} {x x' : Col} {j : Nat} {u : Value} (hx : l[i]? = some x) (hj : j < 12) (hr : ∀ cs, tCol.rd V (fun _ => False) cs x → tCol.rd V (fun _ => False) (cs.set j u) x') :
    LW w (V.setCell ⟨b, i * 12 + j, none⟩ u) g b cc gs s h (l.set i x') := by
  obtain ⟨cs, hkb⟩ := r.blk
  have hne : g ≠ b := Bk.ne_ r.bk hkb (by decide)
  refine ⟨?_, OwnS.set (T := tCol) r.own hx hj hr, r.cov.grown hkb (by decide) (by decide) (grown_setCell _ _ _), r.be.setCell (by show w.heap.size ≤ b; exact r.lb) _, r.lg, r.lb, by rw [List.length_set]; exact r.lc, r.cm⟩
  have := r.bk.far (p := ⟨b, i * 12 + j, none⟩) hne u
  have e : shpA { s with cols := l.set i x' } { h with A1 := some ⟨b, 0, none⟩, c1 := cc } = shpA { s with cols := l } { h with A1 := some ⟨b, 0, none⟩, c1 := cc } := by unfold shpA; simp
  rw [e]; exact this
theorem LW.rd (r : LW w V g b cc gs s h l) (h1 : s.rows = []) (h2 : s.frames = []) (h3 : s.tanks = []) {w0 : World} {S : Nat → Prop} (h0 : ShpR w0 S s h) (m : Int) : ShpR V (Lt V.heap.size) { s with cols := l, m0 := m } { h with A1 := some ⟨b, 0, none⟩, c1 := cc } := by
  obtain ⟨A, c', e, _, _, hsl⟩ := r.own.sl'
  injection e with e1 _ e2
  subst e1 e2
  refine ⟨r.lc, h0.n2, h0.n3, h0.n4, h0.n5, r.cm, h0.m2, h0.m3, h0.m4, h0.m5, hsl, ownT_sl r.cov.ownT, ?_, ?_, ?_⟩
  · show SlT tRow V _ h.A3 s.rows; rw [h1]; exact SlT.nil
  · show SlT tRow V _ h.A4 s.frames; rw [h2]; exact SlT.nil
  · show SlT tTnk V _ h.A5 s.tanks; rw [h3]; exact SlT.nil
theorem LW.off (r : LW w V g b cc gs s h l) {t : TypeId} {q : Nat} {cs : Array Value} (hk : Bk V q t cs) (h1 : t ≠ 38) (h2 : t ≠ 34) (h3 : 40 ≠ t) (h4 : 3 ≠ t) (hq : w.heap.size ≤ q) (hg : V.grownBy V' (some q)) : LW w V' g b cc gs s h l := by
  obtain ⟨cb, hkb⟩ := r.blk
  refine ⟨r.bk.grown hg (by intro e; injection e with e; exact Bk.ne_ r.bk hk (Ne.symm h2) e), r.own.grown hg (.inr ?_), r.cov.grown hk h3 h4 hg, r.be.trans (below_of_grown hg hq r.be.size), r.lg, r.lb, r.lc, r.cm⟩
  intro e
  injection e with e
  exact Bk.ne_ hkb hk (Ne.symm h1) e
theorem LW.colFld (r : LW w V g b cc gs s h l) {i : Nat} (hi : i < l.length) (j : Nat) (u : Value) (x' : Col) (hj : j < 12) (hp : x'.plugs = (l.getD i default).plugs) (hc : ∀ A p, (colL (l.getD i default) A p).set j u = colL x' A p) :
    LW w (V.setCell ⟨b, i * 12 + j, none⟩ u) g b cc gs s h (l.set i x') :=
  r.set (x := l.getD i default) (by simp [hi]) hj (rd_f j u x' hp hc)
/-- The bay of a cover stored. -/
theorem LW.covBay (r : LW w V g b cc gs s h l) {bc oc cv : Nat} (hA : h.A2 = some ⟨bc, 0, none⟩) {i : Nat} (hi : i < s.covs.length) (z : Int) :
    LW w (V.setCell ⟨bc, i * 2, none⟩ (.int .i64 z)) g b cc gs { s with covs := s.covs.set i ⟨z, (s.covs.getD i default).rows⟩ } h l := by
  obtain ⟨ho, hr⟩ := r.cov
  rw [hA] at ho
  obtain ⟨k1, k2⟩ := ho.stored (i * 2) (.int .i64 z)
  have hbc : w.heap.size ≤ bc := (ho.lt bc rfl).1
  obtain ⟨ck, hck⟩ := OwnS.blk (T := tCol) r.own rfl
  have hne1 : g ≠ bc := fun e => own_ne ho r.bk (by decide) (by rw [e]; rfl)
  have hne2 : b ≠ bc := fun e => own_ne ho hck (by decide) (by rw [e]; rfl)
  have hbk := r.bk.far (p := ⟨bc, i * 2, none⟩) hne1 (.int .i64 z)
  refine ⟨?_, r.own.grown (grown_setCell _ _ _) (.inr (by intro e; injection e with e; exact hne2 e)), ⟨?_, ?_⟩, r.be.setCell hbc _, r.lg, r.lb, r.lc, r.cm⟩
  · have e : shpA { s with covs := s.covs.set i ⟨z, (s.covs.getD i default).rows⟩, cols := l } { h with A1 := some ⟨b, 0, none⟩, c1 := cc } = shpA { s with cols := l } { h with A1 := some ⟨b, 0, none⟩, c1 := cc } := by unfold shpA; simp
    exact e ▸ hbk
  · rw [covCells_bay z hr.len hi, List.length_set, hA]
    exact k1
  · exact CovR.bayS z i (hr.keep fun g' hg' => Below.heap_setCell _ _ _ g' (by
      obtain ⟨_, _, cs, h3⟩ := hr.lt g' hg'
      intro e
      exact own_ne ho h3 (by decide) (by rw [e]; rfl)))
/-- A row of a cover stored. -/
theorem LW.covRow (r : LW w V g b cc gs s h l) {i : Nat} (hi : i < s.covs.length) (k : Nat) (z : Int) :
    LW w (V.setCell ⟨gs.getD i 0, k, none⟩ (.int .i64 z)) g b cc gs { s with covs := s.covs.set i ⟨(s.covs.getD i default).bay, (s.covs.getD i default).rows.set k z⟩ } h l := by
  obtain ⟨ho, hr⟩ := r.cov
  obtain ⟨a1, a2, a3⟩ := hr.at_ hi
  obtain ⟨ck, hck⟩ := OwnS.blk (T := tCol) r.own rfl
  have hne1 : g ≠ gs.getD i 0 := Bk.ne_ r.bk a1 (by decide)
  have hne2 : b ≠ gs.getD i 0 := Bk.ne_ hck a1 (by decide)
  have hbk := r.bk.far (p := ⟨gs.getD i 0, k, none⟩) hne1 (.int .i64 z)
  refine ⟨?_, r.own.grown (grown_setCell _ _ _) (.inr (by intro e; injection e with e; exact hne2 e)), ⟨?_, hr.rowS k z hi⟩, r.be.setCell a2 _, r.lg, r.lb, r.lc, r.cm⟩
  · have e : shpA { s with covs := s.covs.set i ⟨(s.covs.getD i default).bay, (s.covs.getD i default).rows.set k z⟩, cols := l } { h with A1 := some ⟨b, 0, none⟩, c1 := cc } = shpA { s with cols := l } { h with A1 := some ⟨b, 0, none⟩, c1 := cc } := by unfold shpA; simp
    exact e ▸ hbk
  · rw [covCells_row k z hr.len hi, List.length_set]
    exact own_far ho _ _ (fun e => own_ne ho a1 (by decide) e)
end
end Go.Proofs.YtdhhiaheonlldaaDoor
