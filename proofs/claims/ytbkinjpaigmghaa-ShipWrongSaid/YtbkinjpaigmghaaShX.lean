/-
  The walk of the statement ShipWrong.
-/
import Derived.Test.YtbkinjpaigmghaaShW
import Derived.Test.YtbkinjpaigmghaaRep4
import Derived.Deep.CutBlock
namespace Go.Proofs.Ytbkinjpaigmghaa
open Go.RowKit

theorem OwnS.form {α : Type} {T : Ty α} {e : TypeId} {w : World} {base : Nat} {S : Nat → Prop} {v : Value} {l : List α} (h : OwnS T e w base S v l) (hl : 0 < l.length) : ∃ b c, v = .slice (some ⟨b, 0, none⟩) l.length c ∧ base ≤ b ∧ l.length ≤ c ∧ c ≤ maxLen := by
  obtain ⟨xs, h1, _, _⟩ := h
  obtain ⟨_, h0 | ⟨g, cap, cur, hv, hb, _, hn, hm, _⟩⟩ := h1
  · omega
  · exact ⟨g, cap, hv, hb, hn, hm⟩
theorem OwnS.down {α : Type} {T : Ty α} {e : TypeId} {w : World} {base base' : Nat} {S : Nat → Prop} {v : Value} {l : List α} (h : OwnS T e w base S v l) (hb : base' ≤ base) : OwnS T e w base' S v l := by
  obtain ⟨xs, h1, h2, h3⟩ := h
  exact ⟨xs, own_mono h1 hb, h2, h3⟩
theorem OwnS.far {α : Type} {T : Ty α} {e : TypeId} {w : World} {base : Nat} {S : Nat → Prop} {v : Value} {l : List α} (h : OwnS T e w base S v l) (p : Addr) (u : Value) (hne : v.ownBlock ≠ some p.block) (hS : ¬ S p.block) : OwnS T e (w.setCell p u) base S v l := by
  obtain ⟨xs, h1, h2, h3⟩ := h
  refine ⟨xs, own_far h1 p u hne, h2.keep fun b o hb => cell_far (by rintro rfl; exact hS hb), fun b hb => ⟨?_, (h3 b hb).2⟩⟩
  simp [World.setCell]; exact (h3 b hb).1
/-- A ship whose columns are a slice of the call's own. -/
structure CW (w V : World) (S : Nat → Prop) (B g b c : Nat) (s : Shp) (h : Hd) (l : List Col) : Prop where
  rd : ShpR V (Lt B) s h
  bk : Bk V g 32 (shpA { s with cols := l } { h with A1 := some ⟨b, 0, none⟩, c1 := c })
  own : OwnS tCol 53 V (g + 1) S (.slice (some ⟨b, 0, none⟩) l.length c) l
  be : Below w.heap.size w V
  lg : B ≤ g
  gb : g < b
  wB : w.heap.size ≤ B
  lc : l.length ≤ c
  cm : c ≤ maxLen
section
variable {w V : World} {S : Nat → Prop} {B g b c : Nat} {s : Shp} {h : Hd} {l : List Col}
theorem CW.sh (r : CW w V S B g b c s h l) : Sh w V g { s with cols := l } { h with A1 := some ⟨b, 0, none⟩, c1 := c } := by
  have hR := r.rd.up (B' := V.heap.size) (by have := r.bk.lt; have := r.lg; omega)
  obtain ⟨A, c', e, _, _, hsl⟩ := r.own.sl
  injection e with e1 _ e2
  subst e1 e2
  refine ⟨{ hR with n1 := r.lc, m1 := r.cm, cols := hsl.more fun x hx => ?_ }, r.bk, r.be⟩
  obtain ⟨_, _, _, h3⟩ := r.own
  rcases hx with hx | hx
  · exact (h3 x hx).1
  · exact hx.2
theorem CW.set (r : CW w V S B g b c s h l) {i : Nat} {x x' : Col} {j : Nat} {u : Value} (hx : l[i]? = some x) (hj : j < 12) (hr : ∀ cs, tCol.rd V S cs x → tCol.rd V S (cs.set j u) x') :
    CW w (V.setCell ⟨b, i * 12 + j, none⟩ u) S B g b c s h (l.set i x') := by
  have hlg := r.lg
  have hgb := r.gb
  have hwB := r.wB
  refine ⟨r.rd.keep fun b' o hb' => cell_far (by have hb' : b' < B := hb'; show b' ≠ b; omega), ?_, OwnS.set (T := tCol) r.own hx hj hr, r.be.setCell (by show w.heap.size ≤ b; omega) _, hlg, hgb, hwB, by rw [List.length_set]; exact r.lc, r.cm⟩
  have := r.bk.far (p := ⟨b, i * 12 + j, none⟩) (by show g ≠ b; omega) u
  have e : shpA { s with cols := l.set i x' } { h with A1 := some ⟨b, 0, none⟩, c1 := c } = shpA { s with cols := l } { h with A1 := some ⟨b, 0, none⟩, c1 := c } := by unfold shpA; simp
  rw [e]; exact this
theorem CW.on {V' : World} (r : CW w V S B g b c s h l) (hb : Below V.heap.size V V') : CW w V' S B g b c s h l :=
  ⟨r.rd.below (hb.mono (by have := r.bk.lt; have := r.lg; omega)), r.bk.below hb r.bk.lt, r.own.below hb, r.be.trans (hb.mono r.be.size), r.lg, r.gb, r.wB, r.lc, r.cm⟩
theorem CW.more {S' : Nat → Prop} (r : CW w V S B g b c s h l) (hS : ∀ x, S x → S' x) (hB : ∀ x, S' x → x < V.heap.size ∧ x ≠ b) : CW w V S' B g b c s h l :=
  ⟨r.rd, r.bk, r.own.more hS fun x hx => ⟨(hB x hx).1, by simpa [Value.ownBlock] using (hB x hx).2⟩, r.be, r.lg, r.gb, r.wB, r.lc, r.cm⟩
end
/-- The ship's columns, or covers, stored anew. -/
theorem cw_cols {w V w3 : World} {S S' : Nat → Prop} {B g b c : Nat} {s : Shp} {h : Hd} {l l' : List Col} {v : Value} (r : CW w V S B g b c s h l) (hb : Below (g + 1) V w3) (hO : OwnS tCol 53 w3 (g + 1) S' v l') (hS : ¬ S' g) : ∃ h', Sh w (w3.setCell ⟨g, 0, none⟩ v) g { s with cols := l' } h' := by
  obtain ⟨A, c', rfl, h1, h2, h3⟩ := hO.sl
  obtain ⟨_, _, _, hBut⟩ := hO
  have hlg := r.lg
  have hwB := r.wB
  have hgV := r.bk.lt
  have hR : ShpR (w3.setCell ⟨g, 0, none⟩ (.slice A l'.length c')) (Lt (w3.setCell ⟨g, 0, none⟩ (.slice A l'.length c')).heap.size) s h := by
    refine ((r.rd.below (hb.mono (by omega))).keep fun x o hx => cell_far (by have hx : x < B := hx; show x ≠ g; omega)).up ?_
    simp [World.setCell]; have := hb.size; have := r.rd; omega
  refine ⟨{ h with A1 := A, c1 := c' }, ⟨{ hR with n1 := h1, m1 := h2, cols := (h3.keep fun x o hx => cell_far ?_).more fun x hx => ?_ }, ?_, (r.be.trans (hb.mono (by omega))).setCell (by show w.heap.size ≤ g; omega) _⟩⟩
  · show x ≠ g
    rcases hx with hx | hx
    · rintro rfl; exact hS hx
    · omega
  · show x < _
    simp [World.setCell]
    rcases hx with hx | hx
    · exact (hBut x hx).1
    · exact hx.2
  · have := (r.bk.below hb (by omega)).set_ 0 (.slice A l'.length c')
    exact this
theorem cw_covs {w V w3 : World} {S S' : Nat → Prop} {B g b c : Nat} {s : Shp} {h : Hd} {l : List Col} {l' : List Cov} {v : Value} (r : CW w V S B g b c s h l) (hSr : ¬ S g) (hb : Below V.heap.size V w3) (hO : OwnS tCov 55 w3 V.heap.size S' v l') (hS : ¬ S' g) : ∃ h', Sh w (w3.setCell ⟨g, 1, none⟩ v) g { s with cols := l, covs := l' } h' := by
  obtain ⟨A, c', rfl, h1, h2, h3⟩ := hO.sl
  obtain ⟨_, _, _, hBut⟩ := hO
  have hlg := r.lg
  have hwB := r.wB
  have hgV := r.bk.lt
  have r3 := r.on hb
  obtain ⟨A', c2, e, _, _, hsl⟩ := r3.own.sl
  obtain ⟨_, _, _, hButC⟩ := r3.own
  injection e with e1 _ e2
  subst e1 e2
  have hR : ShpR (w3.setCell ⟨g, 1, none⟩ (.slice A l'.length c')) (Lt (w3.setCell ⟨g, 1, none⟩ (.slice A l'.length c')).heap.size) s h := by
    refine (r3.rd.keep fun x o hx => cell_far (by have hx : x < B := hx; show x ≠ g; omega)).up ?_
    simp [World.setCell]; have := hb.size; omega
  refine ⟨{ h with A1 := some ⟨b, 0, none⟩, c1 := c, A2 := A, c2 := c' }, ⟨{ hR with n1 := r.lc, m1 := r.cm, n2 := h1, m2 := h2, cols := (hsl.keep fun x o hx => cell_far ?_).more fun x hx => ?_, covs := (h3.keep fun x o hx => cell_far ?_).more fun x hx => ?_ }, ?_, r3.be.setCell (by show w.heap.size ≤ g; omega) _⟩⟩
  · show x ≠ g
    rcases hx with hx | hx
    · rintro rfl; exact hSr hx
    · omega
  · show x < _
    simp [World.setCell]
    rcases hx with hx | hx
    · exact (hButC x hx).1
    · exact hx.2
  · show x ≠ g
    rcases hx with hx | hx
    · rintro rfl; exact hS hx
    · omega
  · show x < _
    simp [World.setCell]
    rcases hx with hx | hx
    · exact (hBut x hx).1
    · exact hx.2
  · have := r3.bk.set_ 1 (.slice A l'.length c')
    exact this
/-- A field of a column stored. -/
theorem rd_f {V : World} {S : Nat → Prop} {x : Col} (j : Nat) (u : Value) (x' : Col) (hp : x'.plugs = x.plugs) (hc : ∀ A p, (colL x A p).set j u = colL x' A p) : ∀ cs, tCol.rd V S cs x → tCol.rd V S (cs.set j u) x' := by
  rintro cs ⟨A, p, rfl, h1, h2⟩
  exact ⟨A, p, hc A p, by rw [hp]; exact h1, by rw [hp]; exact h2⟩
/-- The plugs of a column stored. -/
theorem rd_p {V : World} {S : Nat → Prop} {x : Col} (L : List Int) (A : Option Addr) (p : Nat) (hp : L.length ≤ p) (hs : SlT tInt V S A L) : ∀ cs, tCol.rd V S cs x → tCol.rd V S (cs.set 8 (.slice A L.length p)) { x with plugs := L } := by
  rintro cs ⟨A', p', rfl, h1, h2⟩
  exact ⟨A, p, rfl, hp, hs⟩
theorem src_col {V : World} {B : Nat} {x : Col} {Ap : Option Addr} {q : Nat} (hB : B ≤ V.heap.size) (h1 : x.plugs.length ≤ q) (h2 : SlT tInt V (Lt B) Ap x.plugs) : Src tCol (V.alloc (.cells (colL x Ap q).toArray 53)) (Lt B) (some ⟨V.heap.size, 0, none⟩) 1 [x] :=
  Src.new (Flat.single ⟨Ap, q, rfl, h1, h2.keepB (B := V.heap.size) (fun _ hx => Nat.lt_of_lt_of_le hx hB) (ba1 V _)⟩) rfl
/-- The two blocks at H, beside those below B. -/
def S2 (B H : Nat) (x : Nat) : Prop := Lt B x ∨ (x = H ∨ x = H + 1)
theorem src_cov2 (w3 : World) (B : Nat) : Src tCov (((w3.alloc (.cells #[.int .i64 5] 3)).alloc (.cells #[.int .i64 4, .int .i64 5] 3)).alloc (.cells #[.int .i64 3, .slice (some ⟨w3.heap.size, 0, none⟩) 1 1, .int .i64 3, .slice (some ⟨w3.heap.size + 1, 0, none⟩) 2 2] 55)) (S2 B w3.heap.size) (some ⟨w3.heap.size + 1 + 1, 0, none⟩) 2 [⟨3, [5]⟩, ⟨3, [4, 5]⟩] := by
  have b3 := Bk.new ((w3.alloc (.cells #[.int .i64 5] 3)).alloc (.cells #[.int .i64 4, .int .i64 5] 3)) 55 #[.int .i64 3, .slice (some ⟨w3.heap.size, 0, none⟩) 1 1, .int .i64 3, .slice (some ⟨w3.heap.size + 1, 0, none⟩) 2 2]
  have b2 := (Bk.new (w3.alloc (.cells #[.int .i64 5] 3)) 3 #[.int .i64 4, .int .i64 5]).alloc (.cells #[.int .i64 3, .slice (some ⟨w3.heap.size, 0, none⟩) 1 1, .int .i64 3, .slice (some ⟨w3.heap.size + 1, 0, none⟩) 2 2] 55)
  have b1 := ((Bk.new w3 3 #[.int .i64 5]).alloc (.cells #[.int .i64 4, .int .i64 5] 3)).alloc (.cells #[.int .i64 3, .slice (some ⟨w3.heap.size, 0, none⟩) 1 1, .int .i64 3, .slice (some ⟨w3.heap.size + 1, 0, none⟩) 2 2] 55)
  simp only [World.size_alloc] at b3 b2
  refine Src.blk b3 ⟨[.int .i64 3, .slice (some ⟨w3.heap.size, 0, none⟩) 1 1], [.int .i64 3, .slice (some ⟨w3.heap.size + 1, 0, none⟩) 2 2], rfl, ⟨_, 1, rfl, by simp, ?_⟩, [.int .i64 3, .slice (some ⟨w3.heap.size + 1, 0, none⟩) 2 2], [], rfl, ⟨_, 2, rfl, by simp, ?_⟩, rfl⟩ rfl
  · exact sl_flat b1 ⟨[.int .i64 5], [], rfl, rfl, rfl⟩ (.inr (.inl rfl))
  · exact sl_flat b2 ⟨[.int .i64 4], [.int .i64 5], rfl, rfl, [.int .i64 5], [], rfl, rfl, rfl⟩ (.inr (.inr rfl))
theorem own_cov2 {w3 : World} {base B : Nat} {v : Value} {l : List Cov} (h : OwnS tCov 55 w3 base (Lt B) v l) (o p q : Obj) : OwnS tCov 55 (((w3.alloc o).alloc p).alloc q) base (S2 B w3.heap.size) v l := by
  refine (h.below (ba3 w3 o p q)).more (fun x hx => .inl hx) fun x hx => ?_
  obtain ⟨xs, ho, _, hB⟩ := h
  rcases hx with hx | hx
  · exact ⟨by have := (hB x hx).1; simp; omega, (hB x hx).2⟩
  · refine ⟨by simp; omega, fun e => ?_⟩
    have := (ho.lt x e.symm).2
    omega
theorem getD_some {l : List Col} {k : Nat} (h : k < l.length) : l[k]? = some (l.getD k default) := by simp [h]
theorem bad_sh {w V : World} {S : Nat → Prop} {B g b c : Nat} {s : Shp} {h : Hd} {k : Nat} {x : Col} (hBu : Bu s) (hk : k < s.cols.length) (r : CW w V S B g b c s h (s.cols.set k x)) (hx : colOK x = false) (hp : x.plugs.length ≤ 1000000) (hi : I64 x.bay ∧ I64 x.row ∧ I64 x.tiers) : ∃ s' h', Sh w V g s' h' ∧ WrongS s' :=
  ⟨_, _, r.sh, wrong_col hBu hk x hx hp hi⟩

section
variable {w V : World} {S : Nat → Prop} {B g b c k : Nat} {s : Shp} {h : Hd}
theorem w_bay (hBu : Bu s) (hk : k < s.cols.length) (r : CW w V S B g b c s h s.cols) (v : Int) (hv : 39 < v) (hI : I64 v) : ∃ s' h', Sh w (V.setCell ⟨b, k * 12, none⟩ (.int .i64 v)) g s' h' ∧ WrongS s' := by
  have q := bu_i64 hBu _ (getD_memD hk default)
  have hp := hBu.Few.plugs _ (getD_memD hk default)
  exact bad_sh hBu hk (r.set (j := 0) (getD_some hk) (by decide) (rd_f 0 (.int .i64 v) { s.cols.getD k default with bay := v } rfl fun _ _ => rfl)) (bad_bay v hv) hp ⟨hI, q.2.1, q.2.2⟩
theorem w_row (hBu : Bu s) (hk : k < s.cols.length) (r : CW w V S B g b c s h s.cols) (v : Int) (hv : v < 0) (hI : I64 v) : ∃ s' h', Sh w (V.setCell ⟨b, k * 12 + 1, none⟩ (.int .i64 v)) g s' h' ∧ WrongS s' := by
  have q := bu_i64 hBu _ (getD_memD hk default)
  have hp := hBu.Few.plugs _ (getD_memD hk default)
  exact bad_sh hBu hk (r.set (j := 1) (getD_some hk) (by decide) (rd_f 1 (.int .i64 v) { s.cols.getD k default with row := v } rfl fun _ _ => rfl)) (bad_row v hv) hp ⟨q.1, hI, q.2.2⟩
theorem w_tiers (hBu : Bu s) (hk : k < s.cols.length) (r : CW w V S B g b c s h s.cols) (v : Int) (hv : 10 < v) (hI : I64 v) : ∃ s' h', Sh w (V.setCell ⟨b, k * 12 + 3, none⟩ (.int .i64 v)) g s' h' ∧ WrongS s' := by
  have q := bu_i64 hBu _ (getD_memD hk default)
  have hp := hBu.Few.plugs _ (getD_memD hk default)
  exact bad_sh hBu hk (r.set (j := 3) (getD_some hk) (by decide) (rd_f 3 (.int .i64 v) { s.cols.getD k default with tiers := v } rfl fun _ _ => rfl)) (bad_tiers v hv) hp ⟨q.1, q.2.1, hI⟩
theorem w_height (hBu : Bu s) (hk : k < s.cols.length) (r : CW w V S B g b c s h s.cols) (v : Int) (hv : 40000 < v) (hI : I64 v) : ∃ s' h', Sh w (V.setCell ⟨b, k * 12 + 4, none⟩ (.int .i64 v)) g s' h' ∧ WrongS s' := by
  have q := bu_i64 hBu _ (getD_memD hk default)
  have hp := hBu.Few.plugs _ (getD_memD hk default)
  exact bad_sh hBu hk (r.set (j := 4) (getD_some hk) (by decide) (rd_f 4 (.int .i64 v) { s.cols.getD k default with height := v } rfl fun _ _ => rfl)) (bad_height v hv) hp q
theorem w_k20 (hBu : Bu s) (hk : k < s.cols.length) (r : CW w V S B g b c s h s.cols) (v : Int) (hv : v < 0) (hI : I64 v) : ∃ s' h', Sh w (V.setCell ⟨b, k * 12 + 5, none⟩ (.int .i64 v)) g s' h' ∧ WrongS s' := by
  have q := bu_i64 hBu _ (getD_memD hk default)
  have hp := hBu.Few.plugs _ (getD_memD hk default)
  exact bad_sh hBu hk (r.set (j := 5) (getD_some hk) (by decide) (rd_f 5 (.int .i64 v) { s.cols.getD k default with k20 := v } rfl fun _ _ => rfl)) (bad_k20 v hv) hp q
theorem w_k40 (hBu : Bu s) (hk : k < s.cols.length) (r : CW w V S B g b c s h s.cols) (v : Int) (hv : 500000000 < v) (hI : I64 v) : ∃ s' h', Sh w (V.setCell ⟨b, k * 12 + 6, none⟩ (.int .i64 v)) g s' h' ∧ WrongS s' := by
  have q := bu_i64 hBu _ (getD_memD hk default)
  have hp := hBu.Few.plugs _ (getD_memD hk default)
  exact bad_sh hBu hk (r.set (j := 6) (getD_some hk) (by decide) (rd_f 6 (.int .i64 v) { s.cols.getD k default with k40 := v } rfl fun _ _ => rfl)) (bad_k40 v hv) hp q
theorem w_lash (hBu : Bu s) (hk : k < s.cols.length) (r : CW w V S B g b c s h s.cols) (v : Int) (hv : 1000000000000 < v) (hI : I64 v) : ∃ s' h', Sh w (V.setCell ⟨b, k * 12 + 7, none⟩ (.int .i64 v)) g s' h' ∧ WrongS s' := by
  have q := bu_i64 hBu _ (getD_memD hk default)
  have hp := hBu.Few.plugs _ (getD_memD hk default)
  exact bad_sh hBu hk (r.set (j := 7) (getD_some hk) (by decide) (rd_f 7 (.int .i64 v) { s.cols.getD k default with lash := v } rfl fun _ _ => rfl)) (bad_lash v hv) hp q
theorem w_x (hBu : Bu s) (hk : k < s.cols.length) (r : CW w V S B g b c s h s.cols) (v : Int) (hv : v < -500000) (hI : I64 v) : ∃ s' h', Sh w (V.setCell ⟨b, k * 12 + 9, none⟩ (.int .i64 v)) g s' h' ∧ WrongS s' := by
  have q := bu_i64 hBu _ (getD_memD hk default)
  have hp := hBu.Few.plugs _ (getD_memD hk default)
  exact bad_sh hBu hk (r.set (j := 9) (getD_some hk) (by decide) (rd_f 9 (.int .i64 v) { s.cols.getD k default with x := v } rfl fun _ _ => rfl)) (bad_x v hv) hp q
/-- New plugs, in a block just made. -/
theorem w_plugs (hBu : Bu s) (hk : k < s.cols.length) (r : CW w V (Lt B) B g b c s h s.cols) (L : List Int) (cs : Array Value) (hcs : cs = (i64s L).toArray) (hbad : colOK { s.cols.getD k default with plugs := L } = false) (hL : L.length ≤ 1000) : ∃ s' h', Sh w ((V.alloc (.cells cs 3)).setCell ⟨b, k * 12 + 8, none⟩ (.slice (some ⟨V.heap.size, 0, none⟩) L.length L.length)) g s' h' ∧ WrongS s' := by
  subst hcs
  have q := bu_i64 hBu _ (getD_memD hk default)
  have hbV : b < V.heap.size := by
    obtain ⟨xs, ho, _, _⟩ := r.own
    exact (ho.lt b rfl).2
  have hgV := r.bk.lt
  have hlg := r.lg
  have r1 := (r.on (ba1 V (.cells (i64s L).toArray 3))).more (S' := fun x => Lt B x ∨ x = V.heap.size) (fun _ hx => .inl hx) fun x hx => by
    rcases hx with hx | rfl
    · have hx : x < B := hx
      have := r.gb
      simp; omega
    · simp; omega
  have hsl : SlT tInt (V.alloc (.cells (i64s L).toArray 3)) (fun x => Lt B x ∨ x = V.heap.size) (some ⟨V.heap.size, 0, none⟩) L := by
    intro hn
    obtain ⟨b', off, e, hb', hc⟩ := sl_ints (Bk.new V 3 (i64s L).toArray) hn
    injection e with e
    injection e with e1 e2
    subst e1 e2
    refine ⟨_, _, rfl, .inr rfl, fun i x hx => ?_⟩
    obtain ⟨cs, h1, h2⟩ := hc i x hx
    exact ⟨cs, h1, h2⟩
  exact bad_sh hBu hk (r1.set (j := 8) (getD_some hk) (by decide) (rd_p L _ L.length (Nat.le_refl _) hsl)) hbad (by show L.length ≤ 1000000; omega) q
end

end Go.Proofs.Ytbkinjpaigmghaa
