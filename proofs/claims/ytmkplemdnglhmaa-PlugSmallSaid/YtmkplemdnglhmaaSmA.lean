/-
  A ship of the call's own, one column of which is written again and again, beside boxes that are written: for the ..Small statements.
-/
import Derived.Test.YtmkplemdnglhmaaStT
import Derived.Test.YtmkplemdnglhmaaQg
namespace Go.Proofs.Ytmkplemdnglhmaa
open Go.RowKit

def bA (x1 x2 x3 x4 : Bx) : Array Value := (bxL x1 ++ bxL x2 ++ bxL x3 ++ bxL x4).toArray
theorem flat_bA {w : World} {S : Nat → Prop} (x1 x2 x3 x4 : Bx) : Flat tBx w S (bA x1 x2 x3 x4).toList [x1, x2, x3, x4] :=
  ⟨bxL x1, bxL x2 ++ bxL x3 ++ bxL x4, by simp [bA], rfl, bxL x2, bxL x3 ++ bxL x4, by simp, rfl, bxL x3, bxL x4, rfl, rfl, bxL x4, [], by simp, rfl, rfl⟩
/-- The ship in its variable g, its columns in block b, the boxes in block gb; P of the column that is written, and of the tolerance; Q of each box. -/
structure SW (w V : World) (g gb b cc : Nat) (gs : List Nat) (s : Shp) (h : Hd) (P : Col → Int → Prop) (Q : Bx → Prop) : Prop where
  lw : ∃ x m, P x m ∧ LW w V g b cc gs { s with m0 := m } h (s.cols.set 2 x)
  bx : ∃ x1 x2 x3 x4, (Q x1 ∧ Q x2 ∧ Q x3 ∧ Q x4) ∧ Bk V gb 37 (bA x1 x2 x3 x4)
  lg : w.heap.size ≤ gb
  n : s.cols.length = 5
  zz : (s.rows = [] ∧ s.frames = [] ∧ s.tanks = []) ∧ ∃ (w0 : World) (S : Nat → Prop), ShpR w0 S s h
section
variable {w V V' : World} {g gb b cc : Nat} {gs : List Nat} {s : Shp} {h : Hd} {P : Col → Int → Prop} {Q : Bx → Prop}
theorem SW.on (r : SW w V g gb b cc gs s h P Q) (hb : Below V.heap.size V V') : SW w V' g gb b cc gs s h P Q := by
  obtain ⟨x, m, h1, h2⟩ := r.lw
  obtain ⟨x1, x2, x3, x4, k1, k2⟩ := r.bx
  exact ⟨⟨x, m, h1, h2.on hb⟩, ⟨x1, x2, x3, x4, k1, k2.below hb k2.lt⟩, r.lg, r.n, r.zz⟩
theorem SW.be (r : SW w V g gb b cc gs s h P Q) : Below w.heap.size w V := by
  obtain ⟨x, m, h1, h2⟩ := r.lw
  exact h2.be
theorem SW.box (r : SW w V g gb b cc gs s h P Q) (j : Nat) (u : Value)
    (hq : ∀ x1 x2 x3 x4, Q x1 → Q x2 → Q x3 → Q x4 → ∃ y1 y2 y3 y4, (Q y1 ∧ Q y2 ∧ Q y3 ∧ Q y4) ∧ (bA x1 x2 x3 x4).setIfInBounds j u = bA y1 y2 y3 y4) : SW w (V.setCell ⟨gb, j, none⟩ u) g gb b cc gs s h P Q := by
  obtain ⟨x, m, h1, h2⟩ := r.lw
  obtain ⟨x1, x2, x3, x4, ⟨k1, k2, k3, k4⟩, kb⟩ := r.bx
  obtain ⟨y1, y2, y3, y4, hy, he⟩ := hq x1 x2 x3 x4 k1 k2 k3 k4
  refine ⟨⟨x, m, h1, h2.off kb (by decide) (by decide) (by decide) (by decide) r.lg (grown_setCell _ _ _)⟩, ⟨y1, y2, y3, y4, hy, ?_⟩, r.lg, r.n, r.zz⟩
  rw [← he]
  exact kb.set_ j u
theorem SW.col (r : SW w V g gb b cc gs s h P Q) (j : Nat) (u : Value) (hj : j < 12)
    (hp : ∀ x m, P x m → ∃ x', P x' m ∧ x'.plugs = x.plugs ∧ ∀ A p, (colL x A p).set j u = colL x' A p) : SW w (V.setCell ⟨b, 24 + j, none⟩ u) g gb b cc gs s h P Q := by
  obtain ⟨x, m, h1, h2⟩ := r.lw
  obtain ⟨x1, x2, x3, x4, hk, kb⟩ := r.bx
  obtain ⟨x', e1, e2, e3⟩ := hp x m h1
  obtain ⟨cb, hkb⟩ := h2.blk
  have hx : (s.cols.set 2 x)[2]? = some x := List.getElem?_set_self (by have := r.n; omega)
  have h3 := h2.set (i := 2) hx hj (rd_f j u x' e2 e3)
  rw [List.set_set] at h3
  exact ⟨⟨x', m, e1, h3⟩, ⟨x1, x2, x3, x4, hk, kb.far (p := ⟨b, 24 + j, none⟩) (Bk.ne_ kb hkb (by decide)) u⟩, r.lg, r.n, r.zz⟩
theorem SW.tol (r : SW w V g gb b cc gs s h P Q) (m' : Int) (hp : ∀ x m, P x m → P x m') : SW w (V.setCell ⟨g, 9, none⟩ (.int .i64 m')) g gb b cc gs s h P Q := by
  obtain ⟨x, m, h1, h2⟩ := r.lw
  obtain ⟨x1, x2, x3, x4, hk, kb⟩ := r.bx
  have h3 := h2.tol m'
  exact ⟨⟨x, m', hp x m h1, h3⟩, ⟨x1, x2, x3, x4, hk, kb.far (p := ⟨g, 9, none⟩) (Bk.ne_ kb h2.bk (by decide)) _⟩, r.lg, r.n, r.zz⟩
theorem SW.colAt (r : SW w V g gb b cc gs s h P Q) : ∃ x m Ap q, P x m ∧ (∀ j u, (colL x Ap q)[j]? = some u → V.cell? ⟨b, 24 + j, none⟩ = some u) ∧ ∀ j, V.frozen? ⟨b, 24 + j, none⟩ = false := by
  obtain ⟨x, m, h1, h2⟩ := r.lw
  have hx : (s.cols.set 2 x)[2]? = some x := List.getElem?_set_self (by have := r.n; omega)
  obtain ⟨Ap, q, k1, k2⟩ := h2.at_ hx
  exact ⟨x, m, Ap, q, h1, k1, k2⟩
theorem SW.cell0 (r : SW w V g gb b cc gs s h P Q) : V.cell? ⟨g, 0, none⟩ = some (.slice (some ⟨b, 0, none⟩) 5 cc) := by
  obtain ⟨x, m, h1, h2⟩ := r.lw
  have := h2.bk.cell 0
  have hl : (s.cols.set 2 x).length = 5 := by rw [List.length_set]; exact r.n
  rw [this]
  show some (Value.slice (some ⟨b, 0, none⟩) (s.cols.set 2 x).length cc) = _
  rw [hl]
theorem SW.c9 (r : SW w V g gb b cc gs s h P Q) : (∃ v, V.cell? ⟨g, 9, none⟩ = some v) ∧ V.frozen? ⟨g, 9, none⟩ = false := by
  obtain ⟨x, m, h1, h2⟩ := r.lw
  exact ⟨⟨_, h2.bk.cell 9⟩, h2.bk.frozen 9⟩
theorem SW.bc (r : SW w V g gb b cc gs s h P Q) (j : Nat) (hj : j < 36) : (∃ v, V.cell? ⟨gb, j, none⟩ = some v) ∧ V.frozen? ⟨gb, j, none⟩ = false := by
  obtain ⟨x1, x2, x3, x4, hk, kb⟩ := r.bx
  have hz : (bA x1 x2 x3 x4).size = 36 := rfl
  refine ⟨⟨(bA x1 x2 x3 x4)[j]'(by omega), ?_⟩, kb.frozen j⟩
  rw [kb.cell j]
  exact Array.getElem?_eq_getElem (by omega)
theorem SW.kil0 (r : SW w V g gb b cc gs s h P Q) (z : Int) (hq : ∀ x, Q x → Q { x with kilos := z }) : SW w (V.setCell ⟨gb, 4, none⟩ (.int .i64 z)) g gb b cc gs s h P Q :=
  r.box 4 _ fun x1 x2 x3 x4 h1 h2 h3 h4 => ⟨{ x1 with kilos := z }, x2, x3, x4, ⟨hq _ h1, h2, h3, h4⟩, rfl⟩
theorem SW.kil1 (r : SW w V g gb b cc gs s h P Q) (z : Int) (hq : ∀ x, Q x → Q { x with kilos := z }) : SW w (V.setCell ⟨gb, 13, none⟩ (.int .i64 z)) g gb b cc gs s h P Q :=
  r.box 13 _ fun x1 x2 x3 x4 h1 h2 h3 h4 => ⟨x1, { x2 with kilos := z }, x3, x4, ⟨h1, hq _ h2, h3, h4⟩, rfl⟩
theorem SW.kil2 (r : SW w V g gb b cc gs s h P Q) (z : Int) (hq : ∀ x, Q x → Q { x with kilos := z }) : SW w (V.setCell ⟨gb, 22, none⟩ (.int .i64 z)) g gb b cc gs s h P Q :=
  r.box 22 _ fun x1 x2 x3 x4 h1 h2 h3 h4 => ⟨x1, x2, { x3 with kilos := z }, x4, ⟨h1, h2, hq _ h3, h4⟩, rfl⟩
/-- The ship as it reads at this world, and its boxes. -/
theorem SW.rd (r : SW w V g gb b cc gs s h P Q) : ∃ x m, P x m ∧ Bk V g 32 (shpA { s with cols := s.cols.set 2 x, m0 := m } { h with A1 := some ⟨b, 0, none⟩, c1 := cc }) ∧ ShpR V (Lt V.heap.size) { s with cols := s.cols.set 2 x, m0 := m } { h with A1 := some ⟨b, 0, none⟩, c1 := cc } := by
  obtain ⟨x, m, h1, h2⟩ := r.lw
  obtain ⟨⟨z1, z2, z3⟩, w0, S, h0⟩ := r.zz
  have h0' : ShpR w0 S { s with m0 := m } h := ⟨h0.n1, h0.n2, h0.n3, h0.n4, h0.n5, h0.m1, h0.m2, h0.m3, h0.m4, h0.m5, h0.cols, h0.covs, h0.rows, h0.frames, h0.tanks⟩
  exact ⟨x, m, h1, h2.bk, h2.rd z1 z2 z3 h0' m⟩
theorem SW.bxs (r : SW w V g gb b cc gs s h P Q) : ∃ bl : List Bx, bl.length = 4 ∧ (∀ x ∈ bl, Q x) ∧ SlT tBx V (Lt V.heap.size) (some ⟨gb, 0, none⟩) bl := by
  obtain ⟨x1, x2, x3, x4, ⟨k1, k2, k3, k4⟩, kb⟩ := r.bx
  refine ⟨[x1, x2, x3, x4], rfl, ?_, sl_flat kb (flat_bA x1 x2 x3 x4) kb.lt⟩
  intro x hx
  simp only [List.mem_cons, List.not_mem_nil, or_false] at hx
  rcases hx with rfl | rfl | rfl | rfl <;> assumption
end
/-- A number between bounds that operation i gives. -/
def As.num (i : Nat) (lo hi : Int) : As := ⟨[i], fun x _ => ∃ z, x i = .int .i64 z ∧ lo ≤ z ∧ z ≤ hi, fun h ⟨z, e, r⟩ => ⟨z, (h i (by simp)).symm.trans e, r⟩, fun _ h => h⟩
/-- A byte that operation i gives. -/
def As.byte (i : Nat) : As := ⟨[i], fun x _ => ∃ z : Nat, x i = .int .u8 (z : Nat) ∧ z < 256, fun h ⟨z, e, r⟩ => ⟨z, (h i (by simp)).symm.trans e, r⟩, fun _ h => h⟩
/-- A truth value that operation i gives. -/
def As.bool (i : Nat) : As := ⟨[i], fun x _ => ∃ z : Bool, x i = .bool z, fun h ⟨z, e⟩ => ⟨z, (h i (by simp)).symm.trans e⟩, fun _ h => h⟩
theorem u8_num (z : Int) : ∃ n : Nat, IntKind.u8.wrap z = (n : Int) ∧ n < 256 := by
  have h0 : 0 ≤ IntKind.u8.wrap z ∧ IntKind.u8.wrap z < 256 := by simp [IntKind.wrap, IntKind.bits, IntKind.signed]; omega
  exact ⟨(IntKind.u8.wrap z).toNat, by omega, by omega⟩
/-- The same, and a state of the call's own. -/
structure SL (w V : World) (g gb b cc : Nat) (gs : List Nat) (s : Shp) (h : Hd) (P : Col → Int → Prop) (Q : Bx → Prop) (B b2 c2 : Nat) (m : List Stw) : Prop where
  sw : SW w V g gb b cc gs s h P Q
  ow : OwnP tStw 42 V B (.slice (some ⟨b2, 0, none⟩) m.length c2) m
section
variable {w V V' : World} {g gb b cc B b2 c2 : Nat} {gs : List Nat} {s : Shp} {h : Hd} {P : Col → Int → Prop} {Q : Bx → Prop} {m : List Stw}
theorem SL.on (r : SL w V g gb b cc gs s h P Q B b2 c2 m) (hb : Below V.heap.size V V') : SL w V' g gb b cc gs s h P Q B b2 c2 m := ⟨r.sw.on hb, r.ow.on hb⟩
theorem SL.col (r : SL w V g gb b cc gs s h P Q B b2 c2 m) (j : Nat) (u : Value) (hj : j < 12)
    (hp : ∀ x m, P x m → ∃ x', P x' m ∧ x'.plugs = x.plugs ∧ ∀ A p, (colL x A p).set j u = colL x' A p) : SL w (V.setCell ⟨b, 24 + j, none⟩ u) g gb b cc gs s h P Q B b2 c2 m := by
  obtain ⟨x, m0, h1, h2⟩ := r.sw.lw
  obtain ⟨cb, hkb⟩ := h2.blk
  exact ⟨r.sw.col j u hj hp, r.ow.grown (grown_setCell _ _ _) (.inr (r.ow.ne hkb (by decide)))⟩
theorem SL.tol (r : SL w V g gb b cc gs s h P Q B b2 c2 m) (m' : Int) (hp : ∀ x m, P x m → P x m') : SL w (V.setCell ⟨g, 9, none⟩ (.int .i64 m')) g gb b cc gs s h P Q B b2 c2 m := by
  obtain ⟨x, m0, h1, h2⟩ := r.sw.lw
  exact ⟨r.sw.tol m' hp, r.ow.grown (grown_setCell _ _ _) (.inr (r.ow.ne h2.bk (by decide)))⟩
theorem SL.kil1 (r : SL w V g gb b cc gs s h P Q B b2 c2 m) (z : Int) (hq : ∀ x, Q x → Q { x with kilos := z }) : SL w (V.setCell ⟨gb, 13, none⟩ (.int .i64 z)) g gb b cc gs s h P Q B b2 c2 m := by
  obtain ⟨x1, x2, x3, x4, h1, h2⟩ := r.sw.bx
  exact ⟨r.sw.kil1 z hq, r.ow.grown (grown_setCell _ _ _) (.inr (r.ow.ne h2 (by decide)))⟩
theorem SL.sts (r : SL w V g gb b cc gs s h P Q B b2 c2 m) : SlT tStw V (Lt V.heap.size) (some ⟨b2, 0, none⟩) m := by
  obtain ⟨A, c, e, _, _, hs⟩ := r.ow.sl'
  injection e with e1 _ e2
  subst e1 e2
  exact hs
theorem SL.at_end (sw : SW w V g gb b cc gs s h P Q) {v : Value} (ho : OwnT tStw 42 V B v m) (hm : 0 < m.length) : ∃ b2 c2, v = .slice (some ⟨b2, 0, none⟩) m.length c2 ∧ m.length ≤ c2 ∧ c2 ≤ maxLen ∧ SL w V g gb b cc gs s h P Q B b2 c2 m := by
  obtain ⟨xs, h1, h2⟩ := ho
  have hP : OwnP tStw 42 V B v m := ⟨xs, h1, h2.plain plain_stw, fun _ h => h.elim⟩
  obtain ⟨b2, c2, rfl, _, hc, hcm⟩ := OwnS.form hP hm
  exact ⟨b2, c2, rfl, hc, hcm, sw, hP⟩
end
end Go.Proofs.Ytmkplemdnglhmaa
