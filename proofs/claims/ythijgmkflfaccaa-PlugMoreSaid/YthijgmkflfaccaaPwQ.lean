/-
  PlugWrong: the ship behind the writing of a column's plugs.
-/
import Derived.Test.YthijgmkflfaccaaPwP
import Derived.Test.YthijgmkflfaccaaQh
namespace Go.Proofs.Ythijgmkflfaccaa
open Go.RowKit

/-- A ship in its variable, to read. -/
structure PX (w : World) (g : Nat) (s : Shp) (h : Hd) (Y : World) : Prop where
  bk : Bk Y g 37 (shpA s h)
  rd : ShpR Y (Lt Y.heap.size) s h
  be : Below w.heap.size w Y
theorem PX.make {w V : World} {g B bc R : Nat} {s : Shp} {h : Hd} {a b : Int} {A' : Option Addr} {c' : Nat} (po : PO w.heap.size B bc V s h) (hbk : Bk V g 37 (shpA s h)) (hrd : ShpR V (Lt V.heap.size) s h) (hbe : Below w.heap.size w V) (hR : B ≤ R) (h1 : 1 ≤ s.cols.length)
    (ho : OwnS tInt 3 V R (Lt R) (.slice A' ((s.cols.getD 0 default).plugs.length + 2) c') ((s.cols.getD 0 default).plugs ++ [a, b])) :
    PX w g (morS s a b) h (V.setCell ⟨bc, 8, none⟩ (.slice A' ((s.cols.getD 0 default).plugs.length + 2) c')) := by
  obtain ⟨xs, hx, hf⟩ := po.own
  have hlb := po.lb
  have hsz := po.sz
  have hl2 : ((s.cols.getD 0 default).plugs ++ [a, b]).length = (s.cols.getD 0 default).plugs.length + 2 := by simp
  obtain ⟨hst, _⟩ := hx.stored 8 (.slice A' ((s.cols.getD 0 default).plugs.length + 2) c')
  have hk : ∀ x o, x ≠ bc → (V.setCell ⟨bc, 8, none⟩ (.slice A' ((s.cols.getD 0 default).plugs.length + 2) c')).cell? ⟨x, o, none⟩ = V.cell? ⟨x, o, none⟩ := fun x o hx => cell_far hx
  have hsY : (V.setCell ⟨bc, 8, none⟩ (.slice A' ((s.cols.getD 0 default).plugs.length + 2) c')).heap.size = V.heap.size := size_setP _ _ _
  obtain ⟨hcap, hsl⟩ : (s.cols.getD 0 default).plugs.length + 2 ≤ c' ∧ SlT tInt V (fun x => x < V.heap.size ∧ x ≠ bc) A' ((s.cols.getD 0 default).plugs ++ [a, b]) := by
    obtain ⟨ys, hy, hyf, _⟩ := ho
    obtain ⟨A0, c0, e, hc0, _, hs0⟩ := OwnT.sl (show OwnT tInt 3 V R _ _ from ⟨ys, hy, hyf.plain plain_int⟩)
    injection e with e1 _ e3
    subst e1 e3
    refine ⟨by rw [hl2] at hc0; exact hc0, fun hn => ?_⟩
    obtain ⟨q, off, e, hq, hcell⟩ := hs0 hn
    subst e
    have := (hy.lt q rfl).1
    exact ⟨q, off, rfl, ⟨hq, by omega⟩, hcell⟩
  have hx0 : s.cols[0]? = some (s.cols.getD 0 default) := by simp [show 0 < s.cols.length by omega]
  have hf2 := (hf.more (S' := fun x => x < V.heap.size ∧ x ≠ bc) fun x hx => ⟨Nat.lt_of_lt_of_le hx.2.1 hsz, hx.2.2⟩).set (i := 0) (x' := { s.cols.getD 0 default with plugs := (s.cols.getD 0 default).plugs ++ [a, b] }) (j := 8) (u := .slice A' ((s.cols.getD 0 default).plugs.length + 2) c') hx0 (by decide) (by
    rintro cs ⟨A0, p0, rfl, q1, q2⟩
    refine ⟨A', c', ?_, by rw [hl2]; exact hcap, hsl⟩
    unfold colL
    simp [hl2])
  rw [show 0 * tCol.k + 8 = 8 by simp] at hf2
  have hf3 := hf2.keep (w' := V.setCell ⟨bc, 8, none⟩ (.slice A' ((s.cols.getD 0 default).plugs.length + 2) c')) fun x o hx => hk x o hx.2
  have hlen : (morS s a b).cols.length = s.cols.length := List.length_set
  have eA : shpA (morS s a b) h = shpA s h := by unfold shpA; rw [hlen]; rfl
  have hgb : g ≠ bc := Bk.ne_ hbk (own_blkP hx rfl).choose_spec (by decide)
  refine ⟨by rw [eA]; exact hbk.far (p := ⟨bc, 8, none⟩) hgb _, ?_, hbe.setCell (p := ⟨bc, 8, none⟩) (by show w.heap.size ≤ bc; omega) _⟩
  have hz := po.z
  refine ⟨by rw [hlen]; exact hrd.n1, hrd.n2, hrd.n3, hrd.n4, hrd.n5, hrd.m1, hrd.m2, hrd.m3, hrd.m4, hrd.m5, ?_, ?_, ?_, ?_, ?_⟩
  · rw [po.a1, hsY]
    intro _
    refine ⟨bc, 0, rfl, Nat.lt_of_lt_of_le hlb.2 hsz, fun i x hx => ?_⟩
    obtain ⟨cs, h1', h2'⟩ := (hf3.more (S' := Lt V.heap.size) fun x hx => hx.1).at_ (i := i) (x := x) hx
    refine ⟨cs, h1', fun j u hu => ?_⟩
    have := hst.cells (g := bc) rfl (i * tCol.k + j) u (h2' j u hu)
    rw [add_mk] at this
    rw [Nat.add_assoc]
    exact this
  · rw [hsY]
    exact (po.cov.keep fun x o hx => hk x o hx.2.2).more fun x hx => Nat.lt_of_lt_of_le hx.2.1 hsz
  · show SlT tRow _ _ h.A3 s.rows; rw [hz.1]; exact SlT.nil
  · show SlT tRow _ _ h.A4 s.frames; rw [hz.2.1]; exact SlT.nil
  · show SlT tTnk _ _ h.A5 s.tanks; rw [hz.2.2]; exact SlT.nil
/-- What is read of the first column. -/
theorem PO.cells {r B b : Nat} {V : World} {s : Shp} {h : Hd} (p : PO r B b V s h) (h1 : 1 ≤ s.cols.length) : ∃ Ap q, V.cell? ⟨b, 3, none⟩ = some (.int .i64 (s.cols.getD 0 default).tiers) ∧ V.cell? ⟨b, 8, none⟩ = some (.slice Ap (s.cols.getD 0 default).plugs.length q) ∧ V.frozen? ⟨b, 8, none⟩ = false ∧
    SlT tInt V (Lt V.heap.size) Ap (s.cols.getD 0 default).plugs ∧ ∃ cs, Bk V b 66 cs := by
  obtain ⟨xs, ho, hf⟩ := p.own
  have hx0 : s.cols[0]? = some (s.cols.getD 0 default) := by simp [show 0 < s.cols.length by omega]
  obtain ⟨cs, ⟨Ap, q, rfl, q1, q2⟩, hc⟩ := hf.at_ hx0
  have c3 := ho.cells (g := b) rfl _ _ (hc 3 (.int .i64 (s.cols.getD 0 default).tiers) rfl)
  have c8 := ho.cells (g := b) rfl _ _ (hc 8 (.slice Ap (s.cols.getD 0 default).plugs.length q) rfl)
  rw [add_mk] at c3 c8
  simp only [Nat.zero_mul, Nat.zero_add] at c3 c8
  exact ⟨Ap, q, c3, c8, ho.frozenAt _, q2.more fun x hx => Nat.lt_of_lt_of_le hx.2.1 p.sz, own_blkP ho rfl⟩
theorem flat_two {w : World} {S : Nat → Prop} (a b : Int) : Flat tInt w S [.int .i64 a, .int .i64 b] [a, b] := ⟨[.int .i64 a], [.int .i64 b], rfl, rfl, [.int .i64 b], [], rfl, rfl, rfl⟩
theorem StepG2.last {P : Program} {ops : Array Oper} {C C1 : World → Prop} {A : List As} {us al : List Nat} {ds : List Deferred} {o : Oper} {i : Nat} {f : (Nat → Value) → List Value} (hal : (al == []) = true)
    (h : ∀ (x : Nat → Value) (w : World), C w → (∀ k ∈ us, (A.getD k As.no).p x w) → ∀ (K : Act → World → Prop) (Q : Exit → Act → World → Prop),
      (∀ v w', C1 w' → (A.getD i As.no).p (upd x i v) w' → K ⟨(putL o.dst v (f x)).toArray, ds⟩ w') → owp P o ⟨(f x).toArray, ds⟩ w K Q) : StepG2 P ops C C1 A us al ds o i f := by
  have e : al = [] := by simpa using hal
  subst e
  exact fun _ x w hw hu K Q hK => h x w hw hu K Q fun v w' h1 h2 => hK v w' h1 h2 fun k hk => by cases hk
end Go.Proofs.Ythijgmkflfaccaa
