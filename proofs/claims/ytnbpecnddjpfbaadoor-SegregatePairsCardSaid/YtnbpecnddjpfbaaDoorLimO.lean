/-
  The arguments of the laws of chapters 10 and 11, opened: weights, drops.
-/
import Derived.Test.YtnbpecnddjpfbaaDoorStO
namespace Go.Proofs.YtnbpecnddjpfbaaDoor
open Go.ChangeShapes Go.WideShapes Go.ChangeAt Go.RowKit Go.Deep
theorem cellsDrp : Tryd.prog.cellsOf 138 = 4 := by kernel_rfl
section
variable {H : Type} {enc : TypeId × Value → H} {W : World}
set_option maxRecDepth 100000 in
theorem opens_drop : Opens enc W tDrp 138 (fun d => d.col < 256 ∧ d.kilos < 256) := fun fuel cs x h => by
  obtain ⟨xs, n, _, _, hl, hxl, hf⟩ := DataW.trod_struct Tryd.underlying138 h
  have hl4 : cs.length = 4 := hl.trans cellsDrp
  match cs, hl4, xs, hxl with
  | [c0, c1, c2, c3], _, [x0, x1, x2, x3], _ =>
    have f0 := hf 0 _ rfl
    have f1 := hf 1 _ rfl
    have f2 := hf 2 _ rfl
    have f3 := hf 3 _ rfl
    simp [cells8, cellsB] at f0 f1 f2 f3
    obtain ⟨n0, e0, _, w0⟩ := DataW.trod_int Tryd.underlying5 f0
    obtain ⟨n1, e1, _, w1⟩ := DataW.trod_int Tryd.underlying5 f1
    obtain ⟨b2, e2, _⟩ := DataW.trod_bool Tryd.underlying4 f2
    obtain ⟨b3, e3, _⟩ := DataW.trod_bool Tryd.underlying4 f3
    have q0 := bounds_u8 w0
    have q1 := bounds_u8 w1
    obtain ⟨a0, rfl⟩ := Int.eq_ofNat_of_zero_le q0.1
    obtain ⟨a1, rfl⟩ := Int.eq_ofNat_of_zero_le q1.1
    have e0 := (List.cons.inj e0).1
    have e1 := (List.cons.inj e1).1
    have e2 := (List.cons.inj e2).1
    have e3 := (List.cons.inj e3).1
    subst e0 e1 e2 e3
    exact ⟨⟨a0, a1, b2, b3⟩, rfl, by show a0 < 256; omega, by show a1 < 256; omega⟩
set_option maxRecDepth 100000 in
theorem open_drops {base : Nat} {r : Reach} {v : Value} {d : DataW H} {p : List MemPlace} (hv : Value.okWide Tryd.prog W r base 52 v) (h : DataW.Trod enc Tryd.prog W 0 (fun _ => true) true 52 v d p) :
    ∃ A c l, v = .slice A l.length c ∧ l.length ≤ c ∧ c ≤ maxLen ∧ SlT tDrp W (Lt W.heap.size) A l ∧ ∀ q ∈ l, q.col < 256 ∧ q.kilos < 256 := by
  obtain ⟨a0, len0, cap0, rfl⟩ := okWide_slice Tryd.underlying52 hv
  obtain ⟨fuel, hf⟩ := h
  obtain ⟨A, c, l, e, h1, h2, h3, h4⟩ := open_slT (T := tDrp) Tryd.underlying52 cellsDrp opens_drop hf
  simp [Value.cells] at e
  obtain ⟨rfl, rfl, rfl⟩ := e
  exact ⟨a0, cap0, l, rfl, h1, h2, h3, h4⟩
end
end Go.Proofs.YtnbpecnddjpfbaaDoor
