/-
  Slots, boxes and states that came in.
-/
import Derived.Test.YtmhikcleekfbpaaGreatDoorB4
import Derived.Test.YtmhikcleekfbpaaGreatDoorStA
namespace Go.Proofs.YtmhikcleekfbpaaGreatDoor
open Go.ChangeShapes Go.WideShapes Go.ChangeAt Go.RowKit

theorem cellsSltX : Tryz.prog.cellsOf 36 = 3 := by kernel_rfl
theorem cellsBxX : Tryz.prog.cellsOf 56 = 9 := by kernel_rfl
theorem cellsStwX : Tryz.prog.cellsOf 38 = 4 := by kernel_rfl
theorem cellsStrX : Tryz.prog.cellsOf 9 = 1 := by kernel_rfl
section
variable {H : Type} {enc : TypeId × Value → H} {W : World}
def SltI (x : Slt) : Prop := I64 x.col ∧ I64 x.tier ∧ x.half < 256
set_option maxRecDepth 100000 in
theorem opensX_slot : Opens enc W tSlt 36 (fun x => I64 x.col ∧ I64 x.tier ∧ x.half < 256) := fun fuel cs x h => by
  obtain ⟨xs, n, _, _, hl, hxl, hf⟩ := DataW.trod_struct Tryz.underlying36 h
  have hl3 : cs.length = 3 := hl.trans cellsSltX
  match cs, hl3, xs, hxl with
  | [c0, c1, c2], _, [x0, x1, x2], _ =>
    have f0 := hf 0 _ rfl
    have f1 := hf 1 _ rfl
    have f2 := hf 2 _ rfl
    simp [cells8, cellsI] at f0 f1 f2
    obtain ⟨n0, e0, _, w0⟩ := DataW.trod_int Tryz.underlying3 f0
    obtain ⟨n1, e1, _, w1⟩ := DataW.trod_int Tryz.underlying3 f1
    obtain ⟨n2, e2, _, w2⟩ := DataW.trod_int Tryz.underlying5 f2
    have q2 := bounds_u8 w2
    obtain ⟨a2, rfl⟩ := Int.eq_ofNat_of_zero_le q2.1
    have e0 := (List.cons.inj e0).1
    have e1 := (List.cons.inj e1).1
    have e2 := (List.cons.inj e2).1
    subst e0 e1 e2
    exact ⟨⟨n0, n1, a2⟩, rfl, bounds_i64 w0, bounds_i64 w1, by show a2 < 256; omega⟩
set_option maxRecDepth 100000 in
theorem open_slot {base : Nat} {r : Reach} {v : Value} {d : DataW H} {p : List MemPlace} (hv : Value.okWide Tryz.prog W r base 36 v) (h : DataW.Trod enc Tryz.prog W 0 (fun _ => true) true 36 v d p) :
    ∃ x : Slt, v = .agg (sltL x).toArray ∧ I64 x.col ∧ I64 x.tier ∧ x.half < 256 := by
  obtain ⟨cs, rfl, hsz⟩ := okWide_struct Tryz.underlying36 hv
  obtain ⟨fuel, hf⟩ := h
  obtain ⟨x, hx, hq⟩ := opensX_slot _ _ _ hf
  refine ⟨x, ?_, hq⟩
  have hx : cs.toList = sltL x := by simpa [Value.cells, tSlt] using hx
  rw [← hx]
set_option maxRecDepth 100000 in
theorem open_slots {base : Nat} {r : Reach} {v : Value} {d : DataW H} {p : List MemPlace} (hv : Value.okWide Tryz.prog W r base 80 v) (h : DataW.Trod enc Tryz.prog W 0 (fun _ => true) true 80 v d p) :
    ∃ A c l, v = .slice A l.length c ∧ l.length ≤ c ∧ c ≤ maxLen ∧ SlT tSlt W (Lt W.heap.size) A l ∧ ∀ x ∈ l, I64 x.col ∧ I64 x.tier ∧ x.half < 256 := by
  obtain ⟨a0, len0, cap0, rfl⟩ := okWide_slice Tryz.underlying80 hv
  obtain ⟨fuel, hf⟩ := h
  obtain ⟨A, c, l, e, h1, h2, h3, h4⟩ := open_slT (T := tSlt) Tryz.underlying80 cellsSltX opensX_slot hf
  simp [Value.cells] at e
  obtain ⟨rfl, rfl, rfl⟩ := e
  exact ⟨a0, cap0, l, rfl, h1, h2, h3, h4⟩
set_option maxRecDepth 100000 in
set_option maxHeartbeats 1000000 in
theorem opens_box : Opens enc W tBx 56 (fun x => x.size < 256 ∧ x.cls < 256) := fun fuel cs x h => by
  obtain ⟨xs, n, _, _, hl, hxl, hf⟩ := DataW.trod_struct Tryz.underlying56 h
  have hl9 : cs.length = 9 := hl.trans cellsBxX
  match cs, hl9, xs, hxl with
  | [c0, c1, c2, c3, c4, c5, c6, c7, c8], _, [x0, x1, x2, x3, x4, x5, x6, x7, x8], _ =>
    have f0 := hf 0 _ rfl
    have f1 := hf 1 _ rfl
    have f2 := hf 2 _ rfl
    have f3 := hf 3 _ rfl
    have f4 := hf 4 _ rfl
    have f5 := hf 5 _ rfl
    have f6 := hf 6 _ rfl
    have f7 := hf 7 _ rfl
    have f8 := hf 8 _ rfl
    simp [cells8, cellsI, cellsB, cellsStrX] at f0 f1 f2 f3 f4 f5 f6 f7 f8
    obtain ⟨n0, e0, _, w0⟩ := DataW.trod_int Tryz.underlying3 f0
    have e0 := (List.cons.inj e0).1
    obtain ⟨n1, e1, _, _⟩ := DataW.trod_string Tryz.underlying9 f1
    have e1 := (List.cons.inj e1).1
    obtain ⟨n2, e2, _, w2⟩ := DataW.trod_int Tryz.underlying5 f2
    have q2 := bounds_u8 w2
    obtain ⟨a2, rfl⟩ := Int.eq_ofNat_of_zero_le q2.1
    have e2 := (List.cons.inj e2).1
    obtain ⟨b3, e3, _⟩ := DataW.trod_bool Tryz.underlying4 f3
    have e3 := (List.cons.inj e3).1
    obtain ⟨n4, e4, _, w4⟩ := DataW.trod_int Tryz.underlying3 f4
    have e4 := (List.cons.inj e4).1
    obtain ⟨n5, e5, _, w5⟩ := DataW.trod_int Tryz.underlying3 f5
    have e5 := (List.cons.inj e5).1
    obtain ⟨n6, e6, _, w6⟩ := DataW.trod_int Tryz.underlying3 f6
    have e6 := (List.cons.inj e6).1
    obtain ⟨n7, e7, _, w7⟩ := DataW.trod_int Tryz.underlying5 f7
    have q7 := bounds_u8 w7
    obtain ⟨a7, rfl⟩ := Int.eq_ofNat_of_zero_le q7.1
    have e7 := (List.cons.inj e7).1
    obtain ⟨b8, e8, _⟩ := DataW.trod_bool Tryz.underlying4 f8
    have e8 := (List.cons.inj e8).1
    subst e0 e1 e2 e3 e4 e5 e6 e7 e8
    exact ⟨⟨n0, n1, a2, b3, n4, n5, n6, a7, b8⟩, rfl, by show a2 < 256; omega, by show a7 < 256; omega⟩
set_option maxRecDepth 100000 in
theorem open_boxes {base : Nat} {r : Reach} {v : Value} {d : DataW H} {p : List MemPlace} (hv : Value.okWide Tryz.prog W r base 33 v) (h : DataW.Trod enc Tryz.prog W 0 (fun _ => true) true 33 v d p) :
    ∃ A c l, v = .slice A l.length c ∧ l.length ≤ c ∧ c ≤ maxLen ∧ SlT tBx W (Lt W.heap.size) A l ∧ ∀ x ∈ l, x.size < 256 ∧ x.cls < 256 := by
  obtain ⟨a0, len0, cap0, rfl⟩ := okWide_slice Tryz.underlying33 hv
  obtain ⟨fuel, hf⟩ := h
  obtain ⟨A, c, l, e, h1, h2, h3, h4⟩ := open_slT (T := tBx) Tryz.underlying33 cellsBxX opens_box hf
  simp [Value.cells] at e
  obtain ⟨rfl, rfl, rfl⟩ := e
  exact ⟨a0, cap0, l, rfl, h1, h2, h3, h4⟩
set_option maxRecDepth 100000 in
set_option maxHeartbeats 1000000 in
theorem opens_stw : Opens enc W tStw 38 (fun x => I64 x.box ∧ SltI x.slot) := fun fuel cs x h => by
  obtain ⟨xs, n, _, _, hl, hxl, hf⟩ := DataW.trod_struct Tryz.underlying38 h
  have hl4 : cs.length = 4 := hl.trans cellsStwX
  match cs, hl4, xs, hxl with
  | [c0, c1, c2, c3], _, [x0, x1], _ =>
    have f0 := hf 0 _ rfl
    have f1 := hf 1 _ rfl
    simp [cellsI, cellsSltX] at f0 f1
    obtain ⟨n0, e0, _, w0⟩ := DataW.trod_int Tryz.underlying3 f0
    have e0 := (List.cons.inj e0).1
    obtain ⟨y, hy, hq⟩ := opensX_slot _ _ _ f1
    obtain ⟨yc, yt, yh⟩ := y
    have hy : [c1, c2, c3] = sltL ⟨yc, yt, yh⟩ := hy
    simp only [sltL, List.cons.injEq, and_true] at hy
    obtain ⟨rfl, rfl, rfl⟩ := hy
    subst e0
    exact ⟨⟨n0, ⟨yc, yt, yh⟩⟩, rfl, bounds_i64 w0, hq⟩
set_option maxRecDepth 100000 in
theorem open_stws {base : Nat} {r : Reach} {v : Value} {d : DataW H} {p : List MemPlace} (hv : Value.okWide Tryz.prog W r base 34 v) (h : DataW.Trod enc Tryz.prog W 0 (fun _ => true) true 34 v d p) :
    ∃ A c l, v = .slice A l.length c ∧ l.length ≤ c ∧ c ≤ maxLen ∧ SlT tStw W (Lt W.heap.size) A l ∧ ∀ x ∈ l, I64 x.box ∧ SltI x.slot := by
  obtain ⟨a0, len0, cap0, rfl⟩ := okWide_slice Tryz.underlying34 hv
  obtain ⟨fuel, hf⟩ := h
  obtain ⟨A, c, l, e, h1, h2, h3, h4⟩ := open_slT (T := tStw) Tryz.underlying34 cellsStwX opens_stw hf
  simp [Value.cells] at e
  obtain ⟨rfl, rfl, rfl⟩ := e
  exact ⟨a0, cap0, l, rfl, h1, h2, h3, h4⟩
end
end Go.Proofs.YtmhikcleekfbpaaGreatDoor
