/-
  What the rows' condition on the table of the places gives; slots that came in.
-/
import Derived.Test.YtdhhiaheonlldaaDoorCards
import Derived.Test.YtdhhiaheonlldaaDoorTie
import Derived.Test.YtdhhiaheonlldaaDoorB5
import Derived.Test.YtdhhiaheonlldaaDoorB3
import Derived.Deep.DeepHandedRow
import Derived.Lib.LaidTab
namespace Go.Proofs.YtdhhiaheonlldaaDoor
open Go.ChangeShapes Go.WideShapes Go.ChangeAt Go.RowKit Go.Deep

theorem gQua : Tryd.prog.globalNamed "twistlock/slot.quarter" = some 0 := by kernel_rfl
theorem gQuaType : (Tryd.prog.globals[0]?).map (·.type) = some 61 := by kernel_rfl
theorem cellsQua : Tryd.prog.cellsOf 61 = 3 := by kernel_rfl
theorem cellsSlt : Tryd.prog.cellsOf 45 = 3 := by kernel_rfl
theorem laid_quarter_eq {H : Type} : (Rows.laid_twistlock_slot_quarter : DataW H) = Lib.tabData .i64 [2, 1, 3] := rfl
theorem quarter_of {W : World} {g : Nat} {t : TypeId} {cs : Array Value} {fuel : Nat} {p : List MemPlace} {H : Type} {enc : TypeId × Value → H} {base : Nat} {sp : Nat → Bool} {held : Bool}
    (hg : Tryd.prog.globalNamed "twistlock/slot.quarter" = some g) (ht : (Tryd.prog.globals[g]?).map (·.type) = some t) (hv : W.var? Tryd.prog "twistlock/slot.quarter" = some cs)
    (hd : DataW.trod enc Tryd.prog W base sp held fuel t cs.toList = some (Rows.laid_twistlock_slot_quarter, p)) : QuarOK W := by
  obtain rfl := Option.some.inj (gQua.symm.trans hg)
  obtain rfl := Option.some.inj (gQuaType.symm.trans ht)
  intro a ha
  rw [World.var?_cell gQua hv]
  rw [laid_quarter_eq] at hd
  have hc := Lib.cells_of_tab Tryd.underlying61 Tryd.underlying3 cellsI cellsQua hd
  rw [show cs[a]? = cs.toList[a]? by simp, hc]
  rcases (by omega : a = 0 ∨ a = 1 ∨ a = 2) with rfl | rfl | rfl <;> rfl
theorem quarter_laid {W : World} {rest : List (String × DataW Unit)} (h : laidMet Tryd.prog (("twistlock/slot.quarter", Rows.laid_twistlock_slot_quarter) :: rest) W) : QuarOK W := by
  obtain ⟨ps, ⟨g', t', cs, fuel, p, q, hg', ht', hvar, hd, _, _⟩, _⟩ := h
  exact quarter_of hg' ht' hvar hd
/-- A world for the witness: the table holds what its initialiser lays. -/
def layQua : Obj → Obj
  | .cells _ t frozen => .cells #[.int .i64 2, .int .i64 1, .int .i64 3] t frozen
  | o => o
noncomputable def laidWorld (os : Os) : World :=
  { World.holding Tryd.prog os ⟨#[], #[], []⟩ with heap := (World.holding Tryd.prog os ⟨#[], #[], []⟩).heap.modify 0 layQua }

section
variable {H : Type} {enc : TypeId × Value → H} {W : World}
set_option maxRecDepth 100000 in
theorem opens_slot : Opens enc W tSlt 45 (fun x => I64 x.col ∧ I64 x.tier ∧ x.half < 256) := fun fuel cs x h => by
  obtain ⟨xs, n, _, _, hl, hxl, hf⟩ := DataW.trod_struct Tryd.underlying45 h
  have hl3 : cs.length = 3 := hl.trans cellsSlt
  match cs, hl3, xs, hxl with
  | [c0, c1, c2], _, [x0, x1, x2], _ =>
    have f0 := hf 0 _ rfl
    have f1 := hf 1 _ rfl
    have f2 := hf 2 _ rfl
    simp [cells8, cellsI] at f0 f1 f2
    obtain ⟨n0, e0, _, w0⟩ := DataW.trod_int Tryd.underlying3 f0
    obtain ⟨n1, e1, _, w1⟩ := DataW.trod_int Tryd.underlying3 f1
    obtain ⟨n2, e2, _, w2⟩ := DataW.trod_int Tryd.underlying5 f2
    have q2 := bounds_u8 w2
    obtain ⟨a2, rfl⟩ := Int.eq_ofNat_of_zero_le q2.1
    have e0 := (List.cons.inj e0).1
    have e1 := (List.cons.inj e1).1
    have e2 := (List.cons.inj e2).1
    subst e0 e1 e2
    exact ⟨⟨n0, n1, a2⟩, rfl, bounds_i64 w0, bounds_i64 w1, by show a2 < 256; omega⟩
set_option maxRecDepth 100000 in
theorem open_slot {base : Nat} {r : Reach} {v : Value} {d : DataW H} {p : List MemPlace} (hv : Value.okWide Tryd.prog W r base 45 v) (h : DataW.Trod enc Tryd.prog W 0 (fun _ => true) true 45 v d p) :
    ∃ x : Slt, v = .agg (sltL x).toArray ∧ I64 x.col ∧ I64 x.tier ∧ x.half < 256 := by
  obtain ⟨cs, rfl, hsz⟩ := okWide_struct Tryd.underlying45 hv
  obtain ⟨fuel, hf⟩ := h
  obtain ⟨x, hx, hq⟩ := opens_slot _ _ _ hf
  refine ⟨x, ?_, hq⟩
  have hx : cs.toList = sltL x := by simpa [Value.cells, tSlt] using hx
  rw [← hx]
set_option maxRecDepth 100000 in
theorem open_slots {base : Nat} {r : Reach} {v : Value} {d : DataW H} {p : List MemPlace} (hv : Value.okWide Tryd.prog W r base 42 v) (h : DataW.Trod enc Tryd.prog W 0 (fun _ => true) true 42 v d p) :
    ∃ A c l, v = .slice A l.length c ∧ l.length ≤ c ∧ c ≤ maxLen ∧ SlT tSlt W (Lt W.heap.size) A l ∧ ∀ x ∈ l, I64 x.col ∧ I64 x.tier ∧ x.half < 256 := by
  obtain ⟨a0, len0, cap0, rfl⟩ := okWide_slice Tryd.underlying42 hv
  obtain ⟨fuel, hf⟩ := h
  obtain ⟨A, c, l, e, h1, h2, h3, h4⟩ := open_slT (T := tSlt) Tryd.underlying42 cellsSlt opens_slot hf
  simp [Value.cells] at e
  obtain ⟨rfl, rfl, rfl⟩ := e
  exact ⟨a0, cap0, l, rfl, h1, h2, h3, h4⟩
theorem opens_u8 : Opens enc W tU8 5 (fun x => x < 256) := fun fuel cs x h => by
  obtain ⟨n, rfl, _, hw⟩ := DataW.trod_int Tryd.underlying5 h
  have q := bounds_u8 hw
  obtain ⟨a, rfl⟩ := Int.eq_ofNat_of_zero_le q.1
  exact ⟨a, rfl, by show a < 256; omega⟩
set_option maxRecDepth 100000 in
theorem open_bytes {base : Nat} {r : Reach} {v : Value} {d : DataW H} {p : List MemPlace} (hv : Value.okWide Tryd.prog W r base 76 v) (h : DataW.Trod enc Tryd.prog W 0 (fun _ => true) true 76 v d p) :
    ∃ A c l, v = .slice A l.length c ∧ l.length ≤ c ∧ c ≤ maxLen ∧ SlT tU8 W (Lt W.heap.size) A l ∧ ∀ x ∈ l, x < 256 := by
  obtain ⟨a0, len0, cap0, rfl⟩ := okWide_slice Tryd.underlying76 hv
  obtain ⟨fuel, hf⟩ := h
  obtain ⟨A, c, l, e, h1, h2, h3, h4⟩ := open_slT (T := tU8) Tryd.underlying76 cells8 opens_u8 hf
  simp [Value.cells] at e
  obtain ⟨rfl, rfl, rfl⟩ := e
  exact ⟨a0, cap0, l, rfl, h1, h2, h3, h4⟩
end
end Go.Proofs.YtdhhiaheonlldaaDoor
