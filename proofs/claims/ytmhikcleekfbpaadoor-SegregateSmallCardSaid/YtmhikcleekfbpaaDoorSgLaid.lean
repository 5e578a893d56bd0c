/-
  What the rows' condition on the listed variables gives: the cells of the table and of the names.
-/
import Derived.Test.YtmhikcleekfbpaaDoorCards
import Derived.Test.YtmhikcleekfbpaaDoorTie
import Derived.Test.YtmhikcleekfbpaaDoorSgA
import Derived.Test.YtmhikcleekfbpaaDoorB3
import Derived.Deep.DeepHandedRow
import Derived.Lib.LaidTab
namespace Go.Proofs.YtmhikcleekfbpaaDoor
open Go.ChangeShapes Go.WideShapes Go.ChangeAt Go.RowKit

theorem gTab : Tryd.prog.globalNamed "twistlock/danger.table" = some 0 := by kernel_rfl
theorem gTabType : (Tryd.prog.globals[0]?).map (·.type) = some 105 := by kernel_rfl
theorem gNam : Tryd.prog.globalNamed "twistlock/danger.names" = some 1 := by kernel_rfl
theorem gNamType : (Tryd.prog.globals[1]?).map (·.type) = some 122 := by kernel_rfl
theorem cellsTab : Tryd.prog.cellsOf 105 = 100 := by kernel_rfl
theorem cellsRow : Tryd.prog.cellsOf 104 = 10 := by kernel_rfl
theorem cellsU8 : Tryd.prog.cellsOf 5 = 1 := by kernel_rfl
theorem cellsStr : Tryd.prog.cellsOf 9 = 1 := by kernel_rfl
theorem cellsNam : Tryd.prog.cellsOf 122 = 10 := by kernel_rfl

def rowInts (l : List Nat) : List Int := l.map fun (x : Nat) => (x : Int)
theorem laid_table_eq {H : Type} : (Rows.laid_twistlock_danger_table : DataW H) = .agg (Dg.tabL.map fun r => Lib.tabData .u8 (rowInts r)) := rfl
theorem laid_names_eq {H : Type} : (Rows.laid_twistlock_danger_names : DataW H) = .agg (Dg.nameL.map fun r => .lit (.string (r.map fun x => UInt8.ofNat x))) := rfl

theorem table_of {W : World} {g : Nat} {t : TypeId} {cs : Array Value} {fuel : Nat} {p : List MemPlace} {H : Type} {enc : TypeId × Value → H} {base : Nat} {sp : Nat → Bool} {held : Bool}
    (hg : Tryd.prog.globalNamed "twistlock/danger.table" = some g) (ht : (Tryd.prog.globals[g]?).map (·.type) = some t) (hv : W.var? Tryd.prog "twistlock/danger.table" = some cs)
    (hd : DataW.trod enc Tryd.prog W base sp held fuel t cs.toList = some (Rows.laid_twistlock_danger_table, p)) : TabOK W := by
  obtain rfl := Option.some.inj (gTab.symm.trans hg)
  obtain rfl := Option.some.inj (gTabType.symm.trans ht)
  intro a b ha hb
  rw [World.var?_cell gTab hv]
  rw [laid_table_eq] at hd
  obtain ⟨xs, m, _, hx, hl, hxl, hi⟩ := DataW.trod_array Tryd.underlying105 hd
  have hA := hi a ha
  rw [cellsRow] at hA
  have hxa : xs[a]? = some (xs[a]'(by omega)) := List.getElem?_eq_getElem (by omega)
  rw [hxa] at hA
  have hfst : (xs[a]'(by omega)).1 = Lib.tabData .u8 (rowInts (Dg.tabL.getD a [])) := by
    have h1 : xs.map (·.1) = Dg.tabL.map fun r => (Lib.tabData .u8 (rowInts r) : DataW H) := by
      have := congrArg Prod.fst hx
      simp only [DataW.agg.injEq] at this
      exact this.symm
    have h2 := congrArg (·[a]?) h1
    simp only [List.getElem?_map, hxa, Option.map_some] at h2
    have hta : Dg.tabL[a]? = some (Dg.tabL.getD a []) := by
      have : a < Dg.tabL.length := ha
      simp [this]
    rw [hta] at h2
    simpa using h2
  have hA2 : DataW.trod enc Tryd.prog W base sp held m 104 ((cs.toList.drop (a * 10)).take 10) = some (Lib.tabData .u8 (rowInts (Dg.tabL.getD a [])), (xs[a]'(by omega)).2) := by
    rw [hA, ← hfst]
  have hc := Lib.cells_of_tab Tryd.underlying104 Tryd.underlying5 cellsU8 cellsRow hA2
  have h3 := congrArg (·[b]?) hc
  simp only [List.getElem?_take_of_lt hb, List.getElem?_drop] at h3
  rw [show cs[a * 10 + b]? = cs.toList[a * 10 + b]? by simp, h3]
  have hlen : (Dg.tabL.getD a []).length = 10 := by
    have : ∀ a : Fin 10, (Dg.tabL.getD a []).length = 10 := by decide
    exact this ⟨a, ha⟩
  unfold Dg.tab
  generalize Dg.tabL.getD a [] = r at *
  simp [rowInts, show b < r.length by omega]
theorem strN_data (l : List Nat) (s : ByteArray) (h : s.data.toList = l.map fun x => UInt8.ofNat x) : s = strN l := by
  obtain ⟨d⟩ := s
  obtain ⟨d⟩ := d
  simp only at h
  subst h
  simp [strN, strOfNums, Function.comp_def]
theorem names_of {W : World} {g : Nat} {t : TypeId} {cs : Array Value} {fuel : Nat} {p : List MemPlace} {H : Type} {enc : TypeId × Value → H} {base : Nat} {sp : Nat → Bool} {held : Bool}
    (hg : Tryd.prog.globalNamed "twistlock/danger.names" = some g) (ht : (Tryd.prog.globals[g]?).map (·.type) = some t) (hv : W.var? Tryd.prog "twistlock/danger.names" = some cs)
    (hd : DataW.trod enc Tryd.prog W base sp held fuel t cs.toList = some (Rows.laid_twistlock_danger_names, p)) : NamesOK W := by
  obtain rfl := Option.some.inj (gNam.symm.trans hg)
  obtain rfl := Option.some.inj (gNamType.symm.trans ht)
  intro a ha
  rw [World.var?_cell gNam hv]
  rw [laid_names_eq] at hd
  obtain ⟨xs, m, _, hx, hl, hxl, hi⟩ := DataW.trod_array Tryd.underlying122 hd
  have hA := hi a ha
  rw [cellsStr] at hA
  have hxa : xs[a]? = some (xs[a]'(by omega)) := List.getElem?_eq_getElem (by omega)
  rw [hxa] at hA
  obtain ⟨s, hc, hs, _⟩ := DataW.trod_string Tryd.underlying9 hA
  have h1 : xs.map (·.1) = Dg.nameL.map fun r => (.lit (.string (r.map fun x => UInt8.ofNat x)) : DataW H) := by
    have := congrArg Prod.fst hx
    simp only [DataW.agg.injEq] at this
    exact this.symm
  have h2 := congrArg (·[a]?) h1
  have hta : Dg.nameL[a]? = some (Dg.nameL.getD a []) := by
    have : a < Dg.nameL.length := ha
    simp [this]
  simp only [List.getElem?_map, hxa, hta, Option.map_some, hs, Option.some.injEq, DataW.lit.injEq, Lit.string.injEq] at h2
  have h3 := congrArg (·[0]?) hc
  simp [List.getElem?_drop] at h3
  rw [show cs[a]? = cs.toList[a]? by simp]
  simp only [Array.getElem?_toList]
  rw [h3, strN_data _ s h2]
theorem table_laid {W : World} {rest : List (String × DataW Unit)} (h : laidMet Tryd.prog (("twistlock/danger.table", Rows.laid_twistlock_danger_table) :: rest) W) : TabOK W := by
  obtain ⟨ps, ⟨g', t', cs, fuel, p, q, hg', ht', hvar, hd, _, _⟩, _⟩ := h
  exact table_of hg' ht' hvar hd
theorem both_laid {W : World} {rest : List (String × DataW Unit)} (h : laidMet Tryd.prog (("twistlock/danger.names", Rows.laid_twistlock_danger_names) :: ("twistlock/danger.table", Rows.laid_twistlock_danger_table) :: rest) W) : NamesOK W ∧ TabOK W := by
  obtain ⟨ps, ⟨g', t', cs, fuel, p, q, hg', ht', hvar, hd, ⟨g2, t2, cs2, fuel2, p2, q2, hg2, ht2, hvar2, hd2, _, _⟩, _⟩, _⟩ := h
  exact ⟨names_of hg' ht' hvar hd, table_of hg2 ht2 hvar2 hd2⟩
/-- A world for the witness: the two tables hold what their initialisers lay. -/
def layTab : Obj → Obj
  | .cells _ t frozen => .cells (Dg.tabL.flatten.map fun (x : Nat) => Value.int .u8 (x : Int)).toArray t frozen
  | o => o
def layNam : Obj → Obj
  | .cells _ t frozen => .cells (Dg.nameL.map fun x => Value.string ⟨(x.map fun y => UInt8.ofNat y).toArray⟩).toArray t frozen
  | o => o
noncomputable def laidWorld (os : Os) : World :=
  { World.holding Tryd.prog os ⟨#[], #[], []⟩ with heap := ((World.holding Tryd.prog os ⟨#[], #[], []⟩).heap.modify 0 layTab).modify 1 layNam }
end Go.Proofs.YtmhikcleekfbpaaDoor
