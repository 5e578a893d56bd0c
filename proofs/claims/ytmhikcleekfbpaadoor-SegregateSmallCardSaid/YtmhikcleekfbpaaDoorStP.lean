/-
  What package stow computes, in plain Lean: heights, right states, loaded states.
-/
import Derived.Test.YtmhikcleekfbpaaDoorStA
namespace Go.Proofs.YtmhikcleekfbpaaDoor
open Go.RowKit

/-- What a box adds to the height of a half of a column. -/
def htOf (boxes : List Bx) (col : Int) (half : Nat) (x : Stw) : Int :=
  if x.slot.col == col && (x.slot.half == half || x.slot.half == 0) then (if (findBx boxes x.box).2 then tallB (findBx boxes x.box).1 else 0) else 0
def heightF (boxes : List Bx) (l : List Stw) (col : Int) (half : Nat) : Int := (l.map (htOf boxes col half)).sum
theorem sum_take_succ {α : Type} (f : α → Int) (l : List α) {k : Nat} (h : k < l.length) (d : α) : ((l.take (k + 1)).map f).sum = ((l.take k).map f).sum + f (l.getD k d) := by
  rw [List.take_succ_eq_append_getElem h, List.map_append, List.sum_append]
  simp [h]
theorem sum_bd {α : Type} (f : α → Int) (M : Int) : ∀ l : List α, (∀ x ∈ l, 0 ≤ f x ∧ f x ≤ M) → 0 ≤ (l.map f).sum ∧ (l.map f).sum ≤ M * l.length
  | [], _ => by simp
  | x :: l, h => by
    have h1 := h x (by simp)
    have h2 := sum_bd f M l (fun y hy => h y (by simp [hy]))
    simp only [List.map_cons, List.sum_cons, List.length_cons]
    rw [show M * ((l.length + 1 : Nat) : Int) = M * l.length + M by rw [Int.natCast_add, Int.mul_add]; simp]
    omega
theorem htOf_bd (boxes : List Bx) (col : Int) (half : Nat) (x : Stw) : 0 ≤ htOf boxes col half x ∧ htOf boxes col half x ≤ 2896 := by
  unfold htOf tallB
  (repeat' split) <;> omega
theorem height_bd (boxes : List Bx) (l : List Stw) (col : Int) (half : Nat) : 0 ≤ heightF boxes l col half ∧ heightF boxes l col half ≤ 2896 * l.length := sum_bd _ _ l fun x _ => htOf_bd boxes col half x
def fitsF (s : Shp) (boxes : List Bx) (l : List Stw) (c : Nat) : Bool :=
  decide ((s.cols.getD c default).height ≤ 0) || (decide (heightF boxes l c 1 ≤ (s.cols.getD c default).height) && decide (heightF boxes l c 2 ≤ (s.cols.getD c default).height))
/-- What stow.Right asks of the box at an index of a state. -/
def stowAt (s : Shp) (boxes : List Bx) (l : List Stw) (i : Nat) : Bool :=
  (findBx boxes (l.getD i default).box).2 && (decide (i = 0) || decide ((l.getD (i - 1) default).box < (l.getD i default).box)) && slotRight s (l.getD i default).slot (findBx boxes (l.getD i default).box).1.size &&
    heldB (l.getD i default).slot (l.map (·.slot)) && (List.range i).all fun k => !meetB (l.getD i default).slot (l.getD k default).slot
def stowRight (s : Shp) (boxes : List Bx) (l : List Stw) : Bool :=
  rightF s && ((List.range l.length).all (stowAt s boxes l) && (List.range s.cols.length).all (fitsF s boxes l))
/-- A box that is dropped: the column, the kilos, whether it is small, whether high. -/
structure Drp where
  col : Nat
  kilos : Nat
  small : Bool
  high : Bool
  deriving Inhabited
def dropB (i : Nat) (d : Drp) : Bx := ⟨5 * ((i : Int) + 1), ⟨#[]⟩, if d.small then 20 else 40, if d.small then false else d.high, 1000 + 100 * (d.kilos : Int), 0, 1, 0, false⟩
/-- The state behind one drop. -/
def dropS (s : Shp) (boxes : List Bx) (l : List Stw) (d : Drp) (b : Bx) : List Stw :=
  match (allF s b.size).find? (fun x => x.col == (d.col : Int) % s.cols.length && stowRight s boxes (l ++ [⟨b.id, x⟩])) with
  | some x => l ++ [⟨b.id, x⟩]
  | none => l
def loadTo (s : Shp) (ds : List Drp) : Nat → List Bx × List Stw
  | 0 => ([], [])
  | k + 1 => let r := loadTo s ds k; let b := dropB k (ds.getD k default); (r.1 ++ [b], dropS s (r.1 ++ [b]) r.2 (ds.getD k default) b)
def loadedF (s : Shp) (ds : List Drp) (most : Nat) : List Bx × List Stw := loadTo s ds (min ds.length most)

theorem load_boxes (s : Shp) (ds : List Drp) : ∀ k, (loadTo s ds k).1 = (List.range k).map fun i => dropB i (ds.getD i default)
  | 0 => rfl
  | k + 1 => by
    show (loadTo s ds k).1 ++ [dropB k (ds.getD k default)] = _
    rw [load_boxes s ds k, List.range_succ, List.map_append]
    rfl
theorem load_len (s : Shp) (ds : List Drp) : ∀ k, (loadTo s ds k).2.length ≤ k
  | 0 => by simp [loadTo]
  | k + 1 => by
    have := load_len s ds k
    show (dropS s _ (loadTo s ds k).2 _ _).length ≤ k + 1
    unfold dropS
    split
    · simp; omega
    · omega
theorem load_ids (s : Shp) (ds : List Drp) (k : Nat) : (loadTo s ds k).1.map (·.id) = (List.range k).map fun (i : Nat) => 5 * ((i : Int) + 1) := by
  rw [load_boxes, List.map_map]; rfl
theorem load_nodup (s : Shp) (ds : List Drp) (k : Nat) : ((loadTo s ds k).1.map (·.id)).Nodup := by
  rw [load_ids]
  unfold List.Nodup
  rw [List.pairwise_map]
  exact List.Pairwise.imp (fun h => by omega) List.pairwise_lt_range
theorem findBx_more {boxes : List Bx} {id : Int} (h : (findBx boxes id).2 = true) (m : List Bx) : findBx (boxes ++ m) id = findBx boxes id := by
  unfold findBx idxF at *
  rw [List.findIdx?_append]
  cases h2 : boxes.findIdx? (idB id) with
  | none => rw [h2] at h; simp at h
  | some i =>
    have hi := (List.findIdx?_eq_some_iff_getElem.1 h2).1
    simp [List.getD_eq_getElem?_getD, List.getElem?_append_left hi]
theorem stowRight_parts {s : Shp} {boxes : List Bx} {l : List Stw} : stowRight s boxes l = true ↔ rightF s = true ∧ (∀ i, i < l.length → stowAt s boxes l i = true) ∧ ∀ c, c < s.cols.length → fitsF s boxes l c = true := by
  unfold stowRight
  simp only [Bool.and_eq_true, List.all_eq_true, List.mem_range]
theorem stowAt_found {s : Shp} {boxes : List Bx} {l : List Stw} {i : Nat} (h : stowAt s boxes l i = true) : (findBx boxes (l.getD i default).box).2 = true := by
  unfold stowAt at h
  simp only [Bool.and_eq_true] at h
  exact h.1.1.1.1
theorem stow_found {s : Shp} {boxes : List Bx} {l : List Stw} (h : stowRight s boxes l = true) : ∀ x ∈ l, (findBx boxes x.box).2 = true := fun x hx => by
  obtain ⟨i, hi, rfl⟩ := List.getElem_of_mem hx
  have := stowAt_found ((stowRight_parts.1 h).2.1 i hi)
  simpa [List.getD_eq_getElem?_getD, hi] using this
theorem height_more {boxes : List Bx} {l : List Stw} (h : ∀ x ∈ l, (findBx boxes x.box).2 = true) (m : List Bx) (col : Int) (half : Nat) : heightF (boxes ++ m) l col half = heightF boxes l col half := by
  unfold heightF
  congr 1
  refine List.map_congr_left fun x hx => ?_
  unfold htOf
  rw [findBx_more (h x hx) m]
theorem stowRight_more {s : Shp} {boxes : List Bx} {l : List Stw} (h : stowRight s boxes l = true) (m : List Bx) : stowRight s (boxes ++ m) l = true := by
  have hf := stow_found h
  obtain ⟨h1, h2, h3⟩ := stowRight_parts.1 h
  refine stowRight_parts.2 ⟨h1, fun i hi => ?_, fun c hc => ?_⟩
  · have := h2 i hi
    unfold stowAt at this ⊢
    rw [findBx_more (hf _ (getD_memD hi default)) m]
    exact this
  · have := h3 c hc
    unfold fitsF at this ⊢
    rw [height_more hf m, height_more hf m]
    exact this
theorem stowRight_nil {s : Shp} (h : rightF s = true) (boxes : List Bx) : stowRight s boxes [] = true := by
  refine stowRight_parts.2 ⟨h, fun i hi => absurd hi (by simp), fun c _ => ?_⟩
  unfold fitsF heightF
  simp only [List.map_nil, List.sum_nil, Bool.or_eq_true, Bool.and_eq_true, decide_eq_true_eq]
  omega
/-- A loaded state is right. -/
theorem load_right {s : Shp} (h : rightF s = true) (ds : List Drp) : ∀ k, stowRight s (loadTo s ds k).1 (loadTo s ds k).2 = true
  | 0 => stowRight_nil h _
  | k + 1 => by
    have ih := load_right h ds k
    show stowRight s ((loadTo s ds k).1 ++ [dropB k (ds.getD k default)]) (dropS s ((loadTo s ds k).1 ++ [dropB k (ds.getD k default)]) (loadTo s ds k).2 (ds.getD k default) (dropB k (ds.getD k default))) = true
    unfold dropS
    split
    · rename_i x hx
      have := List.find?_some hx
      simp only [Bool.and_eq_true] at this
      exact this.2
    · exact stowRight_more ih _
end Go.Proofs.YtmhikcleekfbpaaDoor
