/-
  '[]byte(s)' of a string that is known, one byte of it written, and what Find answers for the text.
-/
import Derived.Test.YtggebllkkiennaaDoorSlW
import Derived.Laws.IdiomStrings
import Derived.Lib.OthersKept
import Derived.WalkSmall
namespace Go.Proofs.YtggebllkkiennaaDoor
open Go.RowKit

theorem Bk0.other {w : World} {a b : Addr} {v : Value} (h : a ≠ b) : (w.setCell a v).cell? b = w.cell? b := World.cell?_setCell_other (h := h) ..
theorem strN_at (T : List Nat) (hT : ∀ y ∈ T, y < 256) {j : Nat} (hj : j < T.length) : ∃ h : j < (strN T).data.size, ((strN T).data[j]'h).toNat = T.getD j 0 := by
  have h : j < (strN T).data.size := by show j < (strN T).size; rw [strN_size]; exact hj
  refine ⟨h, ?_⟩
  have := byteAt_strN hT hj
  unfold byteAt at this
  simp only [Array.getD, dif_pos h] at this
  exact this
theorem bytes_made (T : List Nat) (hT : ∀ y ∈ T, y < 256) (V : World) :
    ∃ cap V', (convert 9 67 (.string (strN T))).run Tryd.prog V = .ok (.slice (some ⟨V.heap.size, 0, none⟩) T.length cap) V' ∧ T.length ≤ cap ∧ Below V.heap.size V V' ∧ V.heap.size < V'.heap.size ∧
      (∀ j, j < T.length → V'.cell? ⟨V.heap.size, j, none⟩ = some (.int .u8 (T.getD j 0 : Nat))) ∧ ∀ j, j < T.length → V'.frozen? ⟨V.heap.size, j, none⟩ = false := by
  have hz := strN_size T
  have hcap := grownCap_ge V (strN T).size 0 5
  refine ⟨grownCap V (strN T).size 0 5, V.drew.alloc (.cells (bytesRow (strN T) (grownCap V (strN T).size 0 5)) 5 ((bytesRow (strN T) (grownCap V (strN T).size 0 5)).size, (bytesRow (strN T) (grownCap V (strN T).size 0 5)).size + 1)), ?_, by omega, ?_, by simp, ?_, ?_⟩
  · have := run_bytes_of_string (P := Tryd.prog) V 9 67 5 (strN T) Tryd.underlying9 Tryd.underlying67 Tryd.underlying5
    rw [this, hz]
  · exact (Below.refl _ _).drew.alloc (Nat.le_refl _) _
  · intro j hj
    obtain ⟨h, e⟩ := strN_at T hT hj
    have := bytesRow_at (strN T) (grownCap V (strN T).size 0 5) j h
    rw [e] at this
    generalize bytesRow (strN T) _ = row at *
    have hb : (V.drew.alloc (.cells row 5 (row.size, row.size + 1))).heap[V.heap.size]? = some (.cells row 5 (row.size, row.size + 1)) := heap_alloc_new V.drew _
    unfold World.cell?
    rw [hb]
    exact this
  · intro j hj
    rw [show V.heap.size = V.drew.heap.size from rfl, World.frozen?_alloc_mark]
    have : j < (bytesRow (strN T) (grownCap V (strN T).size 0 5)).size := by
      obtain ⟨h, e⟩ := strN_at T hT hj
      have := bytesRow_at (strN T) (grownCap V (strN T).size 0 5) j h
      exact (Array.getElem?_eq_some_iff.1 this).1
    simp
    omega
theorem str_of_cells (L : List Nat) (g cap : Nat) (V : World) (hg : g < V.heap.size) (hb : ∀ j, j < L.length → V.cell? ⟨g, j, none⟩ = some (.int .u8 (L.getD j 0 : Nat))) :
    (convert 67 9 (.slice (some ⟨g, 0, none⟩) L.length cap)).run Tryd.prog V = .ok (.string (strN L)) V := by
  have h : Sl V V.heap.size 1 (some ⟨g, 0, none⟩) L.length (u8s L) := ⟨by rw [u8s_len]; simp, fun _ => ⟨g, 0, rfl, hg, fun j u hu => by
    rw [Nat.zero_add]
    have hj : j < L.length := by
      have := (List.getElem?_eq_some_iff.1 hu).1
      rwa [u8s_len] at this
    have hu' : u = .int .u8 (L.getD j 0 : Nat) := by
      unfold u8s at hu
      rw [List.getElem?_map] at hu
      rw [List.getD_eq_getElem?_getD]
      cases h3 : L[j]? with
      | none => rw [h3] at hu; cases hu
      | some z => rw [h3] at hu; simp at hu; rw [← hu]; rfl
    rw [hu', hb _ hj]⟩⟩
  exact conv_u8 Tryd.underlying67 Tryd.underlying5 Tryd.underlying9 h
/-- The cells of the text, one of them written. -/
theorem set_cells {T : List Nat} {cb i g : Nat} {V : World} (hi : i < T.length) (hb : ∀ j, j < T.length → V.cell? ⟨g, j, none⟩ = some (.int .u8 (T.getD j 0 : Nat))) :
    ∀ j, j < (T.set i cb).length → (V.setCell ⟨g, i, none⟩ (.int .u8 (cb : Nat))).cell? ⟨g, j, none⟩ = some (.int .u8 ((T.set i cb).getD j 0 : Nat)) := fun j hj => by
  have hj : j < T.length := by simpa using hj
  by_cases hij : i = j
  · subst hij
    rw [World.cell?_setCell_same' _ _ _ (by rw [hb _ hi]; rfl)]
    simp [List.getD_eq_getElem?_getD, hi]
  · rw [Bk0.other (by intro e; cases e; exact hij rfl), hb _ hj]
    simp [List.getD_eq_getElem?_getD, hij]
/-- The text with one byte written, read back in every later world. -/
theorem str_of_set {T : List Nat} (h7 : T.length = 7) {cb i g cap : Nat} {V : World} (hi : i < 7) (hb : ∀ j, j < T.length → V.cell? ⟨g, j, none⟩ = some (.int .u8 (T.getD j 0 : Nat))) (hg : g < V.heap.size) :
    ∀ V' : World, Below (V.setCell ⟨g, i, none⟩ (.int .u8 (cb : Nat))).heap.size (V.setCell ⟨g, i, none⟩ (.int .u8 (cb : Nat))) V' → (convert 67 9 (.slice (some ⟨g, 0, none⟩) 7 cap)).run Tryd.prog V' = .ok (.string (strN (T.set i cb))) V' := fun V' hV => by
  have hs : (V.setCell ⟨g, i, none⟩ (.int .u8 (cb : Nat))).heap.size = V.heap.size := by simp [World.setCell]
  have := str_of_cells (T.set i cb) g cap V' (Nat.lt_of_lt_of_le (by rw [hs]; exact hg) hV.size) (fun j hj => (hV.cell (p := ⟨g, j, none⟩) (by rw [hs]; exact hg)).trans (set_cells (by rw [h7]; exact hi) hb j hj))
  rwa [List.length_set, h7] at this
/-- What Find answers for a text, and Name for its answer. -/
theorem find_text {s : Shp} (hr : rightF s = true) {T : List Nat} (h7 : T.length = 7) (hT : ∀ y ∈ T, y < 256) {cb i : Nat} (hcb : cb < 256) (hi : i < 7) :
    (¬ (48 ≤ cb ∧ cb ≤ 57) → (findSF s (strN (T.set i cb))).2 = 80) ∧ ((findSF s (strN (T.set i cb))).2 ≠ 0 → (findSF s (strN (T.set i cb))).1 = zS) ∧
    ((findSF s (strN (T.set i cb))).2 = 0 → strN (nameF s (findSF s (strN (T.set i cb))).1).1 = strN (T.set i cb) ∧ (nameF s (findSF s (strN (T.set i cb))).1).2 = 0) := by
  refine ⟨fun hd => ?_, find_none_zero, fun h => ?_⟩
  · have : findSF s (strN (T.set i cb)) = (zS, 80) := by
      refine find_nodigit hr (by rw [strN_size]; simpa using h7) hi ?_
      unfold digOK
      rw [byteAt_strN (l := T.set i cb) (fun y hy => by
        rcases List.mem_or_eq_of_mem_set hy with h | rfl
        · exact hT y h
        · exact hcb) (by simpa using (by omega : i < T.length))]
      have : (T.set i cb).getD i 0 = cb := by simp [List.getD_eq_getElem?_getD, (by omega : i < T.length)]
      rw [this]
      simp
      omega
    rw [this]
  · have := name_of_find (s := s) (nm := strN (T.set i cb)) (y := (findSF s (strN (T.set i cb))).1) (by rw [← h])
    rw [this.1]
    exact ⟨this.2, rfl⟩
theorem run_neq_zero (W : World) : (binOp .neq 34 (.agg #[.int .i64 0, .int .i64 0, .int .u8 0]) (.agg #[.int .i64 0, .int .i64 0, .int .u8 0])).run Tryd.prog W = .ok (.bool false) W := by simp [go_sem]
theorem name_dig {s : Shp} {x : Slt} : ∀ y ∈ nameL s x, 48 ≤ y ∧ y ≤ 57 := by
  intro y hy
  unfold nameL at hy
  simp only [num3, num2, dg, List.mem_append, List.mem_cons, List.not_mem_nil, or_false] at hy
  omega
theorem strN_ascii {T : List Nat} (hd : ∀ y ∈ T, 48 ≤ y ∧ y ≤ 57) {pos : Nat} (h : pos < (strN T).size) : ((strN T)[pos]'h).toNat < 128 := by
  have hT : ∀ y ∈ T, y < 256 := fun y hy => by have := hd y hy; omega
  have hp : pos < T.length := by rw [strN_size] at h; exact h
  obtain ⟨h1, h2⟩ := strN_at T hT hp
  have := hd _ (getD_memD hp 0)
  show ((strN T).data[pos]'h1).toNat < 128
  omega
theorem set_small {T : List Nat} {cb i : Nat} (hT : ∀ y ∈ T, y < 256) (hcb : cb < 256) : ∀ y ∈ T.set i cb, y < 256 := fun y hy => by
  rcases List.mem_or_eq_of_mem_set hy with h | rfl
  · exact hT y h
  · exact hcb
/-- A byte that is no digit: no name. -/
theorem find_changed {s : Shp} (hr : rightF s = true) {T : List Nat} (h7 : T.length = 7) (hT : ∀ y ∈ T, y < 256) {cb i : Nat} (hcb : cb < 256) (hi : i < 7) (hd : ¬ (48 ≤ cb ∧ cb ≤ 57)) : findSF s (strN (T.set i cb)) = (zS, 80) := by
  refine find_nodigit hr (by rw [strN_size]; simpa using h7) hi ?_
  unfold digOK
  rw [byteAt_strN (set_small hT hcb) (by simpa using (by omega : i < T.length))]
  have : (T.set i cb).getD i 0 = cb := by simp [List.getD_eq_getElem?_getD, (by omega : i < T.length)]
  rw [this]
  simp
  omega
end Go.Proofs.YtggebllkkiennaaDoor
