/-
  Plain facts for the statement SlotWrong.
-/
import Derived.Test.YtggebllkkiennaaDoorSlNm
import Derived.Test.YtggebllkkiennaaDoorSlAp
namespace Go.Proofs.YtggebllkkiennaaDoor
open Go.RowKit

theorem find_none_zero {s : Shp} {nm : ByteArray} (h : (findSF s nm).2 ≠ 0) : (findSF s nm).1 = zS := by
  unfold findSF at *
  by_cases h1 : rightF s = false
  · rw [if_pos h1]
  rw [if_neg h1] at h ⊢
  by_cases h2 : nm.size ≠ 7
  · rw [if_pos h2]
  rw [if_neg h2] at h ⊢
  by_cases h3 : (List.range 7).all (digOK nm) = false
  · rw [if_pos h3]
  rw [if_neg h3] at h ⊢
  by_cases h4 : badN nm
  · rw [if_pos h4]
  rw [if_neg h4] at h ⊢
  unfold findGood at *
  simp only at h ⊢
  split
  · rfl
  · rename_i hc
    rw [if_neg hc] at h
    exact absurd rfl h
theorem find_short {s : Shp} {nm : ByteArray} (hr : rightF s = true) (h : nm.size ≠ 7) : findSF s nm = (zS, 80) := by
  unfold findSF
  rw [if_neg (by rw [hr]; simp), if_pos h]
theorem find_nodigit {s : Shp} {nm : ByteArray} (hr : rightF s = true) (h7 : nm.size = 7) {i : Nat} (hi : i < 7) (hd : digOK nm i = false) : findSF s nm = (zS, 80) := by
  unfold findSF
  rw [if_neg (by rw [hr]; simp), if_neg (by omega), if_pos]
  rw [List.all_eq_false]
  exact ⟨i, by simpa using hi, by simp [hd]⟩
theorem find_bad {s : Shp} {nm : ByteArray} (hr : rightF s = true) (hb : badN nm) : findSF s nm = (zS, 80) := by
  unfold findSF
  rw [if_neg (by rw [hr]; simp)]
  by_cases h2 : nm.size ≠ 7
  · rw [if_pos h2]
  rw [if_neg h2]
  by_cases h3 : (List.range 7).all (digOK nm) = false
  · rw [if_pos h3]
  rw [if_neg h3, if_pos hb]
theorem find_wrongShip {s : Shp} {nm : ByteArray} (hr : rightF s = false) : findSF s nm = (zS, 2) := by unfold findSF; rw [if_pos hr]
theorem name_wrongShip {s : Shp} {x : Slt} (hr : rightF s = false) : nameF s x = ([], 2) := by unfold nameF; rw [if_pos hr]
theorem name_none {s : Shp} {x : Slt} (hr : rightF s = true) (h1 : slotRight s x 20 = false) (h2 : slotRight s x 40 = false) : nameF s x = ([], 6) := by
  unfold nameF; rw [if_neg (by rw [hr]; simp), if_pos ⟨h1, h2⟩]
theorem name_ok {s : Shp} {x : Slt} {size : Nat} (hr : rightF s = true) (hx : slotRight s x size = true) (h24 : size = 20 ∨ size = 40) : nameF s x = (nameL s x, 0) := by
  unfold nameF
  rw [if_neg (by rw [hr]; simp), if_neg (by rintro ⟨e1, e2⟩; rcases h24 with rfl | rfl <;> simp [hx] at e1 e2)]
theorem name_len (s : Shp) (x : Slt) : (nameL s x).length = 7 := by simp [nameL, num3, num2]
theorem name_small {s : Shp} {x : Slt} : ∀ y ∈ nameL s x, y < 256 := by
  intro y hy
  unfold nameL at hy
  simp only [num3, num2, dg, List.mem_append, List.mem_cons, List.not_mem_nil, or_false] at hy
  omega
def zero7 : ByteArray := ⟨#[48, 48, 48, 48, 48, 48, 50]⟩
theorem bad1 : badN ⟨#[48, 48, 48, 48, 48, 48, 50]⟩ := by decide +kernel
theorem bad2 : badN ⟨#[48, 48, 49, 48, 48, 50, 50]⟩ := by decide +kernel
theorem bad3 : badN ⟨#[48, 48, 49, 48, 48, 56, 48]⟩ := by decide +kernel
theorem right_colOut {s : Shp} {x : Slt} {size : Nat} (h : x.col < 0 ∨ (s.cols.length : Int) ≤ x.col) : slotRight s x size = false := by
  unfold slotRight
  rcases h with h | h
  · rw [decide_eq_false (by omega)]; rfl
  · rw [decide_eq_false (p := x.col < _) (by omega)]; simp
theorem right_tierOut {s : Shp} {x : Slt} {size : Nat} (h : (s.cols.getD x.col.toNat default).tiers ≤ x.tier) : slotRight s x size = false := by
  unfold slotRight
  rw [decide_eq_false (p := x.tier < _) (by omega)]; simp
theorem right_halfOut {s : Shp} {x : Slt} {size : Nat} (h : 3 ≤ x.half) : slotRight s x size = false := by
  unfold slotRight
  have : (halvesL size).any (fun y => x.half == y) = false := by
    rw [List.any_eq_false]
    intro y hy
    have : y < 3 := by
      unfold halvesL at hy
      split at hy
      · simp at hy; omega
      · split at hy
        · simp at hy; omega
        · simp at hy
    simp; omega
  rw [this]; simp
/-- A ship with its first column twice. -/
def twice (s : Shp) : Shp := { s with cols := s.cols ++ [s.cols.getD 0 default] }
theorem twice_wrong {s : Shp} (h : 1 ≤ s.cols.length) : rightF (twice s) = false := by
  cases hr : rightF (twice s) with
  | false => rfl
  | true =>
    exfalso
    have hn := right_nodup hr
    have e := nodup_at hn (d := default) (i := 0) (j := s.cols.length) (by simp [twice]) (by simp [twice]) (by
      have h0 : 0 < s.cols.length := h
      simp [twice, List.getElem?_append, h0])
    omega
theorem twice_few {s : Shp} (h : s.cols.length ≤ 12) (hf : Few s) : Few (twice s) := by
  refine ⟨by simp [twice]; omega, hf.covs, hf.rows, fun x hx => ?_⟩
  simp only [twice, List.mem_append, List.mem_cons, List.not_mem_nil, or_false] at hx
  rcases hx with hx | rfl
  · exact hf.plugs x hx
  · by_cases h0 : 0 < s.cols.length
    · exact hf.plugs _ (getD_memD h0 default)
    · rw [List.getD_eq_getElem?_getD, List.getElem?_eq_none (by omega)]
      show ([] : List Int).length ≤ _
      simp
theorem twice_ints {s : Shp} (h : 0 < s.cols.length) (hi : Ints s) : Ints (twice s) := by
  refine ⟨fun x hx => ?_⟩
  simp only [twice, List.mem_append, List.mem_cons, List.not_mem_nil, or_false] at hx
  rcases hx with hx | rfl
  · exact hi.cols x hx
  · exact hi.cols _ (getD_memD h default)
end Go.Proofs.YtggebllkkiennaaDoor
