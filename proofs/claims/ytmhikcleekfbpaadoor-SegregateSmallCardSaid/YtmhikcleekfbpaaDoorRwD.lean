/-
  Plain: Clashes of chapter 14, row by row.
-/
import Derived.Test.YtmhikcleekfbpaaDoorRwB
import Derived.Test.YtmhikcleekfbpaaDoorSgF
import Derived.Test.YtmhikcleekfbpaaDoorSgQ
import Derived.Test.YtmhikcleekfbpaaDoorSgI
namespace Go.Proofs.YtmhikcleekfbpaaDoor
open Go.RowKit

/-- A pair's clash, as the reference reckons it. -/
def clR (s : Shp) (p : Gd × Gd) : Option Cl := if nearR s p.1.st.slot p.2.st.slot (Dg.tab p.1.cls p.2.cls) then some ⟨p.1.st.box, p.2.st.box, Dg.tab p.1.cls p.2.cls⟩ else none
theorem clR_eq {s : Shp} (hc : Cs s) : clB s = clR s := funext fun p => by
  unfold clB clR codeG
  rw [near_eq hc]
theorem clash_allR {s : Shp} (hc : Cs s) (bs : List Bx) (st : List Stw) : clashF s bs st = (pairsG (gdsF bs st)).filterMap (clR s) := by
  unfold clashF goodsF
  rw [clR_eq hc]
  refine (pairsG_filter dngB (clR s) (fun a b hab => ?_) _).symm
  have h0 : Dg.tab a.cls b.cls = 0 := by
    unfold dngB at hab
    simp only [decide_eq_false_iff_not] at hab
    by_cases hx : a.cls < 10 ∧ b.cls < 10
    · rcases Dg.tab_zero _ _ hx.1 hx.2 with h | h
      · exact h
      · omega
    · exact tab_out hx
  unfold clR
  rw [h0, nearR_zero]
  rfl
def freeR (s : Shp) (boxes : List Bx) (l : List Stw) (id : Int) : List Slt := (allF s (findBx boxes id).1.size).filter fun x => decide ((againstR s boxes l ⟨id, x⟩).length = 0)
theorem free_allR {s : Shp} (hc : Cs s) {boxes : List Bx} {l : List Stw} {id : Int} (h : ∀ y ∈ l, clsF boxes y.box < 10) (hx : clsF boxes id < 10) : freeS s boxes l id = freeR s boxes l id := by
  unfold freeS freeR
  refine List.filter_congr fun x _ => ?_
  rw [against_all hc (x := ⟨id, x⟩) h hx]
theorem cls_ten {s : Shp} {boxes : List Bx} {l : List Stw} (h0 : dErr s boxes l = 0) : ∀ y ∈ l, clsF boxes y.box < 10 := fun y hy => by
  have h1 := h0
  unfold dErr at h1
  rw [if_pos (dErr_ok h0).1] at h1
  by_cases h2 : l.any (overB9 boxes) = true
  · rw [if_pos h2] at h1; omega
  · rw [List.any_eq_true] at h2
    have h3 : ¬ overB9 boxes y = true := fun h4 => h2 ⟨y, hy, h4⟩
    unfold overB9 at h3
    rw [decide_eq_true_eq] at h3
    omega
def clUp (s : Shp) (boxes : List Bx) (l : List Stw) (i : Nat) : List Cl := (pairsTo default (gdsF boxes l) i).filterMap (clR s)
def clTo (s : Shp) (boxes : List Bx) (l : List Stw) (i k : Nat) : List Cl := (pairsTo default (gdsF boxes l) i ++ (rowG default (gdsF boxes l) i).take (k - (i + 1))).filterMap (clR s)
theorem gds_len (boxes : List Bx) (l : List Stw) : (gdsF boxes l).length = l.length := by unfold gdsF; simp
theorem gds_getD (boxes : List Bx) {l : List Stw} {k : Nat} (h : k < l.length) : (gdsF boxes l).getD k default = ⟨l.getD k default, clsF boxes (l.getD k default).box⟩ := by
  unfold gdsF
  simp [h]
theorem clUp_zero (s : Shp) (boxes : List Bx) (l : List Stw) : clUp s boxes l 0 = [] := rfl
theorem clUp_all (s : Shp) (boxes : List Bx) (l : List Stw) : clUp s boxes l l.length = (pairsG (gdsF boxes l)).filterMap (clR s) := by
  unfold clUp
  rw [← pairsTo_all (default : Gd) (gdsF boxes l), gds_len]
theorem clTo_start (s : Shp) (boxes : List Bx) (l : List Stw) (i : Nat) : clTo s boxes l i (i + 1) = clUp s boxes l i := by
  unfold clTo clUp
  simp
theorem rowG_size (boxes : List Bx) (l : List Stw) (i : Nat) : (rowG default (gdsF boxes l) i).length = l.length - (i + 1) := by
  unfold rowG
  simp [gds_len]
theorem clTo_end (s : Shp) (boxes : List Bx) (l : List Stw) (i : Nat) : clTo s boxes l i l.length = clUp s boxes l (i + 1) := by
  unfold clTo clUp
  rw [pairsTo_succ, List.take_of_length_le (by rw [rowG_size]; exact Nat.le_refl _)]
theorem clTo_succ (s : Shp) (boxes : List Bx) {l : List Stw} {i k : Nat} (hi : i < k) (hk : k < l.length) : clTo s boxes l i (k + 1) = clTo s boxes l i k ++ if nearR s (l.getD i default).slot (l.getD k default).slot (Dg.tab (clsF boxes (l.getD i default).box) (clsF boxes (l.getD k default).box)) then [⟨(l.getD i default).box, (l.getD k default).box, Dg.tab (clsF boxes (l.getD i default).box) (clsF boxes (l.getD k default).box)⟩] else [] := by
  unfold clTo
  have e : (rowG default (gdsF boxes l) i).take (k + 1 - (i + 1)) = (rowG default (gdsF boxes l) i).take (k - (i + 1)) ++ [((gdsF boxes l).getD i default, (gdsF boxes l).getD k default)] := by
    have h1 : k + 1 - (i + 1) = (k - (i + 1)) + 1 := by omega
    have h2 : k - (i + 1) < (rowG default (gdsF boxes l) i).length := by rw [rowG_size]; omega
    rw [h1, List.take_add_one, List.getElem?_eq_getElem h2]
    congr 1
    simp only [Option.toList_some, List.cons.injEq, and_true]
    unfold rowG
    have h3 : i + 1 + (k - (i + 1)) = k := by omega
    have h4 : k < (gdsF boxes l).length := by rw [gds_len]; exact hk
    simp [h3, h4]
  rw [e, ← List.append_assoc, List.filterMap_append, gds_getD boxes (by omega : i < l.length), gds_getD boxes hk]
  congr 1
  unfold clR
  simp only [List.filterMap_cons, List.filterMap_nil]
  split <;> rename_i h
  · split at h
    · cases h
    · rename_i h2; rw [if_neg h2]
  · split at h
    · rename_i h2; rw [if_pos h2]; cases h; rfl
    · cases h
theorem clTo_len (s : Shp) (boxes : List Bx) {l : List Stw} (hl : l.length ≤ 200) (i k : Nat) (hi : i < l.length) : (clTo s boxes l i k).length ≤ 40000 := by
  unfold clTo
  refine Nat.le_trans (List.length_filterMap_le _ _) ?_
  rw [List.length_append]
  have h1 := pairsTo_len (default : Gd) (gdsF boxes l) i
  rw [gds_len] at h1
  have h2 : ((rowG default (gdsF boxes l) i).take (k - (i + 1))).length ≤ l.length := by
    refine Nat.le_trans (List.length_take_le' _ _) ?_
    rw [rowG_size]; omega
  have h3 : (i + 1) * l.length ≤ 200 * 200 := Nat.mul_le_mul (by omega) hl
  rw [Nat.succ_mul] at h3
  omega
theorem clUp_len (s : Shp) (boxes : List Bx) {l : List Stw} (hl : l.length ≤ 200) (i : Nat) (hi : i ≤ l.length) : (clUp s boxes l i).length ≤ 40000 := by
  cases i with
  | zero => rw [clUp_zero]; decide
  | succ i => rw [← clTo_end]; exact clTo_len s boxes hl i _ (by omega)
end Go.Proofs.YtmhikcleekfbpaaDoor
