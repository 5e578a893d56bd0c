/-
  Plain facts for SlotBack: the names of all slots of a right ship.
-/
import Derived.Test.YtdhhiaheonlldaaDoorSlNm5
import Derived.Test.YtdhhiaheonlldaaDoorSbP
namespace Go.Proofs.YtdhhiaheonlldaaDoor
open Go.RowKit

def everyF (s : Shp) : List Slt := allF s 20 ++ allF s 40
theorem all_nodup (s : Shp) (size : Nat) : (allF s size).Nodup := by
  unfold List.Nodup
  refine (all_sorted s size).imp fun {a b} h he => ?_
  rw [he] at h
  unfold cmpF at h
  simp [orF, cmpZ] at h
theorem every_half {s : Shp} {x : Slt} (h1 : x ∈ allF s 20) (h2 : x ∈ allF s 40) : False := by
  rw [mem_all] at h1 h2
  obtain ⟨_, _, _, _, _, _, h1⟩ := h1
  obtain ⟨_, _, _, _, _, _, h2⟩ := h2
  simp [halvesL] at h1 h2
  omega
theorem every_nodup (s : Shp) : (everyF s).Nodup := by
  unfold everyF
  rw [List.nodup_append]
  exact ⟨all_nodup s 20, all_nodup s 40, fun a ha b hb e => every_half ha (e ▸ hb)⟩
theorem every_right {s : Shp} {x : Slt} (h : x ∈ everyF s) : slotRight s x 20 = true ∨ slotRight s x 40 = true := by
  rcases List.mem_append.1 h with h | h
  · exact .inl (right_mem.2 h)
  · exact .inr (right_mem.2 h)
theorem name_size (s : Shp) (x : Slt) : (strN (nameL s x)).size = 7 := by
  unfold strN strOfNums nameL
  simp [num3, num2, ByteArray.size]
theorem every_name {s : Shp} (hr : rightF s = true) {x : Slt} (h : x ∈ everyF s) : nameF s x = (nameL s x, 0) ∧ findSF s (strN (nameL s x)) = (x, 0) := by
  rcases every_right h with h | h
  · refine ⟨?_, find_of_name hr h⟩
    unfold nameF
    rw [if_neg (by rw [hr]; decide), if_neg (by rw [h]; simp)]
  · refine ⟨?_, find_of_name hr h⟩
    unfold nameF
    rw [if_neg (by rw [hr]; decide), if_neg (by rw [h]; simp)]
theorem every_apart {s : Shp} (hr : rightF s = true) {i j : Nat} (hi : i < (everyF s).length) (hj : j < i) : strN (nameL s ((everyF s).getD j default)) ≠ strN (nameL s ((everyF s).getD i default)) := by
  intro e
  have h1 := (every_name hr (getD_memD (show j < (everyF s).length by omega) default)).2
  have h2 := (every_name hr (getD_memD hi default)).2
  rw [e, h2] at h1
  have h3 := congrArg Prod.fst h1
  have h4 := every_nodup s
  have h5 : i = j := by
    have : (everyF s)[i] = (everyF s)[j] := by simpa [hi, show j < (everyF s).length by omega] using h3
    exact (List.getElem_inj h4).1 this
  omega
theorem every_some {s : Shp} (h : Bu s) : 0 < (everyF s).length := by
  have hm : (⟨0, 0, 0⟩ : Slt) ∈ everyF s := by
    unfold everyF
    refine List.mem_append.2 (.inr (mem_all.2 ⟨0, 0, h.one, ?_, rfl, rfl, by decide⟩))
    have := (h.col h.one).tiers
    unfold tiersN
    omega
  exact List.length_pos_of_mem hm
end Go.Proofs.YtdhhiaheonlldaaDoor
