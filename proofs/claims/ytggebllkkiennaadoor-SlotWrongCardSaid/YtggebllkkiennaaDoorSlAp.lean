/-
  Plain facts on the slots of a ship: their number, their order, and which they are.
-/
import Derived.Test.YtggebllkkiennaaDoorSlI
import Derived.Test.YtggebllkkiennaaDoorSlP
import Derived.Test.YtggebllkkiennaaDoorShQ
namespace Go.Proofs.YtggebllkkiennaaDoor
open Go.RowKit

theorem mem_tier {c t size : Nat} {y : Slt} : y ∈ tierSlots c t size ↔ y.col = (c : Int) ∧ y.tier = (t : Int) ∧ y.half ∈ halvesL size := by
  unfold tierSlots
  rw [List.mem_map]
  constructor
  · rintro ⟨h, hh, rfl⟩; exact ⟨rfl, rfl, hh⟩
  · obtain ⟨a, b, h⟩ := y
    rintro ⟨rfl, rfl, hh⟩
    exact ⟨h, hh, rfl⟩
theorem mem_all {s : Shp} {size : Nat} {y : Slt} : y ∈ allF s size ↔ ∃ c t : Nat, c < s.cols.length ∧ t < tiersN s c ∧ y.col = (c : Int) ∧ y.tier = (t : Int) ∧ y.half ∈ halvesL size := by
  unfold allF colsTo colSlots
  simp only [List.mem_flatMap, List.mem_range, mem_tier]
  constructor
  · rintro ⟨c, hc, t, ht, h1, h2, h3⟩; exact ⟨c, t, hc, ht, h1, h2, h3⟩
  · rintro ⟨c, t, hc, ht, h1, h2, h3⟩; exact ⟨c, hc, t, ht, h1, h2, h3⟩
theorem right_mem {s : Shp} {size : Nat} {y : Slt} : slotRight s y size = true ↔ y ∈ allF s size := by
  rw [mem_all]
  unfold slotRight tiersN
  simp only [Bool.and_eq_true, decide_eq_true_eq, List.any_eq_true, beq_iff_eq]
  obtain ⟨yc, yt, yh⟩ := y
  simp only
  constructor
  · rintro ⟨h1, h2, h3, h4, z, hz, hz2⟩
    refine ⟨yc.toNat, yt.toNat, by omega, by omega, by omega, by omega, ?_⟩
    have : yh = z := by omega
    rw [this]; exact hz
  · rintro ⟨c, t, hc, ht, rfl, rfl, hh⟩
    rw [Int.toNat_natCast]
    exact ⟨by omega, by omega, by omega, by omega, yh, hh, by omega⟩
theorem any_right (s : Shp) (size : Nat) (x : Slt) : ((allF s size).any fun y => sltEq y x) = slotRight s x size := by
  rw [Bool.eq_iff_iff, right_mem, List.any_eq_true]
  constructor
  · rintro ⟨y, hy, he⟩; rw [← (sltEq_iff _ _).1 he]; exact hy
  · intro h; exact ⟨x, h, (sltEq_iff _ _).2 rfl⟩
theorem halves_sorted (size : Nat) : (halvesL size).Pairwise (· < ·) := by
  unfold halvesL
  split
  · simp
  · split <;> simp
theorem all_sorted (s : Shp) (size : Nat) : (allF s size).Pairwise fun a b => cmpF a b = -1 := by
  unfold allF colsTo
  rw [List.pairwise_flatMap]
  refine ⟨fun c _ => ?_, ?_⟩
  · unfold colSlots
    rw [List.pairwise_flatMap]
    refine ⟨fun t _ => ?_, ?_⟩
    · unfold tierSlots
      rw [List.pairwise_map]
      refine (halves_sorted size).imp ?_
      intro a b h
      rw [cmpF_lt]
      exact .inr ⟨rfl, .inr ⟨rfl, h⟩⟩
    · refine List.pairwise_lt_range.imp ?_
      intro t u h a ha b hb
      have ha := mem_tier.1 ha
      have hb := mem_tier.1 hb
      rw [cmpF_lt]
      omega
  · refine List.pairwise_lt_range.imp ?_
    intro c d h a ha b hb
    unfold colSlots at ha hb
    obtain ⟨t, _, ha⟩ := List.mem_flatMap.1 ha
    obtain ⟨u, _, hb⟩ := List.mem_flatMap.1 hb
    have ha := mem_tier.1 ha
    have hb := mem_tier.1 hb
    rw [cmpF_lt]
    omega
theorem sorted_at {s : Shp} {size i : Nat} (h0 : 0 < i) (hi : i < (allF s size).length) : cmpF ((allF s size).getD (i - 1) default) ((allF s size).getD i default) = -1 := by
  have h := List.pairwise_iff_getElem.1 (all_sorted s size) (i - 1) i (by omega) hi (by omega)
  have e1 : (allF s size).getD (i - 1) default = (allF s size)[i - 1] := by simp [show i - 1 < (allF s size).length by omega]
  have e2 : (allF s size).getD i default = (allF s size)[i] := by simp [hi]
  rw [e1, e2]; exact h
/-- The tiers of the first columns, summed. -/
def tiersTo (l : List Col) : Nat → Int
  | 0 => 0
  | k + 1 => tiersTo l k + (l.getD k default).tiers
theorem colSlots_len (c size T : Nat) : (colSlots c size T).length = T * (halvesL size).length := by
  induction T with
  | zero => simp [colSlots]
  | succ T ih =>
    rw [colSlots_succ, List.length_append, ih]
    simp [tierSlots, Nat.add_mul]
theorem colsTo_len (s : Shp) (size : Nat) (hp : ∀ c, c < s.cols.length → 0 ≤ (s.cols.getD c default).tiers) : ∀ n, n ≤ s.cols.length → ((colsTo s size n).length : Int) = (halvesL size).length * tiersTo s.cols n
  | 0, _ => by simp [colsTo, tiersTo]
  | n + 1, h => by
    rw [colsTo_succ, List.length_append, colSlots_len]
    have ih := colsTo_len s size hp n (by omega)
    have := hp n (by omega)
    unfold tiersTo
    rw [Int.mul_add, ← ih]
    have e : ((tiersN s n : Nat) : Int) = (s.cols.getD n default).tiers := by unfold tiersN; omega
    rw [← e]
    push_cast
    rw [Int.mul_comm ((tiersN s n : Nat) : Int)]
theorem all_len {s : Shp} (hp : ∀ c, c < s.cols.length → 0 ≤ (s.cols.getD c default).tiers) (size : Nat) : ((allF s size).length : Int) = (halvesL size).length * tiersTo s.cols s.cols.length := colsTo_len s size hp _ (Nat.le_refl _)
end Go.Proofs.YtggebllkkiennaaDoor
