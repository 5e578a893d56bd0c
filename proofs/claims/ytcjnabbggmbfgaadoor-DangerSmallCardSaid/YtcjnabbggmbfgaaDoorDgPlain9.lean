/-
  Plain mathematics of the reference's division: patterns and their groups.
-/
import Derived.Test.YtcjnabbggmbfgaaDoorDgPlain8
namespace Go.Proofs.YtcjnabbggmbfgaaDoor
namespace Dg
def gTo (cls pat : List Nat) (many : Nat) : Nat → List (List Nat)
  | 0 => List.replicate many []
  | i + 1 => (gTo cls pat many i).set (pat.getD i 0) ((gTo cls pat many i).getD (pat.getD i 0) [] ++ [cls.getD i 0])
theorem gTo_len (cls pat : List Nat) (many : Nat) : ∀ i, (gTo cls pat many i).length = many
  | 0 => by simp [gTo]
  | i + 1 => by simp [gTo, gTo_len cls pat many i]
theorem gTo_row (cls pat : List Nat) (many : Nat) : ∀ i h, ((gTo cls pat many i).getD h []).length ≤ i
  | 0, h => by
    unfold gTo
    rw [List.getD_eq_getElem?_getD, List.getElem?_replicate]
    split <;> simp
  | i + 1, h => by
    have ih := gTo_row cls pat many i
    unfold gTo
    by_cases e : h = pat.getD i 0
    · by_cases hl : h < (gTo cls pat many i).length
      · subst e
        rw [List.getD_eq_getElem?_getD, List.getElem?_set_self hl]
        simp only [Option.getD_some, List.length_append, List.length_singleton]
        have := ih (pat.getD i 0)
        omega
      · rw [List.getD_eq_getElem?_getD, List.getElem?_eq_none (by simp; omega)]; simp
    · rw [List.getD_eq_getElem?_getD, List.getElem?_set_ne (Ne.symm e), ← List.getD_eq_getElem?_getD]
      have := ih h
      omega
def clashAt (cls pat : List Nat) (i k : Nat) : Bool := (pat.getD k 0 == pat.getD i 0) && decide (0 < tab (cls.getD k 0) (cls.getD i 0))
def okRow (cls pat : List Nat) (i k : Nat) : Bool := (List.range k).all fun k => !clashAt cls pat i k
def okTo (cls pat : List Nat) (i : Nat) : Bool := (List.range i).all fun i => okRow cls pat i i
theorem okRow_succ (cls pat : List Nat) (i k : Nat) : okRow cls pat i (k + 1) = (okRow cls pat i k && !clashAt cls pat i k) := by simp [okRow, List.range_succ]
theorem okTo_succ (cls pat : List Nat) (i : Nat) : okTo cls pat (i + 1) = (okTo cls pat i && okRow cls pat i i) := by simp [okTo, List.range_succ]
theorem okRow_not {cls pat : List Nat} {i k n : Nat} (hk : k < n) (h : clashAt cls pat i k = true) : okRow cls pat i n = false := by
  unfold okRow; rw [List.all_eq_false]; exact ⟨k, List.mem_range.2 hk, by simp [h]⟩
theorem okTo_not {cls pat : List Nat} {i n : Nat} (hi : i < n) (h : okRow cls pat i i = false) : okTo cls pat n = false := by
  unfold okTo; rw [List.all_eq_false]; exact ⟨i, List.mem_range.2 hi, by simp [h]⟩
/-- What 'groups' returns. -/
def groupsF (cls pat : List Nat) (many : Nat) : Option (List (List Nat)) := if okTo cls pat cls.length then some (gTo cls pat many cls.length) else none
end Dg
end Go.Proofs.YtcjnabbggmbfgaaDoor
