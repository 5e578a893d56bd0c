/-
  The plain mathematics of chapter 13, part 2: the division.
-/
import Derived.Test.YtcjnabbggmbfgaaDoorDgPlain
namespace Go.Proofs.YtcjnabbggmbfgaaDoor
namespace Dg
/-- The classes from 1 to k that occur. -/
def clsTo (p : List Nat) : Nat → List Nat
  | 0 => []
  | k + 1 => if 0 < p.count (k + 1) then clsTo p k ++ [k + 1] else clsTo p k
theorem clsTo_len (p : List Nat) : ∀ k, (clsTo p k).length ≤ k
  | 0 => by simp [clsTo]
  | k + 1 => by have := clsTo_len p k; unfold clsTo; split <;> simp <;> omega
theorem clsTo_lt (p : List Nat) : ∀ k, k ≤ 9 → ∀ x ∈ clsTo p k, 1 ≤ x ∧ x < 10
  | 0, _ => by simp [clsTo]
  | k + 1, hk => by
    have ih := clsTo_lt p k (by omega)
    unfold clsTo
    split
    · intro x hx
      rcases List.mem_append.1 hx with h | h
      · exact ih x h
      · simp at h; omega
    · exact ih
def G0 : List (List Nat) := List.replicate 9 []
def divOf (cs : List Nat) (most : Nat) : Option (List (List Nat)) := (tryF most cs 0 G0).map (·.take most)
def divideC (cs : List Nat) : List (List Nat) := ((List.range 10).findSome? (divOf cs)).getD []
def divide (p : List Nat) : List (List Nat) := divideC (clsTo p 9)
end Dg
end Go.Proofs.YtcjnabbggmbfgaaDoor
