/-
  What near is, by the rules of package segregate.
-/
import Derived.Test.YtmhikcleekfbpaaDoorSgB
namespace Go.Proofs.YtmhikcleekfbpaaDoor
open Go.RowKit

def rule3 (s : Shp) (i j : Nat) : Bool := ((i : Int) == (j : Int)) || ((besideF s i).any (fun y => (j : Int) == y) || ((s.cols.getD i default).bay == (s.cols.getD j default).bay && (s.cols.getD i default).row == (s.cols.getD j default).row))
def ruleN (s : Shp) (a b : Slt) : Nat → Bool
  | 0 => false
  | 1 => rule2 a b
  | 2 => rule3 s a.col.toNat b.col.toNat
  | _ => rule4 s a b
def nearTo (s : Shp) (a b : Slt) (code k : Nat) : Bool := (List.range k).any fun j => decide (j ≤ code) && ruleN s a b j
/-- What Near returns. -/
def nearF (s : Shp) (a b : Slt) (code : Nat) : Bool := (apartF s a.col b.col).2 && nearTo s a b code 4
theorem nearTo_succ (s : Shp) (a b : Slt) (code k : Nat) : nearTo s a b code (k + 1) = (nearTo s a b code k || (decide (k ≤ code) && ruleN s a b k)) := by
  unfold nearTo
  rw [List.range_succ, List.any_append]
  simp
theorem nearTo_hit {s : Shp} {a b : Slt} {code k : Nat} (hk : k < 4) (hc : k ≤ code) (hr : ruleN s a b k = true) : nearTo s a b code 4 = true := by
  unfold nearTo
  rw [List.any_eq_true]
  exact ⟨k, List.mem_range.2 hk, by rw [decide_eq_true hc, hr]; rfl⟩
theorem apart_in14 {s : Shp} {a b : Int} (h : (apartF s a b).2 = true) : (0 ≤ a ∧ a < s.cols.length) ∧ 0 ≤ b ∧ b < s.cols.length := by
  unfold apartF at h
  split at h
  · cases h
  · omega
end Go.Proofs.YtmhikcleekfbpaaDoor
