/-
  Walks of the reference of chapter 07: within, inside, Apart, Beside.
-/
import Derived.Test.YtpmhchbkhohmjaaDoorB3
import Derived.IntWalk
namespace Go.Proofs.YtpmhchbkhohmjaaDoor
open Go.RowKit

def withinB (n low high : Int) : Bool := decide (low ≤ n) && decide (n ≤ high)
set_option maxHeartbeats 1000000 in
theorem within_any (n lo hi : Int) (w : World) : Calls Tryd.prog 68 #[.int .i64 n, .int .i64 lo, .int .i64 hi] w fun e w' => e = .returned (.bool (withinB n lo hi)) ∧ w = w' := by
  unfold withinB
  by_cases h1 : lo ≤ n
  · by_cases h2 : n ≤ hi
    · have e1 : decide (lo ≤ n) = true := decide_eq_true h1
      have e2 : decide (n ≤ hi) = true := decide_eq_true h2
      rw [e1, e2]
      go_enter Tryd.func68, Tryd.ntmps68
      go_wp2
      go_ret
      exact ⟨rfl, rfl⟩
    · have e1 : decide (lo ≤ n) = true := decide_eq_true h1
      have e2 : decide (n ≤ hi) = false := decide_eq_false h2
      rw [e1, e2]
      go_enter Tryd.func68, Tryd.ntmps68
      go_wp2
      go_ret
      exact ⟨rfl, rfl⟩
  · have e1 : decide (lo ≤ n) = false := decide_eq_false h1
    rw [e1]
    go_enter Tryd.func68, Tryd.ntmps68
    go_wp2
    go_ret
    exact ⟨rfl, rfl⟩
end Go.Proofs.YtpmhchbkhohmjaaDoor
