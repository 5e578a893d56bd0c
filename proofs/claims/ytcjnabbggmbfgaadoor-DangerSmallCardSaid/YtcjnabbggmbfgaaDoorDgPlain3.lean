/-
  The plain mathematics of chapter 13, part 3: the statements' own search, and what holds of the divisions of all sets of classes (checked set by set).
-/
import Derived.Test.YtcjnabbggmbfgaaDoorDgPlain2
namespace Go.Proofs.YtcjnabbggmbfgaaDoor
namespace Dg
/-- 'coloured': can the classes be put into so many groups? -/
def colF (many : Nat) : List Nat → List (List Nat) → Bool
  | [], _ => true
  | c :: cs, G => (List.range (min (G.length + 1) many)).any fun g =>
      if g = G.length then colF many cs (G ++ [[c]]) else fits (G.getD g []) c && colF many cs (G.set g (G.getD g [] ++ [c]))
theorem any_hit {f : Nat → Bool} {K g : Nat} (hg : g < K) (hf : f g = true) : (List.range K).any f = true := by
  rw [List.any_eq_true]; exact ⟨g, by simpa using hg, hf⟩
theorem any_miss {f : Nat → Bool} {g : Nat} (hn : (List.range g).any f = false) (hf : f g = false) : (List.range (g + 1)).any f = false := by
  rw [List.range_succ, List.any_append, hn]; simp [hf]
/-- All sets of classes up to k, as rising lists. -/
def subs : Nat → List (List Nat)
  | 0 => [[]]
  | k + 1 => subs k ++ (subs k).map (· ++ [k + 1])
theorem clsTo_subs (p : List Nat) : ∀ k, clsTo p k ∈ subs k
  | 0 => by simp [clsTo, subs]
  | k + 1 => by
    have ih := clsTo_subs p k
    unfold clsTo subs
    split
    · exact List.mem_append_right _ (List.mem_map.2 ⟨_, ih, rfl⟩)
    · exact List.mem_append_left _ ih
def at_ (R : List (List Nat)) (i k : Nat) : Nat := (R.getD i []).getD k 0
/-- What DangerDivides asks of a division R of the classes cs. -/
def Good (cs : List Nat) (R : List (List Nat)) : Prop :=
  (R.length ≤ 9 ∧ ∀ i, i < R.length → 0 < (R.getD i []).length ∧ (R.getD i []).length ≤ 9 ∧ (0 < i → at_ R (i - 1) 0 < at_ R i 0) ∧
    ∀ k, k < (R.getD i []).length → 1 ≤ at_ R i k ∧ at_ R i k ≤ 9 ∧ (0 < k → at_ R i (k - 1) < at_ R i k) ∧ ∀ j, j < k → tab (at_ R i k) (at_ R i j) = 0) ∧
  (∀ c, c < 10 → R.flatten.count c ≤ 1 ∧ (R.flatten.count c = 1 ↔ c ∈ cs)) ∧ (R = [] ∨ colF (R.length - 1) cs [] = false)
instance (cs : List Nat) (R : List (List Nat)) : Decidable (Good cs R) := by unfold Good; infer_instance
end Dg
end Go.Proofs.YtcjnabbggmbfgaaDoor
