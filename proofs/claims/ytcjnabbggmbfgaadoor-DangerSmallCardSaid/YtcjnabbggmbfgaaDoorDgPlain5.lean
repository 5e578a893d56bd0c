/-
  Plain mathematics for DangerGrows: fewer classes need no more groups; cliques; one group.
-/
import Derived.Test.YtcjnabbggmbfgaaDoorDgPlain4
namespace Go.Proofs.YtcjnabbggmbfgaaDoor
namespace Dg
/-- The classes from 1 to k of a set. -/
def clsS (S : Nat → Bool) : Nat → List Nat
  | 0 => []
  | k + 1 => if S (k + 1) then clsS S k ++ [k + 1] else clsS S k
theorem clsTo_eq (p : List Nat) : ∀ k, clsTo p k = clsS (fun c => decide (0 < p.count c)) k
  | 0 => rfl
  | k + 1 => by unfold clsTo clsS; rw [clsTo_eq p k]; simp
theorem clsS_subs (S : Nat → Bool) : ∀ k, clsS S k ∈ subs k
  | 0 => by simp [clsS, subs]
  | k + 1 => by
    have ih := clsS_subs S k
    unfold clsS subs
    split
    · exact List.mem_append_right _ (List.mem_map.2 ⟨_, ih, rfl⟩)
    · exact List.mem_append_left _ ih
theorem clsS_congr {S T : Nat → Bool} : ∀ k, (∀ c, 1 ≤ c → c ≤ k → S c = T c) → clsS S k = clsS T k
  | 0, _ => rfl
  | k + 1, h => by unfold clsS; rw [clsS_congr k (fun c h1 h2 => h c h1 (by omega)), h (k + 1) (by omega) (Nat.le_refl _)]
theorem mem_clsS (S : Nat → Bool) (c : Nat) : ∀ k, c ∈ clsS S k ↔ 1 ≤ c ∧ c ≤ k ∧ S c = true
  | 0 => by simp [clsS]; omega
  | k + 1 => by
    have ih := mem_clsS S c k
    unfold clsS
    split
    · rw [List.mem_append, ih, List.mem_singleton]
      constructor
      · rintro (h | h)
        · exact ⟨h.1, by omega, h.2.2⟩
        · subst h; exact ⟨by omega, by omega, by assumption⟩
      · rintro ⟨h1, h2, h3⟩
        by_cases e : c = k + 1
        · exact .inr e
        · exact .inl ⟨h1, by omega, h3⟩
    · rw [ih]
      constructor
      · rintro ⟨h1, h2, h3⟩; exact ⟨h1, by omega, h3⟩
      · rintro ⟨h1, h2, h3⟩
        by_cases e : c = k + 1
        · subst e; contradiction
        · exact ⟨h1, by omega, h3⟩
theorem clsS_erase (S : Nat → Bool) (c : Nat) : ∀ k, (clsS S k).erase c = clsS (fun x => S x && x != c) k
  | 0 => rfl
  | k + 1 => by
    have ih := clsS_erase S c k
    unfold clsS
    by_cases hS : S (k + 1) = true
    · rw [if_pos hS]
      by_cases e : k + 1 = c
      · subst e
        have hn : k + 1 ∉ clsS S k := by rw [mem_clsS]; omega
        rw [List.erase_append_right _ hn, ← ih, List.erase_of_not_mem hn]
        simp
      · rw [if_pos (by simp [hS, e])]
        by_cases hm : c ∈ clsS S k
        · rw [List.erase_append_left _ hm, ih]
        · rw [List.erase_append_right _ hm, ← ih, List.erase_of_not_mem hm, List.erase_of_not_mem (by simpa using fun h => e h.symm)]
    · rw [if_neg hS, if_neg (by simp [hS]), ih]
def lenOK (t : List Nat) : Bool := t.all fun c => decide ((divideC (t.erase c)).length ≤ (divideC t).length)
def oneOK (t : List Nat) : Bool := decide ((divideC t).length ≤ 1) == t.all fun a => t.all fun b => a == b || tab a b == 0
def cliqueOK (t : List Nat) : Bool := !(t.all fun a => t.all fun b => a == b || decide (0 < tab a b)) || decide (t.length ≤ (divideC t).length)
theorem all_ok : ((subs 9).all fun t => lenOK t && oneOK t && cliqueOK t) = true := by decide +kernel
end Dg
end Go.Proofs.YtcjnabbggmbfgaaDoor
