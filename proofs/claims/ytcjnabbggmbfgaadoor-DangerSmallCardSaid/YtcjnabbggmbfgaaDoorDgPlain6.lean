/-
  Plain mathematics for DangerGrows, part 2: the laws out of the checks.
-/
import Derived.Test.YtcjnabbggmbfgaaDoorDgPlain5
namespace Go.Proofs.YtcjnabbggmbfgaaDoor
namespace Dg
theorem erase_le (t : List Nat) (ht : t ∈ subs 9) (c : Nat) (hc : c ∈ t) : (divideC (t.erase c)).length ≤ (divideC t).length := by
  have h := List.all_eq_true.1 all_ok t ht
  simp only [Bool.and_eq_true, lenOK] at h
  have := List.all_eq_true.1 h.1.1 c hc
  simpa using this
def mixS (S T : Nat → Bool) (j : Nat) (x : Nat) : Bool := S x && (decide (j < x) || T x)
theorem mix_step (S T : Nat → Bool) (j : Nat) (hj : j < 9) : (divideC (clsS (mixS S T (j + 1)) 9)).length ≤ (divideC (clsS (mixS S T j) 9)).length := by
  by_cases h : S (j + 1) = true ∧ T (j + 1) = false
  · have e : clsS (mixS S T (j + 1)) 9 = (clsS (mixS S T j) 9).erase (j + 1) := by
      rw [clsS_erase]
      apply clsS_congr
      intro c h1 h2
      unfold mixS
      by_cases e : c = j + 1
      · subst e; simp [h.2]
      · rw [show decide (j + 1 < c) = decide (j < c) by rw [decide_eq_decide]; omega]
        simp [e]
    rw [e]
    apply erase_le _ (clsS_subs _ _)
    rw [mem_clsS]
    exact ⟨by omega, by omega, by simp [mixS, h.1]⟩
  · have e : clsS (mixS S T (j + 1)) 9 = clsS (mixS S T j) 9 := by
      apply clsS_congr
      intro c h1 h2
      unfold mixS
      by_cases e : c = j + 1
      · subst e
        cases hS : S (j + 1) with
        | false => rfl
        | true =>
          cases hT : T (j + 1) with
          | true => simp
          | false => exact absurd ⟨hS, hT⟩ h
      · rw [show decide (j + 1 < c) = decide (j < c) by rw [decide_eq_decide]; omega]
    rw [e]; exact Nat.le_refl _
theorem mix_le (S T : Nat → Bool) : ∀ j, j ≤ 9 → (divideC (clsS (mixS S T j) 9)).length ≤ (divideC (clsS (mixS S T 0) 9)).length
  | 0, _ => Nat.le_refl _
  | j + 1, h => Nat.le_trans (mix_step S T j (by omega)) (mix_le S T j (by omega))
theorem len_mono (S T : Nat → Bool) (h : ∀ c, T c = true → S c = true) : (divideC (clsS T 9)).length ≤ (divideC (clsS S 9)).length := by
  have h1 := mix_le S T 9 (by omega)
  rw [clsS_congr (S := mixS S T 9) (T := T) 9 (fun c a b => by
      unfold mixS
      rw [show decide (9 < c) = false by rw [decide_eq_false_iff_not]; omega]
      cases hT : T c with
      | true => simp [h c hT]
      | false => simp),
    clsS_congr (S := mixS S T 0) (T := S) 9 (fun c a b => by unfold mixS; simp [show 0 < c by omega])] at h1
  exact h1
theorem one_iff (S : Nat → Bool) : ((divideC (clsS S 9)).length ≤ 1) ↔ ∀ a ∈ clsS S 9, ∀ b ∈ clsS S 9, a ≠ b → tab a b = 0 := by
  have h := List.all_eq_true.1 all_ok _ (clsS_subs S 9)
  simp only [Bool.and_eq_true, oneOK] at h
  have h2 := beq_iff_eq.1 h.1.2
  rw [Bool.eq_iff_iff] at h2
  rw [decide_eq_true_iff] at h2
  rw [h2]
  simp only [List.all_eq_true, Bool.or_eq_true, beq_iff_eq]
  constructor
  · intro H a ha b hb hne
    exact (H a ha b hb).resolve_left hne
  · intro H a ha b hb
    by_cases e : a = b
    · exact .inl e
    · exact .inr (H a ha b hb e)
theorem clique_le (S : Nat → Bool) (h : ∀ a ∈ clsS S 9, ∀ b ∈ clsS S 9, a ≠ b → 0 < tab a b) : (clsS S 9).length ≤ (divideC (clsS S 9)).length := by
  have h0 := List.all_eq_true.1 all_ok _ (clsS_subs S 9)
  simp only [Bool.and_eq_true, cliqueOK, Bool.or_eq_true, decide_eq_true_eq] at h0
  refine h0.2.resolve_left ?_
  rw [Bool.not_eq_true', Bool.not_eq_false]
  simp only [List.all_eq_true, Bool.or_eq_true, beq_iff_eq, decide_eq_true_eq]
  intro a ha b hb
  by_cases e : a = b
  · exact .inl e
  · exact .inr (h a ha b hb e)
end Dg
end Go.Proofs.YtcjnabbggmbfgaaDoor
