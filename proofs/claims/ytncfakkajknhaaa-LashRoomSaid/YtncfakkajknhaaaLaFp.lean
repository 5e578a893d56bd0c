/-
  Plain facts for LashFaults: where the faults of a half stand among all.
-/
import Derived.Test.YtncfakkajknhaaaLaG
namespace Go.Proofs.Ytncfakkajknhaaa
open Go.RowKit

theorem lcheck_prefix (s : Shp) (bs : List Bx) (st : List Stw) {c : Nat} : ∀ {n : Nat}, c ≤ n → ∃ r, lcheckF s bs st n = lcheckF s bs st c ++ r
  | 0, h => ⟨[], by obtain rfl : c = 0 := by omega
                    simp⟩
  | n + 1, h => by
    rcases Nat.lt_or_ge c (n + 1) with h' | h'
    · obtain ⟨r, hr⟩ := lcheck_prefix s bs st (n := n) (c := c) (by omega)
      exact ⟨r ++ lfaultsF s bs st n, by rw [lcheckF_succ, hr, List.append_assoc]⟩
    · obtain rfl : c = n + 1 := by omega
      exact ⟨[], by simp⟩
/-- How many faults there are ahead of the half j of column c. -/
def nAt (s : Shp) (bs : List Bx) (st : List Stw) (c j : Nat) : Nat := (lcheckF s bs st c).length + if lashF s c = 0 then 0 else (lfTo bs st (lashF s c) c j).length
theorem nAt_zero (s : Shp) (bs : List Bx) (st : List Stw) (c : Nat) : nAt s bs st c 0 = (lcheckF s bs st c).length := by
  unfold nAt
  split
  · rfl
  · rfl
theorem nAt_two (s : Shp) (bs : List Bx) (st : List Stw) (c : Nat) : nAt s bs st c 2 = (lcheckF s bs st (c + 1)).length := by
  unfold nAt
  rw [lcheckF_succ, List.length_append]
  unfold lfaultsF
  split <;> rfl
theorem nAt_no {s : Shp} {bs : List Bx} {st : List Stw} {c j : Nat} (h : lashF s c = 0 ∨ momentF bs st c (1 + j) ≤ lashF s c) : nAt s bs st c (j + 1) = nAt s bs st c j := by
  unfold nAt
  split
  · rfl
  · rename_i hz
    rw [lfTo_succ, if_neg (by rcases h with h | h <;> omega), List.append_nil]
theorem nAt_yes {s : Shp} {bs : List Bx} {st : List Stw} {c j : Nat} (hz : lashF s c ≠ 0) (h : lashF s c < momentF bs st c (1 + j)) : nAt s bs st c (j + 1) = nAt s bs st c j + 1 := by
  unfold nAt
  rw [if_neg hz, if_neg hz, lfTo_succ, if_pos h, List.length_append]
  rfl
theorem nAt_le {s : Shp} (hl : s.cols.length ≤ 12) (bs : List Bx) (st : List Stw) {c j : Nat} (hc : c < s.cols.length) (hj : j ≤ 2) : nAt s bs st c j ≤ 1000 := by
  unfold nAt
  have h1 := lcheckF_len s bs st c
  have h2 := lfTo_len bs st (lashF s c) c j
  split <;> omega
/-- The fault of a half stands in its place. -/
theorem nAt_fault {s : Shp} {bs : List Bx} {st : List Stw} {n c j : Nat} (hc : c < n) (hj : j < 2) (hz : lashF s c ≠ 0) (h : lashF s c < momentF bs st c (1 + j)) : nAt s bs st c j < (lcheckF s bs st n).length ∧ (lcheckF s bs st n).getD (nAt s bs st c j) default = ⟨c, 1 + j, momentF bs st c (1 + j) - lashF s c⟩ := by
  obtain ⟨r, hr⟩ := lcheck_prefix s bs st (c := c + 1) (n := n) (by omega)
  have hf : ∃ q, lfaultsF s bs st c = lfTo bs st (lashF s c) c j ++ ⟨c, 1 + j, momentF bs st c (1 + j) - lashF s c⟩ :: q := by
    unfold lfaultsF
    rw [if_neg hz]
    obtain rfl | rfl : j = 0 ∨ j = 1 := by omega
    · rw [lfTo_succ, lfTo_succ, if_pos h]
      exact ⟨_, by rw [List.append_assoc]; rfl⟩
    · rw [lfTo_succ, if_pos h]
      exact ⟨[], rfl⟩
  obtain ⟨q, hq⟩ := hf
  have hn : nAt s bs st c j = (lcheckF s bs st c ++ lfTo bs st (lashF s c) c j).length := by unfold nAt; rw [if_neg hz, List.length_append]
  have hF : lcheckF s bs st n = (lcheckF s bs st c ++ lfTo bs st (lashF s c) c j) ++ (⟨c, 1 + j, momentF bs st c (1 + j) - lashF s c⟩ :: (q ++ r)) := by
    rw [hr, lcheckF_succ, hq]
    simp only [List.append_assoc, List.cons_append]
  rw [hF, hn]
  refine ⟨by simp, ?_⟩
  rw [List.getD_eq_getElem?_getD, List.getElem?_append_right (Nat.le_refl _), Nat.sub_self]
  rfl
theorem lashF_at {s : Shp} (hl : Lm s) {c : Nat} (hc : c < s.cols.length) : lashF s c = if (s.cols.getD c default).deck then (s.cols.getD c default).lash else 0 := by
  have h1 := hl.at_ hc
  unfold lashF
  rw [show thereB s (c : Int) = true by unfold thereB; simp; omega, Int.toNat_natCast, Bool.true_and]
  split
  · rw [if_neg (by omega)]
  · rfl
theorem run_neq_lf (a b c : Int) (W : World) : (binOp .neq 92 (.agg #[.int .i64 a, .int .u8 b, .int .i64 c]) (.agg #[.int .i64 a, .int .u8 b, .int .i64 c])).run Try.prog W = .ok (.bool false) W := by simp [go_sem]
end Go.Proofs.Ytncfakkajknhaaa
