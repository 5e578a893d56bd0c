/-
  Plain mathematics for DangerClashes.
-/
import Derived.Test.YtcjnabbggmbfgaaDoorDgPlain7
namespace Go.Proofs.YtcjnabbggmbfgaaDoor
namespace Dg
theorem clRow_le {p q : List Nat} (a : Nat) (h : ∀ b, clashB p a b = true → clashB q a b = true) : ∀ k, (clRow p a k).length ≤ (clRow q a k).length
  | 0 => by simp [clRow]
  | k + 1 => by
    have ih := clRow_le a h k
    simp only [clRow, List.length_append]
    have : (cl1 p a (a + k)).length ≤ (cl1 q a (a + k)).length := by
      unfold cl1
      by_cases hc : clashB p a (a + k) = true
      · rw [if_pos hc, if_pos (h _ hc)]; simp
      · rw [if_neg hc]; simp
    omega
theorem clTo_le {p q : List Nat} (h : ∀ a b, clashB p a b = true → clashB q a b = true) : ∀ n, (clTo p n).length ≤ (clTo q n).length
  | 0 => by simp [clTo]
  | n + 1 => by
    have ih := clTo_le h n
    have := clRow_le (p := p) (q := q) n (h n) (10 - n)
    simp only [clTo, List.length_append]
    omega
theorem count_add (L : List Nat) (m c : Nat) : (L ++ [m]).count c = L.count c + if m = c then 1 else 0 := by
  rw [List.count_append, List.count_singleton]; simp
theorem clashB_add {L : List Nat} {m a b : Nat} (h : clashB L a b = true) : clashB (L ++ [m]) a b = true := by
  unfold clashB at h ⊢
  simp only [Bool.and_eq_true, Bool.or_eq_true, decide_eq_true_eq] at h ⊢
  rw [count_add, count_add]
  refine ⟨⟨⟨h.1.1.1, by omega⟩, by omega⟩, ?_⟩
  rcases h.2 with h2 | h2
  · exact .inl h2
  · exact .inr (by omega)
theorem clashes_le (L : List Nat) (m : Nat) : (clashes L).length ≤ (clashes (L ++ [m])).length := clTo_le (fun _ _ => clashB_add) 10
/-- The greatest code of a class with those of a list. -/
def most (m : Nat) (L : List Nat) : Nat := L.foldl (fun x c => max x (tab m c)) 0
theorem most_snoc (m : Nat) (L : List Nat) (c : Nat) : most m (L ++ [c]) = max (most m L) (tab m c) := by simp [most, List.foldl_append]
theorem most_ge (m : Nat) : ∀ (L : List Nat) (x : Nat), x ≤ L.foldl (fun x c => max x (tab m c)) x ∧ ∀ c ∈ L, tab m c ≤ L.foldl (fun x c => max x (tab m c)) x
  | [], x => by simp
  | d :: L, x => by
    have ih := most_ge m L (max x (tab m d))
    refine ⟨by simp only [List.foldl_cons]; omega, fun c hc => ?_⟩
    simp only [List.foldl_cons]
    rcases List.mem_cons.1 hc with rfl | hc
    · omega
    · exact ih.2 c hc
theorem most_le (m : Nat) : ∀ (L : List Nat) (x y : Nat), x ≤ y → (∀ c ∈ L, tab m c ≤ y) → L.foldl (fun x c => max x (tab m c)) x ≤ y
  | [], x, y, h, _ => by simpa using h
  | d :: L, x, y, h, hc => by
    simp only [List.foldl_cons]
    have := hc d (by simp)
    exact most_le m L _ y (by omega) fun c hm => hc c (by simp [hm])
theorem most_three (m : Nat) (L : List Nat) (hm : m < 10) (h : ∀ c ∈ L, c < 10) : most m L ≤ 3 := most_le m L 0 3 (by omega) fun c hc => tab_le m c hm (h c hc)
theorem strictTo_ge (m : Nat) (p : List Nat) : ∀ k c, c < k → 0 < p.count c → tab m c ≤ strictTo m p k
  | 0, c, h, _ => by omega
  | k + 1, c, h, hp => by
    unfold strictTo
    by_cases e : c = k
    · subst e; rw [if_pos hp]; omega
    · have := strictTo_ge m p k c (by omega) hp
      split <;> omega
theorem strictTo_up (m : Nat) (p : List Nat) (y : Nat) (h : ∀ c ∈ p, tab m c ≤ y) : ∀ k, strictTo m p k ≤ y
  | 0 => by simp [strictTo]
  | k + 1 => by
    have ih := strictTo_up m p y h k
    unfold strictTo
    split
    · rename_i hp
      have := h k (List.count_pos_iff.1 hp)
      omega
    · exact ih
theorem strict_most (m : Nat) (L : List Nat) (h : ∀ c ∈ L, c < 10) : strictTo m L 10 = most m L := by
  apply Nat.le_antisymm
  · exact strictTo_up m L _ (fun c hc => (most_ge m L 0).2 c hc) 10
  · exact most_le m L 0 _ (by omega) fun c hc => strictTo_ge m L 10 c (h c hc) (List.count_pos_iff.2 hc)
/-- If the class has code 0 with all, nothing new clashes. -/
theorem clashes_same (L : List Nat) (m : Nat) (hm : m < 10) (h : ∀ c ∈ L, c < 10) (h0 : most m L = 0) : (clashes (L ++ [m])).length = (clashes L).length := by
  have hz : ∀ c ∈ L, tab m c = 0 := fun c hc => by have := (most_ge m L 0).2 c hc; unfold most at h0; omega
  apply Nat.le_antisymm
  · apply clTo_le
    intro a b hc
    unfold clashB at hc ⊢
    simp only [Bool.and_eq_true, Bool.or_eq_true, decide_eq_true_eq] at hc ⊢
    rw [count_add, count_add] at hc
    obtain ⟨⟨⟨h1, h2⟩, h3⟩, h4⟩ := hc
    have key : ∀ x y, x < 10 → m = x → 0 < tab x y → 0 < L.count y → False := by
      intro x y hx e ht hc
      subst e
      have := hz y (List.count_pos_iff.1 hc)
      omega
    have hcl : ∀ x, 0 < L.count x → x < 10 := fun x hx => h x (List.count_pos_iff.1 hx)
    by_cases ha : 0 < L.count a
    · by_cases hb : 0 < L.count b
      · refine ⟨⟨⟨h1, ha⟩, hb⟩, ?_⟩
        rcases h4 with h4 | h4
        · exact .inl h4
        · by_cases e : m = a
          · exfalso
            have hne : a = b ∨ a ≠ b := by omega
            rcases hne with e2 | e2
            · subst e2; exact key a a (hcl a ha) e h1 ha
            · exact key a b (hcl a ha) e h1 hb
          · rw [if_neg e] at h4; exact .inr (by omega)
      · exfalso
        have e : m = b := by
          by_cases e : m = b
          · exact e
          · rw [if_neg e] at h3; omega
        rw [tabSymm a b (hcl a ha) (by omega)] at h1
        exact key b a (by omega) e h1 ha
    · exfalso
      have e : m = a := by
        by_cases e : m = a
        · exact e
        · rw [if_neg e] at h2; omega
      by_cases hb : 0 < L.count b
      · exact key a b (by omega) e h1 hb
      · have e2 : m = b := by
          by_cases e2 : m = b
          · exact e2
          · rw [if_neg e2] at h3; omega
        rcases h4 with h4 | h4
        · simp only [bne_iff_ne] at h4; omega
        · rw [if_pos e] at h4; omega
  · exact clashes_le L m
/-- What is before the place (a, b). -/
def preC (L : List Nat) (a b : Nat) : List (Nat × Nat × Nat) := clTo L a ++ clRow L a (b - a)
theorem preC_step (L : List Nat) (a b : Nat) (h : a ≤ b) : preC L a (b + 1) = preC L a b ++ cl1 L a b := by
  unfold preC
  rw [show b + 1 - a = (b - a) + 1 by omega, clRow, List.append_assoc, show a + (b - a) = b by omega]
theorem preC_low (L : List Nat) (a b : Nat) (h : b < a) : preC L a (b + 1) = preC L a b := by
  unfold preC
  rw [show b + 1 - a = 0 by omega, show b - a = 0 by omega]
theorem preC_row (L : List Nat) (a : Nat) : preC L a 10 = preC L (a + 1) 0 := by
  unfold preC
  rw [Nat.zero_sub, clRow, List.append_nil, clTo]
theorem clRow_prefix (L : List Nat) (a : Nat) : ∀ j k, j ≤ k → ∃ r, clRow L a k = clRow L a j ++ r
  | j, 0, h => ⟨[], by rw [show j = 0 by omega]; simp⟩
  | j, k + 1, h => by
    by_cases e : j = k + 1
    · subst e; exact ⟨[], by simp⟩
    · obtain ⟨r, hr⟩ := clRow_prefix L a j k (by omega)
      exact ⟨r ++ cl1 L a (a + k), by rw [clRow, hr, List.append_assoc]⟩
theorem clTo_prefix (L : List Nat) : ∀ a n, a ≤ n → ∃ r, clTo L n = clTo L a ++ r
  | a, 0, h => ⟨[], by rw [show a = 0 by omega]; simp⟩
  | a, n + 1, h => by
    by_cases e : a = n + 1
    · subst e; exact ⟨[], by simp⟩
    · obtain ⟨r, hr⟩ := clTo_prefix L a n (by omega)
      exact ⟨r ++ clRow L n (10 - n), by rw [clTo, hr, List.append_assoc]⟩
theorem preC_prefix (L : List Nat) (a b : Nat) (ha : a < 10) (hb : b ≤ 10) : ∃ r, clashes L = preC L a b ++ r := by
  obtain ⟨r1, h1⟩ := clTo_prefix L (a + 1) 10 (by omega)
  obtain ⟨r2, h2⟩ := clRow_prefix L a (b - a) (10 - a) (by omega)
  refine ⟨r2 ++ r1, ?_⟩
  unfold clashes preC
  rw [h1, clTo, h2]
  simp
/-- The place of a clash among all. -/
theorem clash_at (L : List Nat) (a b : Nat) (ha : a ≤ b) (hb : b < 10) (hc : clashB L a b = true) : (preC L a b).length < (clashes L).length ∧ (clashes L).getD (preC L a b).length (0, 0, 0) = (a, b, tab a b) ∧ preC L a (b + 1) = preC L a b ++ [(a, b, tab a b)] := by
  have hs := preC_step L a b ha
  have h1 : cl1 L a b = [(a, b, tab a b)] := by unfold cl1; rw [if_pos hc]
  rw [h1] at hs
  obtain ⟨r, hr⟩ := preC_prefix L a (b + 1) (by omega) (by omega)
  rw [hs] at hr
  rw [hr]
  refine ⟨by simp, by simp, hs⟩
theorem clash_not (L : List Nat) (a b : Nat) (ha : a ≤ b) (hc : clashB L a b = false) : preC L a (b + 1) = preC L a b := by
  rw [preC_step L a b ha]; unfold cl1; rw [if_neg (by rw [hc]; simp)]; simp
/-- The statements' table of all pairs. -/
def wantOK (L : List Nat) (T : Nat → Nat → Nat) (done : Nat → Nat → Prop) : Prop :=
  (∀ a b, T a b = 0 ∨ (∃ i k, i < L.length ∧ k < L.length ∧ i ≠ k ∧ a = min (L.getD i 0) (L.getD k 0) ∧ b = max (L.getD i 0) (L.getD k 0) ∧ T a b = tab a b)) ∧
    ∀ i k, i < L.length → k < L.length → i ≠ k → done i k → T (min (L.getD i 0) (L.getD k 0)) (max (L.getD i 0) (L.getD k 0)) = tab (min (L.getD i 0) (L.getD k 0)) (max (L.getD i 0) (L.getD k 0))
def setT (T : Nat → Nat → Nat) (a b v : Nat) : Nat → Nat → Nat := fun x y => if x = a ∧ y = b then v else T x y
theorem want_set {L : List Nat} {T : Nat → Nat → Nat} {i k : Nat} {done done' : Nat → Nat → Prop} (h : wantOK L T done) (h10 : ∀ x ∈ L, x < 10) (hi : i < L.length) (hk : k < L.length) (hne : i ≠ k) (hd : ∀ i' k', done' i' k' → done i' k' ∨ (i' = i ∧ k' = k)) :
    wantOK L (setT T (min (L.getD i 0) (L.getD k 0)) (max (L.getD i 0) (L.getD k 0)) (tab (L.getD i 0) (L.getD k 0))) done' := by
  have hx : L.getD i 0 < 10 := h10 _ (by simp [hi])
  have hy : L.getD k 0 < 10 := h10 _ (by simp [hk])
  have ht : tab (L.getD i 0) (L.getD k 0) = tab (min (L.getD i 0) (L.getD k 0)) (max (L.getD i 0) (L.getD k 0)) := by
    rcases Nat.le_total (L.getD i 0) (L.getD k 0) with e | e
    · rw [Nat.min_eq_left e, Nat.max_eq_right e]
    · rw [Nat.min_eq_right e, Nat.max_eq_left e, tabSymm _ _ hx hy]
  refine ⟨fun a b => ?_, fun i' k' hi' hk' hne' hd' => ?_⟩
  · unfold setT
    split
    · rename_i e
      exact .inr ⟨i, k, hi, hk, hne, e.1, e.2, by rw [e.1, e.2]; exact ht⟩
    · exact h.1 a b
  · unfold setT
    split
    · rename_i e
      rw [e.1, e.2]; exact ht
    · rename_i e
      rcases hd i' k' hd' with hd' | ⟨rfl, rfl⟩
      · exact h.2 i' k' hi' hk' hne' hd'
      · exact absurd ⟨rfl, rfl⟩ e
theorem want_all {L : List Nat} {T : Nat → Nat → Nat} (h : wantOK L T (fun _ _ => True)) (h10 : ∀ x ∈ L, x < 10) (a b : Nat) : T a b = if a ≤ b ∧ clashB L a b = true then tab a b else 0 := by
  have hmem : ∀ x, 0 < L.count x → ∃ i, i < L.length ∧ L.getD i 0 = x := fun x hx => by
    obtain ⟨i, hi, e⟩ := List.getElem_of_mem (List.count_pos_iff.1 hx)
    exact ⟨i, hi, by simp [hi, e]⟩
  split
  · rename_i hc
    obtain ⟨hab, hcl⟩ := hc
    unfold clashB at hcl
    simp only [Bool.and_eq_true, Bool.or_eq_true, decide_eq_true_eq, bne_iff_ne] at hcl
    obtain ⟨⟨⟨h1, h2⟩, h3⟩, h4⟩ := hcl
    have : ∃ i k, i < L.length ∧ k < L.length ∧ i ≠ k ∧ L.getD i 0 = a ∧ L.getD k 0 = b := by
      obtain ⟨i, hi, hia⟩ := hmem a h2
      by_cases e : a = b
      · subst e
        have hc2 : 1 < L.count a := by
          rcases h4 with h4 | h4
          · exact absurd rfl h4
          · exact h4
        have hsplit : L = L.take i ++ a :: L.drop (i + 1) := by
          conv => lhs; rw [← List.take_append_drop i L, List.drop_eq_getElem_cons hi]
          simp [hi] at hia
          rw [hia]
        have hcnt : 0 < (L.take i).count a + (L.drop (i + 1)).count a := by
          rw [hsplit, List.count_append, List.count_cons_self] at hc2
          omega
        rcases Nat.lt_or_ge 0 ((L.take i).count a) with h0 | h0
        · obtain ⟨k, hk, ek⟩ := List.getElem_of_mem (List.count_pos_iff.1 h0)
          simp at hk
          exact ⟨i, k, hi, by omega, by omega, hia, by simp at ek; simp [show k < L.length by omega, ek]⟩
        · obtain ⟨k, hk, ek⟩ := List.getElem_of_mem (List.count_pos_iff.1 (show 0 < (L.drop (i + 1)).count a by omega))
          simp at hk
          exact ⟨i, i + 1 + k, hi, by omega, by omega, hia, by simp at ek; simp [show i + 1 + k < L.length by omega, ek]⟩
      · obtain ⟨k, hk, hkb⟩ := hmem b h3
        exact ⟨i, k, hi, hk, by rintro rfl; omega, hia, hkb⟩
    obtain ⟨i, k, hi, hk, hne, e1, e2⟩ := this
    have := h.2 i k hi hk hne trivial
    rw [e1, e2, Nat.min_eq_left hab, Nat.max_eq_right hab] at this
    exact this
  · rename_i hc
    rcases h.1 a b with h0 | ⟨i, k, hi, hk, hne, ea, eb, ht⟩
    · exact h0
    · rw [ht]
      apply Classical.byContradiction
      intro hpos
      apply hc
      refine ⟨by omega, ?_⟩
      have hci : 0 < L.count (L.getD i 0) := List.count_pos_iff.2 (by simp [hi])
      have hck : 0 < L.count (L.getD k 0) := List.count_pos_iff.2 (by simp [hk])
      unfold clashB
      simp only [Bool.and_eq_true, Bool.or_eq_true, decide_eq_true_eq, bne_iff_ne]
      have ha : 0 < L.count a := by rw [ea]; rcases Nat.le_total (L.getD i 0) (L.getD k 0) with e | e; · rw [Nat.min_eq_left e]; exact hci
                                    · rw [Nat.min_eq_right e]; exact hck
      have hb : 0 < L.count b := by rw [eb]; rcases Nat.le_total (L.getD i 0) (L.getD k 0) with e | e; · rw [Nat.max_eq_right e]; exact hck
                                    · rw [Nat.max_eq_left e]; exact hci
      refine ⟨⟨⟨by omega, ha⟩, hb⟩, ?_⟩
      by_cases e : a = b
      · right
        have hsame : L.getD i 0 = L.getD k 0 := by omega
        have hea : L.getD i 0 = a := by omega
        -- two places with one class
        have two : ∀ (i k : Nat), i < k → k < L.length → L.getD i 0 = a → L.getD k 0 = a → 1 < L.count a := by
          intro i k hik hk h1 h2
          have hsplit : L = L.take k ++ a :: L.drop (k + 1) := by
            conv => lhs; rw [← List.take_append_drop k L, List.drop_eq_getElem_cons hk]
            simp [hk] at h2
            rw [h2]
          have hin : 0 < (L.take k).count a := List.count_pos_iff.2 (by
            have : a ∈ L.take k := by
              rw [← h1]
              have hi' : i < (L.take k).length := by simp; omega
              have : L.getD i 0 = (L.take k)[i] := by simp [show i < L.length by omega]
              rw [this]; exact List.getElem_mem _
            exact this)
          rw [hsplit, List.count_append, List.count_cons_self]
          omega
        rcases Nat.lt_or_ge i k with hlt | hge
        · exact two i k hlt hk hea (by omega)
        · exact two k i (by omega) hi (by omega) hea
      · exact .inl e
end Dg
end Go.Proofs.YtcjnabbggmbfgaaDoor
