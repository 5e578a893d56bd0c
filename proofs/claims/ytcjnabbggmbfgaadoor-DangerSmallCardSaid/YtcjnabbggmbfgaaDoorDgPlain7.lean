/-
  Plain mathematics for DangerGrows, part 3: fewer classes, clashes of different classes, cliques, in the lists' own terms.
-/
import Derived.Test.YtcjnabbggmbfgaaDoorDgPlain6
namespace Go.Proofs.YtcjnabbggmbfgaaDoor
namespace Dg
theorem tabSymm (a b : Nat) (ha : a < 10) (hb : b < 10) : tab a b = tab b a := by
  have h : ∀ a : Fin 10, ∀ b : Fin 10, tab a b = tab b a := by decide
  exact h ⟨a, ha⟩ ⟨b, hb⟩
theorem mem_cl1 (p : List Nat) (a b : Nat) (t : Nat × Nat × Nat) : t ∈ cl1 p a b ↔ clashB p a b = true ∧ t = (a, b, tab a b) := by
  unfold cl1; split
  · simp [*]
  · simp [*]
theorem mem_clRow (p : List Nat) (a : Nat) (t : Nat × Nat × Nat) : ∀ k, t ∈ clRow p a k ↔ ∃ j, j < k ∧ clashB p a (a + j) = true ∧ t = (a, a + j, tab a (a + j))
  | 0 => by simp [clRow]
  | k + 1 => by
    rw [clRow, List.mem_append, mem_clRow p a t k, mem_cl1]
    constructor
    · rintro (⟨j, h1, h2⟩ | h)
      · exact ⟨j, by omega, h2⟩
      · exact ⟨k, by omega, h⟩
    · rintro ⟨j, h1, h2⟩
      by_cases e : j = k
      · subst e; exact .inr h2
      · exact .inl ⟨j, by omega, h2⟩
theorem mem_clTo (p : List Nat) (t : Nat × Nat × Nat) : ∀ n, t ∈ clTo p n ↔ ∃ a j, a < n ∧ j < 10 - a ∧ clashB p a (a + j) = true ∧ t = (a, a + j, tab a (a + j))
  | 0 => by simp [clTo]
  | n + 1 => by
    rw [clTo, List.mem_append, mem_clTo p t n, mem_clRow]
    constructor
    · rintro (⟨a, j, h1, h2⟩ | ⟨j, h1, h2⟩)
      · exact ⟨a, j, by omega, h2⟩
      · exact ⟨n, j, by omega, h1, h2⟩
    · rintro ⟨a, j, h1, h2, h3⟩
      by_cases e : a = n
      · subst e; exact .inr ⟨j, h2, h3⟩
      · exact .inl ⟨a, j, by omega, h2, h3⟩
theorem count_pos_of_mem {p : List Nat} {c : Nat} (h : c ∈ p) : 0 < p.count c := List.count_pos_iff.2 h
theorem divide_eq (p : List Nat) : divide p = divideC (clsS (fun c => decide (0 < p.count c)) 9) := by unfold divide; rw [clsTo_eq]
theorem grows_fewer {F L : List Nat} (h : ∀ x ∈ F, x ∈ L) : (divide F).length ≤ (divide L).length := by
  rw [divide_eq, divide_eq]
  apply len_mono
  intro c hc
  simp only [decide_eq_true_eq] at hc ⊢
  exact count_pos_of_mem (h c (List.count_pos_iff.1 hc))
theorem grows_one {L : List Nat} (h10 : ∀ x ∈ L, x < 10) : (divide L).length ≤ 1 ↔ ∀ t ∈ clashes L, t.1 = t.2.1 := by
  rw [divide_eq, one_iff]
  have hm : ∀ c, c ∈ clsS (fun c => decide (0 < L.count c)) 9 ↔ 1 ≤ c ∧ c ∈ L := fun c => by
    rw [mem_clsS]
    simp only [decide_eq_true_eq, List.count_pos_iff]
    constructor
    · rintro ⟨h1, _, h2⟩; exact ⟨h1, h2⟩
    · rintro ⟨h1, h2⟩; have := h10 c h2; exact ⟨h1, by omega, h2⟩
  constructor
  · intro H t ht
    unfold clashes at ht
    rw [mem_clTo] at ht
    obtain ⟨a, j, h1, h2, h3, rfl⟩ := ht
    simp only [clashB, Bool.and_eq_true, decide_eq_true_eq, List.count_pos_iff] at h3
    show a = a + j
    obtain ⟨⟨⟨h4, h5⟩, h6⟩, h7⟩ := h3
    by_cases e : a = a + j
    · exact e
    · exfalso
      have ha0 : a ≠ 0 := by
        intro h0; subst h0
        have : ∀ b : Fin 10, tab 0 b = 0 := by decide
        have := this ⟨0 + j, by omega⟩
        simp only at this
        omega
      have := H a ((hm a).2 ⟨by omega, h5⟩) (a + j) ((hm _).2 ⟨by omega, h6⟩) e
      omega
  · intro H a ha b hb hne
    have ⟨ha1, ha2⟩ := (hm a).1 ha
    have ⟨hb1, hb2⟩ := (hm b).1 hb
    have ha10 := h10 a ha2
    have hb10 := h10 b hb2
    apply Classical.byContradiction
    intro hc
    have key : ∀ x y, x ∈ L → y ∈ L → x < y → y < 10 → 0 < tab x y → False := by
      intro x y hx hy hxy hy10 ht
      have := H (x, y, tab x y) (by
        unfold clashes
        rw [mem_clTo]
        refine ⟨x, y - x, by omega, by omega, ?_, by rw [show x + (y - x) = y by omega]⟩
        rw [show x + (y - x) = y by omega]
        simp only [clashB, Bool.and_eq_true, Bool.or_eq_true, decide_eq_true_eq, List.count_pos_iff, bne_iff_ne]
        exact ⟨⟨⟨ht, hx⟩, hy⟩, .inl (by omega)⟩)
      simp only at this
      omega
    rcases Nat.lt_or_ge a b with h | h
    · exact key a b ha2 hb2 h hb10 (by omega)
    · exact key b a hb2 ha2 (by omega) ha10 (by rw [tabSymm b a hb10 ha10]; omega)
theorem nodup_len : ∀ {l m : List Nat}, l.Nodup → (∀ x ∈ l, x ∈ m) → l.length ≤ m.length
  | [], m, _, _ => by simp
  | x :: l, m, hn, hs => by
    rw [List.nodup_cons] at hn
    have hx : x ∈ m := hs x (by simp)
    have := nodup_len (l := l) (m := m.erase x) hn.2 (fun y hy => by
      rw [List.mem_erase_of_ne (by rintro rfl; exact hn.1 hy)]
      exact hs y (by simp [hy]))
    rw [List.length_erase_of_mem hx] at this
    have h0 : 0 < m.length := List.length_pos_of_mem hx
    simp only [List.length_cons]
    omega
/-- Classes that are different, from 1 on, and clash pairwise. -/
def Clique (L Q : List Nat) : Prop := Q.Nodup ∧ (∀ x ∈ Q, x ∈ L ∧ 0 < x) ∧ ∀ a ∈ Q, ∀ b ∈ Q, a ≠ b → 0 < tab a b
theorem grows_clique {L Q : List Nat} (h10 : ∀ x ∈ L, x < 10) (h : Clique L Q) : Q.length ≤ (divide L).length := by
  have hm : ∀ c, c ∈ clsS (fun c => decide (c ∈ Q)) 9 ↔ c ∈ Q := fun c => by
    rw [mem_clsS]
    simp only [decide_eq_true_eq]
    constructor
    · exact fun h => h.2.2
    · intro hc; have h1 := h.2.1 c hc; have := h10 c h1.1; exact ⟨h1.2, by omega, hc⟩
  have h1 := nodup_len h.1 (fun x hx => (hm x).2 hx)
  have h2 := clique_le (fun c => decide (c ∈ Q)) (fun a ha b hb hne => h.2.2 a ((hm a).1 ha) b ((hm b).1 hb) hne)
  have h3 := len_mono (fun c => decide (0 < L.count c)) (fun c => decide (c ∈ Q)) (fun c hc => by
    simp only [decide_eq_true_eq] at hc ⊢
    exact count_pos_of_mem (h.2.1 c hc).1)
  rw [divide_eq]
  omega
/-- May a class join a clique? -/
def joins (x : Nat) (Q : List Nat) : Bool := Q.all fun d => x != d && decide (0 < tab x d)
theorem joins_take {x : Nat} {Q : List Nat} {j : Nat} (h : j < Q.length) : joins x (Q.take (j + 1)) = (joins x (Q.take j) && (x != Q.getD j 0 && decide (0 < tab x (Q.getD j 0)))) := by
  unfold joins
  rw [List.take_succ_eq_append_getElem h, List.all_append]
  simp [h]
theorem clique_add {L Q : List Nat} {x : Nat} (h10 : ∀ y ∈ L, y < 10) (h : Clique L Q) (hx : x ∈ L) (h0 : 0 < x) (hj : joins x Q = true) : Clique L (Q ++ [x]) := by
  unfold joins at hj
  rw [List.all_eq_true] at hj
  have hj' : ∀ d ∈ Q, x ≠ d ∧ 0 < tab x d := fun d hd => by have := hj d hd; simpa using this
  refine ⟨?_, ?_, ?_⟩
  · rw [List.nodup_append]
    refine ⟨h.1, by simp, fun a ha b hb => ?_⟩
    simp at hb; subst hb
    exact fun e => (hj' a ha).1 e.symm
  · intro y hy
    rcases List.mem_append.1 hy with hy | hy
    · exact h.2.1 y hy
    · simp at hy; subst hy; exact ⟨hx, h0⟩
  · intro a ha b hb hne
    rcases List.mem_append.1 ha with pa | pa <;> rcases List.mem_append.1 hb with pb | pb
    · exact h.2.2 a pa b pb hne
    · simp at pb; subst pb
      have := (hj' a pa).2
      rw [tabSymm a b (h10 _ (h.2.1 a pa).1) (h10 _ hx)]; exact this
    · simp at pa; subst pa; exact (hj' b pb).2
    · simp at pa pb; omega
def apartC (l : List (Nat × Nat × Nat)) : Nat := l.countP fun t => t.1 != t.2.1
theorem apartC_zero (l : List (Nat × Nat × Nat)) : apartC l = 0 ↔ ∀ t ∈ l, t.1 = t.2.1 := by
  unfold apartC; rw [List.countP_eq_zero]; simp
theorem apartC_take {l : List (Nat × Nat × Nat)} {k : Nat} (h : k < l.length) : apartC (l.take (k + 1)) = apartC (l.take k) + if (l.getD k (0, 0, 0)).1 != (l.getD k (0, 0, 0)).2.1 then 1 else 0 := by
  unfold apartC
  rw [List.take_succ_eq_append_getElem h, List.countP_append]
  simp [h, List.countP_cons]
theorem apartC_le (l : List (Nat × Nat × Nat)) : apartC l ≤ l.length := List.countP_le_length
end Dg
end Go.Proofs.YtcjnabbggmbfgaaDoor
