/-
  The plain mathematics of chapter 13 (danger): the table, counts, groups. No program in sight.
-/
namespace Go.Proofs.YtmhikcleekfbpaaDoor
namespace Dg
def tabL : List (List Nat) := [[0,0,0,0,0,0,0,0,0,0],[0,0,3,3,3,3,2,2,2,0],[0,3,0,2,1,2,0,1,1,0],[0,3,2,0,1,2,0,2,1,0],[0,3,1,1,0,3,0,1,1,0],[0,3,2,2,3,1,1,1,2,0],[0,2,0,0,0,1,0,1,1,0],[0,2,1,2,1,1,1,0,2,0],[0,2,1,1,1,2,1,2,0,0],[0,0,0,0,0,0,0,0,0,0]]
def tab (a b : Nat) : Nat := (tabL.getD a []).getD b 0
theorem tab_le : ∀ a b, a < 10 → b < 10 → tab a b ≤ 3 := by
  intro a b ha hb
  have h : ∀ a : Fin 10, ∀ b : Fin 10, tab a b ≤ 3 := by decide
  exact h ⟨a, ha⟩ ⟨b, hb⟩
/-- What 'counted' has counted: of a list that is too long nothing, else the classes ahead of the first that there is not. -/
def pre (l : List Nat) : List Nat := if l.length > 1000 then [] else l.takeWhile (· ≤ 9)
def err (l : List Nat) : Int := if l.length > 1000 then 5 else if l.all (· ≤ 9) then 0 else 130
theorem pre_stop {l : List Nat} {k x : Nat} (hn : l.length ≤ 1000) (hk : k < l.length) (hp : ∀ y ∈ l.take k, y ≤ 9) (hx : l.getD k 0 = x) (h9 : 9 < x) : pre l = l.take k ∧ err l = 130 := by
  have e : l = l.take k ++ x :: l.drop (k + 1) := by
    have hxk : l[k] = x := by simpa [hk] using hx
    rw [← hxk, ← List.drop_eq_getElem_cons hk, List.take_append_drop]
  have hl : ¬ l.length > 1000 := by omega
  constructor
  · unfold pre; rw [if_neg hl]
    conv => lhs; rw [e]
    rw [List.takeWhile_append_of_pos (by simpa using hp)]
    simp [show ¬ x ≤ 9 by omega]
  · unfold err; rw [if_neg hl, if_neg]
    intro h
    rw [List.all_eq_true] at h
    have := h x (by rw [e]; simp)
    simp at this; omega
theorem pre_all {l : List Nat} (hn : l.length ≤ 1000) (hp : ∀ y ∈ l, y ≤ 9) : pre l = l ∧ err l = 0 := by
  have hl : ¬ l.length > 1000 := by omega
  have ha : l.all (· ≤ 9) = true := by simpa [List.all_eq_true] using hp
  constructor
  · unfold pre; rw [if_neg hl]
    have := List.takeWhile_append_of_pos (p := fun x : Nat => decide (x ≤ 9)) (l₁ := l) (l₂ := []) (by simpa using hp)
    simpa using this
  · unfold err; rw [if_neg hl, if_pos ha]
theorem pre_long {l : List Nat} (hn : 1000 < l.length) : pre l = [] ∧ err l = 5 := by
  constructor
  · unfold pre; rw [if_pos hn]
  · unfold err; rw [if_pos hn]
theorem pre_le (l : List Nat) : (pre l).length ≤ 1000 ∧ ∀ x ∈ pre l, x < 10 := by
  unfold pre
  split
  · simp
  · constructor
    · have := (List.takeWhile_sublist (p := fun x : Nat => decide (x ≤ 9)) (l := l)).length_le
      omega
    · intro x hx
      have : ∀ (l : List Nat), x ∈ l.takeWhile (fun x : Nat => decide (x ≤ 9)) → x ≤ 9 := by
        intro l
        induction l with
        | nil => simp
        | cons a l ih =>
          rw [List.takeWhile_cons]
          split
          · intro h
            rcases List.mem_cons.1 h with h | h
            · subst h; exact of_decide_eq_true (by assumption)
            · exact ih h
          · simp
      have := this l hx
      omega
theorem err_ok {l : List Nat} (h : err l = 0) : l.length ≤ 1000 ∧ ∀ x ∈ l, x ≤ 9 := by
  unfold err at h
  split at h
  · omega
  · split at h
    · rename_i h1 h2; exact ⟨by omega, by simpa [List.all_eq_true] using h2⟩
    · omega
def fits (g : List Nat) (c : Nat) : Bool := g.all fun x => tab x c == 0
/-- The strictest code of a class with those that are counted, up to class k. -/
def strictTo (cls : Nat) (p : List Nat) : Nat → Nat
  | 0 => 0
  | k + 1 => if 0 < p.count k then max (strictTo cls p k) (tab cls k) else strictTo cls p k
theorem strictTo_le (cls : Nat) (p : List Nat) (hc : cls < 10) : ∀ k, k ≤ 10 → strictTo cls p k ≤ 3
  | 0, _ => by simp [strictTo]
  | k + 1, h => by
    have := strictTo_le cls p hc k (by omega)
    have := tab_le cls k hc (by omega)
    unfold strictTo; split <;> omega
def clashB (p : List Nat) (a b : Nat) : Bool := decide (0 < tab a b) && decide (0 < p.count a) && decide (0 < p.count b) && (a != b || decide (1 < p.count a))
def cl1 (p : List Nat) (a b : Nat) : List (Nat × Nat × Nat) := if clashB p a b then [(a, b, tab a b)] else []
def clRow (p : List Nat) (a : Nat) : Nat → List (Nat × Nat × Nat)
  | 0 => []
  | k + 1 => clRow p a k ++ cl1 p a (a + k)
def clTo (p : List Nat) : Nat → List (Nat × Nat × Nat)
  | 0 => []
  | a + 1 => clTo p a ++ clRow p a (10 - a)
def clashes (p : List Nat) : List (Nat × Nat × Nat) := clTo p 10
theorem cl1_len (p : List Nat) (a b : Nat) : (cl1 p a b).length ≤ 1 := by unfold cl1; split <;> simp
theorem clRow_len (p : List Nat) (a : Nat) : ∀ k, (clRow p a k).length ≤ k
  | 0 => by simp [clRow]
  | k + 1 => by have := clRow_len p a k; have := cl1_len p a (a + k); simp [clRow]; omega
theorem clTo_len (p : List Nat) : ∀ a, (clTo p a).length ≤ 10 * a
  | 0 => by simp [clTo]
  | a + 1 => by have := clTo_len p a; have := clRow_len p a (10 - a); simp [clTo]; omega
/-- What Strictest, Clashes give: code and error. -/
def strictest (cls : Nat) (l : List Nat) : Nat × Int := if err l ≠ 0 then (0, err l) else if 9 < cls then (0, 130) else (strictTo cls (pre l) 10, 0)
/-- The search of Divide: the classes that are left, how many groups are used, the groups so far. -/
def tryF (most : Nat) : List Nat → Nat → List (List Nat) → Option (List (List Nat))
  | [], _, G => some G
  | c :: cs, used, G => (List.range (min (used + 1) most)).findSome? fun g =>
      if fits (G.getD g []) c then tryF most cs (max used (g + 1)) (G.set g (G.getD g [] ++ [c])) else none
theorem findSome_hit {α : Type} {f : Nat → Option α} {K g : Nat} {r : α} (hg : g < K) (hn : (List.range g).findSome? f = none) (hf : f g = some r) : (List.range K).findSome? f = some r := by
  obtain ⟨d, rfl⟩ : ∃ d, K = g + (1 + d) := ⟨K - g - 1, by omega⟩
  rw [List.range_add, List.findSome?_append, hn, List.range_add]
  simp [hf]
theorem findSome_miss {α : Type} {f : Nat → Option α} {g : Nat} (hn : (List.range g).findSome? f = none) (hf : f g = none) : (List.range (g + 1)).findSome? f = none := by
  rw [List.range_succ, List.findSome?_append, hn]; simp [hf]
end Dg
end Go.Proofs.YtmhikcleekfbpaaDoor
