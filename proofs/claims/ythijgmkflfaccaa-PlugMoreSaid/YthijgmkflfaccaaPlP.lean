/-
  What package plug computes, in plain Lean.
-/
import Derived.Test.YthijgmkflfaccaaStQ
namespace Go.Proofs.Ythijgmkflfaccaa
open Go.RowKit

def addP (k : Int × Int) (L : List (Int × Int)) : List (Int × Int) := if L.contains k then L else L ++ [k]
/-- One plug of a column is read. -/
def stepP (i : Nat) (T : Int) (L : List (Int × Int)) (p : Int) : List (Int × Int) := if 0 ≤ p ∧ p < T then addP ((i : Int), p) L else L
def colP (i : Nat) (T : Int) (ps : List Int) (L : List (Int × Int)) : List (Int × Int) := ps.foldl (stepP i T) L
def pairsTo (cols : List Col) : Nat → List (Int × Int)
  | 0 => []
  | n + 1 => colP n (cols.getD n default).tiers (cols.getD n default).plugs (pairsTo cols n)
/-- The pairs of a column and a tier that have a plug, each once. -/
def pairsF (s : Shp) : List (Int × Int) := pairsTo s.cols s.cols.length
theorem mem_addP {k x : Int × Int} {L : List (Int × Int)} : x ∈ addP k L ↔ x ∈ L ∨ x = k := by
  unfold addP
  split
  · rename_i h
    refine ⟨.inl, ?_⟩
    rintro (h' | rfl)
    · exact h'
    · simpa using h
  · simp
theorem nodup_addP {k : Int × Int} {L : List (Int × Int)} (h : L.Nodup) : (addP k L).Nodup := by
  unfold addP
  split
  · exact h
  · rename_i h'
    rw [List.nodup_append]
    refine ⟨h, by simp, fun a ha b hb => ?_⟩
    obtain rfl : b = k := by simpa using hb
    rintro rfl
    exact h' (by simpa using ha)
theorem mem_colP {i : Nat} {T : Int} {x : Int × Int} : ∀ {ps : List Int} {L : List (Int × Int)}, x ∈ colP i T ps L ↔ x ∈ L ∨ (x.1 = (i : Int) ∧ 0 ≤ x.2 ∧ x.2 < T ∧ x.2 ∈ ps)
  | [], L => by simp [colP]
  | p :: ps, L => by
    have ih := mem_colP (i := i) (T := T) (x := x) (ps := ps) (L := stepP i T L p)
    show x ∈ colP i T ps (stepP i T L p) ↔ _
    rw [ih]
    unfold stepP
    split
    · rename_i h
      rw [mem_addP]
      obtain ⟨x1, x2⟩ := x
      simp only [List.mem_cons, Prod.mk.injEq]
      constructor
      · rintro ((h1 | ⟨rfl, rfl⟩) | ⟨h1, h2, h3, h4⟩)
        · exact .inl h1
        · exact .inr ⟨rfl, h.1, h.2, .inl rfl⟩
        · exact .inr ⟨h1, h2, h3, .inr h4⟩
      · rintro (h1 | ⟨h1, h2, h3, rfl | h4⟩)
        · exact .inl (.inl h1)
        · exact .inl (.inr ⟨h1, rfl⟩)
        · exact .inr ⟨h1, h2, h3, h4⟩
    · rename_i h
      simp only [List.mem_cons]
      constructor
      · rintro (h1 | ⟨h1, h2, h3, h4⟩)
        · exact .inl h1
        · exact .inr ⟨h1, h2, h3, .inr h4⟩
      · rintro (h1 | ⟨h1, h2, h3, rfl | h4⟩)
        · exact .inl h1
        · exact absurd ⟨h2, h3⟩ h
        · exact .inr ⟨h1, h2, h3, h4⟩
theorem nodup_colP {i : Nat} {T : Int} : ∀ {ps : List Int} {L : List (Int × Int)}, L.Nodup → (colP i T ps L).Nodup
  | [], _, h => h
  | p :: ps, L, h => by
    show (colP i T ps (stepP i T L p)).Nodup
    refine nodup_colP ?_
    unfold stepP
    split
    · exact nodup_addP h
    · exact h
theorem mem_pairsTo {cols : List Col} {x : Int × Int} : ∀ {n : Nat}, x ∈ pairsTo cols n ↔ ∃ c, c < n ∧ x.1 = (c : Int) ∧ 0 ≤ x.2 ∧ x.2 < (cols.getD c default).tiers ∧ x.2 ∈ (cols.getD c default).plugs
  | 0 => by simp [pairsTo]
  | n + 1 => by
    show x ∈ colP n _ _ (pairsTo cols n) ↔ _
    rw [mem_colP, mem_pairsTo (n := n)]
    constructor
    · rintro (⟨c, h1, h2⟩ | ⟨h1, h2⟩)
      · exact ⟨c, by omega, h2⟩
      · exact ⟨n, by omega, h1, h2⟩
    · rintro ⟨c, h1, h2, h3⟩
      by_cases e : c = n
      · subst e; exact .inr ⟨h2, h3⟩
      · exact .inl ⟨c, by omega, h2, h3⟩
theorem nodup_pairsTo (cols : List Col) : ∀ n, (pairsTo cols n).Nodup
  | 0 => List.nodup_nil
  | n + 1 => nodup_colP (nodup_pairsTo cols n)
theorem nodup_pairs (s : Shp) : (pairsF s).Nodup := nodup_pairsTo _ _
/-- A tier of a column has a plug. -/
def pluggedB (s : Shp) (c t : Int) : Bool := (pairsF s).contains (c, t)
theorem plugged_iff {s : Shp} {c t : Int} : pluggedB s c t = true ↔ ∃ k, k < s.cols.length ∧ c = (k : Int) ∧ 0 ≤ t ∧ t < (s.cols.getD k default).tiers ∧ t ∈ (s.cols.getD k default).plugs := by
  unfold pluggedB
  rw [List.contains_iff_mem]
  exact mem_pairsTo
def atF (s : Shp) (x : Slt) : Bool := (slotRight s x 20 || slotRight s x 40) && pluggedB s x.col x.tier
def coldB (bs : List Bx) (x : Stw) : Bool := (findBx bs x.box).1.reefer
/-- A reefer without current. -/
def unfedB (s : Shp) (x : Stw) : Bool := !pluggedB s x.slot.col x.slot.tier
def pfF (s : Shp) (bs : List Bx) (st : List Stw) : List Int := ((st.filter (coldB bs)).filter (unfedB s)).map (·.box)
def coldF (bs : List Bx) (st : List Stw) : List Bx := (st.filter (coldB bs)).map fun x => (findBx bs x.box).1
def spareP (s : Shp) (st : List Stw) (x : Slt) : Bool := pluggedB s x.col x.tier && !(st.any fun y => meetB x y.slot)
def spareF (s : Shp) (st : List Stw) (size : Nat) : List Slt := (allF s size).filter (spareP s st)
def supF (s : Shp) : Nat := (pairsF s).length
def reefB (size : Nat) (b : Bx) : Bool := b.reefer && b.size == size
def demF (bs : List Bx) : Int := (((bs.filter (reefB 40)).length : Nat) : Int) + ((((bs.filter (reefB 20)).length : Nat) : Int) + 1) / 2
theorem filter_take {α : Type} (p : α → Bool) (l : List α) {k : Nat} (h : k < l.length) (d : α) : (l.take (k + 1)).filter p = (l.take k).filter p ++ if p (l.getD k d) then [l.getD k d] else [] := by
  rw [List.take_succ_eq_append_getElem h, List.filter_append]
  congr 1
  rw [show l[k] = l.getD k d by simp [h]]
  simp only [List.filter_cons, List.filter_nil]
theorem filter_take_len {α : Type} (p : α → Bool) (l : List α) (k : Nat) : ((l.take k).filter p).length ≤ l.length := by
  have h1 := List.length_filter_le p (l.take k)
  have h2 := List.length_take_le k l
  simp at h2
  have h3 : (l.take k).length ≤ l.length := by simp; omega
  omega
end Go.Proofs.Ythijgmkflfaccaa
