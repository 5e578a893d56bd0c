/-
  Covers of a call's own, written in place.
-/
import Derived.Test.YtdhhiaheonlldaaDoorB3
namespace Go.Proofs.YtdhhiaheonlldaaDoor
open Go.RowKit

theorem i64s_set : ∀ (l : List Int) (k : Nat) (z : Int), (i64s l).set k (.int .i64 z) = i64s (l.set k z)
  | [], _, _ => rfl
  | _ :: _, 0, _ => rfl
  | x :: l, k + 1, z => by
    show .int .i64 x :: (i64s l).set k (.int .i64 z) = .int .i64 x :: i64s (l.set k z)
    rw [i64s_set l k z]
theorem CovR.bayS {w : World} {base : Nat} (b : Int) : ∀ {l : List Cov} {gs : List Nat} (i : Nat), CovR w base l gs → CovR w base (l.set i ⟨b, (l.getD i default).rows⟩) gs
  | [], [], _, h => h
  | _ :: _, _ :: _, 0, ⟨h1, h2, h3, h4⟩ => ⟨h1, h2, h3, h4⟩
  | _ :: l, _ :: gs, i + 1, ⟨h1, h2, h3, h4⟩ => ⟨h1, h2, h3, CovR.bayS b (l := l) (gs := gs) i h4⟩
  | [], _ :: _, _, h => h.elim
  | _ :: _, [], _, h => h.elim
theorem CovR.at_ {w : World} {base : Nat} : ∀ {l : List Cov} {gs : List Nat} {i : Nat}, CovR w base l gs → i < l.length → Bk w (gs.getD i 0) 3 (i64s (l.getD i default).rows).toArray ∧ base ≤ gs.getD i 0 ∧ gs.getD i 0 ∈ gs
  | _ :: _, _ :: _, 0, ⟨h1, h2, _, _⟩, _ => ⟨h1, h2, List.mem_cons_self⟩
  | _ :: l, _ :: gs, i + 1, ⟨_, _, _, h4⟩, hi => by
    have h := CovR.at_ (l := l) (gs := gs) (i := i) h4 (by simpa using hi)
    exact ⟨h.1, h.2.1, List.mem_cons_of_mem _ h.2.2⟩
  | [], _, _, _, hi => absurd hi (by simp)
  | _ :: _, [], _, h, _ => h.elim
theorem CovR.rowS {w : World} {base : Nat} (k : Nat) (z : Int) : ∀ {l : List Cov} {gs : List Nat} {i : Nat}, CovR w base l gs → i < l.length →
    CovR (w.setCell ⟨gs.getD i 0, k, none⟩ (.int .i64 z)) base (l.set i ⟨(l.getD i default).bay, (l.getD i default).rows.set k z⟩) gs
  | x :: l, g :: gs, 0, ⟨h1, h2, h3, h4⟩, _ => by
    refine ⟨?_, h2, h3, h4.keep fun g' hg' => Below.heap_setCell w _ _ g' (fun e => h3 (by rw [show (g :: gs).getD 0 0 = g from rfl] at e; rw [← show g' = g from e]; exact hg'))⟩
    have h := h1.set_ k (.int .i64 z)
    have e : (i64s x.rows).toArray.setIfInBounds k (.int .i64 z) = (i64s (x.rows.set k z)).toArray := by
      rw [← i64s_set]
      simp
    rw [e] at h
    exact h
  | _ :: l, g :: gs, i + 1, ⟨h1, h2, h3, h4⟩, hi => by
    have ha := CovR.at_ (i := i) h4 (by simpa using hi)
    exact ⟨h1.far (fun e => h3 (by rw [show g = gs.getD i 0 from e]; exact ha.2.2)) _, h2, h3, CovR.rowS k z (l := l) (gs := gs) (i := i) h4 (by simpa using hi)⟩
  | [], _, _, _, hi => absurd hi (by simp)
  | _ :: _, [], _, h, _ => h.elim
theorem covCells_bay (b : Int) : ∀ {l : List Cov} {gs : List Nat} {i : Nat}, l.length = gs.length → i < l.length → covCells (l.set i ⟨b, (l.getD i default).rows⟩) gs = (covCells l gs).set (i * 2) (.int .i64 b)
  | _ :: _, _ :: _, 0, _, _ => rfl
  | x :: l, g :: gs, i + 1, hl, hi => by
    show .int .i64 x.bay :: .slice (some ⟨g, 0, none⟩) x.rows.length x.rows.length :: covCells (l.set i ⟨b, (l.getD i default).rows⟩) gs = _
    rw [covCells_bay b (i := i) (by simpa using hl) (by simpa using hi), Nat.add_mul]
    rfl
  | [], _, _, _, hi => absurd hi (by simp)
  | _ :: _, [], _, hl, _ => by simp at hl
theorem covCells_row (k : Nat) (z : Int) : ∀ {l : List Cov} {gs : List Nat} {i : Nat}, l.length = gs.length → i < l.length → covCells (l.set i ⟨(l.getD i default).bay, (l.getD i default).rows.set k z⟩) gs = covCells l gs
  | x :: l, g :: gs, 0, _, _ => by
    show .int .i64 x.bay :: .slice (some ⟨g, 0, none⟩) (x.rows.set k z).length (x.rows.set k z).length :: covCells l gs = _
    rw [List.length_set]
    rfl
  | x :: l, g :: gs, i + 1, hl, hi => by
    show .int .i64 x.bay :: .slice (some ⟨g, 0, none⟩) x.rows.length x.rows.length :: covCells (l.set i ⟨(l.getD i default).bay, (l.getD i default).rows.set k z⟩) gs = _
    rw [covCells_row k z (i := i) (by simpa using hl) (by simpa using hi)]
    rfl
  | [], _, _, _, hi => absurd hi (by simp)
  | _ :: _, [], _, hl, _ => by simp at hl
end Go.Proofs.YtdhhiaheonlldaaDoor
