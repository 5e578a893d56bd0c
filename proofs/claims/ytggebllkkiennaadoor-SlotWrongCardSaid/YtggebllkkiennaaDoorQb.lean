/-
  Regions that draw their order, whose operations read and whose calls leave all older blocks alone: one walk in the order of the text.
-/
import Derived.BigQuiet
import Derived.Test.YtggebllkkiennaaDoorShG
namespace Go.Proofs.YtggebllkkiennaaDoor
open Go.RowKit

/-- A world behind w in which nothing older has turned. -/
structure Gr (w : World) where
  W : World
  be : Below w.heap.size w W
instance (w : World) : Nonempty (Gr w) := ⟨⟨w, Below.refl _ _⟩⟩
theorem wp_region_gr {P : Program} {id : Nat} {Q : Exit → Act → World → Prop} {a : Act} {w : World} {l : List Oper} (hm : P.follows .mixedOrders = true) (hB : Region.lexB .any l.toArray = true)
    (h : wpQuiet P l.toArray (fun w' => ∃ p : Gr w, w' = p.W) (fun a' => ∀ w', (∃ p : Gr w, w' = p.W) → Q .normal a' w') l a) : (Code.region id l.toArray true).wp P Q a w :=
  wp_region_quiet (C := fun w' => ∃ p : Gr w, w' = p.W) hm hB ⟨⟨w.drewN 1, below_drewN (Below.refl _ _) 1⟩, rfl⟩ (by simpa using h)
theorem Gr.call {P : Program} {f : FuncId} {args : Array Value} {w : World} {v : Value} (p : Gr w) (h : ∀ V : World, Below w.heap.size w V → Calls P f args V (Ret V v)) :
    Calls P f args p.W fun e w'' => e = .returned v ∧ ∃ q : Gr w, w'' = q.W :=
  (h p.W p.be).mono fun _ w' ⟨he, hb⟩ => ⟨he, ⟨w', p.be.trans (hb.mono p.be.size)⟩, rfl⟩
theorem Gr.same {P : Program} {f : FuncId} {args : Array Value} {w : World} {v : Value} (p : Gr w) (h : ∀ V : World, Below w.heap.size w V → Calls P f args V (fun e w' => e = .returned v ∧ V = w')) :
    Calls P f args p.W fun e w'' => e = .returned v ∧ ∃ q : Gr w, w'' = q.W :=
  (h p.W p.be).mono fun _ _ ⟨he, hb⟩ => ⟨he, p, hb.symm⟩
/-- A cell of an older block, in every such world. -/
theorem Gr.cell {w : World} {a : Addr} {v : Value} (h : w.cell? a = some v) : ∀ p : Gr w, p.W.cell? a = some v := fun p => (p.be.cell (block_lt_of_cell h)).trans h
/-- The same for operations in their own order: the first ones quiet, the rest from whatever world of the kind. -/
theorem wpList_quiet {P : Program} {ops : Array Oper} {C : World → Prop} {Q : Exit → Act → World → Prop} (l2 : List Oper) : ∀ (l : List Oper) (a : Act) (w : World), C w →
    wpQuiet P ops C (fun a' => ∀ w', C w' → wpList P ops Q l2 a' w') l a → wpList P ops Q (l ++ l2) a w
  | [], a, w, hw, h => h w hw
  | o :: l, a, w, hw, h => by
    unfold wpQuiet at h
    rw [List.cons_append]
    unfold wpList
    by_cases hg : Region.wanted o (yielded ops a.tmps) = true
    · rw [if_pos hg] at h ⊢
      exact .inl (Oper.wp_of_quiet hw (fun a' w' hw' h' => wpList_quiet l2 l a' w' hw' h') h)
    · rw [if_neg hg] at h ⊢
      exact wpList_quiet l2 l _ w hw h
theorem wp_region_grs {P : Program} {id : Nat} {Q : Exit → Act → World → Prop} {a : Act} {w : World} {l : List Oper}
    (h : wpQuiet P l.toArray (fun w' => ∃ p : Gr w, w' = p.W) (fun a' => ∀ w', (∃ p : Gr w, w' = p.W) → Q .normal a' w') l a) : (Code.region id l.toArray false).wp P Q a w :=
  wp_region_lit (by have := wpList_quiet (Q := Q) [] l a w ⟨⟨w, Below.refl _ _⟩, rfl⟩ h; rwa [List.append_nil] at this)
theorem wpList_grs {P : Program} {ops : Array Oper} {Q : Exit → Act → World → Prop} {a : Act} {w : World} {l : List Oper} (n : Nat)
    (h : wpQuiet P ops (fun w' => ∃ p : Gr w, w' = p.W) (fun a' => ∀ w', (∃ p : Gr w, w' = p.W) → wpList P ops Q (l.drop n) a' w') (l.take n) a) : wpList P ops Q l a w := by
  have := wpList_quiet (l.drop n) (l.take n) a w ⟨⟨w, Below.refl _ _⟩, rfl⟩ h
  rwa [List.take_append_drop] at this
end Go.Proofs.YtggebllkkiennaaDoor
