/-
  Walks of package stack: sum.
-/
import Derived.Test.YtnbpecnddjpfbaaDoorStE
namespace Go.Proofs.YtnbpecnddjpfbaaDoor
open Go.RowKit

/-- A closure on slots that reports p. -/
def SltFn (w : World) (fid : FuncId) (caps : Array Value) (p : Slt → Bool) : Prop :=
  ∀ (x : Slt) (w' : World), Below w.heap.size w w' → Calls Tryd.prog fid (#[.agg (sltL x).toArray] ++ caps) w' (Ret w' (.bool (p x)))
/-- The kilos of one that is stowed. -/
def kgOf (boxes : List Bx) (p : Slt → Bool) (x : Stw) : Int := if p x.slot then (findBx boxes x.box).1.kilos else 0
def sumF (boxes : List Bx) (l : List Stw) (p : Slt → Bool) : Int := (l.map (kgOf boxes p)).sum
/-- Kilos are no greater than a bound. -/
def KgOK (boxes : List Bx) : Prop := ∀ b ∈ boxes, -1000000000000 ≤ b.kilos ∧ b.kilos ≤ 1000000000000
theorem sum_bd2 {α : Type} (f : α → Int) (M : Int) : ∀ l : List α, (∀ x ∈ l, -M ≤ f x ∧ f x ≤ M) → -(M * l.length) ≤ (l.map f).sum ∧ (l.map f).sum ≤ M * l.length
  | [], _ => by simp
  | x :: l, h => by
    have h1 := h x (by simp)
    have h2 := sum_bd2 f M l (fun y hy => h y (by simp [hy]))
    simp only [List.map_cons, List.sum_cons, List.length_cons]
    rw [show M * ((l.length + 1 : Nat) : Int) = M * l.length + M by rw [Int.natCast_add, Int.mul_add]; simp]
    omega
theorem find_kg {boxes : List Bx} (h : KgOK boxes) (id : Int) : -1000000000000 ≤ (findBx boxes id).1.kilos ∧ (findBx boxes id).1.kilos ≤ 1000000000000 := by
  cases hq : findBx boxes id with
  | mk b ok =>
    cases ok with
    | true => exact h b (find_some hq).1
    | false =>
      unfold findBx at hq
      split at hq
      · cases hq; decide
      · cases hq
theorem kg_bd {boxes : List Bx} (h : KgOK boxes) (p : Slt → Bool) (x : Stw) : -1000000000000 ≤ kgOf boxes p x ∧ kgOf boxes p x ≤ 1000000000000 := by
  unfold kgOf
  split
  · exact find_kg h _
  · decide
end Go.Proofs.YtnbpecnddjpfbaaDoor
