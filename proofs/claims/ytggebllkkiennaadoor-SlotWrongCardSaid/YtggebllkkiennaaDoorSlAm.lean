/-
  A map literal's entries laid one by one; what the map of SlotAll holds.
-/
import Derived.Test.YtggebllkkiennaaDoorSlAp
import Derived.Test.YtggebllkkiennaaDoorMapC
import Derived.Maps.RangeWalk
import Derived.Maps.Views
namespace Go.Proofs.YtggebllkkiennaaDoor
open Go.RowKit Go.Maps

theorem wpList_insert_own {H : Type} {P : Program} (w : World) {ops : Array Oper} {rest : List Oper} {o : Oper} {a : Act} {Q : Exit → Act → World → Prop}
    (hg : o.guard = none) (m x v : Operand) (t : TypeId) (hop : o.op = Op.insert t m x v)
    (k e : TypeId) (K : Keyed P k) (ht : P.underlying t = some (.map k e)) (R : Value → Option (DataW H × List MemPlace)) (b n : Nat) (D : DataW H)
    (hm : a.eval m = .map (some b)) (hown : w.ownsMap P k R b n D) (hn : n < maxLen) (key val : Value) (kl : Lit) (hx : a.eval x = key) (hv : a.eval v = val) (hkey : keyOf P k key = some kl)
    (d : DataW H) (ps : List MemPlace) (hval : R val = some (d, ps))
    (hK : ∀ w', w'.ownsMap P k R b (n + 1) (D.put kl d) → w.grownBy w' (some b) → wpList P ops Q rest (a.put o.dst undef) w') :
    wpList P ops Q (o :: rest) a w := by
  refine wpList_plain hg fun K' hK' => ?_
  obtain ⟨w', hrun, r1, r2⟩ := hown.update K ht hn hkey hval
  unfold Oper.wp
  simp [execOp, hop, hm, hx, hv, hrun, Result.andThen]
  exact hK' _ _ (hK w' r1 r2)
def D4 (a b : Int) : DataW Unit := ((((DataW.map []).put (.int .u8 20) (.lit (.int .i64 a))).put (.int .u8 40) (.lit (.int .i64 b))).put (.int .u8 0) (.lit (.int .i64 0))).put (.int .u8 45) (.lit (.int .i64 0))
theorem lit_ne {x y : Int} (h : x ≠ y) : (Lit.int .u8 x) ≠ Lit.int .u8 y := by intro e; injection e; contradiction
theorem D4_at {a b x c : Int} (h : ∀ zd, (D4 a b).atKey (.int .u8 x) zd = .lit (.int .i64 c)) : (x = 20 ∧ c = a) ∨ (x = 40 ∧ c = b) ∨ (x = 0 ∧ c = 0) ∨ (x = 45 ∧ c = 0) := by
  have hp0 : IsMap (DataW.map [] : DataW Unit) := isMap_empty
  have hp1 := hp0.put (.int .u8 20) (.lit (.int .i64 a))
  have hp2 := hp1.put (.int .u8 40) (.lit (.int .i64 b))
  have hp3 := hp2.put (.int .u8 0) (.lit (.int .i64 0))
  have ik : ∀ z : Int, WideAt.IsKeyLit (.int .u8 z) := fun z => by simp [WideAt.IsKeyLit]
  unfold D4 at h
  by_cases h4 : x = 45
  · subst h4
    have := h .nil
    rw [atKey_put_same hp3 (ik _)] at this
    injection this with this; injection this with _ this
    exact .inr (.inr (.inr ⟨rfl, this.symm⟩))
  · by_cases h3 : x = 0
    · subst h3
      have := h .nil
      rw [atKey_put_other (lit_ne h4), atKey_put_same hp2 (ik _)] at this
      injection this with this; injection this with _ this
      exact .inr (.inr (.inl ⟨rfl, this.symm⟩))
    · by_cases h2 : x = 40
      · subst h2
        have := h .nil
        rw [atKey_put_other (lit_ne h4), atKey_put_other (lit_ne h3), atKey_put_same hp1 (ik _)] at this
        injection this with this; injection this with _ this
        exact .inr (.inl ⟨rfl, this.symm⟩)
      · by_cases h1 : x = 20
        · subst h1
          have := h .nil
          rw [atKey_put_other (lit_ne h4), atKey_put_other (lit_ne h3), atKey_put_other (lit_ne h2), atKey_put_same hp0 (ik _)] at this
          injection this with this; injection this with _ this
          exact .inl ⟨rfl, this.symm⟩
        · exfalso
          have e := h .nil
          rw [atKey_put_other (lit_ne h4), atKey_put_other (lit_ne h3), atKey_put_other (lit_ne h2), atKey_put_other (lit_ne h1)] at e
          simp [DataW.atKey] at e
/-- What the loop over the map meets: a size, and how many slots there are of it. -/
theorem D4_size {s : Shp} (hp : ∀ c, c < s.cols.length → 0 ≤ (s.cols.getD c default).tiers) {x c : Int} (h : ∀ zd, (D4 (2 * tiersTo s.cols s.cols.length) (tiersTo s.cols s.cols.length)).atKey (.int .u8 x) zd = .lit (.int .i64 c)) :
    ∃ size : Nat, x = (size : Int) ∧ size < 256 ∧ c = ((allF s size).length : Int) := by
  rcases D4_at h with ⟨rfl, rfl⟩ | ⟨rfl, rfl⟩ | ⟨rfl, rfl⟩ | ⟨rfl, rfl⟩
  · exact ⟨20, rfl, by omega, by rw [all_len hp]; simp [halvesL]⟩
  · exact ⟨40, rfl, by omega, by rw [all_len hp]; simp [halvesL]⟩
  · exact ⟨0, rfl, by omega, by rw [all_len hp]; simp [halvesL]⟩
  · exact ⟨45, rfl, by omega, by rw [all_len hp]; simp [halvesL]⟩
theorem below_grown {w w' : World} (h : Below w.heap.size w w') : w.grownBy w' none := ⟨h.os, h.tape, h.output, h.size, fun i hi _ => h.block i hi⟩
theorem tiersTo_bd {l : List Col} (hl : ∀ c, c < l.length → 2 ≤ (l.getD c default).tiers ∧ (l.getD c default).tiers ≤ 5) : ∀ k, k ≤ l.length → 0 ≤ tiersTo l k ∧ tiersTo l k ≤ 5 * k
  | 0, _ => by simp [tiersTo]
  | k + 1, h => by
    have := tiersTo_bd hl k (by omega)
    have := hl k (by omega)
    unfold tiersTo
    push_cast
    omega
end Go.Proofs.YtggebllkkiennaaDoor
