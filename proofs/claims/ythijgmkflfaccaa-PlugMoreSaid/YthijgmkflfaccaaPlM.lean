/-
  Maps whose keys are pairs of ints and whose elements are 1; the walk of plug.plugs.
-/
import Derived.Test.YthijgmkflfaccaaPlP
import Derived.Maps.OwnSet
namespace Go.Proofs.Ythijgmkflfaccaa
open Go.RowKit Go.ChangeMaps Go.MapKept
open Go.WideMaps (KeyLaw)
open Go.Maps (Keyed)

def mk2 (k : Int × Int) : Value := .agg #[.int .i64 k.1, .int .i64 k.2]
theorem key2_inj {k k' : Int × Int} (h : mk2 k = mk2 k') : k = k' := by
  unfold mk2 at h
  injection h with h
  have h1 := congrArg Array.toList h
  simp at h1
  obtain ⟨a, b⟩ := k
  obtain ⟨a', b'⟩ := k'
  simp at h1
  simp [h1]
/-- Block b is a map that holds 1 at the keys of L, and nothing else. -/
def MS (P : Program) (kt et : TypeId) (w : World) (b n : Nat) (L : List (Int × Int)) : Prop :=
  ∃ D : DataW Unit, w.ownsMap P kt (plainElem P et) b n D ∧ Maps.size D = L.length ∧
    ∀ k kl, keyOf P kt (mk2 k) = some kl → Maps.has D kl = L.contains k ∧ D.atKey kl (.lit (.int .i64 0)) = .lit (.int .i64 (if L.contains k then 1 else 0))
section
variable {P : Program} {kt et t : TypeId}
theorem MS.made (w : World) : MS P kt et (w.alloc (.map #[] 0)) w.heap.size 0 [] :=
  ⟨.map [], World.ownsMap_made w P kt _, rfl, fun k kl _ => ⟨by simp [Maps.has], by simp [DataW.atKey]⟩⟩
theorem MS.kept {w w' : World} {b n : Nat} {L : List (Int × Int)} {row : Option Nat} (h : MS P kt et w b n L) (hg : w.grownBy w' row) (hne : some b ≠ row) : MS P kt et w' b n L := by
  obtain ⟨D, h1, h2⟩ := h
  exact ⟨D, h1.kept hg hne, h2⟩
theorem MS.on {w w' : World} {b n : Nat} {L : List (Int × Int)} (h : MS P kt et w b n L) (hb : Below w.heap.size w w') : MS P kt et w' b n L :=
  h.kept (row := none) ⟨hb.os, hb.tape, hb.output, hb.size, fun i hi _ => hb.block i hi⟩ (by simp)
theorem MS.lt {w : World} {b n : Nat} {L : List (Int × Int)} (h : MS P kt et w b n L) : b < w.heap.size := by
  obtain ⟨D, h1, _⟩ := h
  exact h1.lt
theorem MS.store {w : World} {b n : Nat} {L : List (Int × Int)} (K : KeyLaw P kt) (ht : P.underlying t = some (.map kt et)) (he : P.underlying et = some (.int .i64)) (h : MS P kt et w b n L) (hn : n < maxLen) (k : Int × Int) {kl : Lit} (hkey : keyOf P kt (mk2 k) = some kl) :
    ∃ w', (Instr.mapUpdate t (.map (some b)) (mk2 k) (.int .i64 1)).run P w = .ok () w' ∧ MS P kt et w' b (n + 1) (addP k L) ∧ w.grownBy w' (some b) ∧ w'.heap.size = w.heap.size := by
  obtain ⟨D, h1, h2, h3⟩ := h
  have KK := Keyed.of_law K
  obtain ⟨w', hrun, ho, ht'⟩ := h1.store KK ht hn hkey (plainElem_int (H := Unit) he (a := 1) (by decide))
  have hsz : w'.heap.size = w.heap.size := by
    obtain ⟨es, clock, es', clock', hb, rfl⟩ := ht'
    simp [setBlock]
  refine ⟨w', hrun, ⟨_, ho, ?_, fun k' kl' hk' => ?_⟩, ht'.grown, hsz⟩
  · rw [Maps.size_put (h1.tidy KK), (h3 k kl hkey).1, h2]
    unfold addP
    split <;> simp
  · by_cases e : kl' = kl
    · subst e
      have := key2_inj (K.inj hk' hkey)
      subst this
      rw [Maps.has_put_same h1.isMap (KK.key hkey), Maps.atKey_put_same h1.isMap (KK.key hkey)]
      have hm : (addP k' L).contains k' = true := by simpa using mem_addP.2 (.inr rfl)
      rw [hm]; simp
    · have hne : k' ≠ k := by
        rintro rfl
        rw [hkey] at hk'
        injection hk' with hk'
        exact e hk'.symm
      have hc : (addP k L).contains k' = L.contains k' := by
        rw [Bool.eq_iff_iff]
        simp only [List.contains_iff_mem, mem_addP]
        exact ⟨fun h => h.resolve_right hne, .inl⟩
      rw [Maps.has_put_other e, Maps.atKey_put_other e, hc]
      exact h3 k' kl' hk'
theorem MS.look {w : World} {b n : Nat} {L : List (Int × Int)} (K : KeyLaw P kt) (ht : P.underlying t = some (.map kt et)) (he : P.underlying et = some (.int .i64)) (hz : ∀ u : World, (zeroValue et).run P u = .ok (.int .i64 0) u) (h : MS P kt et w b n L) (k : Int × Int) {kl : Lit} (hkey : keyOf P kt (mk2 k) = some kl) :
    (Instr.lookup t (.map (some b)) (mk2 k) false).run P w = .ok (.int .i64 (if L.contains k then 1 else 0)) w := by
  obtain ⟨D, h1, h2, h3⟩ := h
  obtain ⟨c, hrun, hat, _⟩ := h1.lookup_int (Keyed.of_law K) ht he (hz w) hkey
  rw [(h3 k kl hkey).2] at hat
  injection hat with e
  injection e with _ e
  rw [hrun, e]
theorem MS.len {w : World} {b n : Nat} {L : List (Int × Int)} (ht : P.underlying t = some (.map kt et)) (h : MS P kt et w b n L) (ty : TypeId) : (Builtin.len_ #[t] ty #[.map (some b)]).run P w = .ok (.int .i64 (L.length : Nat)) w := by
  obtain ⟨D, h1, h2, _⟩ := h
  rw [h1.len ht, h2]
theorem wpList_ms {w : World} {ops : Array Oper} {rest : List Oper} {o : Oper} {a : Act} {Q : Exit → Act → World → Prop} (hg : o.guard = none) (m x v : Operand) (hop : o.op = Op.mapUpdate t m x v)
    (K : KeyLaw P kt) (ht : P.underlying t = some (.map kt et)) (he : P.underlying et = some (.int .i64)) {b n : Nat} {L : List (Int × Int)} (hm : a.eval m = .map (some b)) (h : MS P kt et w b n L) (hn : n < maxLen) (k : Int × Int) {kl : Lit} (hx : a.eval x = mk2 k) (hv : a.eval v = .int .i64 1) (hkey : keyOf P kt (mk2 k) = some kl)
    (hK : ∀ w', MS P kt et w' b (n + 1) (addP k L) → w.grownBy w' (some b) → w'.heap.size = w.heap.size → wpList P ops Q rest (a.put o.dst undef) w') : wpList P ops Q (o :: rest) a w := by
  refine wpList_plain hg fun K' hK' => ?_
  obtain ⟨w', hrun, r1, r2, r3⟩ := h.store K ht he hn k hkey
  unfold Oper.wp
  simp [execOp, hop, hm, hx, hv, hrun, Result.andThen]
  exact hK' _ _ (hK w' r1 r2 r3)
end
theorem key2_law : WideMaps.KeyLaw Try.prog 84 := deep_law_laid laidOutP (m := 2) (by omega) (of_decide_eq_true (by kernel_rfl)) (by kernel_rfl) (by rw [Try.underlying84])
theorem key2_type : Try.prog.keyType 84 = true := by kernel_rfl
theorem cells2 : Try.prog.cellsOf 84 = 2 := by kernel_rfl
theorem key2 (k : Int × Int) (h1 : I64 k.1) (h2 : I64 k.2) : ∃ kl, keyOf Try.prog 84 (mk2 k) = some kl := by
  obtain ⟨m, hm⟩ := typesSz
  have w1 := wf_i64 h1.1 h1.2
  have w2 := wf_i64 h2.1 h2.2
  unfold keyOf mk2
  rw [Try.underlying84]
  have hlit : Try.prog.keyLits (Try.prog.types.size + 1) 84 (Value.agg #[.int .i64 k.1, .int .i64 k.2]).cells.toList = some [.int .i64 k.1, .int .i64 k.2] := by
    rw [hm]
    simp [Program.keyLits, Try.underlying84, Try.underlying3, cells2, cellsInt, Value.cells, List.range_succ, w1, w2]
  have hform : (Value.agg #[.int .i64 k.1, .int .i64 k.2]).formed Try.prog 84 = true := by simp [Value.formed, Try.underlying84, cells2]
  simp only [key2_type, hform, Bool.and_self, if_true, hlit, Option.map_some]
  exact ⟨_, rfl⟩
abbrev Pairs (w : World) (b n : Nat) (L : List (Int × Int)) : Prop := MS Try.prog 84 3 w b n L
theorem pairs_look {w : World} {b n : Nat} {L : List (Int × Int)} (h : Pairs w b n L) (x y : Int) (h1 : I64 x) (h2 : I64 y) :
    (Instr.lookup 82 (.map (some b)) (.agg #[.int .i64 x, .int .i64 y]) false).run Try.prog w = .ok (.int .i64 (if L.contains (x, y) then 1 else 0)) w := by
  obtain ⟨kl, hk⟩ := key2 (x, y) h1 h2
  exact MS.look key2_law Try.underlying82 Try.underlying3 zeroInt h (x, y) hk
end Go.Proofs.Ythijgmkflfaccaa
