/-
  Names met, counted in a map of strings: each once (for SlotBack).
-/
import Derived.Test.YtdhhiaheonlldaaDoorSbL
import Derived.StringKeys
import Derived.Maps.OwnSet
namespace Go.Proofs.YtdhhiaheonlldaaDoor
open Go.RowKit Go.ChangeMaps Go.MapKept
open Go.WideElems (Fit rd rg elemAt entry_then_store)
open Go.WideMaps (KeyLaw string_law keyOf_string_mk)
open Go.Maps (Keyed)
section
variable {P : Program} {kt et t : TypeId}
/-- Block b holds 1 for each name of L, and nothing else. -/
def MetS (P : Program) (kt et : TypeId) (w : World) (b n : Nat) (L : List ByteArray) : Prop :=
  ∃ D : DataW Unit, w.ownsMap P kt (plainElem P et) b n D ∧ (∀ k kl, keyOf P kt (.string k) = some kl → k ∉ L → D.atKey kl (.lit (.int .i64 0)) = .lit (.int .i64 0)) ∧
    (∀ k ∈ L, ∃ kl, keyOf P kt (.string k) = some kl ∧ D.atKey kl (.lit (.int .i64 0)) = .lit (.int .i64 1) ∧ Maps.has D kl = true)
theorem MetS.made (w : World) : MetS P kt et (w.alloc (.map #[] 0)) w.heap.size 0 [] :=
  ⟨.map [], World.ownsMap_made w P kt _, fun k kl _ _ => by simp [DataW.atKey], by simp⟩
theorem MetS.kept {w w' : World} {b n : Nat} {L : List ByteArray} {row : Option Nat} (h : MetS P kt et w b n L) (hg : w.grownBy w' row) (hne : some b ≠ row) : MetS P kt et w' b n L := by
  obtain ⟨D, h1, h2⟩ := h
  exact ⟨D, h1.kept hg hne, h2⟩
theorem MetS.below {w w' : World} {b n B : Nat} {L : List ByteArray} (h : MetS P kt et w b n L) (hb : Below B w w') (hB : w.heap.size ≤ B) : MetS P kt et w' b n L :=
  h.kept (row := none) ⟨hb.os, hb.tape, hb.output, hb.size, fun i hi _ => hb.block i (by omega)⟩ (by simp)
theorem MetS.lt {w : World} {b n : Nat} {L : List ByteArray} (h : MetS P kt et w b n L) : b < w.heap.size := by
  obtain ⟨D, h1, _⟩ := h
  exact h1.lt
/-- 'met[name]++' for a name that is new. -/
theorem MetS.inc {w : World} {b n : Nat} {L : List ByteArray} (hk : P.underlying kt = some .string) (ht : P.underlying t = some (.map kt et)) (he : P.underlying et = some (.int .i64)) (hz : ∀ u : World, (zeroValue et).run P u = .ok (.int .i64 0) u)
    (h : MetS P kt et w b n L) (hn : n + 1 < maxLen) (k : ByteArray) (hks : k.size ≤ maxLen) (hnew : k ∉ L) :
    ∃ w2 : World, (Instr.lookup t (.map (some b)) (.string k) false).run P w = .ok (.int .i64 0) w ∧ (Instr.mapUpdate t (.map (some b)) (.string k) (.int .i64 1)).run P w = .ok () w2 ∧ MetS P kt et w2 b (n + 1) (L ++ [k]) ∧ w.grownBy w2 (some b) := by
  obtain ⟨D, h1, h2, h3⟩ := h
  have K := string_law hk
  have hkey := keyOf_string_mk hk hks
  have KK := Keyed.of_law K
  obtain ⟨c, hl, hat, _⟩ := h1.lookup_int KK ht he (hz w) hkey
  rw [h2 k _ hkey hnew] at hat
  injection hat with e
  injection e with _ e
  subst e
  obtain ⟨w2, s1, s2, ht'⟩ := h1.store KK ht (by omega) hkey (plainElem_int (H := Unit) he (a := 1) (by decide))
  refine ⟨w2, hl, s1, ⟨_, s2, fun k' kl' hk' hn' => ?_, fun k' hk' => ?_⟩, ht'.grown⟩
  · have e : kl' ≠ .string k.data.toList := fun e => by
      subst e
      have := K.inj hk' hkey
      injection this with this
      exact hn' (by simp [this])
    rw [Maps.atKey_put_other e]
    exact h2 k' kl' hk' (fun hm => hn' (by simp [hm]))
  · rcases List.mem_append.1 hk' with hk' | hk'
    · obtain ⟨kl', e1, e2, e3⟩ := h3 k' hk'
      have e : kl' ≠ .string k.data.toList := fun e => by
        subst e
        have := K.inj e1 hkey
        injection this with this
        exact hnew (this ▸ hk')
      refine ⟨kl', e1, ?_, ?_⟩
      · rw [Maps.atKey_put_other e]; exact e2
      · rw [Maps.has_put_other e]; exact e3
    · simp at hk'
      subst hk'
      refine ⟨_, hkey, ?_, Maps.has_put_same h1.isMap (KK.key hkey) _⟩
      rw [Maps.atKey_put_same h1.isMap (KK.key hkey)]
theorem MetS.look {w : World} {b n : Nat} {L : List ByteArray} (hk : P.underlying kt = some .string) (ht : P.underlying t = some (.map kt et)) (he : P.underlying et = some (.int .i64)) (hz : ∀ u : World, (zeroValue et).run P u = .ok (.int .i64 0) u)
    (h : MetS P kt et w b n L) (k : ByteArray) (hks : k.size ≤ maxLen) (hin : k ∈ L) : (Instr.lookup t (.map (some b)) (.string k) false).run P w = .ok (.int .i64 1) w := by
  obtain ⟨D, h1, h2, h3⟩ := h
  have K := string_law hk
  have hkey := keyOf_string_mk hk hks
  obtain ⟨kl, e1, e2, _⟩ := h3 k hin
  rw [hkey] at e1
  injection e1 with e1
  subst e1
  obtain ⟨c, hl, hat, _⟩ := h1.lookup_int (Keyed.of_law K) ht he (hz w) hkey
  rw [hat] at e2
  injection e2 with e
  injection e with _ e
  rw [hl, e]
theorem size_pos {D : DataW Unit} {kl : Lit} (h : Maps.has D kl = true) : 0 < Maps.size D := by
  cases D with
  | map es =>
    rw [Maps.has_eq] at h
    rw [Maps.size_eq]
    cases es with
    | nil => simp at h
    | cons x es => simp
  | _ => simp [Maps.has] at h
theorem MetS.len {w : World} {b n : Nat} {L : List ByteArray} (ht : P.underlying t = some (.map kt et)) (h : MetS P kt et w b n L) (hL : 0 < L.length) (ty : TypeId) : ∃ m : Nat, 0 < m ∧ (Builtin.len_ #[t] ty #[.map (some b)]).run P w = .ok (.int .i64 m) w := by
  obtain ⟨D, h1, h2, h3⟩ := h
  obtain ⟨kl, _, _, e⟩ := h3 (L[0]) (List.getElem_mem hL)
  exact ⟨Maps.size D, size_pos e, h1.len ht ty⟩
end
end Go.Proofs.YtdhhiaheonlldaaDoor
