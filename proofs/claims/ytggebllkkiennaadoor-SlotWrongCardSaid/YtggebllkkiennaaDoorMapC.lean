/-
  Maps that count: a key of three ints, an int to each. No program in sight.
-/
import Derived.Test.YtggebllkkiennaaDoorRep
import Derived.WideKeyEntry
import Derived.Maps.RangeWalk
import Derived.Maps.Views
namespace Go.Proofs.YtggebllkkiennaaDoor
open Go.RowKit Go.ChangeMaps Go.MapKept
open Go.WideElems (Fit rd rg elemAt entry_then_store)
open Go.WideMaps (KeyLaw)
open Go.Maps (Keyed)

theorem setBlock_twice (w : World) (b : Nat) (o o' : Obj) : setBlock (setBlock w b o) b o' = setBlock w b o' := by
  unfold setBlock
  simp

theorem ok_world {α : Type} {a b : α} {w w' : World} (h : Result.ok a w = Result.ok b w') : w = w' := by injection h
theorem ok_val {α : Type} {a b : α} {w w' : World} (h : Result.ok a w = Result.ok b w') : a = b := by injection h
theorem wf_i64 {x : Int} (h1 : -9223372036854775808 ≤ x) (h2 : x ≤ 9223372036854775807) : (Lit.int .i64 x).wf = true := by
  simp [Lit.wf, IntKind.min, IntKind.max, IntKind.bits, IntKind.signed]; omega
section
variable {P : Program} {kt et t : TypeId}
theorem isMap_owns {w : World} {b n : Nat} {D : DataW Unit} {R : Value → Option (DataW Unit × List MemPlace)} (h : w.ownsMap P kt R b n D) : Maps.IsMap D := by
  obtain ⟨es, clock, _, _, _, rfl⟩ := h
  exact ⟨_, rfl⟩
/-- 'm[k]++', as the model has it: the reading, the entry, the store. -/
theorem inc_step {w : World} {b n : Nat} {D : DataW Unit} (K : KeyLaw P kt) (ht : P.underlying t = some (.map kt et)) (he : P.underlying et = some (.int .i64)) (hz : ∀ u : World, (zeroValue et).run P u = .ok (.int .i64 0) u)
    (h : w.ownsMap P kt (plainElem P et) b n D) (hn : n + 1 < maxLen) {key : Value} {kl : Lit} (hkey : keyOf P kt key = some kl) :
    ∃ (c : Int) (v0 : Value) (st : Nat) (w1 : World), (Instr.lookup t (.map (some b)) key false).run P w = .ok (.int .i64 c) w ∧ D.atKey kl (.lit (.int .i64 0)) = .lit (.int .i64 c) ∧
      (Instr.mapEntry t (.map (some b)) key).run P w = .ok (.tuple #[v0, goInt st]) w1 ∧ (Instr.lookup t (.map (some b)) key false).run P w1 = .ok (.int .i64 c) w1 ∧ w.grownBy w1 (some b) ∧ w1.heap.size = w.heap.size ∧
      ((Lit.int .i64 (c + 1)).wf = true → ∃ w2, (Instr.entryStore t (.map (some b)) (goInt st) (.int .i64 (c + 1))).run P w1 = .ok () w2 ∧ w2.ownsMap P kt (plainElem P et) b (n + 1) (D.put kl (.lit (.int .i64 (c + 1)))) ∧ w.grownBy w2 (some b) ∧ w2.heap.size = w.heap.size) := by
  have KK := Keyed.of_law K
  obtain ⟨c, hl, hat, hwc⟩ := h.lookup_int KK ht he (hz w) hkey
  have h' := h
  obtain ⟨es, clock, hb, F, hs, hD⟩ := h'
  obtain ⟨v0, st, es1, clock1, hme, hcase, hes⟩ := entry_then_store (R := plainElem (H := Unit) P et) K ht hz hb F hkey
  have hw1b : (setBlock w b (.map es1 clock1)).heap[b]? = some (.map es1 clock1) := heap_setBlock_same hb _
  have hgr : ∀ o, w.grownBy (setBlock w b o) (some b) := fun o => ⟨rfl, rfl, rfl, by simp [setBlock], fun i _ hi => heap_setBlock_other hb _ (fun e => hi (by rw [e]))⟩
  -- the map with the entry reads as before
  have hlook : (Instr.lookup t (.map (some b)) key false).run P (setBlock w b (.map es1 clock1)) = .ok (.int .i64 c) (setBlock w b (.map es1 clock1)) := by
    obtain ⟨w0, hup, hown0, _⟩ := h.update KK ht (by omega) hkey (plainElem_int (H := Unit) he (a := 0) (by decide))
    rcases K.find w hkey es.toList F.keys with ⟨f1, f2⟩ | ⟨j, e0, f1, f2, f3⟩
    · have e1 : (Instr.mapEntry t (.map (some b)) key).run P w = .ok (.tuple #[.int .i64 0, goInt clock]) (setBlock w b (.map (es.push ⟨key, .int .i64 0, clock⟩) (clock + 1))) := by
        simp [Instr.mapEntry, run_underlying ht, MapKept.run_getObj_map hb, K.check w false hkey, f1, hz, MapKept.run_setObj_map _ hb, Result.andThen, setBlock]
      have e2 : (Instr.mapUpdate t (.map (some b)) key (.int .i64 0)).run P w = .ok () (setBlock w b (.map (es.push ⟨key, .int .i64 0, clock⟩) (clock + 1))) := by
        simp [Instr.mapUpdate, run_underlying ht, MapKept.run_getObj_map hb, K.check w false hkey, f1, MapKept.run_setObj_map _ hb, Result.andThen, setBlock]
      rw [e1] at hme
      have e3 := ok_world hme
      rw [hup] at e2
      have e4 := ok_world e2
      rw [← e3, ← e4]
      obtain ⟨c', hl', hat', _⟩ := hown0.lookup_int KK ht he (hz w0) hkey
      rw [hl']
      have hc0 : c = 0 := by
        have hzero : (Instr.lookup t (.map (some b)) key false).run P w = .ok (.int .i64 0) w := by
          rcases Maps.fit_look false KK ht (hz w) hb F hkey with ⟨hrun, _, _⟩ | ⟨e0, y, hm, hk0, _⟩
          · exact hrun
          · exact absurd hk0 (f2 e0 hm)
        rw [hl] at hzero
        have e5 := ok_val hzero
        injection e5
      rw [Maps.atKey_put_same (isMap_owns h) (KK.key hkey)] at hat'
      injection hat' with e6
      injection e6 with _ e7
      rw [hc0, e7]
    · have e1 : (Instr.mapEntry t (.map (some b)) key).run P w = .ok (.tuple #[e0.val, goInt e0.born]) (setBlock w b (.map es clock)) := by
        have hj : es[j]? = some e0 := by simpa using f2
        have hsame : es.modify j (fun e => { e with key := key }) = es := by
          apply Array.ext'
          rw [Array.toList_modify, modify_eq_set _ _ _ _ f2]
          have : ({ e0 with key := key } : MapEntry) = e0 := by rw [← f3]
          rw [this]
          exact WideElems.set_self _ _ _ f2
        simp [Instr.mapEntry, run_underlying ht, MapKept.run_getObj_map hb, K.check w false hkey, f1, hj, f3, K.stays w hkey, hsame, MapKept.run_setObj_map _ hb, Result.andThen, setBlock]
      rw [e1] at hme
      have e3 := ok_world hme
      rw [← e3]
      have hown1 : (setBlock w b (.map es clock)).ownsMap P kt (plainElem (H := Unit) P et) b n D := ⟨es, clock, heap_setBlock_same hb _, F, hs, hD⟩
      obtain ⟨c', hl', hat', _⟩ := hown1.lookup_int KK ht he (hz _) hkey
      rw [hl']
      rw [hat] at hat'
      injection hat' with e6
      injection e6 with _ e7
      rw [e7]
  refine ⟨c, v0, st, setBlock w b (.map es1 clock1), hl, hat, hme, hlook, hgr _, by simp [setBlock], fun hw => ?_⟩
  obtain ⟨es', clock', hrun, hup⟩ := hes _ (.int .i64 (c + 1)) hw1b
  obtain ⟨w2, hup2, hown2, hgr2⟩ := h.update KK ht (by omega) hkey (plainElem_int (H := Unit) he hw)
  rw [hup] at hup2
  have e := ok_world hup2
  refine ⟨w2, ?_, hown2, hgr2, ?_⟩
  · rw [hrun, setBlock_twice, e]
  · rw [← e]; simp [setBlock]

/-- Keys of three ints. -/
def mkKey (k : Int × Int × Int) : Value := .agg #[.int .i64 k.1, .int .i64 k.2.1, .int .i64 k.2.2]
/-- Block b counts the keys of L. -/
def Cnt (P : Program) (kt et : TypeId) (w : World) (b n : Nat) (L : List (Int × Int × Int)) : Prop :=
  ∃ D : DataW Unit, w.ownsMap P kt (plainElem P et) b n D ∧ (∀ k kl, keyOf P kt (mkKey k) = some kl → D.atKey kl (.lit (.int .i64 0)) = .lit (.int .i64 (L.count k : Nat))) ∧
    (∀ kl, Maps.has D kl = true → ∃ k ∈ L, keyOf P kt (mkKey k) = some kl) ∧ ∀ k ∈ L, ∃ kl, keyOf P kt (mkKey k) = some kl ∧ Maps.has D kl = true
theorem Cnt.made (w : World) : Cnt P kt et (w.alloc (.map #[] 0)) w.heap.size 0 [] :=
  ⟨.map [], World.ownsMap_made w P kt _, fun k kl _ => by simp [DataW.atKey], fun kl h => by simp [Maps.has] at h, by simp⟩
theorem Cnt.kept {w w' : World} {b n : Nat} {L : List (Int × Int × Int)} {row : Option Nat} (h : Cnt P kt et w b n L) (hg : w.grownBy w' row) (hne : some b ≠ row) : Cnt P kt et w' b n L := by
  obtain ⟨D, h1, h2⟩ := h
  exact ⟨D, h1.kept hg hne, h2⟩
theorem Cnt.below {w w' : World} {b n B : Nat} {L : List (Int × Int × Int)} (h : Cnt P kt et w b n L) (hb : Below B w w') (hB : w.heap.size ≤ B) : Cnt P kt et w' b n L :=
  h.kept (row := none) ⟨hb.os, hb.tape, hb.output, hb.size, fun i hi _ => hb.block i (by omega)⟩ (by simp)
theorem Cnt.alloc {w : World} {b n : Nat} {L : List (Int × Int × Int)} (h : Cnt P kt et w b n L) (o : Obj) : Cnt P kt et (w.alloc o) b n L := h.kept (World.grownBy_alloc w o none) (by simp)
theorem Cnt.drew {w : World} {b n : Nat} {L : List (Int × Int × Int)} (h : Cnt P kt et w b n L) : Cnt P kt et w.drew b n L := h
theorem Cnt.lt {w : World} {b n : Nat} {L : List (Int × Int × Int)} (h : Cnt P kt et w b n L) : b < w.heap.size := by
  obtain ⟨D, h1, _⟩ := h
  exact h1.lt
theorem key_inj {k k' : Int × Int × Int} (h : mkKey k = mkKey k') : k = k' := by
  unfold mkKey at h
  injection h with h
  have h1 := congrArg Array.toList h
  simp at h1
  obtain ⟨a, b, c⟩ := k
  obtain ⟨a', b', c'⟩ := k'
  simp at h1
  simp [h1]
/-- 'm[k]++' for a map that counts. -/
theorem Cnt.inc {w : World} {b n : Nat} {L : List (Int × Int × Int)} (K : KeyLaw P kt) (ht : P.underlying t = some (.map kt et)) (he : P.underlying et = some (.int .i64)) (hz : ∀ u : World, (zeroValue et).run P u = .ok (.int .i64 0) u)
    (h : Cnt P kt et w b n L) (hn : n + 1 < maxLen) (hL : L.length ≤ 1000000000) (k : Int × Int × Int) {kl : Lit} (hkey : keyOf P kt (mkKey k) = some kl) :
    ∃ (c : Nat) (v0 : Value) (st : Nat) (w1 w2 : World), c ≤ 1000000000 ∧ (Instr.lookup t (.map (some b)) (mkKey k) false).run P w = .ok (.int .i64 c) w ∧
      (Instr.mapEntry t (.map (some b)) (mkKey k)).run P w = .ok (.tuple #[v0, .int .i64 st]) w1 ∧ (Instr.lookup t (.map (some b)) (mkKey k) false).run P w1 = .ok (.int .i64 c) w1 ∧
      (Instr.entryStore t (.map (some b)) (.int .i64 st) (.int .i64 ((c : Int) + 1))).run P w1 = .ok () w2 ∧ Cnt P kt et w2 b (n + 1) (L ++ [k]) ∧ w.grownBy w1 (some b) ∧ w.grownBy w2 (some b) ∧ w1.heap.size = w.heap.size ∧ w2.heap.size = w.heap.size := by
  obtain ⟨D, h1, h2, h3, h4⟩ := h
  obtain ⟨c, v0, st, w1, r1, r2, r3, r4, g1, z1, hw⟩ := inc_step K ht he hz h1 hn hkey
  have hc : c = (L.count k : Nat) := by
    have := h2 k kl hkey
    rw [r2] at this
    injection this with e
    injection e with _ e
  have hle : L.count k ≤ 1000000000 := by have := List.count_le_length (a := k) (l := L); omega
  obtain ⟨w2, s1, s2, s3, s4⟩ := hw (by rw [hc]; exact wf_i64 (by omega) (by omega))
  subst hc
  refine ⟨L.count k, v0, st, w1, w2, hle, r1, r3, r4, s1, ⟨_, s2, fun k' kl' hk' => ?_, fun kl' hh => ?_, fun k' hk' => ?_⟩, g1, s3, z1, s4⟩
  · by_cases e : kl' = kl
    · subst e
      have := key_inj (K.inj hk' hkey)
      subst this
      rw [Maps.atKey_put_same (isMap_owns h1) ((Keyed.of_law K).key hkey)]
      simp
    · rw [Maps.atKey_put_other e, h2 k' kl' hk', List.count_append]
      have hne : k ≠ k' := by
        rintro rfl
        rw [hkey] at hk'
        injection hk' with hk'
        exact e hk'.symm
      simp [hne]
  · by_cases e : kl' = kl
    · subst e; exact ⟨k, by simp, hkey⟩
    · rw [Maps.has_put_other e] at hh
      obtain ⟨k', hm, hk'⟩ := h3 kl' hh
      exact ⟨k', by simp [hm], hk'⟩
  · have hsame : Maps.has (D.put kl (.lit (.int .i64 ((L.count k : Nat) + 1)))) kl = true := Maps.has_put_same (isMap_owns h1) ((Keyed.of_law K).key hkey) _
    rcases List.mem_append.1 hk' with hk' | hk'
    · obtain ⟨kl', e1, e2⟩ := h4 k' hk'
      refine ⟨kl', e1, ?_⟩
      by_cases e : kl' = kl
      · subst e; exact hsame
      · rw [Maps.has_put_other e]; exact e2
    · simp at hk'
      subst hk'
      exact ⟨kl, hkey, hsame⟩
end
end Go.Proofs.YtggebllkkiennaaDoor
