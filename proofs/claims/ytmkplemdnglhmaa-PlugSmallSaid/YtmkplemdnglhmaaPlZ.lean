/-
  Contracts and lemmas, in one text: PlP, PlM, PlA, PlB, PlC, PlD, PlE, PlF.
-/
import Derived.Test.YtmkplemdnglhmaaStQ
import Derived.Maps.OwnSet
import Derived.Test.YtmkplemdnglhmaaStO
import Derived.Test.YtmkplemdnglhmaaQg
import Derived.Test.YtmkplemdnglhmaaSlTs
namespace Go.Proofs.Ytmkplemdnglhmaa
open Go.RowKit

def addP (k : Int × Int) (L : List (Int × Int)) : List (Int × Int) := if L.contains k then L else L ++ [k]
/-- One plug of a column is read. -/
def stepP (i : Nat) (T : Int) (L : List (Int × Int)) (p : Int) : List (Int × Int) := if 0 ≤ p ∧ p < T then addP ((i : Int), p) L else L
def colP (i : Nat) (T : Int) (ps : List Int) (L : List (Int × Int)) : List (Int × Int) := ps.foldl (stepP i T) L
def pairsTo (cols : List Col) : Nat → List (Int × Int)
  | 0 => []
  | n + 1 => colP n (cols.getD n default).tiers (cols.getD n default).plugs (pairsTo cols n)
/-- The pairs of a column and a tier that have a plug, each once. -/
def pairsF (s : Shp) : List (Int × Int) := pairsTo s.cols s.cols.length
theorem mem_addP {k x : Int × Int} {L : List (Int × Int)} : x ∈ addP k L ↔ x ∈ L ∨ x = k := by
  unfold addP
  split
  · rename_i h
    refine ⟨.inl, ?_⟩
    rintro (h' | rfl)
    · exact h'
    · simpa using h
  · simp
theorem nodup_addP {k : Int × Int} {L : List (Int × Int)} (h : L.Nodup) : (addP k L).Nodup := by
  unfold addP
  split
  · exact h
  · rename_i h'
    rw [List.nodup_append]
    refine ⟨h, by simp, fun a ha b hb => ?_⟩
    obtain rfl : b = k := by simpa using hb
    rintro rfl
    exact h' (by simpa using ha)
theorem mem_colP {i : Nat} {T : Int} {x : Int × Int} : ∀ {ps : List Int} {L : List (Int × Int)}, x ∈ colP i T ps L ↔ x ∈ L ∨ (x.1 = (i : Int) ∧ 0 ≤ x.2 ∧ x.2 < T ∧ x.2 ∈ ps)
  | [], L => by simp [colP]
  | p :: ps, L => by
    have ih := mem_colP (i := i) (T := T) (x := x) (ps := ps) (L := stepP i T L p)
    show x ∈ colP i T ps (stepP i T L p) ↔ _
    rw [ih]
    unfold stepP
    split
    · rename_i h
      rw [mem_addP]
      obtain ⟨x1, x2⟩ := x
      simp only [List.mem_cons, Prod.mk.injEq]
      constructor
      · rintro ((h1 | ⟨rfl, rfl⟩) | ⟨h1, h2, h3, h4⟩)
        · exact .inl h1
        · exact .inr ⟨rfl, h.1, h.2, .inl rfl⟩
        · exact .inr ⟨h1, h2, h3, .inr h4⟩
      · rintro (h1 | ⟨h1, h2, h3, rfl | h4⟩)
        · exact .inl (.inl h1)
        · exact .inl (.inr ⟨h1, rfl⟩)
        · exact .inr ⟨h1, h2, h3, h4⟩
    · rename_i h
      simp only [List.mem_cons]
      constructor
      · rintro (h1 | ⟨h1, h2, h3, h4⟩)
        · exact .inl h1
        · exact .inr ⟨h1, h2, h3, .inr h4⟩
      · rintro (h1 | ⟨h1, h2, h3, rfl | h4⟩)
        · exact .inl h1
        · exact absurd ⟨h2, h3⟩ h
        · exact .inr ⟨h1, h2, h3, h4⟩
theorem nodup_colP {i : Nat} {T : Int} : ∀ {ps : List Int} {L : List (Int × Int)}, L.Nodup → (colP i T ps L).Nodup
  | [], _, h => h
  | p :: ps, L, h => by
    show (colP i T ps (stepP i T L p)).Nodup
    refine nodup_colP ?_
    unfold stepP
    split
    · exact nodup_addP h
    · exact h
theorem mem_pairsTo {cols : List Col} {x : Int × Int} : ∀ {n : Nat}, x ∈ pairsTo cols n ↔ ∃ c, c < n ∧ x.1 = (c : Int) ∧ 0 ≤ x.2 ∧ x.2 < (cols.getD c default).tiers ∧ x.2 ∈ (cols.getD c default).plugs
  | 0 => by simp [pairsTo]
  | n + 1 => by
    show x ∈ colP n _ _ (pairsTo cols n) ↔ _
    rw [mem_colP, mem_pairsTo (n := n)]
    constructor
    · rintro (⟨c, h1, h2⟩ | ⟨h1, h2⟩)
      · exact ⟨c, by omega, h2⟩
      · exact ⟨n, by omega, h1, h2⟩
    · rintro ⟨c, h1, h2, h3⟩
      by_cases e : c = n
      · subst e; exact .inr ⟨h2, h3⟩
      · exact .inl ⟨c, by omega, h2, h3⟩
theorem nodup_pairsTo (cols : List Col) : ∀ n, (pairsTo cols n).Nodup
  | 0 => List.nodup_nil
  | n + 1 => nodup_colP (nodup_pairsTo cols n)
theorem nodup_pairs (s : Shp) : (pairsF s).Nodup := nodup_pairsTo _ _
/-- A tier of a column has a plug. -/
def pluggedB (s : Shp) (c t : Int) : Bool := (pairsF s).contains (c, t)
theorem plugged_iff {s : Shp} {c t : Int} : pluggedB s c t = true ↔ ∃ k, k < s.cols.length ∧ c = (k : Int) ∧ 0 ≤ t ∧ t < (s.cols.getD k default).tiers ∧ t ∈ (s.cols.getD k default).plugs := by
  unfold pluggedB
  rw [List.contains_iff_mem]
  exact mem_pairsTo
def atF (s : Shp) (x : Slt) : Bool := (slotRight s x 20 || slotRight s x 40) && pluggedB s x.col x.tier
def coldB (bs : List Bx) (x : Stw) : Bool := (findBx bs x.box).1.reefer
/-- A reefer without current. -/
def unfedB (s : Shp) (x : Stw) : Bool := !pluggedB s x.slot.col x.slot.tier
def pfF (s : Shp) (bs : List Bx) (st : List Stw) : List Int := ((st.filter (coldB bs)).filter (unfedB s)).map (·.box)
def coldF (bs : List Bx) (st : List Stw) : List Bx := (st.filter (coldB bs)).map fun x => (findBx bs x.box).1
def spareP (s : Shp) (st : List Stw) (x : Slt) : Bool := pluggedB s x.col x.tier && !(st.any fun y => meetB x y.slot)
def spareF (s : Shp) (st : List Stw) (size : Nat) : List Slt := (allF s size).filter (spareP s st)
def supF (s : Shp) : Nat := (pairsF s).length
def reefB (size : Nat) (b : Bx) : Bool := b.reefer && b.size == size
def demF (bs : List Bx) : Int := (((bs.filter (reefB 40)).length : Nat) : Int) + ((((bs.filter (reefB 20)).length : Nat) : Int) + 1) / 2
theorem filter_take {α : Type} (p : α → Bool) (l : List α) {k : Nat} (h : k < l.length) (d : α) : (l.take (k + 1)).filter p = (l.take k).filter p ++ if p (l.getD k d) then [l.getD k d] else [] := by
  rw [List.take_succ_eq_append_getElem h, List.filter_append]
  congr 1
  rw [show l[k] = l.getD k d by simp [h]]
  simp only [List.filter_cons, List.filter_nil]
theorem filter_take_len {α : Type} (p : α → Bool) (l : List α) (k : Nat) : ((l.take k).filter p).length ≤ l.length := by
  have h1 := List.length_filter_le p (l.take k)
  have h2 := List.length_take_le k l
  simp at h2
  have h3 : (l.take k).length ≤ l.length := by simp; omega
  omega
end Go.Proofs.Ytmkplemdnglhmaa
namespace Go.Proofs.Ytmkplemdnglhmaa
open Go.RowKit Go.ChangeMaps Go.MapKept
open Go.WideMaps (KeyLaw)
open Go.Maps (Keyed)

def mk2 (k : Int × Int) : Value := .agg #[.int .i64 k.1, .int .i64 k.2]
theorem key2_inj {k k' : Int × Int} (h : mk2 k = mk2 k') : k = k' := by
  unfold mk2 at h
  injection h with h
  have h1 := congrArg Array.toList h
  simp at h1
  obtain ⟨a, b⟩ := k
  obtain ⟨a', b'⟩ := k'
  simp at h1
  simp [h1]
/-- Block b is a map that holds 1 at the keys of L, and nothing else. -/
def MS (P : Program) (kt et : TypeId) (w : World) (b n : Nat) (L : List (Int × Int)) : Prop :=
  ∃ D : DataW Unit, w.ownsMap P kt (plainElem P et) b n D ∧ Maps.size D = L.length ∧
    ∀ k kl, keyOf P kt (mk2 k) = some kl → Maps.has D kl = L.contains k ∧ D.atKey kl (.lit (.int .i64 0)) = .lit (.int .i64 (if L.contains k then 1 else 0))
section
variable {P : Program} {kt et t : TypeId}
theorem MS.made (w : World) : MS P kt et (w.alloc (.map #[] 0)) w.heap.size 0 [] :=
  ⟨.map [], World.ownsMap_made w P kt _, rfl, fun k kl _ => ⟨by simp [Maps.has], by simp [DataW.atKey]⟩⟩
theorem MS.kept {w w' : World} {b n : Nat} {L : List (Int × Int)} {row : Option Nat} (h : MS P kt et w b n L) (hg : w.grownBy w' row) (hne : some b ≠ row) : MS P kt et w' b n L := by
  obtain ⟨D, h1, h2⟩ := h
  exact ⟨D, h1.kept hg hne, h2⟩
theorem MS.on {w w' : World} {b n : Nat} {L : List (Int × Int)} (h : MS P kt et w b n L) (hb : Below w.heap.size w w') : MS P kt et w' b n L :=
  h.kept (row := none) ⟨hb.os, hb.tape, hb.output, hb.size, fun i hi _ => hb.block i hi⟩ (by simp)
theorem MS.lt {w : World} {b n : Nat} {L : List (Int × Int)} (h : MS P kt et w b n L) : b < w.heap.size := by
  obtain ⟨D, h1, _⟩ := h
  exact h1.lt
theorem MS.store {w : World} {b n : Nat} {L : List (Int × Int)} (K : KeyLaw P kt) (ht : P.underlying t = some (.map kt et)) (he : P.underlying et = some (.int .i64)) (h : MS P kt et w b n L) (hn : n < maxLen) (k : Int × Int) {kl : Lit} (hkey : keyOf P kt (mk2 k) = some kl) :
    ∃ w', (Instr.mapUpdate t (.map (some b)) (mk2 k) (.int .i64 1)).run P w = .ok () w' ∧ MS P kt et w' b (n + 1) (addP k L) ∧ w.grownBy w' (some b) ∧ w'.heap.size = w.heap.size := by
  obtain ⟨D, h1, h2, h3⟩ := h
  have KK := Keyed.of_law K
  obtain ⟨w', hrun, ho, ht'⟩ := h1.store KK ht hn hkey (plainElem_int (H := Unit) he (a := 1) (by decide))
  have hsz : w'.heap.size = w.heap.size := by
    obtain ⟨es, clock, es', clock', hb, rfl⟩ := ht'
    simp [setBlock]
  refine ⟨w', hrun, ⟨_, ho, ?_, fun k' kl' hk' => ?_⟩, ht'.grown, hsz⟩
  · rw [Maps.size_put (h1.tidy KK), (h3 k kl hkey).1, h2]
    unfold addP
    split <;> simp
  · by_cases e : kl' = kl
    · subst e
      have := key2_inj (K.inj hk' hkey)
      subst this
      rw [Maps.has_put_same h1.isMap (KK.key hkey), Maps.atKey_put_same h1.isMap (KK.key hkey)]
      have hm : (addP k' L).contains k' = true := by simpa using mem_addP.2 (.inr rfl)
      rw [hm]; simp
    · have hne : k' ≠ k := by
        rintro rfl
        rw [hkey] at hk'
        injection hk' with hk'
        exact e hk'.symm
      have hc : (addP k L).contains k' = L.contains k' := by
        rw [Bool.eq_iff_iff]
        simp only [List.contains_iff_mem, mem_addP]
        exact ⟨fun h => h.resolve_right hne, .inl⟩
      rw [Maps.has_put_other e, Maps.atKey_put_other e, hc]
      exact h3 k' kl' hk'
theorem MS.look {w : World} {b n : Nat} {L : List (Int × Int)} (K : KeyLaw P kt) (ht : P.underlying t = some (.map kt et)) (he : P.underlying et = some (.int .i64)) (hz : ∀ u : World, (zeroValue et).run P u = .ok (.int .i64 0) u) (h : MS P kt et w b n L) (k : Int × Int) {kl : Lit} (hkey : keyOf P kt (mk2 k) = some kl) :
    (Instr.lookup t (.map (some b)) (mk2 k) false).run P w = .ok (.int .i64 (if L.contains k then 1 else 0)) w := by
  obtain ⟨D, h1, h2, h3⟩ := h
  obtain ⟨c, hrun, hat, _⟩ := h1.lookup_int (Keyed.of_law K) ht he (hz w) hkey
  rw [(h3 k kl hkey).2] at hat
  injection hat with e
  injection e with _ e
  rw [hrun, e]
theorem MS.len {w : World} {b n : Nat} {L : List (Int × Int)} (ht : P.underlying t = some (.map kt et)) (h : MS P kt et w b n L) (ty : TypeId) : (Builtin.len_ #[t] ty #[.map (some b)]).run P w = .ok (.int .i64 (L.length : Nat)) w := by
  obtain ⟨D, h1, h2, _⟩ := h
  rw [h1.len ht, h2]
theorem wpList_ms {w : World} {ops : Array Oper} {rest : List Oper} {o : Oper} {a : Act} {Q : Exit → Act → World → Prop} (hg : o.guard = none) (m x v : Operand) (hop : o.op = Op.mapUpdate t m x v)
    (K : KeyLaw P kt) (ht : P.underlying t = some (.map kt et)) (he : P.underlying et = some (.int .i64)) {b n : Nat} {L : List (Int × Int)} (hm : a.eval m = .map (some b)) (h : MS P kt et w b n L) (hn : n < maxLen) (k : Int × Int) {kl : Lit} (hx : a.eval x = mk2 k) (hv : a.eval v = .int .i64 1) (hkey : keyOf P kt (mk2 k) = some kl)
    (hK : ∀ w', MS P kt et w' b (n + 1) (addP k L) → w.grownBy w' (some b) → w'.heap.size = w.heap.size → wpList P ops Q rest (a.put o.dst undef) w') : wpList P ops Q (o :: rest) a w := by
  refine wpList_plain hg fun K' hK' => ?_
  obtain ⟨w', hrun, r1, r2, r3⟩ := h.store K ht he hn k hkey
  unfold Oper.wp
  simp [execOp, hop, hm, hx, hv, hrun, Result.andThen]
  exact hK' _ _ (hK w' r1 r2 r3)
end
theorem key2_law : WideMaps.KeyLaw Try.prog 119 := deep_law_laid laidOutP (m := 2) (by omega) (of_decide_eq_true (by kernel_rfl)) (by kernel_rfl) (by rw [Try.underlying119])
theorem key2_type : Try.prog.keyType 119 = true := by kernel_rfl
theorem cells2 : Try.prog.cellsOf 119 = 2 := by kernel_rfl
theorem key2 (k : Int × Int) (h1 : I64 k.1) (h2 : I64 k.2) : ∃ kl, keyOf Try.prog 119 (mk2 k) = some kl := by
  obtain ⟨m, hm⟩ := typesSz
  have w1 := wf_i64 h1.1 h1.2
  have w2 := wf_i64 h2.1 h2.2
  unfold keyOf mk2
  rw [Try.underlying119]
  have hlit : Try.prog.keyLits (Try.prog.types.size + 1) 119 (Value.agg #[.int .i64 k.1, .int .i64 k.2]).cells.toList = some [.int .i64 k.1, .int .i64 k.2] := by
    rw [hm]
    simp [Program.keyLits, Try.underlying119, Try.underlying3, cells2, cellsInt, Value.cells, List.range_succ, w1, w2]
  have hform : (Value.agg #[.int .i64 k.1, .int .i64 k.2]).formed Try.prog 119 = true := by simp [Value.formed, Try.underlying119, cells2]
  simp only [key2_type, hform, Bool.and_self, if_true, hlit, Option.map_some]
  exact ⟨_, rfl⟩
abbrev Pairs (w : World) (b n : Nat) (L : List (Int × Int)) : Prop := MS Try.prog 119 3 w b n L
theorem pairs_look {w : World} {b n : Nat} {L : List (Int × Int)} (h : Pairs w b n L) (x y : Int) (h1 : I64 x) (h2 : I64 y) :
    (Instr.lookup 114 (.map (some b)) (.agg #[.int .i64 x, .int .i64 y]) false).run Try.prog w = .ok (.int .i64 (if L.contains (x, y) then 1 else 0)) w := by
  obtain ⟨kl, hk⟩ := key2 (x, y) h1 h2
  exact MS.look key2_law Try.underlying114 Try.underlying3 zeroInt h (x, y) hk
end Go.Proofs.Ytmkplemdnglhmaa
namespace Go.Proofs.Ytmkplemdnglhmaa
open Go.RowKit

theorem colP_take (i : Nat) (T : Int) (ps : List Int) (L : List (Int × Int)) {j : Nat} (h : j < ps.length) : colP i T (ps.take (j + 1)) L = stepP i T (colP i T (ps.take j) L) (ps.getD j 0) := by
  unfold colP
  rw [List.take_succ_eq_append_getElem h, List.foldl_append]
  simp [h]
/-- What plug.plugs returns. -/
def PairsRet (w : World) (L : List (Int × Int)) (e : Ending) (w' : World) : Prop := ∃ b n, e = .returned (.map (some b)) ∧ Pairs w' b n L ∧ Below w.heap.size w w'
set_option maxRecDepth 100000 in
set_option maxHeartbeats 4000000 in
theorem plugs_any (s : Shp) (h : Hd) (w : World) (hs : ShpR w (Lt w.heap.size) s h) (hf : Few s) (hi : Ints s) :
    Calls Try.prog 69 #[.agg (shpA s h)] w (PairsRet w (pairsF s)) := by
  have hb0 := ba2 w (.cells (shpA s h) 32) (.map #[] 0)
  have HS := Lib.hid hs; clear hs
  have HF := Lib.hid hf; clear hf
  have HI := Lib.hid hi; clear hi
  have hcl := HF.out.cols
  have hmm := @run_makeMap Try.prog
  have hms := MS.made (P := Try.prog) (kt := 119) (et := 3) (w.alloc (.cells (shpA s h) 32))
  have hz1 : (w.alloc (.cells (shpA s h) 32)).heap.size = w.heap.size + 1 := by simp
  rw [hz1] at hms
  unfold shpA at *
  have HMS := Lib.hid hms; clear hms
  have HB0 := Lib.hid hb0; clear hb0
  go_enter Try.func69, Try.ntmps69
  go_wp2_with fail
  clear hmm
  generalize ((w.alloc _).alloc _) = w0 at *
  clear hz1
  have hz0 := HB0.out.size
  have hbl := HMS.out.lt
  go_loopw [12] (fun i wr => ∃ k n : Nat, k ≤ s.cols.length ∧ i = .int .i64 k ∧ n ≤ 1000000 * k ∧ Hid (Pairs wr (w.heap.size + 1) n (pairsTo s.cols k)) ∧ Below w.heap.size w wr) (fun i _ => s.cols.length - (intOf i).toNat)
  case atStart => exact ⟨0, 0, Nat.zero_le _, rfl, by omega, HMS, HB0.out⟩
  case round =>
    obtain ⟨k, n, hk, rfl, hn, HM, hb⟩ := hrel
    obtain ⟨V, rfl⟩ : ∃ V, V = wr := ⟨_, rfl⟩
    have hzr := hb.size
    by_cases hlt : k < s.cols.length
    · obtain ⟨b, off, Ap, q, hA, hbB, hq, hpl, c0, c1, c2, c3, c4, c5, c6, c7, c8, c9, c10, c11⟩ := (HS.out.cols.below hb).col hlt
      have HIx := Lib.hid (HI.out.cols _ (getD_memD hlt default)).2.2
      have HST : Hid (pairsTo s.cols (k + 1) = colP k (s.cols.getD k default).tiers (s.cols.getD k default).plugs (pairsTo s.cols k)) := Lib.hid rfl
      have hpll := HF.out.plugs _ (getD_memD hlt default)
      have HPL := Lib.hid hpl; clear hpl
      rw [hA]
      clear hA
      have hk0 : (0 : Int) ≤ (k : Int) := by omega
      have hk1 : (k : Int) < (s.cols.length : Int) := by omega
      generalize s.cols.getD k default = x at *
      generalize pairsTo s.cols k = L at *
      obtain ⟨xb, xr, xd, xt, xh, x2, x4, xl, xp, xx, xy, xz⟩ := x
      simp only at c0 c1 c2 c3 c4 c5 c6 c7 c8 c9 c10 c11 hq hpll HPL HIx HST
      have hbx := hb.alloc hzr (.cells #[.int .i64 xb, .int .i64 xr, .bool xd, .int .i64 xt, .int .i64 xh, .int .i64 x2, .int .i64 x4, .int .i64 xl, .slice Ap xp.length q, .int .i64 xx, .int .i64 xy, .int .i64 xz] 46)
      have HKB := Lib.hid (Bk.new V 46 #[.int .i64 xb, .int .i64 xr, .bool xd, .int .i64 xt, .int .i64 xh, .int .i64 x2, .int .i64 x4, .int .i64 xl, .slice Ap xp.length q, .int .i64 xx, .int .i64 xy, .int .i64 xz])
      have HM1 := Lib.hid (HM.out.on (ba1 V (.cells #[.int .i64 xb, .int .i64 xr, .bool xd, .int .i64 xt, .int .i64 xh, .int .i64 x2, .int .i64 x4, .int .i64 xl, .slice Ap xp.length q, .int .i64 xx, .int .i64 xy, .int .i64 xz] 46)))
      have HPW := Lib.hid (HPL.out.below ((Below.refl w.heap.size V).alloc hzr (.cells #[.int .i64 xb, .int .i64 xr, .bool xd, .int .i64 xt, .int .i64 xh, .int .i64 x2, .int .i64 x4, .int .i64 xl, .slice Ap xp.length q, .int .i64 xx, .int .i64 xy, .int .i64 xz] 46)))
      go_upto_region 5 with fail
      clear c0 c1 c2 c3 c4 c5 c6 c7 c8 c9 c10 c11 hb HPL
      have hgc : w.heap.size + 1 < V.heap.size := HM.out.lt
      clear HM
      generalize V.heap.size = gc at *
      generalize (V.alloc _) = W at *
      try clear V
      have c8 : W.cell? ⟨gc, 8, none⟩ = some (.slice Ap xp.length q) := HKB.out.cell 8
      go_wp2_with fail
      clear c8
      go_loopw [20] (fun i wr => ∃ j m : Nat, j ≤ xp.length ∧ i = .int .i64 j ∧ m ≤ 1000000 * k + j ∧ Hid (Pairs wr (w.heap.size + 1) m (colP k xt (xp.take j) L)) ∧ Hid (Bk wr gc 46 #[.int .i64 xb, .int .i64 xr, .bool xd, .int .i64 xt, .int .i64 xh, .int .i64 x2, .int .i64 x4, .int .i64 xl, .slice Ap xp.length q, .int .i64 xx, .int .i64 xy, .int .i64 xz]) ∧ Below w.heap.size w wr) (fun i _ => xp.length - (intOf i).toNat)
      case atStart => exact ⟨0, n, Nat.zero_le _, rfl, by omega, HM1, HKB, hbx⟩
      case round =>
        have HBX := Lib.hid hbx
        clear HM1 HKB hbx
        obtain ⟨j, m, hj, rfl, hm, HM, HKB, hb⟩ := hrel
        obtain ⟨V, rfl⟩ : ∃ V, V = wr := ⟨_, rfl⟩
        have hzr := hb.size
        by_cases hjl : j < xp.length
        · obtain ⟨pb, po, rfl, hpb, hpc⟩ := (HPW.out.keep (w' := V) (fun b o hb' => (hb.cell (p := ⟨b, o, none⟩) hb').trans (HBX.out.cell (p := ⟨b, o, none⟩) hb').symm)).int hjl
          have HT := Lib.hid (colP_take k xt xp L hjl)
          have hj0 : (0 : Int) ≤ (j : Int) := by omega
          have hj1 : (j : Int) < (xp.length : Int) := by omega
          generalize xp.getD j 0 = p at *
          generalize colP k xt (xp.take j) L = L1 at *
          have d3 : V.cell? ⟨gc, 3, none⟩ = some (.int .i64 xt) := HKB.out.cell 3
          have hcs : (p < 0) ∨ (0 ≤ p ∧ xt ≤ p) ∨ (0 ≤ p ∧ p < xt) := by omega
          rcases hcs with u1 | ⟨u1, u2⟩ | ⟨u1, u2⟩
          · have t1 : decide (0 ≤ p) = false := by simp; omega
            have HM2 : Hid (Pairs V (w.heap.size + 1) m (colP k xt (xp.take (j + 1)) L)) := Lib.hid (by rw [HT.out]; unfold stepP; rw [if_neg (by omega)]; exact HM.out)
            go_wp2_with fail
            go_roundw
            case rel => exact ⟨j + 1, m, by omega, by go_num, by omega, HM2, HKB, hb⟩
            case measure => simp [intOf]; omega
          · have t1 : decide (0 ≤ p) = true := by simp; omega
            have t2 : decide (p < xt) = false := by simp; omega
            have HM2 : Hid (Pairs V (w.heap.size + 1) m (colP k xt (xp.take (j + 1)) L)) := Lib.hid (by rw [HT.out]; unfold stepP; rw [if_neg (by omega)]; exact HM.out)
            go_wp2_with fail
            go_roundw
            case rel => exact ⟨j + 1, m, by omega, by go_num, by omega, HM2, HKB, hb⟩
            case measure => simp [intOf]; omega
          · have t1 : decide (0 ≤ p) = true := by simp; omega
            have t2 : decide (p < xt) = true := by simp; omega
            obtain ⟨kl, hkl⟩ := key2 ((k : Int), p) ⟨by simp only; omega, by simp only; omega⟩ ⟨by simp only; omega, by have := HIx.out.2; simp only; omega⟩
            have HKL := Lib.hid hkl; clear hkl
            go_upto_region 9 with fail
            go_wp2_with (refine wpList_ms rfl (.tmp 32) (.tmp 35) (.const (.int .i64 1)) rfl key2_law Try.underlying114 Try.underlying3 rfl HM.out (by unfold maxLen; omega) ((k : Int), p) rfl rfl HKL.out ?_; intro W2 hms2 hg2 hsz2)
            have HM2 : Hid (Pairs W2 (w.heap.size + 1) (m + 1) (colP k xt (xp.take (j + 1)) L)) := Lib.hid (by rw [HT.out]; unfold stepP; rw [if_pos ⟨u1, u2⟩]; exact hms2)
            have HK2 := Lib.hid (HKB.out.grown hg2 (by simp; omega))
            have hb2 : Below w.heap.size w W2 := below_inc hb hg2 (by omega) hzr
            go_wp2_with fail
            go_roundw
            case rel => exact ⟨j + 1, m + 1, by omega, by go_num, by omega, HM2, HK2, hb2⟩
            case measure => simp [intOf]; omega
        · have HM2 : Hid (Pairs V (w.heap.size + 1) m (pairsTo s.cols (k + 1))) := Lib.hid (by rw [HST.out]; rw [List.take_of_length_le (by omega)] at HM; exact HM.out)
          go_wp2_with fail
          go_roundw
          case rel => exact ⟨k + 1, m, by omega, by go_num, by omega, HM2, hb⟩
          case measure => simp [intOf]; omega
    · have hkn : k = s.cols.length := by omega
      subst hkn
      go_wp2
      go_ret
      exact ⟨_, _, rfl, HM.out, hb⟩
end Go.Proofs.Ytmkplemdnglhmaa
namespace Go.Proofs.Ytmkplemdnglhmaa
open Go.RowKit

/-- A closure on the elements of a list that reports p. -/
def ElFn {α : Type} (L : α → List Value) (w : World) (l : List α) (fid : FuncId) (caps : Array Value) (p : α → Bool) : Prop :=
  ∀ (x : α) (w' : World), x ∈ l → Below w.heap.size w w' → Calls Try.prog fid (#[.agg (L x).toArray] ++ caps) w' (Ret w' (.bool (p x)))
/-- A slice of the call's own is returned. -/
def OwnL {α : Type} (T : Ty α) (t : TypeId) (w : World) (l : List α) (e : Ending) (w' : World) : Prop := ∃ v, e = .returned v ∧ OwnT T t w' w.heap.size v l ∧ Below w.heap.size w w'
set_option maxRecDepth 100000 in
set_option maxHeartbeats 2000000 in
theorem onlyStw_any (A : Option Addr) (c : Nat) (l : List Stw) (fid : FuncId) (caps : Array Value) (p : Stw → Bool) (w : World) (hs : SlT tStw w (Lt w.heap.size) A l) (hl : l.length ≤ 1000000) (hent : ∀ (args : Array Value) (w : World), (callFunc fid args).run Try.prog w = .ok (.enter fid args) w) (hf : ElFn stwL w l fid caps p) :
    Calls Try.prog 70 #[.slice A l.length c, .func (.func fid) #[] caps] w (OwnL tStw 42 w (l.filter p)) := by
  have HF := Lib.hid hf; clear hf
  have HS := Lib.hid hs; clear hs
  go_enter Try.func70, Try.ntmps70
  go_wp2
  go_loopw [5, 10] (fun v i wr => ∃ (k : Nat) (m : List Stw), k ≤ l.length ∧ i = .int .i64 k ∧ m.length ≤ l.length ∧ Hid (m = (l.take k).filter p) ∧ OwnT tStw 42 wr w.heap.size v m ∧ Below w.heap.size w wr) (fun _ i _ => l.length - (intOf i).toNat)
  case atStart => exact ⟨0, [], Nat.zero_le _, rfl, by simp, Lib.hid (by simp), OwnT.nil, Below.refl _ _⟩
  case round =>
    obtain ⟨k, m, hk, rfl, hm, HM, hown, hb⟩ := hrel
    by_cases hlt : k < l.length
    · obtain ⟨b, off, rfl, hbB, c0, c1, c2, c3⟩ := (HS.out.below hb).stw hlt
      have HP := Lib.hid (filter_take p l hlt default)
      have HLE := Lib.hid (filter_take_len p l (k + 1))
      have hk0 : (0 : Int) ≤ (k : Int) := by omega
      have hk1 : (k : Int) < (l.length : Int) := by omega
      have HMEM := Lib.hid (getD_memD hlt default)
      generalize l.getD k default = x at *
      obtain ⟨x0, x1, x2, x3⟩ := x
      simp only at c0 c1 c2 c3
      have hown' := hown.below (ba1 wr (.cells #[.int .i64 x0, .int .i64 x1, .int .i64 x2, .int .u8 (x3 : Nat)] 42))
      have hx := Bk.new wr 42 #[.int .i64 x0, .int .i64 x1, .int .i64 x2, .int .u8 (x3 : Nat)]
      have hbW := hb.alloc hb.size (.cells #[.int .i64 x0, .int .i64 x1, .int .i64 x2, .int .u8 (x3 : Nat)] 42)
      go_upto_region 5 with fail
      clear hown c0 c1 c2 c3 hb
      generalize wr.heap.size = gx at *
      generalize (wr.alloc _) = W at *
      have HX := Lib.hid hx
      have y0 : W.cell? ⟨gx, 0, none⟩ = some (.int .i64 x0) := hx.cell 0
      have y1 : W.cell? ⟨gx, 1, none⟩ = some (.int .i64 x1) := hx.cell 1
      have y2 : W.cell? ⟨gx, 2, none⟩ = some (.int .i64 x2) := hx.cell 2
      have y3 : W.cell? ⟨gx, 3, none⟩ = some (.int .u8 (x3 : Nat)) := hx.cell 3
      have HC := Lib.hid (HF.out ⟨x0, ⟨x1, x2, x3⟩⟩ W HMEM.out hbW)
      unfold stwL at HC
      simp only at HC
      generalize hpx : p ⟨x0, ⟨x1, x2, x3⟩⟩ = px at *
      have HPX := Lib.hid hpx
      clear hpx hx
      go_wp2_with fail
      refine HC.out.mono ?_
      rintro e w1 ⟨rfl, hb1⟩
      simp only
      clear HC y0 y1 y2 y3
      have hown1 := hown'.below hb1
      have hb2 := hbW.trans (hb1.mono hbW.size)
      have HX1 := HX.out.below hb1 HX.out.lt
      clear hown' hb1 HX
      have hz0 := hb2.size
      cases px with
      | true =>
        obtain ⟨xs, ho, hfl⟩ := hown1
        have y0 : w1.cell? ⟨gx, 0, none⟩ = some (.int .i64 x0) := HX1.cell 0
        have y1 : w1.cell? ⟨gx, 1, none⟩ = some (.int .i64 x1) := HX1.cell 1
        have y2 : w1.cell? ⟨gx, 2, none⟩ = some (.int .i64 x2) := HX1.cell 2
        have y3 : w1.cell? ⟨gx, 3, none⟩ = some (.int .u8 (x3 : Nat)) := HX1.cell 3
        clear HX1
        have HQ := HLE.out
        rw [HP.out, ← HM.out] at HQ
        simp at HQ
        go_wp2_with (at_builtin; (refine wpList_append1 el_stw rfl (.tmp 17) (.tmp 19) rfl w.heap.size _ m.length xs rfl ho #[.int .i64 x0, .int .i64 x1, .int .i64 x2, .int .u8 (x3 : Nat)] _ rfl rfl rfl ?c1 ?c2 ?c3 ?_))
        case c1 => unfold maxLen; omega
        case c2 => omega
        intro v' w3 hown' hgr hd3 hbel
        go_wp2
        go_roundw
        case rel => exact ⟨k + 1, m ++ [⟨x0, ⟨x1, x2, x3⟩⟩], by omega, by go_num, by simp; omega, Lib.hid (by rw [HP.out, HM.out]; rfl), OwnT.append1 (T := tStw) (x := ⟨x0, ⟨x1, x2, x3⟩⟩) hfl (cs := stwL ⟨x0, ⟨x1, x2, x3⟩⟩) rfl hown' hgr hd3, hb2.trans hbel⟩
        case measure => simp [intOf]; omega
      | false =>
        have HM2 : Hid (m = (l.take (k + 1)).filter p) := Lib.hid (by rw [HP.out, HM.out]; simp)
        go_wp2
        go_roundw
        case rel => exact ⟨k + 1, m, by omega, by go_num, hm, HM2, hown1, hb2⟩
        case measure => simp [intOf]; omega
    · have hkn : m = l.filter p := by rw [HM.out, List.take_of_length_le (by omega)]
      subst hkn
      go_wp2
      go_ret
      exact ⟨_, rfl, hown, hb⟩
set_option maxRecDepth 100000 in
set_option maxHeartbeats 2000000 in
theorem onlySlt_any (A : Option Addr) (c : Nat) (l : List Slt) (fid : FuncId) (caps : Array Value) (p : Slt → Bool) (w : World) (hs : SlT tSlt w (Lt w.heap.size) A l) (hl : l.length ≤ 1000000) (hent : ∀ (args : Array Value) (w : World), (callFunc fid args).run Try.prog w = .ok (.enter fid args) w) (hf : ElFn sltL w l fid caps p) :
    Calls Try.prog 79 #[.slice A l.length c, .func (.func fid) #[] caps] w (OwnL tSlt 40 w (l.filter p)) := by
  have HF := Lib.hid hf; clear hf
  have HS := Lib.hid hs; clear hs
  go_enter Try.func79, Try.ntmps79
  go_wp2
  go_loopw [5, 10] (fun v i wr => ∃ (k : Nat) (m : List Slt), k ≤ l.length ∧ i = .int .i64 k ∧ m.length ≤ l.length ∧ Hid (m = (l.take k).filter p) ∧ OwnT tSlt 40 wr w.heap.size v m ∧ Below w.heap.size w wr) (fun _ i _ => l.length - (intOf i).toNat)
  case atStart => exact ⟨0, [], Nat.zero_le _, rfl, by simp, Lib.hid (by simp), OwnT.nil, Below.refl _ _⟩
  case round =>
    obtain ⟨k, m, hk, rfl, hm, HM, hown, hb⟩ := hrel
    by_cases hlt : k < l.length
    · obtain ⟨b, off, rfl, hbB, c0, c1, c2⟩ := (HS.out.below hb).slt hlt
      have HP := Lib.hid (filter_take p l hlt default)
      have HLE := Lib.hid (filter_take_len p l (k + 1))
      have hk0 : (0 : Int) ≤ (k : Int) := by omega
      have hk1 : (k : Int) < (l.length : Int) := by omega
      have HMEM := Lib.hid (getD_memD hlt default)
      generalize l.getD k default = x at *
      obtain ⟨x0, x1, x2⟩ := x
      simp only at c0 c1 c2
      have hown' := hown.below (ba1 wr (.cells #[.int .i64 x0, .int .i64 x1, .int .u8 (x2 : Nat)] 40))
      have hx := Bk.new wr 40 #[.int .i64 x0, .int .i64 x1, .int .u8 (x2 : Nat)]
      have hbW := hb.alloc hb.size (.cells #[.int .i64 x0, .int .i64 x1, .int .u8 (x2 : Nat)] 40)
      go_upto_region 5 with fail
      clear hown c0 c1 c2 hb
      generalize wr.heap.size = gx at *
      generalize (wr.alloc _) = W at *
      have HX := Lib.hid hx
      have y0 : W.cell? ⟨gx, 0, none⟩ = some (.int .i64 x0) := hx.cell 0
      have y1 : W.cell? ⟨gx, 1, none⟩ = some (.int .i64 x1) := hx.cell 1
      have y2 : W.cell? ⟨gx, 2, none⟩ = some (.int .u8 (x2 : Nat)) := hx.cell 2
      have HC := Lib.hid (HF.out ⟨x0, x1, x2⟩ W HMEM.out hbW)
      unfold sltL at HC
      simp only at HC
      generalize hpx : p ⟨x0, x1, x2⟩ = px at *
      have HPX := Lib.hid hpx
      clear hpx hx
      go_wp2_with fail
      refine HC.out.mono ?_
      rintro e w1 ⟨rfl, hb1⟩
      simp only
      clear HC y0 y1 y2
      have hown1 := hown'.below hb1
      have hb2 := hbW.trans (hb1.mono hbW.size)
      have HX1 := HX.out.below hb1 HX.out.lt
      clear hown' hb1 HX
      have hz0 := hb2.size
      cases px with
      | true =>
        obtain ⟨xs, ho, hfl⟩ := hown1
        have y0 : w1.cell? ⟨gx, 0, none⟩ = some (.int .i64 x0) := HX1.cell 0
        have y1 : w1.cell? ⟨gx, 1, none⟩ = some (.int .i64 x1) := HX1.cell 1
        have y2 : w1.cell? ⟨gx, 2, none⟩ = some (.int .u8 (x2 : Nat)) := HX1.cell 2
        clear HX1
        have HQ := HLE.out
        rw [HP.out, ← HM.out] at HQ
        simp at HQ
        go_wp2_with (at_builtin; (refine wpList_append1 el_slt rfl (.tmp 17) (.tmp 19) rfl w.heap.size _ m.length xs rfl ho #[.int .i64 x0, .int .i64 x1, .int .u8 (x2 : Nat)] _ rfl rfl rfl ?c1 ?c2 ?c3 ?_))
        case c1 => unfold maxLen; omega
        case c2 => omega
        intro v' w3 hown' hgr hd3 hbel
        go_wp2
        go_roundw
        case rel => exact ⟨k + 1, m ++ [⟨x0, x1, x2⟩], by omega, by go_num, by simp; omega, Lib.hid (by rw [HP.out, HM.out]; rfl), OwnT.append1 (T := tSlt) (x := ⟨x0, x1, x2⟩) hfl (cs := sltL ⟨x0, x1, x2⟩) rfl hown' hgr hd3, hb2.trans hbel⟩
        case measure => simp [intOf]; omega
      | false =>
        have HM2 : Hid (m = (l.take (k + 1)).filter p) := Lib.hid (by rw [HP.out, HM.out]; simp)
        go_wp2
        go_roundw
        case rel => exact ⟨k + 1, m, by omega, by go_num, hm, HM2, hown1, hb2⟩
        case measure => simp [intOf]; omega
    · have hkn : m = l.filter p := by rw [HM.out, List.take_of_length_le (by omega)]
      subst hkn
      go_wp2
      go_ret
      exact ⟨_, rfl, hown, hb⟩
set_option maxRecDepth 100000 in
set_option maxHeartbeats 2000000 in
theorem onlyBx_any (A : Option Addr) (c : Nat) (l : List Bx) (fid : FuncId) (caps : Array Value) (p : Bx → Bool) (w : World) (hs : SlT tBx w (Lt w.heap.size) A l) (hl : l.length ≤ 1000000) (hent : ∀ (args : Array Value) (w : World), (callFunc fid args).run Try.prog w = .ok (.enter fid args) w) (hf : ElFn bxL w l fid caps p) :
    Calls Try.prog 77 #[.slice A l.length c, .func (.func fid) #[] caps] w (OwnL tBx 37 w (l.filter p)) := by
  have HF := Lib.hid hf; clear hf
  have HS := Lib.hid hs; clear hs
  go_enter Try.func77, Try.ntmps77
  go_wp2
  go_loopw [5, 10] (fun v i wr => ∃ (k : Nat) (m : List Bx), k ≤ l.length ∧ i = .int .i64 k ∧ m.length ≤ l.length ∧ Hid (m = (l.take k).filter p) ∧ OwnT tBx 37 wr w.heap.size v m ∧ Below w.heap.size w wr) (fun _ i _ => l.length - (intOf i).toNat)
  case atStart => exact ⟨0, [], Nat.zero_le _, rfl, by simp, Lib.hid (by simp), OwnT.nil, Below.refl _ _⟩
  case round =>
    obtain ⟨k, m, hk, rfl, hm, HM, hown, hb⟩ := hrel
    by_cases hlt : k < l.length
    · obtain ⟨b, off, rfl, hbB, hc⟩ := (HS.out.below hb).bx hlt
      have HP := Lib.hid (filter_take p l hlt zBx)
      have HLE := Lib.hid (filter_take_len p l (k + 1))
      have hk0 : (0 : Int) ≤ (k : Int) := by omega
      have hk1 : (k : Int) < (l.length : Int) := by omega
      have HMEM := Lib.hid (getD_memD hlt zBx)
      generalize l.getD k zBx = x at *
      obtain ⟨x0, x1, x2, x3, x4, x5, x6, x7, x8⟩ := x
      unfold bxL at hc
      simp only at hc
      have c0 : wr.cell? ⟨b, off + k * 9, none⟩ = some (.int .i64 x0) := hc 0 _ rfl
      have c1 : wr.cell? ⟨b, off + k * 9 + 1, none⟩ = some (.string x1) := hc 1 _ rfl
      have c2 : wr.cell? ⟨b, off + k * 9 + 2, none⟩ = some (.int .u8 (x2 : Nat)) := hc 2 _ rfl
      have c3 : wr.cell? ⟨b, off + k * 9 + 3, none⟩ = some (.bool x3) := hc 3 _ rfl
      have c4 : wr.cell? ⟨b, off + k * 9 + 4, none⟩ = some (.int .i64 x4) := hc 4 _ rfl
      have c5 : wr.cell? ⟨b, off + k * 9 + 5, none⟩ = some (.int .i64 x5) := hc 5 _ rfl
      have c6 : wr.cell? ⟨b, off + k * 9 + 6, none⟩ = some (.int .i64 x6) := hc 6 _ rfl
      have c7 : wr.cell? ⟨b, off + k * 9 + 7, none⟩ = some (.int .u8 (x7 : Nat)) := hc 7 _ rfl
      have c8 : wr.cell? ⟨b, off + k * 9 + 8, none⟩ = some (.bool x8) := hc 8 _ rfl
      clear hc
      have hown' := hown.below (ba1 wr (.cells #[.int .i64 x0, .string x1, .int .u8 (x2 : Nat), .bool x3, .int .i64 x4, .int .i64 x5, .int .i64 x6, .int .u8 (x7 : Nat), .bool x8] 37))
      have hx := Bk.new wr 37 #[.int .i64 x0, .string x1, .int .u8 (x2 : Nat), .bool x3, .int .i64 x4, .int .i64 x5, .int .i64 x6, .int .u8 (x7 : Nat), .bool x8]
      have hbW := hb.alloc hb.size (.cells #[.int .i64 x0, .string x1, .int .u8 (x2 : Nat), .bool x3, .int .i64 x4, .int .i64 x5, .int .i64 x6, .int .u8 (x7 : Nat), .bool x8] 37)
      go_upto_region 5 with fail
      clear hown c0 c1 c2 c3 c4 c5 c6 c7 c8 hb
      generalize wr.heap.size = gx at *
      generalize (wr.alloc _) = W at *
      have HX := Lib.hid hx
      have y0 : W.cell? ⟨gx, 0, none⟩ = some (.int .i64 x0) := hx.cell 0
      have y1 : W.cell? ⟨gx, 1, none⟩ = some (.string x1) := hx.cell 1
      have y2 : W.cell? ⟨gx, 2, none⟩ = some (.int .u8 (x2 : Nat)) := hx.cell 2
      have y3 : W.cell? ⟨gx, 3, none⟩ = some (.bool x3) := hx.cell 3
      have y4 : W.cell? ⟨gx, 4, none⟩ = some (.int .i64 x4) := hx.cell 4
      have y5 : W.cell? ⟨gx, 5, none⟩ = some (.int .i64 x5) := hx.cell 5
      have y6 : W.cell? ⟨gx, 6, none⟩ = some (.int .i64 x6) := hx.cell 6
      have y7 : W.cell? ⟨gx, 7, none⟩ = some (.int .u8 (x7 : Nat)) := hx.cell 7
      have y8 : W.cell? ⟨gx, 8, none⟩ = some (.bool x8) := hx.cell 8
      have HC := Lib.hid (HF.out ⟨x0, x1, x2, x3, x4, x5, x6, x7, x8⟩ W HMEM.out hbW)
      unfold bxL at HC
      simp only at HC
      generalize hpx : p ⟨x0, x1, x2, x3, x4, x5, x6, x7, x8⟩ = px at *
      have HPX := Lib.hid hpx
      clear hpx hx
      go_wp2_with fail
      refine HC.out.mono ?_
      rintro e w1 ⟨rfl, hb1⟩
      simp only
      clear HC y0 y1 y2 y3 y4 y5 y6 y7 y8
      have hown1 := hown'.below hb1
      have hb2 := hbW.trans (hb1.mono hbW.size)
      have HX1 := HX.out.below hb1 HX.out.lt
      clear hown' hb1 HX
      have hz0 := hb2.size
      cases px with
      | true =>
        obtain ⟨xs, ho, hfl⟩ := hown1
        have y0 : w1.cell? ⟨gx, 0, none⟩ = some (.int .i64 x0) := HX1.cell 0
        have y1 : w1.cell? ⟨gx, 1, none⟩ = some (.string x1) := HX1.cell 1
        have y2 : w1.cell? ⟨gx, 2, none⟩ = some (.int .u8 (x2 : Nat)) := HX1.cell 2
        have y3 : w1.cell? ⟨gx, 3, none⟩ = some (.bool x3) := HX1.cell 3
        have y4 : w1.cell? ⟨gx, 4, none⟩ = some (.int .i64 x4) := HX1.cell 4
        have y5 : w1.cell? ⟨gx, 5, none⟩ = some (.int .i64 x5) := HX1.cell 5
        have y6 : w1.cell? ⟨gx, 6, none⟩ = some (.int .i64 x6) := HX1.cell 6
        have y7 : w1.cell? ⟨gx, 7, none⟩ = some (.int .u8 (x7 : Nat)) := HX1.cell 7
        have y8 : w1.cell? ⟨gx, 8, none⟩ = some (.bool x8) := HX1.cell 8
        clear HX1
        have HQ := HLE.out
        rw [HP.out, ← HM.out] at HQ
        simp at HQ
        go_wp2_with (at_builtin; (refine wpList_append1 el_bx rfl (.tmp 17) (.tmp 19) rfl w.heap.size _ m.length xs rfl ho #[.int .i64 x0, .string x1, .int .u8 (x2 : Nat), .bool x3, .int .i64 x4, .int .i64 x5, .int .i64 x6, .int .u8 (x7 : Nat), .bool x8] _ rfl rfl rfl ?c1 ?c2 ?c3 ?_))
        case c1 => unfold maxLen; omega
        case c2 => omega
        intro v' w3 hown' hgr hd3 hbel
        go_wp2
        go_roundw
        case rel => exact ⟨k + 1, m ++ [⟨x0, x1, x2, x3, x4, x5, x6, x7, x8⟩], by omega, by go_num, by simp; omega, Lib.hid (by rw [HP.out, HM.out]; rfl), OwnT.append1 (T := tBx) (x := ⟨x0, x1, x2, x3, x4, x5, x6, x7, x8⟩) hfl (cs := bxL ⟨x0, x1, x2, x3, x4, x5, x6, x7, x8⟩) rfl hown' hgr hd3, hb2.trans hbel⟩
        case measure => simp [intOf]; omega
      | false =>
        have HM2 : Hid (m = (l.take (k + 1)).filter p) := Lib.hid (by rw [HP.out, HM.out]; simp)
        go_wp2
        go_roundw
        case rel => exact ⟨k + 1, m, by omega, by go_num, hm, HM2, hown1, hb2⟩
        case measure => simp [intOf]; omega
    · have hkn : m = l.filter p := by rw [HM.out, List.take_of_length_le (by omega)]
      subst hkn
      go_wp2
      go_ret
      exact ⟨_, rfl, hown, hb⟩
end Go.Proofs.Ytmkplemdnglhmaa
namespace Go.Proofs.Ytmkplemdnglhmaa
open Go.RowKit

theorem run_len_ms {w : World} {b n : Nat} {L : List (Int × Int)} (h : Pairs w b n L) (ty : TypeId) : (Builtin.len_ #[114] ty #[.map (some b)]).run Try.prog w = .ok (.int .i64 (L.length : Nat)) w := MS.len Try.underlying114 h ty
set_option maxRecDepth 100000 in
set_option maxHeartbeats 2000000 in
theorem cold_any (A : Option Addr) (c : Nat) (bs : List Bx) (x : Stw) (w : World) (hb : SlT tBx w (Lt w.heap.size) A bs) (hbl : bs.length ≤ 1000000) :
    Calls Try.prog 72 #[.slice A bs.length c, .agg (stwL x).toArray] w (Ret w (.bool (coldB bs x))) := by
  obtain ⟨xb, xc, xt, xh⟩ := x
  have hb0 := ba1 w (.cells #[.int .i64 xb, .int .i64 xc, .int .i64 xt, .int .u8 (xh : Nat)] 42)
  have HB0 := Lib.hid hb0
  have hv : coldB bs ⟨xb, xc, xt, xh⟩ = (findBx bs xb).1.reefer := rfl
  have KF := Lib.hid (stowFind_any A c bs xb _ ((hb.below hb0).up hb0.size) hbl)
  rw [hv]
  clear hv hb hb0
  unfold stwL
  generalize findBx bs xb = fb at *
  obtain ⟨⟨b0, b1, b2, b3, b4, b5, b6, b7, b8⟩, ok⟩ := fb
  unfold bxL at KF
  simp only at KF ⊢
  go_enter Try.func72, Try.ntmps72
  go_wp2_with fail
  refine KF.out.mono ?_
  rintro e w3 ⟨rfl, hb3⟩
  simp only
  have HB3 := Lib.hid (HB0.out.trans (hb3.mono HB0.out.size))
  clear KF hb3 HB0
  go_wp2_with fail
  go_ret
  exact ⟨rfl, HB3.out.alloc HB3.out.size _⟩
set_option maxRecDepth 100000 in
set_option maxHeartbeats 2000000 in
theorem pfaults1 (A : Option Addr) (c : Nat) (bs : List Bx) (x : Stw) (gb : Nat) (w : World) (hb : SlT tBx w (Lt w.heap.size) A bs) (hbl : bs.length ≤ 1000000) (hg : w.cell? ⟨gb, 0, none⟩ = some (.slice A bs.length c)) :
    Calls Try.prog 71 #[.agg (stwL x).toArray, .pointer (some ⟨gb, 0, none⟩)] w (Ret w (.bool (coldB bs x))) := by
  have hb0 := ba1 w (.cells (stwL x).toArray 42)
  have HB0 := Lib.hid hb0
  have KC := Lib.hid (cold_any A c bs x _ ((hb.below hb0).up hb0.size) hbl)
  have hgl := block_lt_of_cell hg
  simp only at hgl
  clear hb hb0
  generalize coldB bs x = r at *
  obtain ⟨xb, xc, xt, xh⟩ := x
  unfold stwL at *
  simp only at *
  go_enter Try.func71, Try.ntmps71
  go_wp2_with fail
  refine KC.out.mono ?_
  rintro e w3 ⟨rfl, hb3⟩
  simp only
  have HB3 := Lib.hid (HB0.out.trans (hb3.mono HB0.out.size))
  clear KC hb3 HB0
  go_wp2_with fail
  go_ret
  exact ⟨rfl, HB3.out⟩
set_option maxRecDepth 100000 in
set_option maxHeartbeats 2000000 in
theorem pcold1 (A : Option Addr) (c : Nat) (bs : List Bx) (x : Stw) (gb : Nat) (w : World) (hb : SlT tBx w (Lt w.heap.size) A bs) (hbl : bs.length ≤ 1000000) (hg : w.cell? ⟨gb, 0, none⟩ = some (.slice A bs.length c)) :
    Calls Try.prog 87 #[.agg (stwL x).toArray, .pointer (some ⟨gb, 0, none⟩)] w (Ret w (.bool (coldB bs x))) := by
  have hb0 := ba1 w (.cells (stwL x).toArray 42)
  have HB0 := Lib.hid hb0
  have KC := Lib.hid (cold_any A c bs x _ ((hb.below hb0).up hb0.size) hbl)
  have hgl := block_lt_of_cell hg
  simp only at hgl
  clear hb hb0
  generalize coldB bs x = r at *
  obtain ⟨xb, xc, xt, xh⟩ := x
  unfold stwL at *
  simp only at *
  go_enter Try.func87, Try.ntmps87
  go_wp2_with fail
  refine KC.out.mono ?_
  rintro e w3 ⟨rfl, hb3⟩
  simp only
  have HB3 := Lib.hid (HB0.out.trans (hb3.mono HB0.out.size))
  clear KC hb3 HB0
  go_wp2_with fail
  go_ret
  exact ⟨rfl, HB3.out⟩
theorem int_if (q : Bool) : ((if q = true then (1 : Int) else 0) == 0) = !q := by cases q <;> rfl
set_option maxRecDepth 100000 in
set_option maxHeartbeats 4000000 in
theorem pFaults_any (s : Shp) (h : Hd) (A : Option Addr) (c : Nat) (bs : List Bx) (A2 : Option Addr) (c2 : Nat) (st : List Stw) (w : World) (hsh : ShpR w (Lt w.heap.size) s h) (hf : Few s) (hi : Ints s) (hb : SlT tBx w (Lt w.heap.size) A bs) (hbl : bs.length ≤ 1000000)
    (hs : SlT tStw w (Lt w.heap.size) A2 st) (hl : st.length ≤ 1000000) (hx : ∀ x ∈ st, I64 x.slot.col ∧ I64 x.slot.tier) :
    Calls Try.prog 34 #[.agg (shpA s h), .slice A bs.length c, .slice A2 st.length c2] w (OwnL tInt 3 w (pfF s bs st)) := by
  have hb0 := ba2 w (.cells (shpA s h) 32) (.cells #[.slice A bs.length c] 33)
  have KP := Lib.hid (plugs_any s h _ (hsh.on hb0) hf hi)
  have HBB := Lib.hid (Bk.at_ (w := w.alloc (.cells (shpA s h) 32)) (g := w.heap.size + 1) 33 #[.slice A bs.length c] (by simp))
  have HBX := Lib.hid (hb.on hb0)
  have HST := Lib.hid (hs.on hb0)
  have HB0 := Lib.hid hb0
  have HX := Lib.hid hx
  have HLE := Lib.hid (fun p => List.length_filter_le (p : Stw → Bool) st)
  clear hsh hb hs hb0 hx
  unfold shpA at *
  go_enter Try.func34, Try.ntmps34
  go_wp2_with fail
  generalize ((w.alloc _).alloc _) = w0 at *
  refine KP.out.mono ?_
  rintro e w1 ⟨bm, n, rfl, hm, hb1⟩
  simp only
  have HM := Lib.hid hm
  have HB1 := Lib.hid (HB0.out.trans (hb1.mono HB0.out.size))
  have HBX1 := Lib.hid (HBX.out.on hb1)
  have HST1 := Lib.hid (HST.out.on hb1)
  have HBB1 := Lib.hid (HBB.out.below hb1 HBB.out.lt)
  clear KP HBX HST HBB HB0 hm hb1
  have KO := Lib.hid (onlyStw_any A2 c2 st 71 #[.pointer (some ⟨w.heap.size + 1, 0, none⟩)] (coldB bs) w1 HST1.out hl Try.call71 (fun x w' _ hb' => pfaults1 A c bs x _ w' (HBX1.out.on hb') hbl ((HBB1.out.below hb' HBB1.out.lt).cell 0)))
  go_upto_region 3 with fail
  try clear w0
  go_wp2_with fail
  refine KO.out.mono ?_
  rintro e w2 ⟨v, rfl, hv, hb2⟩
  simp only
  obtain ⟨AF, cF, rfl, _, _, hsF⟩ := OwnT.sl hv
  have HSF := Lib.hid hsF
  have HM2 := Lib.hid (HM.out.on hb2)
  have HB2 := Lib.hid (HB1.out.trans (hb2.mono HB1.out.size))
  have HFM : Hid (∀ x ∈ st.filter (coldB bs), I64 x.slot.col ∧ I64 x.slot.tier) := Lib.hid fun x hx => HX.out x ((List.mem_filter.1 hx).1)
  have HVF : Hid (pfF s bs st = ((st.filter (coldB bs)).filter (unfedB s)).map (·.box)) := Lib.hid rfl
  have hfl := HLE.out (coldB bs)
  clear KO HM HB1 HBX1 HST1 HBB1 hv hb2 hsF HX HLE
  try clear w1
  generalize pfF s bs st = R at *
  generalize st.filter (coldB bs) = fl at *
  go_wp2_with fail
  go_loopw [8, 18] (fun v i wr => ∃ (k : Nat) (m : List Int), k ≤ fl.length ∧ i = .int .i64 k ∧ m.length ≤ fl.length ∧ Hid (m = ((fl.take k).filter (unfedB s)).map (·.box)) ∧ OwnT tInt 3 wr w2.heap.size v m ∧ Below w2.heap.size w2 wr) (fun _ i _ => fl.length - (intOf i).toNat)
  case atStart => exact ⟨0, [], Nat.zero_le _, rfl, by simp, Lib.hid (by simp), OwnT.nil, Below.refl _ _⟩
  case round =>
    obtain ⟨k, m, hk, rfl, hm, HMM, hown, hb⟩ := hrel
    obtain ⟨V, rfl⟩ : ∃ V, V = wr := ⟨_, rfl⟩
    by_cases hlt : k < fl.length
    · obtain ⟨b, off, rfl, hbB, c0, c1, c2', c3⟩ := (HSF.out.below hb).stw hlt
      have HP := Lib.hid (filter_take (unfedB s) fl hlt default)
      have HLE := Lib.hid (filter_take_len (unfedB s) fl (k + 1))
      have hk0 : (0 : Int) ≤ (k : Int) := by omega
      have hk1 : (k : Int) < (fl.length : Int) := by omega
      have hmem := HFM.out _ (getD_memD hlt default)
      generalize fl.getD k default = x at *
      obtain ⟨x0, x1, x2, x3⟩ := x
      simp only at c0 c1 c2' c3 hmem
      have HQ : Hid (unfedB s ⟨x0, x1, x2, x3⟩ = !(pairsF s).contains (x1, x2)) := Lib.hid rfl
      have hown' := hown.below (ba2 V (.cells #[.int .i64 x0, .int .i64 x1, .int .i64 x2, .int .u8 (x3 : Nat)] 42) (.cells #[.int .i64 x1, .int .i64 x2, .int .u8 (x3 : Nat)] 40))
      have hx := (Bk.new V 42 #[.int .i64 x0, .int .i64 x1, .int .i64 x2, .int .u8 (x3 : Nat)]).alloc (.cells #[.int .i64 x1, .int .i64 x2, .int .u8 (x3 : Nat)] 40)
      have hy := Bk.at_ (w := V.alloc (.cells #[.int .i64 x0, .int .i64 x1, .int .i64 x2, .int .u8 (x3 : Nat)] 42)) (g := V.heap.size + 1) 40 #[.int .i64 x1, .int .i64 x2, .int .u8 (x3 : Nat)] (by simp)
      have hbW := hb.trans ((ba2 V (.cells #[.int .i64 x0, .int .i64 x1, .int .i64 x2, .int .u8 (x3 : Nat)] 42) (.cells #[.int .i64 x1, .int .i64 x2, .int .u8 (x3 : Nat)] 40)).mono hb.size)
      go_upto_region 7 with fail
      clear hown c0 c1 c2' c3 hb
      generalize V.heap.size = gx at *
      generalize ((V.alloc _).alloc _) = W at *
      try clear V
      have y0 : W.cell? ⟨gx, 0, none⟩ = some (.int .i64 x0) := hx.cell 0
      have z0 : W.cell? ⟨gx + 1, 0, none⟩ = some (.int .i64 x1) := hy.cell 0
      have z1 : W.cell? ⟨gx + 1, 1, none⟩ = some (.int .i64 x2) := hy.cell 1
      have hlk := pairs_look (HM2.out.on hbW) x1 x2 hmem.1 hmem.2
      clear hx hy
      have hz0 := hbW.size
      generalize (pairsF s).contains (x1, x2) = px at *
      cases px with
      | false =>
        have HP2 : Hid (((fl.take (k + 1)).filter (unfedB s)).map (·.box) = m ++ [x0]) := Lib.hid (by rw [HP.out, HQ.out, List.map_append, ← HMM.out]; rfl)
        have HQ2 : m.length + 1 ≤ fl.length := by
          have h1 := HLE.out
          have h2 := congrArg List.length HP2.out
          rw [List.length_map, List.length_append] at h2
          simp at h2
          omega
        clear HQ HP HLE
        obtain ⟨xs, ho, hfl⟩ := hown'
        have hlk0 : (Instr.lookup 114 (.map (some bm)) (.agg #[.int .i64 x1, .int .i64 x2]) false).run Try.prog W = .ok (.int .i64 0) W := by rw [hlk]; rfl
        clear hlk
        go_wp2_with (at_builtin; (refine wpList_append1 el_int rfl (.tmp 32) (.tmp 35) rfl w2.heap.size _ m.length xs rfl ho #[.int .i64 x0] _ rfl rfl rfl ?c1 ?c2 ?c3 ?_))
        case c1 => unfold maxLen; omega
        case c2 => omega
        case c3 => omega
        intro v' w3 hown' hgr hd3 hbel
        go_wp2
        go_roundw
        case rel => (repeat apply Exists.intro); (first | exact ⟨⟨k + 1, m ++ [x0], by omega, by go_num, by simp; omega, Lib.hid HP2.out.symm, OwnT.int1 hfl hown' hgr hd3, hbW.trans hbel⟩, rfl⟩ | exact ⟨by omega, by go_num, by simp; omega, Lib.hid HP2.out.symm, OwnT.int1 hfl hown' hgr hd3, hbW.trans hbel⟩)
        case measure => simp [intOf]; omega
      | true =>
        have HP2 : Hid (m = ((fl.take (k + 1)).filter (unfedB s)).map (·.box)) := Lib.hid (by rw [HP.out, HQ.out, List.map_append, ← HMM.out]; simp)
        have hlk0 : (Instr.lookup 114 (.map (some bm)) (.agg #[.int .i64 x1, .int .i64 x2]) false).run Try.prog W = .ok (.int .i64 1) W := by rw [hlk]; rfl
        clear hlk
        go_wp2_with fail
        go_roundw
        case rel => (repeat apply Exists.intro); (first | exact ⟨⟨k + 1, m, by omega, by go_num, hm, HP2, hown', hbW⟩, rfl⟩ | exact ⟨by omega, by go_num, hm, HP2, hown', hbW⟩)
        case measure => simp [intOf]; omega
    · have hkn : m = R := by rw [HMM.out, HVF.out, List.take_of_length_le (by omega)]
      subst hkn
      go_wp2
      go_ret
      exact ⟨_, rfl, hown.down (by have := HB2.out.size; omega), HB2.out.trans (hb.mono HB2.out.size)⟩
set_option maxRecDepth 100000 in
set_option maxHeartbeats 4000000 in
theorem pCheck_any (s : Shp) (h : Hd) (A : Option Addr) (c : Nat) (bs : List Bx) (A2 : Option Addr) (c2 : Nat) (st : List Stw) (w : World) (hsh : ShpR w (Lt w.heap.size) s h) (hf : Few s) (hi : Ints s) (hcl : s.cols.length ≤ 1000000) (hb : SlT tBx w (Lt w.heap.size) A bs) (hbl : bs.length ≤ 1000000)
    (hs : SlT tStw w (Lt w.heap.size) A2 st) (hl : st.length ≤ 1000000) (hlc : st.length ≤ c2) (hx : ∀ x ∈ st, I64 x.slot.col ∧ I64 x.slot.tier) :
    Calls Try.prog 31 #[.agg (shpA s h), .slice A bs.length c, .slice A2 st.length c2] w (fun e w' => Below w.heap.size w w' ∧ ∃ v, e = .returned (.tuple #[v, .int .i64 (if stowRight s bs st then 0 else 2)]) ∧ OwnT tInt 3 w' w.heap.size v (if stowRight s bs st then pfF s bs st else [])) := by
  have hb0 := ba1 w (.cells (shpA s h) 32)
  have KR := Lib.hid (stowRight_any s h A c bs A2 c2 st _ (hsh.on hb0) hf hi hcl (hb.on hb0) hbl (hs.on hb0) hl hlc (fun x hx' => (hx x hx').2.2))
  have HB0 := Lib.hid hb0
  have SB := Lib.hid (Bk.new w 32 (shpA s h))
  have KF := Lib.hid (fun (W : World) (hW : Below w.heap.size w W) => pFaults_any s h A c bs A2 c2 st W (hsh.on hW) hf hi (hb.on hW) hbl (hs.on hW) hl hx)
  clear hsh hb hs hb0 hx
  generalize stowRight s bs st = r at *
  generalize pfF s bs st = R at *
  unfold shpA at *
  go_enter Try.func31, Try.ntmps31
  go_wp2_with fail
  refine KR.out.mono ?_
  rintro e w1 ⟨rfl, hb1⟩
  simp only
  have HB1 := Lib.hid (HB0.out.trans (hb1.mono HB0.out.size))
  have SC := SB.out.below hb1 SB.out.lt
  clear KR hb1 HB0 SB
  generalize hgg : w.heap.size = g at *
  have HGG := Lib.hid hgg
  clear hgg
  have HB2 : Hid (Below g w w1) := Lib.hid (by first | exact HB1.out | (rw [← HGG.out]; exact HB1.out))
  have e0 : w1.cell? ⟨g, 0, none⟩ = some (.slice h.A1 s.cols.length h.c1) := SC.cell 0
  have e1 : w1.cell? ⟨g, 1, none⟩ = some (.slice h.A2 s.covs.length h.c2) := SC.cell 1
  have e2 : w1.cell? ⟨g, 2, none⟩ = some (.int .i64 s.l0) := SC.cell 2
  have e3 : w1.cell? ⟨g, 3, none⟩ = some (.int .i64 s.l1) := SC.cell 3
  have e4 : w1.cell? ⟨g, 4, none⟩ = some (.int .i64 s.l2) := SC.cell 4
  have e5 : w1.cell? ⟨g, 5, none⟩ = some (.int .i64 s.l3) := SC.cell 5
  have e6 : w1.cell? ⟨g, 6, none⟩ = some (.slice h.A3 s.rows.length h.c3) := SC.cell 6
  have e7 : w1.cell? ⟨g, 7, none⟩ = some (.slice h.A4 s.frames.length h.c4) := SC.cell 7
  have e8 : w1.cell? ⟨g, 8, none⟩ = some (.slice h.A5 s.tanks.length h.c5) := SC.cell 8
  have e9 : w1.cell? ⟨g, 9, none⟩ = some (.int .i64 s.m0) := SC.cell 9
  have e10 : w1.cell? ⟨g, 10, none⟩ = some (.int .i64 s.m1) := SC.cell 10
  have e11 : w1.cell? ⟨g, 11, none⟩ = some (.int .i64 s.m2) := SC.cell 11
  have e12 : w1.cell? ⟨g, 12, none⟩ = some (.int .i64 s.m3) := SC.cell 12
  clear SC
  have KF1 := Lib.hid (KF.out w1 HB1.out)
  clear KF
  cases r with
  | false =>
    go_wp2_with fail
    go_ret2
    exact ⟨by rw [HGG.out]; exact HB2.out, _, rfl, OwnT.nil⟩
  | true =>
    go_wp2_with fail
    refine KF1.out.mono ?_
    rintro e w2 ⟨v, rfl, hv, hb2⟩
    simp only
    go_wp2_with fail
    go_ret2
    exact ⟨by rw [HGG.out]; exact HB2.out.trans (hb2.mono (HGG.out ▸ HB2.out.size)), _, rfl, by rw [HGG.out]; exact hv.down (HGG.out ▸ HB2.out.size)⟩
end Go.Proofs.Ytmkplemdnglhmaa
namespace Go.Proofs.Ytmkplemdnglhmaa
open Go.RowKit

set_option maxRecDepth 100000 in
set_option maxHeartbeats 4000000 in
theorem pSupply_any (s : Shp) (h : Hd) (w : World) (hsh : ShpR w (Lt w.heap.size) s h) (hf : Few s) (hi : Ints s) :
    Calls Try.prog 38 #[.agg (shpA s h)] w (Ret w (.int .i64 (supF s : Nat))) := by
  have hb0 := ba1 w (.cells (shpA s h) 32)
  have KP := Lib.hid (plugs_any s h _ (hsh.on hb0) hf hi)
  have HB0 := Lib.hid hb0
  have HV : Hid (supF s = (pairsF s).length) := Lib.hid rfl
  clear hsh hb0
  generalize supF s = r at *
  unfold shpA at *
  go_enter Try.func38, Try.ntmps38
  go_wp2_with fail
  refine KP.out.mono ?_
  rintro e w1 ⟨bm, n, rfl, hm, hb1⟩
  simp only
  have HB1 := Lib.hid (HB0.out.trans (hb1.mono HB0.out.size))
  have hln := run_len_ms hm 3
  rw [← HV.out] at hln
  clear KP hb1 HB0
  go_wp2_with fail
  go_ret
  exact ⟨rfl, HB1.out⟩
set_option maxRecDepth 100000 in
set_option maxHeartbeats 2000000 in
theorem demand11 (b : Bx) (size gz : Nat) (w : World) (hg : w.cell? ⟨gz, 0, none⟩ = some (.int .u8 (size : Nat))) :
    Calls Try.prog 78 #[.agg (bxL b).toArray, .pointer (some ⟨gz, 0, none⟩)] w (Ret w (.bool (reefB size b))) := by
  obtain ⟨b0, b1, b2, b3, b4, b5, b6, b7, b8⟩ := b
  have hgl := block_lt_of_cell hg
  simp only at hgl
  have e0 : ((b2 : Int) == (size : Int)) = (b2 == size) := int_beq _ _
  unfold reefB bxL
  simp only
  cases b8 with
  | false =>
    go_enter Try.func78, Try.ntmps78
    go_wp2
    go_ret
    exact ⟨rfl, ba1 w _⟩
  | true =>
    go_enter Try.func78, Try.ntmps78
    go_wp2
    go_ret
    exact ⟨by simp, ba1 w _⟩
set_option maxRecDepth 100000 in
set_option maxHeartbeats 2000000 in
theorem demand1 (A : Option Addr) (c : Nat) (bs : List Bx) (size gb : Nat) (w : World) (hb : SlT tBx w (Lt w.heap.size) A bs) (hbl : bs.length ≤ 1000000) (hg : w.cell? ⟨gb, 0, none⟩ = some (.slice A bs.length c)) :
    Calls Try.prog 76 #[.int .u8 (size : Nat), .pointer (some ⟨gb, 0, none⟩)] w (Ret w (.int .i64 ((bs.filter (reefB size)).length : Nat))) := by
  have hb0 := ba1 w (.cells #[.int .u8 (size : Nat)] 5)
  have hgl := block_lt_of_cell hg
  simp only at hgl
  have HK := Lib.hid (Bk.new w 5 #[.int .u8 (size : Nat)])
  have KO := Lib.hid (onlyBx_any A c bs 78 #[.pointer (some ⟨w.heap.size, 0, none⟩)] (reefB size) _ (hb.on hb0) hbl Try.call78 (fun x w' _ hb' => demand11 x size _ w' ((HK.out.below hb' HK.out.lt).cell 0)))
  have HB0 := Lib.hid hb0
  clear hb hb0 HK
  generalize bs.filter (reefB size) = fl at *
  go_enter Try.func76, Try.ntmps76
  go_wp2_with fail
  refine KO.out.mono ?_
  rintro e w3 ⟨v, rfl, hv, hb3⟩
  simp only
  obtain ⟨AF, cF, rfl, _, _, _⟩ := OwnT.sl hv
  have HB3 := Lib.hid (HB0.out.trans (hb3.mono HB0.out.size))
  clear KO hb3 HB0 hv
  go_wp2_with fail
  go_ret
  exact ⟨rfl, HB3.out⟩
set_option maxRecDepth 100000 in
set_option maxHeartbeats 4000000 in
theorem pDemand_any (A : Option Addr) (c : Nat) (bs : List Bx) (w : World) (hb : SlT tBx w (Lt w.heap.size) A bs) (hbl : bs.length ≤ 1000000) :
    Calls Try.prog 40 #[.slice A bs.length c] w (Ret w (.int .i64 (demF bs))) := by
  have hb0 := ba1 w (.cells #[.slice A bs.length c] 33)
  have HK := Lib.hid (Bk.new w 33 #[.slice A bs.length c])
  have KD : Hid (∀ (size : Nat) (V : World), Below (w.alloc (.cells #[.slice A bs.length c] 33)).heap.size (w.alloc (.cells #[.slice A bs.length c] 33)) V → Calls Try.prog 76 #[.int .u8 (size : Nat), .pointer (some ⟨w.heap.size, 0, none⟩)] V (Ret V (.int .i64 ((bs.filter (reefB size)).length : Nat)))) := Lib.hid fun size V hV => demand1 A c bs size _ V ((hb.on hb0).on hV) hbl ((HK.out.below hV HK.out.lt).cell 0)
  have HB0 := Lib.hid hb0
  have hl1 := List.length_filter_le (reefB 40) bs
  have hl2 := List.length_filter_le (reefB 20) bs
  unfold demF
  clear hb hb0 HK
  have K1 := Lib.hid (KD.out 40 _ (Below.refl _ _))
  have K2 := Lib.hid (KD.out 20)
  clear KD
  generalize (bs.filter (reefB 40)).length = n1 at *
  generalize (bs.filter (reefB 20)).length = n2 at *
  go_enter Try.func40, Try.ntmps40
  go_wp2_with fail
  refine K1.out.mono ?_
  rintro e w3 ⟨rfl, hb3⟩
  simp only
  have HB3 := Lib.hid (HB0.out.trans (hb3.mono HB0.out.size))
  have K3 := Lib.hid (K2.out w3 hb3)
  clear K1 K2 HB0 hb3
  go_wp2_with fail
  refine K3.out.mono ?_
  rintro e w4 ⟨rfl, hb4⟩
  simp only
  clear K3
  go_wp2_with fail
  go_ret
  exact ⟨rfl, HB3.out.trans (hb4.mono HB3.out.size)⟩
set_option maxRecDepth 100000 in
set_option maxHeartbeats 4000000 in
theorem pCold_any (A : Option Addr) (c : Nat) (bs : List Bx) (A2 : Option Addr) (c2 : Nat) (st : List Stw) (w : World) (hb : SlT tBx w (Lt w.heap.size) A bs) (hbl : bs.length ≤ 1000000)
    (hs : SlT tStw w (Lt w.heap.size) A2 st) (hl : st.length ≤ 1000000) :
    Calls Try.prog 46 #[.slice A bs.length c, .slice A2 st.length c2] w (OwnL tBx 37 w (coldF bs st)) := by
  have hb0 := ba1 w (.cells #[.slice A bs.length c] 33)
  have HBB := Lib.hid (Bk.new w 33 #[.slice A bs.length c])
  have HBX := Lib.hid (hb.on hb0)
  have HST := Lib.hid (hs.on hb0)
  have HB0 := Lib.hid hb0
  have hlf := List.length_filter_le (coldB bs) st
  clear hb hs hb0
  have KO := Lib.hid (onlyStw_any A2 c2 st 87 #[.pointer (some ⟨w.heap.size, 0, none⟩)] (coldB bs) _ HST.out hl Try.call87 (fun x w' _ hb' => pcold1 A c bs x _ w' (HBX.out.on hb') hbl ((HBB.out.below hb' HBB.out.lt).cell 0)))
  go_enter Try.func46, Try.ntmps46
  go_wp2_with fail
  refine KO.out.mono ?_
  rintro e w2 ⟨v, rfl, hv, hb2⟩
  simp only
  obtain ⟨AF, cF, rfl, _, _, hsF⟩ := OwnT.sl hv
  have HSF := Lib.hid hsF
  have HB2 := Lib.hid (HB0.out.trans (hb2.mono HB0.out.size))
  have HBB2 := Lib.hid (HBB.out.below hb2 HBB.out.lt)
  have HBX2 := Lib.hid (HBX.out.on hb2)
  have HVF : Hid (coldF bs st = (st.filter (coldB bs)).map fun x => (findBx bs x.box).1) := Lib.hid rfl
  clear KO HB0 HST HBB HBX hv hb2 hsF
  have hwz : w.heap.size < w2.heap.size := HBB2.out.lt
  generalize coldF bs st = R at *
  generalize st.filter (coldB bs) = fl at *
  go_wp2_with fail
  go_loopw [5, 14] (fun v i wr => ∃ (k : Nat) (m : List Bx), k ≤ fl.length ∧ i = .int .i64 k ∧ m.length = k ∧ Hid (m = (fl.take k).map fun x => (findBx bs x.box).1) ∧ OwnT tBx 37 wr w2.heap.size v m ∧ Below w2.heap.size w2 wr) (fun _ i _ => fl.length - (intOf i).toNat)
  case atStart => exact ⟨0, [], Nat.zero_le _, rfl, by simp, Lib.hid (by simp), OwnT.nil, Below.refl _ _⟩
  case round =>
    obtain ⟨k, m, hk, rfl, hm, HMM, hown, hb⟩ := hrel
    obtain ⟨V, rfl⟩ : ∃ V, V = wr := ⟨_, rfl⟩
    by_cases hlt : k < fl.length
    · obtain ⟨b, off, rfl, hbB, c0, c1, c2', c3⟩ := (HSF.out.below hb).stw hlt
      have HP : Hid ((fl.take (k + 1)).map (fun x => (findBx bs x.box).1) = (fl.take k).map (fun x => (findBx bs x.box).1) ++ [(findBx bs (fl.getD k default).box).1]) := Lib.hid (by rw [List.take_succ_eq_append_getElem hlt, List.map_append]; simp [hlt])
      have hk0 : (0 : Int) ≤ (k : Int) := by omega
      have hk1 : (k : Int) < (fl.length : Int) := by omega
      generalize fl.getD k default = x at *
      obtain ⟨x0, x1, x2, x3⟩ := x
      simp only at c0 c1 c2' c3 HP
      have hown' := hown.below (ba1 V (.cells #[.int .i64 x0, .int .i64 x1, .int .i64 x2, .int .u8 (x3 : Nat)] 42))
      have hx := Bk.new V 42 #[.int .i64 x0, .int .i64 x1, .int .i64 x2, .int .u8 (x3 : Nat)]
      have hbW := hb.trans ((ba1 V (.cells #[.int .i64 x0, .int .i64 x1, .int .i64 x2, .int .u8 (x3 : Nat)] 42)).mono hb.size)
      go_upto_region 5 with fail
      clear hown c0 c1 c2' c3 hb
      generalize V.heap.size = gx at *
      generalize (V.alloc _) = W at *
      try clear V
      have y0 : W.cell? ⟨gx, 0, none⟩ = some (.int .i64 x0) := hx.cell 0
      have z0 : W.cell? ⟨w.heap.size, 0, none⟩ = some (.slice A bs.length c) := (HBB2.out.below hbW HBB2.out.lt).cell 0
      have KF := Lib.hid (stowFind_any A c bs x0 W (HBX2.out.on hbW) hbl)
      clear hx
      generalize findBx bs x0 = fb at *
      obtain ⟨⟨b0, b1, b2, b3, b4, b5, b6, b7, b8⟩, ok⟩ := fb
      unfold bxL at KF
      simp only at KF HP
      go_wp2_with fail
      refine KF.out.mono ?_
      rintro e w3 ⟨rfl, hb3⟩
      simp only
      have hB4 := hbW.trans ((hb3.trans ((ba1 w3 (.cells #[.int .i64 b0, .string b1, .int .u8 (b2 : Nat), .bool b3, .int .i64 b4, .int .i64 b5, .int .i64 b6, .int .u8 (b7 : Nat), .bool b8] 37)).mono hb3.size)).mono hbW.size)
      have hown2 := (hown'.below hb3).below (ba1 w3 (.cells #[.int .i64 b0, .string b1, .int .u8 (b2 : Nat), .bool b3, .int .i64 b4, .int .i64 b5, .int .i64 b6, .int .u8 (b7 : Nat), .bool b8] 37))
      have hy := Bk.new w3 37 #[.int .i64 b0, .string b1, .int .u8 (b2 : Nat), .bool b3, .int .i64 b4, .int .i64 b5, .int .i64 b6, .int .u8 (b7 : Nat), .bool b8]
      clear KF y0 z0 hown' hb3 hbW
      go_upto_region 6 with fail
      generalize w3.heap.size = gy at *
      generalize (w3.alloc _) = W4 at *
      try clear w3
      have y0 : W4.cell? ⟨gy, 0, none⟩ = some (.int .i64 b0) := hy.cell 0
      have y1 : W4.cell? ⟨gy, 1, none⟩ = some (.string b1) := hy.cell 1
      have y2 : W4.cell? ⟨gy, 2, none⟩ = some (.int .u8 (b2 : Nat)) := hy.cell 2
      have y3 : W4.cell? ⟨gy, 3, none⟩ = some (.bool b3) := hy.cell 3
      have y4 : W4.cell? ⟨gy, 4, none⟩ = some (.int .i64 b4) := hy.cell 4
      have y5 : W4.cell? ⟨gy, 5, none⟩ = some (.int .i64 b5) := hy.cell 5
      have y6 : W4.cell? ⟨gy, 6, none⟩ = some (.int .i64 b6) := hy.cell 6
      have y7 : W4.cell? ⟨gy, 7, none⟩ = some (.int .u8 (b7 : Nat)) := hy.cell 7
      have y8 : W4.cell? ⟨gy, 8, none⟩ = some (.bool b8) := hy.cell 8
      clear hy
      obtain ⟨xs, ho, hfl⟩ := hown2
      have hz0 := hB4.size
      go_wp2_with (at_builtin; (refine wpList_append1 el_bx rfl (.tmp 25) (.tmp 27) rfl w2.heap.size _ m.length xs rfl ho #[.int .i64 b0, .string b1, .int .u8 (b2 : Nat), .bool b3, .int .i64 b4, .int .i64 b5, .int .i64 b6, .int .u8 (b7 : Nat), .bool b8] _ rfl rfl rfl ?c1 ?c2 ?c3 ?_))
      case c1 => unfold maxLen; omega
      case c2 => omega
      case c3 => omega
      intro v' w3 hown' hgr hd3 hbel
      have HM2 : Hid (m ++ [(⟨b0, b1, b2, b3, b4, b5, b6, b7, b8⟩ : Bx)] = (fl.take (k + 1)).map fun x => (findBx bs x.box).1) := Lib.hid (by rw [HP.out, HMM.out])
      go_wp2
      go_roundw
      case rel => (repeat apply Exists.intro); (first | exact ⟨⟨k + 1, m ++ [(⟨b0, b1, b2, b3, b4, b5, b6, b7, b8⟩ : Bx)], by omega, by go_num, by simp; omega, HM2, OwnT.append1 (T := tBx) (x := ⟨b0, b1, b2, b3, b4, b5, b6, b7, b8⟩) hfl (cs := bxL ⟨b0, b1, b2, b3, b4, b5, b6, b7, b8⟩) rfl (by rw [hm]; exact hown') hgr hd3, hB4.trans hbel⟩, rfl⟩ | exact ⟨by omega, by go_num, by simp; omega, HM2, OwnT.append1 (T := tBx) (x := ⟨b0, b1, b2, b3, b4, b5, b6, b7, b8⟩) hfl (cs := bxL ⟨b0, b1, b2, b3, b4, b5, b6, b7, b8⟩) rfl (by rw [hm]; exact hown') hgr hd3, hB4.trans hbel⟩)
      case measure => simp [intOf]; omega
    · have hkn : m = R := by rw [HMM.out, HVF.out, List.take_of_length_le (by omega)]
      subst hkn
      go_wp2
      go_ret
      exact ⟨_, rfl, hown.down HB2.out.size, HB2.out.trans (hb.mono HB2.out.size)⟩
end Go.Proofs.Ytmkplemdnglhmaa
namespace Go.Proofs.Ytmkplemdnglhmaa
open Go.RowKit

set_option maxRecDepth 100000 in
set_option maxHeartbeats 2000000 in
theorem spare11 (x : Slt) (y : Stw) (gx : Nat) (w : World) (hx : Bk w gx 40 (sltL x).toArray) :
    Calls Try.prog 82 #[.agg (stwL y).toArray, .pointer (some ⟨gx, 0, none⟩)] w (Ret w (.bool (meetB x y.slot))) := by
  obtain ⟨x0, x1, x2⟩ := x
  obtain ⟨y0, y1, y2, y3⟩ := y
  have hb0 := ba1 w (.cells #[.int .i64 y0, .int .i64 y1, .int .i64 y2, .int .u8 (y3 : Nat)] 42)
  have KM := Lib.hid (meet_any ⟨x0, x1, x2⟩ ⟨y1, y2, y3⟩)
  unfold stwL sltL at *
  simp only at *
  have hgl := hx.lt
  have c0 : w.cell? ⟨gx, 0, none⟩ = some (.int .i64 x0) := hx.cell 0
  have c1 : w.cell? ⟨gx, 1, none⟩ = some (.int .i64 x1) := hx.cell 1
  have c2 : w.cell? ⟨gx, 2, none⟩ = some (.int .u8 (x2 : Nat)) := hx.cell 2
  generalize meetB ⟨x0, x1, x2⟩ ⟨y1, y2, y3⟩ = r at *
  have HB0 := Lib.hid hb0
  clear hb0 hx
  go_enter Try.func82, Try.ntmps82
  go_wp2_with fail
  refine (KM.out _).mono ?_
  rintro e w3 ⟨rfl, hb3⟩
  simp only
  clear KM
  go_wp2_with fail
  go_ret
  exact ⟨rfl, HB0.out.trans (hb3.mono HB0.out.size)⟩
/-- The map of pairs that operation i has laid. -/
def As.pairs (i : Nat) (L : List (Int × Int)) : As := ⟨[i], fun x w => ∃ b n, x i = .map (some b) ∧ Pairs w b n L, fun h ⟨b, n, e, r⟩ => ⟨b, n, (h i (by simp)).symm.trans e, r⟩, fun hb ⟨b, n, e, r⟩ => ⟨b, n, e, r.on hb⟩⟩
set_option maxRecDepth 100000 in
set_option maxHeartbeats 8000000 in
theorem pAt_any (s : Shp) (h : Hd) (x : Slt) (w : World) (hsh : ShpR w (Lt w.heap.size) s h) (hf : Few s) (hi : Ints s) (hx : I64 x.col ∧ I64 x.tier) :
    Calls Try.prog 36 #[.agg (shpA s h), .agg (sltL x).toArray] w (Ret w (.bool (atF s x))) := by
  have hb0 := ba2 w (.cells (shpA s h) 32) (.cells (sltL x).toArray 40)
  have HB0 := Lib.hid hb0
  have hk1 := (Bk.new w 32 (shpA s h)).alloc (.cells (sltL x).toArray 40)
  have hk2 := Bk.at_ (w := w.alloc (.cells (shpA s h) 32)) (g := w.heap.size + 1) 40 (sltL x).toArray (by simp)
  have KR := Lib.hid (fun (V : World) (hV : Cb ((w.alloc (.cells (shpA s h) 32)).alloc (.cells (sltL x).toArray 40)) V) => slotRight_any s h x 20 V ((hsh.on hb0).on hV))
  have KR4 := Lib.hid (fun (V : World) (hV : Cb ((w.alloc (.cells (shpA s h) 32)).alloc (.cells (sltL x).toArray 40)) V) => slotRight_any s h x 40 V ((hsh.on hb0).on hV))
  have KP := Lib.hid (fun (V : World) (hV : Cb ((w.alloc (.cells (shpA s h) 32)).alloc (.cells (sltL x).toArray 40)) V) => plugs_any s h V ((hsh.on hb0).on hV) hf hi)
  have HR : Hid (atF s x = ((slotRight s x 20 || slotRight s x 40) && (pairsF s).contains (x.col, x.tier))) := Lib.hid rfl
  have HI := Lib.hid hx
  clear hsh hb0 hx
  obtain ⟨x0, x1, x2⟩ := x
  simp only at HR HI
  generalize hq : (pairsF s).contains (x0, x1) = q at *
  have HQ := Lib.hid hq
  clear hq
  generalize atF s ⟨x0, x1, x2⟩ = r at *
  generalize slotRight s ⟨x0, x1, x2⟩ 20 = r20 at *
  generalize slotRight s ⟨x0, x1, x2⟩ 40 = r40 at *
  unfold shpA sltL at *
  simp only at *
  go_enter Try.func36, Try.ntmps36
  go_upto_region 1 with fail
  generalize ((w.alloc _).alloc _) = W at *
  have y0 : W.cell? ⟨w.heap.size + 1, 0, none⟩ = some (.int .i64 x0) := hk2.cell 0
  have y1 : W.cell? ⟨w.heap.size + 1, 1, none⟩ = some (.int .i64 x1) := hk2.cell 1
  have y2 : W.cell? ⟨w.heap.size + 1, 2, none⟩ = some (.int .u8 (x2 : Nat)) := hk2.cell 2
  have e0 : W.cell? ⟨w.heap.size, 0, none⟩ = some (.slice h.A1 s.cols.length h.c1) := hk1.cell 0
  have e1 : W.cell? ⟨w.heap.size, 1, none⟩ = some (.slice h.A2 s.covs.length h.c2) := hk1.cell 1
  have e2 : W.cell? ⟨w.heap.size, 2, none⟩ = some (.int .i64 s.l0) := hk1.cell 2
  have e3 : W.cell? ⟨w.heap.size, 3, none⟩ = some (.int .i64 s.l1) := hk1.cell 3
  have e4 : W.cell? ⟨w.heap.size, 4, none⟩ = some (.int .i64 s.l2) := hk1.cell 4
  have e5 : W.cell? ⟨w.heap.size, 5, none⟩ = some (.int .i64 s.l3) := hk1.cell 5
  have e6 : W.cell? ⟨w.heap.size, 6, none⟩ = some (.slice h.A3 s.rows.length h.c3) := hk1.cell 6
  have e7 : W.cell? ⟨w.heap.size, 7, none⟩ = some (.slice h.A4 s.frames.length h.c4) := hk1.cell 7
  have e8 : W.cell? ⟨w.heap.size, 8, none⟩ = some (.slice h.A5 s.tanks.length h.c5) := hk1.cell 8
  have e9 : W.cell? ⟨w.heap.size, 9, none⟩ = some (.int .i64 s.m0) := hk1.cell 9
  have e10 : W.cell? ⟨w.heap.size, 10, none⟩ = some (.int .i64 s.m1) := hk1.cell 10
  have e11 : W.cell? ⟨w.heap.size, 11, none⟩ = some (.int .i64 s.m2) := hk1.cell 11
  have e12 : W.cell? ⟨w.heap.size, 12, none⟩ = some (.int .i64 s.m3) := hk1.cell 12
  clear hk1 hk2
  cases r20 with
  | true =>
    refine wp_region_ogG [.val 0 (.agg #[.slice h.A1 s.cols.length h.c1, .slice h.A2 s.covs.length h.c2, .int .i64 s.l0, .int .i64 s.l1, .int .i64 s.l2, .int .i64 s.l3, .slice h.A3 s.rows.length h.c3, .slice h.A4 s.frames.length h.c4, .slice h.A5 s.tanks.length h.c5, .int .i64 s.m0, .int .i64 s.m1, .int .i64 s.m2, .int .i64 s.m3]),
      .val 1 (.agg #[.int .i64 x0, .int .i64 x1, .int .u8 (x2 : Nat)]),
      .val 2 (.bool true),
      .val 3 (.bool true),
      .val 4 undef,
      .val 5 undef,
      .val 6 undef,
      .val 7 (.bool true),
      .val 8 (.bool true),
      .val 9 (.agg #[.slice h.A1 s.cols.length h.c1, .slice h.A2 s.covs.length h.c2, .int .i64 s.l0, .int .i64 s.l1, .int .i64 s.l2, .int .i64 s.l3, .slice h.A3 s.rows.length h.c3, .slice h.A4 s.frames.length h.c4, .slice h.A5 s.tanks.length h.c5, .int .i64 s.m0, .int .i64 s.m1, .int .i64 s.m2, .int .i64 s.m3]),
      .pairs 10 (pairsF s),
      .val 11 (.pointer (some ⟨w.heap.size + 1, 0, none⟩)),
      .val 12 (.int .i64 x0),
      .val 13 (.pointer (some ⟨w.heap.size + 1, 1, none⟩)),
      .val 14 (.int .i64 x1),
      .val 15 (.agg #[.int .i64 x0, .int .i64 x1]),
      .val 16 (.int .i64 (if q then 1 else 0)),
      .val 17 (.bool q),
      .val 18 (.bool q),
      .val 19 (.bool q)]
      [[], [], [0, 1], [2], [3], [3], [3], [3, 6], [7], [8], [8, 9], [8], [8, 11], [8], [8, 13], [8, 12, 14], [8, 10, 15], [8, 16], [8, 17], [18]] [19] (Cb W) (by kernel_rfl) (by kernel_rfl) (Cb.drew W) ⟨?_, ?_, ?_, ?_, ?_, ?_, ?_, ?_, ?_, ?_, ?_, ?_, ?_, ?_, ?_, ?_, ?_, ?_, ?_, ?_, trivial⟩ ?_
    case refine_1 =>
      refine StepG.of rfl ?_
      refine StepL.up fun x V hV hu K Q hK => ?_
      have fe0 := hV.cell e0
      have fe1 := hV.cell e1
      have fe2 := hV.cell e2
      have fe3 := hV.cell e3
      have fe4 := hV.cell e4
      have fe5 := hV.cell e5
      have fe6 := hV.cell e6
      have fe7 := hV.cell e7
      have fe8 := hV.cell e8
      have fe9 := hV.cell e9
      have fe10 := hV.cell e10
      have fe11 := hV.cell e11
      have fe12 := hV.cell e12
      clear hu
      rw [owp_eq]
      go_big_op
      exact hK _ _ (Below.refl _ _) rfl
    case refine_2 =>
      refine StepG.of rfl ?_
      refine StepL.up fun x V hV hu K Q hK => ?_
      have fy0 := hV.cell y0
      have fy1 := hV.cell y1
      have fy2 := hV.cell y2
      clear hu
      simp only [putL, List.set_cons_zero, List.set_cons_succ] at hK ⊢
      rw [owp_eq]
      go_big_op
      exact hK _ _ (Below.refl _ _) rfl
    case refine_3 =>
      refine StepG.of rfl ?_
      refine StepL.up fun x V hV hu K Q hK => ?_
      have u0 : x 0 = _ := hu 0 (by decide)
      have u1 : x 1 = _ := hu 1 (by decide)
      clear hu
      simp only [putL, List.set_cons_zero, List.set_cons_succ] at hK ⊢
      rw [owp_eq]
      go_big_op
      refine (KR.out V hV).mono ?_
      rintro e V' ⟨rfl, hb⟩
      exact hK _ _ hb rfl
    case refine_4 =>
      refine StepG.of rfl ?_
      refine StepL.up fun x V hV hu K Q hK => ?_
      have u2 : x 2 = _ := hu 2 (by decide)
      clear hu
      simp only [putL, List.set_cons_zero, List.set_cons_succ] at hK ⊢
      rw [owp_eq]
      go_big_op
      exact hK _ _ (Below.refl _ _) rfl
    case refine_5 =>
      exact StepG.no 3 false 8 (.bool true) rfl rfl (fun x => by simp only [putL, List.set_cons_zero, List.set_cons_succ]; rfl) rfl (fun x w h => h) (by simp) (fun x w => upd_same ..)
    case refine_6 =>
      exact StepG.no 3 false 8 (.bool true) rfl rfl (fun x => by simp only [putL, List.set_cons_zero, List.set_cons_succ]; rfl) rfl (fun x w h => h) (by simp) (fun x w => upd_same ..)
    case refine_7 =>
      exact StepG.no 3 false 8 (.bool true) rfl rfl (fun x => by simp only [putL, List.set_cons_zero, List.set_cons_succ]; rfl) rfl (fun x w h => h) (by simp) (fun x w => upd_same ..)
    case refine_8 =>
      refine StepG.of rfl ?_
      refine StepL.up fun x V hV hu K Q hK => ?_
      have u3 : x 3 = _ := hu 3 (by decide)
      have u6 : x 6 = _ := hu 6 (by decide)
      clear hu
      simp only [putL, List.set_cons_zero, List.set_cons_succ] at hK ⊢
      rw [owp_eq]
      go_big_op
      exact hK _ _ (Below.refl _ _) rfl
    case refine_9 =>
      refine StepG.of rfl ?_
      refine StepL.up fun x V hV hu K Q hK => ?_
      have u7 : x 7 = _ := hu 7 (by decide)
      clear hu
      simp only [putL, List.set_cons_zero, List.set_cons_succ] at hK ⊢
      rw [owp_eq]
      go_big_op
      exact hK _ _ (Below.refl _ _) rfl
    case refine_10 =>
      refine StepG.yes 8 true 13 rfl rfl (fun x => by simp only [putL, List.set_cons_zero, List.set_cons_succ]; rfl) rfl (fun x w h => h) ?_
      refine StepL.up fun x V hV hu K Q hK => ?_
      have u8 : x 8 = _ := hu 8 (by decide)
      have fe0 := hV.cell e0
      have fe1 := hV.cell e1
      have fe2 := hV.cell e2
      have fe3 := hV.cell e3
      have fe4 := hV.cell e4
      have fe5 := hV.cell e5
      have fe6 := hV.cell e6
      have fe7 := hV.cell e7
      have fe8 := hV.cell e8
      have fe9 := hV.cell e9
      have fe10 := hV.cell e10
      have fe11 := hV.cell e11
      have fe12 := hV.cell e12
      clear hu
      simp only [putL, List.set_cons_zero, List.set_cons_succ] at hK ⊢
      rw [owp_eq]
      go_big_op
      exact hK _ _ (Below.refl _ _) rfl
    case refine_11 =>
      refine StepG.yes 8 true 13 rfl rfl (fun x => by simp only [putL, List.set_cons_zero, List.set_cons_succ]; rfl) rfl (fun x w h => h) ?_
      refine StepL.up fun x V hV hu K Q hK => ?_
      have u8 : x 8 = _ := hu 8 (by decide)
      have u9 : x 9 = _ := hu 9 (by decide)
      clear hu
      simp only [putL, List.set_cons_zero, List.set_cons_succ] at hK ⊢
      rw [owp_eq]
      go_big_op
      refine (KP.out V hV).mono ?_
      rintro e V' ⟨bm, n, rfl, hm, hb⟩
      exact hK _ _ hb ⟨_, _, rfl, hm⟩
    case refine_12 =>
      refine StepG.yes 8 true 13 rfl rfl (fun x => by simp only [putL, List.set_cons_zero, List.set_cons_succ]; rfl) rfl (fun x w h => h) ?_
      refine StepL.up fun x V hV hu K Q hK => ?_
      have u8 : x 8 = _ := hu 8 (by decide)
      clear hu
      simp only [putL, List.set_cons_zero, List.set_cons_succ] at hK ⊢
      rw [owp_eq]
      go_big_op
      exact hK _ _ (Below.refl _ _) rfl
    case refine_13 =>
      refine StepG.yes 8 true 13 rfl rfl (fun x => by simp only [putL, List.set_cons_zero, List.set_cons_succ]; rfl) rfl (fun x w h => h) ?_
      refine StepL.up fun x V hV hu K Q hK => ?_
      have u8 : x 8 = _ := hu 8 (by decide)
      have u11 : x 11 = _ := hu 11 (by decide)
      have fy0 := hV.cell y0
      clear hu
      simp only [putL, List.set_cons_zero, List.set_cons_succ] at hK ⊢
      rw [owp_eq]
      go_big_op
      exact hK _ _ (Below.refl _ _) rfl
    case refine_14 =>
      refine StepG.yes 8 true 13 rfl rfl (fun x => by simp only [putL, List.set_cons_zero, List.set_cons_succ]; rfl) rfl (fun x w h => h) ?_
      refine StepL.up fun x V hV hu K Q hK => ?_
      have u8 : x 8 = _ := hu 8 (by decide)
      clear hu
      simp only [putL, List.set_cons_zero, List.set_cons_succ] at hK ⊢
      rw [owp_eq]
      go_big_op
      exact hK _ _ (Below.refl _ _) rfl
    case refine_15 =>
      refine StepG.yes 8 true 13 rfl rfl (fun x => by simp only [putL, List.set_cons_zero, List.set_cons_succ]; rfl) rfl (fun x w h => h) ?_
      refine StepL.up fun x V hV hu K Q hK => ?_
      have u8 : x 8 = _ := hu 8 (by decide)
      have u13 : x 13 = _ := hu 13 (by decide)
      have fy1 := hV.cell y1
      clear hu
      simp only [putL, List.set_cons_zero, List.set_cons_succ] at hK ⊢
      rw [owp_eq]
      go_big_op
      exact hK _ _ (Below.refl _ _) rfl
    case refine_16 =>
      refine StepG.yes 8 true 13 rfl rfl (fun x => by simp only [putL, List.set_cons_zero, List.set_cons_succ]; rfl) rfl (fun x w h => h) ?_
      refine StepL.up fun x V hV hu K Q hK => ?_
      have u8 : x 8 = _ := hu 8 (by decide)
      have u12 : x 12 = _ := hu 12 (by decide)
      have u14 : x 14 = _ := hu 14 (by decide)
      clear hu
      simp only [putL, List.set_cons_zero, List.set_cons_succ] at hK ⊢
      rw [owp_eq]
      go_big_op
      exact hK _ _ (Below.refl _ _) rfl
    case refine_17 =>
      refine StepG.yes 8 true 13 rfl rfl (fun x => by simp only [putL, List.set_cons_zero, List.set_cons_succ]; rfl) rfl (fun x w h => h) ?_
      refine StepL.up fun x V hV hu K Q hK => ?_
      obtain ⟨bm, n, u10, hm⟩ := hu 10 (by decide)
      have u15 : x 15 = _ := hu 15 (by decide)
      clear hu
      have hlk := pairs_look hm x0 x1 HI.out.1 HI.out.2
      rw [HQ.out] at hlk
      simp only [putL, List.set_cons_zero, List.set_cons_succ] at hK ⊢
      rw [owp_eq]
      go_big_op
      exact hK _ _ (Below.refl _ _) rfl
    case refine_18 =>
      refine StepG.yes 8 true 13 rfl rfl (fun x => by simp only [putL, List.set_cons_zero, List.set_cons_succ]; rfl) rfl (fun x w h => h) ?_
      refine StepL.up fun x V hV hu K Q hK => ?_
      have u16 : x 16 = _ := hu 16 (by decide)
      clear hu
      simp only [putL, List.set_cons_zero, List.set_cons_succ] at hK ⊢
      rw [owp_eq]
      cases q <;> (go_big_op; exact hK _ _ (Below.refl _ _) rfl)
    case refine_19 =>
      refine StepG.of rfl ?_
      refine StepL.up fun x V hV hu K Q hK => ?_
      have u8 : x 8 = _ := hu 8 (by decide)
      have u17 : x 17 = _ := hu 17 (by decide)
      clear hu
      simp only [putL, List.set_cons_zero, List.set_cons_succ] at hK ⊢
      rw [owp_eq]
      go_big_op
      exact hK _ _ (Below.refl _ _) rfl
    case refine_20 =>
      refine StepG.of rfl ?_
      refine StepL.up fun x V hV hu K Q hK => ?_
      have u18 : x 18 = _ := hu 18 (by decide)
      clear hu
      simp only [putL, List.set_cons_zero, List.set_cons_succ] at hK ⊢
      rw [owp_eq]
      go_big_op
      exact hK _ _ (Below.refl _ _) rfl
    case refine_21 =>
      intro x Y hV hA
      have h19 : x 19 = _ := hA 19 rfl (by decide)
      have HVY := Lib.hid hV
      clear hA hV
      simp only [layL, putL, List.set_cons_zero, List.set_cons_succ]
      rw [h19]
      go_wp2_with fail
      go_ret
      exact ⟨by rw [HR.out]; rfl, HB0.out.trans (Below.mono HVY.out HB0.out.size)⟩
  | false =>
    cases r40 with
    | true =>
      refine wp_region_ogG [.val 0 (.agg #[.slice h.A1 s.cols.length h.c1, .slice h.A2 s.covs.length h.c2, .int .i64 s.l0, .int .i64 s.l1, .int .i64 s.l2, .int .i64 s.l3, .slice h.A3 s.rows.length h.c3, .slice h.A4 s.frames.length h.c4, .slice h.A5 s.tanks.length h.c5, .int .i64 s.m0, .int .i64 s.m1, .int .i64 s.m2, .int .i64 s.m3]),
        .val 1 (.agg #[.int .i64 x0, .int .i64 x1, .int .u8 (x2 : Nat)]),
        .val 2 (.bool false),
        .val 3 (.bool false),
        .val 4 (.agg #[.slice h.A1 s.cols.length h.c1, .slice h.A2 s.covs.length h.c2, .int .i64 s.l0, .int .i64 s.l1, .int .i64 s.l2, .int .i64 s.l3, .slice h.A3 s.rows.length h.c3, .slice h.A4 s.frames.length h.c4, .slice h.A5 s.tanks.length h.c5, .int .i64 s.m0, .int .i64 s.m1, .int .i64 s.m2, .int .i64 s.m3]),
        .val 5 (.agg #[.int .i64 x0, .int .i64 x1, .int .u8 (x2 : Nat)]),
        .val 6 (.bool true),
        .val 7 (.bool true),
        .val 8 (.bool true),
        .val 9 (.agg #[.slice h.A1 s.cols.length h.c1, .slice h.A2 s.covs.length h.c2, .int .i64 s.l0, .int .i64 s.l1, .int .i64 s.l2, .int .i64 s.l3, .slice h.A3 s.rows.length h.c3, .slice h.A4 s.frames.length h.c4, .slice h.A5 s.tanks.length h.c5, .int .i64 s.m0, .int .i64 s.m1, .int .i64 s.m2, .int .i64 s.m3]),
        .pairs 10 (pairsF s),
        .val 11 (.pointer (some ⟨w.heap.size + 1, 0, none⟩)),
        .val 12 (.int .i64 x0),
        .val 13 (.pointer (some ⟨w.heap.size + 1, 1, none⟩)),
        .val 14 (.int .i64 x1),
        .val 15 (.agg #[.int .i64 x0, .int .i64 x1]),
        .val 16 (.int .i64 (if q then 1 else 0)),
        .val 17 (.bool q),
        .val 18 (.bool q),
        .val 19 (.bool q)]
        [[], [], [0, 1], [2], [3], [3], [3, 4, 5], [3, 6], [7], [8], [8, 9], [8], [8, 11], [8], [8, 13], [8, 12, 14], [8, 10, 15], [8, 16], [8, 17], [18]] [19] (Cb W) (by kernel_rfl) (by kernel_rfl) (Cb.drew W) ⟨?_, ?_, ?_, ?_, ?_, ?_, ?_, ?_, ?_, ?_, ?_, ?_, ?_, ?_, ?_, ?_, ?_, ?_, ?_, ?_, trivial⟩ ?_
      case refine_1 =>
        refine StepG.of rfl ?_
        refine StepL.up fun x V hV hu K Q hK => ?_
        have fe0 := hV.cell e0
        have fe1 := hV.cell e1
        have fe2 := hV.cell e2
        have fe3 := hV.cell e3
        have fe4 := hV.cell e4
        have fe5 := hV.cell e5
        have fe6 := hV.cell e6
        have fe7 := hV.cell e7
        have fe8 := hV.cell e8
        have fe9 := hV.cell e9
        have fe10 := hV.cell e10
        have fe11 := hV.cell e11
        have fe12 := hV.cell e12
        clear hu
        rw [owp_eq]
        go_big_op
        exact hK _ _ (Below.refl _ _) rfl
      case refine_2 =>
        refine StepG.of rfl ?_
        refine StepL.up fun x V hV hu K Q hK => ?_
        have fy0 := hV.cell y0
        have fy1 := hV.cell y1
        have fy2 := hV.cell y2
        clear hu
        simp only [putL, List.set_cons_zero, List.set_cons_succ] at hK ⊢
        rw [owp_eq]
        go_big_op
        exact hK _ _ (Below.refl _ _) rfl
      case refine_3 =>
        refine StepG.of rfl ?_
        refine StepL.up fun x V hV hu K Q hK => ?_
        have u0 : x 0 = _ := hu 0 (by decide)
        have u1 : x 1 = _ := hu 1 (by decide)
        clear hu
        simp only [putL, List.set_cons_zero, List.set_cons_succ] at hK ⊢
        rw [owp_eq]
        go_big_op
        refine (KR.out V hV).mono ?_
        rintro e V' ⟨rfl, hb⟩
        exact hK _ _ hb rfl
      case refine_4 =>
        refine StepG.of rfl ?_
        refine StepL.up fun x V hV hu K Q hK => ?_
        have u2 : x 2 = _ := hu 2 (by decide)
        clear hu
        simp only [putL, List.set_cons_zero, List.set_cons_succ] at hK ⊢
        rw [owp_eq]
        go_big_op
        exact hK _ _ (Below.refl _ _) rfl
      case refine_5 =>
        refine StepG.yes 3 false 8 rfl rfl (fun x => by simp only [putL, List.set_cons_zero, List.set_cons_succ]; rfl) rfl (fun x w h => h) ?_
        refine StepL.up fun x V hV hu K Q hK => ?_
        have u3 : x 3 = _ := hu 3 (by decide)
        have fe0 := hV.cell e0
        have fe1 := hV.cell e1
        have fe2 := hV.cell e2
        have fe3 := hV.cell e3
        have fe4 := hV.cell e4
        have fe5 := hV.cell e5
        have fe6 := hV.cell e6
        have fe7 := hV.cell e7
        have fe8 := hV.cell e8
        have fe9 := hV.cell e9
        have fe10 := hV.cell e10
        have fe11 := hV.cell e11
        have fe12 := hV.cell e12
        clear hu
        simp only [putL, List.set_cons_zero, List.set_cons_succ] at hK ⊢
        rw [owp_eq]
        go_big_op
        exact hK _ _ (Below.refl _ _) rfl
      case refine_6 =>
        refine StepG.yes 3 false 8 rfl rfl (fun x => by simp only [putL, List.set_cons_zero, List.set_cons_succ]; rfl) rfl (fun x w h => h) ?_
        refine StepL.up fun x V hV hu K Q hK => ?_
        have u3 : x 3 = _ := hu 3 (by decide)
        have fy0 := hV.cell y0
        have fy1 := hV.cell y1
        have fy2 := hV.cell y2
        clear hu
        simp only [putL, List.set_cons_zero, List.set_cons_succ] at hK ⊢
        rw [owp_eq]
        go_big_op
        exact hK _ _ (Below.refl _ _) rfl
      case refine_7 =>
        refine StepG.yes 3 false 8 rfl rfl (fun x => by simp only [putL, List.set_cons_zero, List.set_cons_succ]; rfl) rfl (fun x w h => h) ?_
        refine StepL.up fun x V hV hu K Q hK => ?_
        have u3 : x 3 = _ := hu 3 (by decide)
        have u4 : x 4 = _ := hu 4 (by decide)
        have u5 : x 5 = _ := hu 5 (by decide)
        clear hu
        simp only [putL, List.set_cons_zero, List.set_cons_succ] at hK ⊢
        rw [owp_eq]
        go_big_op
        refine (KR4.out V hV).mono ?_
        rintro e V' ⟨rfl, hb⟩
        exact hK _ _ hb rfl
      case refine_8 =>
        refine StepG.of rfl ?_
        refine StepL.up fun x V hV hu K Q hK => ?_
        have u3 : x 3 = _ := hu 3 (by decide)
        have u6 : x 6 = _ := hu 6 (by decide)
        clear hu
        simp only [putL, List.set_cons_zero, List.set_cons_succ] at hK ⊢
        rw [owp_eq]
        go_big_op
        exact hK _ _ (Below.refl _ _) rfl
      case refine_9 =>
        refine StepG.of rfl ?_
        refine StepL.up fun x V hV hu K Q hK => ?_
        have u7 : x 7 = _ := hu 7 (by decide)
        clear hu
        simp only [putL, List.set_cons_zero, List.set_cons_succ] at hK ⊢
        rw [owp_eq]
        go_big_op
        exact hK _ _ (Below.refl _ _) rfl
      case refine_10 =>
        refine StepG.yes 8 true 13 rfl rfl (fun x => by simp only [putL, List.set_cons_zero, List.set_cons_succ]; rfl) rfl (fun x w h => h) ?_
        refine StepL.up fun x V hV hu K Q hK => ?_
        have u8 : x 8 = _ := hu 8 (by decide)
        have fe0 := hV.cell e0
        have fe1 := hV.cell e1
        have fe2 := hV.cell e2
        have fe3 := hV.cell e3
        have fe4 := hV.cell e4
        have fe5 := hV.cell e5
        have fe6 := hV.cell e6
        have fe7 := hV.cell e7
        have fe8 := hV.cell e8
        have fe9 := hV.cell e9
        have fe10 := hV.cell e10
        have fe11 := hV.cell e11
        have fe12 := hV.cell e12
        clear hu
        simp only [putL, List.set_cons_zero, List.set_cons_succ] at hK ⊢
        rw [owp_eq]
        go_big_op
        exact hK _ _ (Below.refl _ _) rfl
      case refine_11 =>
        refine StepG.yes 8 true 13 rfl rfl (fun x => by simp only [putL, List.set_cons_zero, List.set_cons_succ]; rfl) rfl (fun x w h => h) ?_
        refine StepL.up fun x V hV hu K Q hK => ?_
        have u8 : x 8 = _ := hu 8 (by decide)
        have u9 : x 9 = _ := hu 9 (by decide)
        clear hu
        simp only [putL, List.set_cons_zero, List.set_cons_succ] at hK ⊢
        rw [owp_eq]
        go_big_op
        refine (KP.out V hV).mono ?_
        rintro e V' ⟨bm, n, rfl, hm, hb⟩
        exact hK _ _ hb ⟨_, _, rfl, hm⟩
      case refine_12 =>
        refine StepG.yes 8 true 13 rfl rfl (fun x => by simp only [putL, List.set_cons_zero, List.set_cons_succ]; rfl) rfl (fun x w h => h) ?_
        refine StepL.up fun x V hV hu K Q hK => ?_
        have u8 : x 8 = _ := hu 8 (by decide)
        clear hu
        simp only [putL, List.set_cons_zero, List.set_cons_succ] at hK ⊢
        rw [owp_eq]
        go_big_op
        exact hK _ _ (Below.refl _ _) rfl
      case refine_13 =>
        refine StepG.yes 8 true 13 rfl rfl (fun x => by simp only [putL, List.set_cons_zero, List.set_cons_succ]; rfl) rfl (fun x w h => h) ?_
        refine StepL.up fun x V hV hu K Q hK => ?_
        have u8 : x 8 = _ := hu 8 (by decide)
        have u11 : x 11 = _ := hu 11 (by decide)
        have fy0 := hV.cell y0
        clear hu
        simp only [putL, List.set_cons_zero, List.set_cons_succ] at hK ⊢
        rw [owp_eq]
        go_big_op
        exact hK _ _ (Below.refl _ _) rfl
      case refine_14 =>
        refine StepG.yes 8 true 13 rfl rfl (fun x => by simp only [putL, List.set_cons_zero, List.set_cons_succ]; rfl) rfl (fun x w h => h) ?_
        refine StepL.up fun x V hV hu K Q hK => ?_
        have u8 : x 8 = _ := hu 8 (by decide)
        clear hu
        simp only [putL, List.set_cons_zero, List.set_cons_succ] at hK ⊢
        rw [owp_eq]
        go_big_op
        exact hK _ _ (Below.refl _ _) rfl
      case refine_15 =>
        refine StepG.yes 8 true 13 rfl rfl (fun x => by simp only [putL, List.set_cons_zero, List.set_cons_succ]; rfl) rfl (fun x w h => h) ?_
        refine StepL.up fun x V hV hu K Q hK => ?_
        have u8 : x 8 = _ := hu 8 (by decide)
        have u13 : x 13 = _ := hu 13 (by decide)
        have fy1 := hV.cell y1
        clear hu
        simp only [putL, List.set_cons_zero, List.set_cons_succ] at hK ⊢
        rw [owp_eq]
        go_big_op
        exact hK _ _ (Below.refl _ _) rfl
      case refine_16 =>
        refine StepG.yes 8 true 13 rfl rfl (fun x => by simp only [putL, List.set_cons_zero, List.set_cons_succ]; rfl) rfl (fun x w h => h) ?_
        refine StepL.up fun x V hV hu K Q hK => ?_
        have u8 : x 8 = _ := hu 8 (by decide)
        have u12 : x 12 = _ := hu 12 (by decide)
        have u14 : x 14 = _ := hu 14 (by decide)
        clear hu
        simp only [putL, List.set_cons_zero, List.set_cons_succ] at hK ⊢
        rw [owp_eq]
        go_big_op
        exact hK _ _ (Below.refl _ _) rfl
      case refine_17 =>
        refine StepG.yes 8 true 13 rfl rfl (fun x => by simp only [putL, List.set_cons_zero, List.set_cons_succ]; rfl) rfl (fun x w h => h) ?_
        refine StepL.up fun x V hV hu K Q hK => ?_
        obtain ⟨bm, n, u10, hm⟩ := hu 10 (by decide)
        have u15 : x 15 = _ := hu 15 (by decide)
        clear hu
        have hlk := pairs_look hm x0 x1 HI.out.1 HI.out.2
        rw [HQ.out] at hlk
        simp only [putL, List.set_cons_zero, List.set_cons_succ] at hK ⊢
        rw [owp_eq]
        go_big_op
        exact hK _ _ (Below.refl _ _) rfl
      case refine_18 =>
        refine StepG.yes 8 true 13 rfl rfl (fun x => by simp only [putL, List.set_cons_zero, List.set_cons_succ]; rfl) rfl (fun x w h => h) ?_
        refine StepL.up fun x V hV hu K Q hK => ?_
        have u16 : x 16 = _ := hu 16 (by decide)
        clear hu
        simp only [putL, List.set_cons_zero, List.set_cons_succ] at hK ⊢
        rw [owp_eq]
        cases q <;> (go_big_op; exact hK _ _ (Below.refl _ _) rfl)
      case refine_19 =>
        refine StepG.of rfl ?_
        refine StepL.up fun x V hV hu K Q hK => ?_
        have u8 : x 8 = _ := hu 8 (by decide)
        have u17 : x 17 = _ := hu 17 (by decide)
        clear hu
        simp only [putL, List.set_cons_zero, List.set_cons_succ] at hK ⊢
        rw [owp_eq]
        go_big_op
        exact hK _ _ (Below.refl _ _) rfl
      case refine_20 =>
        refine StepG.of rfl ?_
        refine StepL.up fun x V hV hu K Q hK => ?_
        have u18 : x 18 = _ := hu 18 (by decide)
        clear hu
        simp only [putL, List.set_cons_zero, List.set_cons_succ] at hK ⊢
        rw [owp_eq]
        go_big_op
        exact hK _ _ (Below.refl _ _) rfl
      case refine_21 =>
        intro x Y hV hA
        have h19 : x 19 = _ := hA 19 rfl (by decide)
        have HVY := Lib.hid hV
        clear hA hV
        simp only [layL, putL, List.set_cons_zero, List.set_cons_succ]
        rw [h19]
        go_wp2_with fail
        go_ret
        exact ⟨by rw [HR.out]; rfl, HB0.out.trans (Below.mono HVY.out HB0.out.size)⟩
    | false =>
      refine wp_region_ogG [.val 0 (.agg #[.slice h.A1 s.cols.length h.c1, .slice h.A2 s.covs.length h.c2, .int .i64 s.l0, .int .i64 s.l1, .int .i64 s.l2, .int .i64 s.l3, .slice h.A3 s.rows.length h.c3, .slice h.A4 s.frames.length h.c4, .slice h.A5 s.tanks.length h.c5, .int .i64 s.m0, .int .i64 s.m1, .int .i64 s.m2, .int .i64 s.m3]),
        .val 1 (.agg #[.int .i64 x0, .int .i64 x1, .int .u8 (x2 : Nat)]),
        .val 2 (.bool false),
        .val 3 (.bool false),
        .val 4 (.agg #[.slice h.A1 s.cols.length h.c1, .slice h.A2 s.covs.length h.c2, .int .i64 s.l0, .int .i64 s.l1, .int .i64 s.l2, .int .i64 s.l3, .slice h.A3 s.rows.length h.c3, .slice h.A4 s.frames.length h.c4, .slice h.A5 s.tanks.length h.c5, .int .i64 s.m0, .int .i64 s.m1, .int .i64 s.m2, .int .i64 s.m3]),
        .val 5 (.agg #[.int .i64 x0, .int .i64 x1, .int .u8 (x2 : Nat)]),
        .val 6 (.bool false),
        .val 7 (.bool false),
        .val 8 (.bool false),
        .val 9 undef,
        .val 10 undef,
        .val 11 undef,
        .val 12 undef,
        .val 13 undef,
        .val 14 undef,
        .val 15 undef,
        .val 16 undef,
        .val 17 undef,
        .val 18 (.bool false),
        .val 19 (.bool false)]
        [[], [], [0, 1], [2], [3], [3], [3, 4, 5], [3, 6], [7], [8], [8], [8], [8], [8], [8], [8], [8], [8], [8, 17], [18]] [19] (Cb W) (by kernel_rfl) (by kernel_rfl) (Cb.drew W) ⟨?_, ?_, ?_, ?_, ?_, ?_, ?_, ?_, ?_, ?_, ?_, ?_, ?_, ?_, ?_, ?_, ?_, ?_, ?_, ?_, trivial⟩ ?_
      case refine_1 =>
        refine StepG.of rfl ?_
        refine StepL.up fun x V hV hu K Q hK => ?_
        have fe0 := hV.cell e0
        have fe1 := hV.cell e1
        have fe2 := hV.cell e2
        have fe3 := hV.cell e3
        have fe4 := hV.cell e4
        have fe5 := hV.cell e5
        have fe6 := hV.cell e6
        have fe7 := hV.cell e7
        have fe8 := hV.cell e8
        have fe9 := hV.cell e9
        have fe10 := hV.cell e10
        have fe11 := hV.cell e11
        have fe12 := hV.cell e12
        clear hu
        rw [owp_eq]
        go_big_op
        exact hK _ _ (Below.refl _ _) rfl
      case refine_2 =>
        refine StepG.of rfl ?_
        refine StepL.up fun x V hV hu K Q hK => ?_
        have fy0 := hV.cell y0
        have fy1 := hV.cell y1
        have fy2 := hV.cell y2
        clear hu
        simp only [putL, List.set_cons_zero, List.set_cons_succ] at hK ⊢
        rw [owp_eq]
        go_big_op
        exact hK _ _ (Below.refl _ _) rfl
      case refine_3 =>
        refine StepG.of rfl ?_
        refine StepL.up fun x V hV hu K Q hK => ?_
        have u0 : x 0 = _ := hu 0 (by decide)
        have u1 : x 1 = _ := hu 1 (by decide)
        clear hu
        simp only [putL, List.set_cons_zero, List.set_cons_succ] at hK ⊢
        rw [owp_eq]
        go_big_op
        refine (KR.out V hV).mono ?_
        rintro e V' ⟨rfl, hb⟩
        exact hK _ _ hb rfl
      case refine_4 =>
        refine StepG.of rfl ?_
        refine StepL.up fun x V hV hu K Q hK => ?_
        have u2 : x 2 = _ := hu 2 (by decide)
        clear hu
        simp only [putL, List.set_cons_zero, List.set_cons_succ] at hK ⊢
        rw [owp_eq]
        go_big_op
        exact hK _ _ (Below.refl _ _) rfl
      case refine_5 =>
        refine StepG.yes 3 false 8 rfl rfl (fun x => by simp only [putL, List.set_cons_zero, List.set_cons_succ]; rfl) rfl (fun x w h => h) ?_
        refine StepL.up fun x V hV hu K Q hK => ?_
        have u3 : x 3 = _ := hu 3 (by decide)
        have fe0 := hV.cell e0
        have fe1 := hV.cell e1
        have fe2 := hV.cell e2
        have fe3 := hV.cell e3
        have fe4 := hV.cell e4
        have fe5 := hV.cell e5
        have fe6 := hV.cell e6
        have fe7 := hV.cell e7
        have fe8 := hV.cell e8
        have fe9 := hV.cell e9
        have fe10 := hV.cell e10
        have fe11 := hV.cell e11
        have fe12 := hV.cell e12
        clear hu
        simp only [putL, List.set_cons_zero, List.set_cons_succ] at hK ⊢
        rw [owp_eq]
        go_big_op
        exact hK _ _ (Below.refl _ _) rfl
      case refine_6 =>
        refine StepG.yes 3 false 8 rfl rfl (fun x => by simp only [putL, List.set_cons_zero, List.set_cons_succ]; rfl) rfl (fun x w h => h) ?_
        refine StepL.up fun x V hV hu K Q hK => ?_
        have u3 : x 3 = _ := hu 3 (by decide)
        have fy0 := hV.cell y0
        have fy1 := hV.cell y1
        have fy2 := hV.cell y2
        clear hu
        simp only [putL, List.set_cons_zero, List.set_cons_succ] at hK ⊢
        rw [owp_eq]
        go_big_op
        exact hK _ _ (Below.refl _ _) rfl
      case refine_7 =>
        refine StepG.yes 3 false 8 rfl rfl (fun x => by simp only [putL, List.set_cons_zero, List.set_cons_succ]; rfl) rfl (fun x w h => h) ?_
        refine StepL.up fun x V hV hu K Q hK => ?_
        have u3 : x 3 = _ := hu 3 (by decide)
        have u4 : x 4 = _ := hu 4 (by decide)
        have u5 : x 5 = _ := hu 5 (by decide)
        clear hu
        simp only [putL, List.set_cons_zero, List.set_cons_succ] at hK ⊢
        rw [owp_eq]
        go_big_op
        refine (KR4.out V hV).mono ?_
        rintro e V' ⟨rfl, hb⟩
        exact hK _ _ hb rfl
      case refine_8 =>
        refine StepG.of rfl ?_
        refine StepL.up fun x V hV hu K Q hK => ?_
        have u3 : x 3 = _ := hu 3 (by decide)
        have u6 : x 6 = _ := hu 6 (by decide)
        clear hu
        simp only [putL, List.set_cons_zero, List.set_cons_succ] at hK ⊢
        rw [owp_eq]
        go_big_op
        exact hK _ _ (Below.refl _ _) rfl
      case refine_9 =>
        refine StepG.of rfl ?_
        refine StepL.up fun x V hV hu K Q hK => ?_
        have u7 : x 7 = _ := hu 7 (by decide)
        clear hu
        simp only [putL, List.set_cons_zero, List.set_cons_succ] at hK ⊢
        rw [owp_eq]
        go_big_op
        exact hK _ _ (Below.refl _ _) rfl
      case refine_10 =>
        exact StepG.no 8 true 13 (.bool false) rfl rfl (fun x => by simp only [putL, List.set_cons_zero, List.set_cons_succ]; rfl) rfl (fun x w h => h) (by simp) (fun x w => upd_same ..)
      case refine_11 =>
        exact StepG.no 8 true 13 (.bool false) rfl rfl (fun x => by simp only [putL, List.set_cons_zero, List.set_cons_succ]; rfl) rfl (fun x w h => h) (by simp) (fun x w => upd_same ..)
      case refine_12 =>
        exact StepG.no 8 true 13 (.bool false) rfl rfl (fun x => by simp only [putL, List.set_cons_zero, List.set_cons_succ]; rfl) rfl (fun x w h => h) (by simp) (fun x w => upd_same ..)
      case refine_13 =>
        exact StepG.no 8 true 13 (.bool false) rfl rfl (fun x => by simp only [putL, List.set_cons_zero, List.set_cons_succ]; rfl) rfl (fun x w h => h) (by simp) (fun x w => upd_same ..)
      case refine_14 =>
        exact StepG.no 8 true 13 (.bool false) rfl rfl (fun x => by simp only [putL, List.set_cons_zero, List.set_cons_succ]; rfl) rfl (fun x w h => h) (by simp) (fun x w => upd_same ..)
      case refine_15 =>
        exact StepG.no 8 true 13 (.bool false) rfl rfl (fun x => by simp only [putL, List.set_cons_zero, List.set_cons_succ]; rfl) rfl (fun x w h => h) (by simp) (fun x w => upd_same ..)
      case refine_16 =>
        exact StepG.no 8 true 13 (.bool false) rfl rfl (fun x => by simp only [putL, List.set_cons_zero, List.set_cons_succ]; rfl) rfl (fun x w h => h) (by simp) (fun x w => upd_same ..)
      case refine_17 =>
        exact StepG.no 8 true 13 (.bool false) rfl rfl (fun x => by simp only [putL, List.set_cons_zero, List.set_cons_succ]; rfl) rfl (fun x w h => h) (by simp) (fun x w => upd_same ..)
      case refine_18 =>
        exact StepG.no 8 true 13 (.bool false) rfl rfl (fun x => by simp only [putL, List.set_cons_zero, List.set_cons_succ]; rfl) rfl (fun x w h => h) (by simp) (fun x w => upd_same ..)
      case refine_19 =>
        refine StepG.of rfl ?_
        refine StepL.up fun x V hV hu K Q hK => ?_
        have u8 : x 8 = _ := hu 8 (by decide)
        have u17 : x 17 = _ := hu 17 (by decide)
        clear hu
        simp only [putL, List.set_cons_zero, List.set_cons_succ] at hK ⊢
        rw [owp_eq]
        go_big_op
        exact hK _ _ (Below.refl _ _) rfl
      case refine_20 =>
        refine StepG.of rfl ?_
        refine StepL.up fun x V hV hu K Q hK => ?_
        have u18 : x 18 = _ := hu 18 (by decide)
        clear hu
        simp only [putL, List.set_cons_zero, List.set_cons_succ] at hK ⊢
        rw [owp_eq]
        go_big_op
        exact hK _ _ (Below.refl _ _) rfl
      case refine_21 =>
        intro x Y hV hA
        have h19 : x 19 = _ := hA 19 rfl (by decide)
        have HVY := Lib.hid hV
        clear hA hV
        simp only [layL, putL, List.set_cons_zero, List.set_cons_succ]
        rw [h19]
        go_wp2_with fail
        go_ret
        exact ⟨by rw [HR.out]; rfl, HB0.out.trans (Below.mono HVY.out HB0.out.size)⟩
end Go.Proofs.Ytmkplemdnglhmaa
namespace Go.Proofs.Ytmkplemdnglhmaa
open Go.RowKit

theorem idx_any {α : Type} (p : α → Bool) (l : List α) : decide (0 ≤ idxF p l) = l.any p := by
  unfold idxF
  cases h : l.findIdx? p with
  | none =>
    rw [List.findIdx?_eq_none_iff] at h
    have : l.any p = false := by simpa using h
    rw [this]; rfl
  | some i =>
    obtain ⟨hi, hp, _⟩ := List.findIdx?_eq_some_iff_getElem.1 h
    have : l.any p = true := by simp only [List.any_eq_true]; exact ⟨_, List.getElem_mem hi, hp⟩
    rw [this]; simp
set_option maxRecDepth 100000 in
set_option maxHeartbeats 2000000 in
theorem containsStw_any (A : Option Addr) (c : Nat) (l : List Stw) (fid : FuncId) (caps : Array Value) (p : Stw → Bool) (w : World) (hs : SlT tStw w (Lt w.heap.size) A l) (hl : l.length ≤ 1000000) (hent : ∀ (args : Array Value) (w : World), (callFunc fid args).run Try.prog w = .ok (.enter fid args) w) (hf : StwFn w l fid caps p) :
    Calls Try.prog 84 #[.slice A l.length c, .func (.func fid) #[] caps] w (Ret w (.bool (l.any p))) := by
  have KI := Lib.hid (indexFuncStw_any A c l fid caps p w hs hl hent hf)
  have HV := Lib.hid (idx_any p l)
  clear hs hl hf hent
  generalize idxF p l = i at *
  generalize l.any p = r at *
  have hv := HV.out
  go_enter Try.func84, Try.ntmps84
  go_wp2_with fail
  refine KI.out.mono ?_
  rintro e w1 ⟨rfl, hb1⟩
  simp only
  clear KI
  go_wp2_with fail
  go_ret
  exact ⟨by rw [← hv]; rfl, hb1⟩
theorem int_gt (q : Bool) : decide ((0 : Int) < (if q = true then (1 : Int) else 0)) = q := by cases q <;> rfl
set_option maxRecDepth 100000 in
set_option maxHeartbeats 4000000 in
theorem spare1 (s : Shp) (A2 : Option Addr) (c2 : Nat) (st : List Stw) (x : Slt) (ga gl bm n : Nat) (w : World) (hm : Pairs w bm n (pairsF s)) (ha : w.cell? ⟨ga, 0, none⟩ = some (.map (some bm))) (hgl : w.cell? ⟨gl, 0, none⟩ = some (.slice A2 st.length c2)) (hs : SlT tStw w (Lt w.heap.size) A2 st) (hl : st.length ≤ 1000000) (hx : I64 x.col ∧ I64 x.tier) :
    Calls Try.prog 81 #[.agg (sltL x).toArray, .pointer (some ⟨ga, 0, none⟩), .pointer (some ⟨gl, 0, none⟩)] w (Ret w (.bool (spareP s st x))) := by
  have hb0 := ba1 w (.cells (sltL x).toArray 40)
  have HX := Lib.hid (Bk.new w 40 (sltL x).toArray)
  have KC := Lib.hid (containsStw_any A2 c2 st 82 #[.pointer (some ⟨w.heap.size, 0, none⟩)] (fun y => meetB x y.slot) _ (hs.on hb0) hl Try.call82 (fun y w' _ hb' => spare11 x y _ w' (HX.out.below hb' HX.out.lt)))
  have hla := block_lt_of_cell ha
  have hlg := block_lt_of_cell hgl
  simp only at hla hlg
  have HV : Hid (spareP s st x = ((pairsF s).contains (x.col, x.tier) && !(st.any fun y => meetB x y.slot))) := Lib.hid rfl
  have hlk := pairs_look (hm.on hb0) x.col x.tier hx.1 hx.2
  have HB0 := Lib.hid hb0
  clear hm hs hb0 hx
  generalize (st.any fun y => meetB x y.slot) = r2 at *
  generalize spareP s st x = r at *
  generalize (pairsF s).contains (x.col, x.tier) = q at *
  obtain ⟨x0, x1, x2⟩ := x
  unfold sltL at *
  simp only at *
  cases q with
  | false =>
    have hlk0 : (Instr.lookup 114 (.map (some bm)) (.agg #[.int .i64 x0, .int .i64 x1]) false).run Try.prog (w.alloc (.cells #[.int .i64 x0, .int .i64 x1, .int .u8 (x2 : Nat)] 40)) = .ok (.int .i64 0) (w.alloc (.cells #[.int .i64 x0, .int .i64 x1, .int .u8 (x2 : Nat)] 40)) := by rw [hlk]; rfl
    clear hlk
    go_enter Try.func81, Try.ntmps81
    go_wp2_with fail
    go_ret
    exact ⟨by rw [HV.out]; rfl, HB0.out⟩
  | true =>
    have hlk0 : (Instr.lookup 114 (.map (some bm)) (.agg #[.int .i64 x0, .int .i64 x1]) false).run Try.prog (w.alloc (.cells #[.int .i64 x0, .int .i64 x1, .int .u8 (x2 : Nat)] 40)) = .ok (.int .i64 1) (w.alloc (.cells #[.int .i64 x0, .int .i64 x1, .int .u8 (x2 : Nat)] 40)) := by rw [hlk]; rfl
    clear hlk
    go_enter Try.func81, Try.ntmps81
    go_wp2_with fail
    refine KC.out.mono ?_
    rintro e w1 ⟨rfl, hb1⟩
    simp only
    clear KC
    go_wp2_with fail
    go_ret
    exact ⟨by rw [HV.out]; rfl, HB0.out.trans (hb1.mono HB0.out.size)⟩
set_option maxRecDepth 100000 in
set_option maxHeartbeats 4000000 in
theorem pSpare_any (s : Shp) (h : Hd) (A2 : Option Addr) (c2 : Nat) (st : List Stw) (size : Nat) (w : World) (hsh : ShpR w (Lt w.heap.size) s h) (hf : Few s) (hi : Ints s) (hcl : s.cols.length ≤ 1000000) (hT : ∀ c, tiersN s c ≤ 1000000) (hN : (allF s size).length ≤ 1000000)
    (hs : SlT tStw w (Lt w.heap.size) A2 st) (hl : st.length ≤ 1000000) :
    Calls Try.prog 43 #[.agg (shpA s h), .slice A2 st.length c2, .int .u8 (size : Nat)] w (OwnL tSlt 40 w (spareF s st size)) := by
  have hb0 := ba2 w (.cells (shpA s h) 32) (.cells #[.slice A2 st.length c2] 38)
  have KP := Lib.hid (plugs_any s h _ (hsh.on hb0) hf hi)
  have HK1 := Lib.hid ((Bk.new w 32 (shpA s h)).alloc (.cells #[.slice A2 st.length c2] 38))
  have HK2 := Lib.hid (Bk.at_ (w := w.alloc (.cells (shpA s h) 32)) (g := w.heap.size + 1) 38 #[.slice A2 st.length c2] (by simp))
  have HSH := Lib.hid (hsh.on hb0)
  have HST := Lib.hid (hs.on hb0)
  have HB0 := Lib.hid hb0
  have HV : Hid (spareF s st size = (allF s size).filter (spareP s st)) := Lib.hid rfl
  have HIN : Hid (∀ x ∈ allF s size, I64 x.col ∧ I64 x.tier) := Lib.hid fun x hx => by
    obtain ⟨c, t, h1, h2, h3, h4, _⟩ := mem_all.1 hx
    have := hT c
    unfold I64
    omega
  have KA := Lib.hid (fun (V : World) (hV : Below ((w.alloc (.cells (shpA s h) 32)).alloc (.cells #[.slice A2 st.length c2] 38)).heap.size ((w.alloc (.cells (shpA s h) 32)).alloc (.cells #[.slice A2 st.length c2] 38)) V) => all_any s h size V ((hsh.on hb0).on hV) hcl hT hN)
  clear hsh hs hb0 hT
  unfold shpA at *
  go_enter Try.func43, Try.ntmps43
  go_wp2_with fail
  generalize ((w.alloc _).alloc _) = w0 at *
  refine KP.out.mono ?_
  rintro e w1 ⟨bm, n, rfl, hm, hb1⟩
  simp only
  have hb2 := hb1.trans ((ba1 w1 (.cells #[.map (some bm)] 114)).mono hb1.size)
  have HM := Lib.hid (hm.on (ba1 w1 (.cells #[.map (some bm)] 114)))
  have HKM := Lib.hid (Bk.new w1 114 #[.map (some bm)])
  have HB2 := Lib.hid (HB0.out.trans (hb2.mono HB0.out.size))
  have HST1 := Lib.hid (HST.out.on hb2)
  have HK3 := Lib.hid (HK1.out.below hb2 HK1.out.lt)
  have HK4 := Lib.hid (HK2.out.below hb2 HK2.out.lt)
  have KA1 := Lib.hid (KA.out _ hb2)
  clear KP HST HB0 HK1 HK2 HSH KA hm hb1 hb2
  try clear w0
  go_upto_region 2 with fail
  generalize w1.heap.size = ga at *
  generalize (w1.alloc _) = W at *
  try clear w1
  have e0 : W.cell? ⟨w.heap.size, 0, none⟩ = some (.slice h.A1 s.cols.length h.c1) := HK3.out.cell 0
  have e1 : W.cell? ⟨w.heap.size, 1, none⟩ = some (.slice h.A2 s.covs.length h.c2) := HK3.out.cell 1
  have e2 : W.cell? ⟨w.heap.size, 2, none⟩ = some (.int .i64 s.l0) := HK3.out.cell 2
  have e3 : W.cell? ⟨w.heap.size, 3, none⟩ = some (.int .i64 s.l1) := HK3.out.cell 3
  have e4 : W.cell? ⟨w.heap.size, 4, none⟩ = some (.int .i64 s.l2) := HK3.out.cell 4
  have e5 : W.cell? ⟨w.heap.size, 5, none⟩ = some (.int .i64 s.l3) := HK3.out.cell 5
  have e6 : W.cell? ⟨w.heap.size, 6, none⟩ = some (.slice h.A3 s.rows.length h.c3) := HK3.out.cell 6
  have e7 : W.cell? ⟨w.heap.size, 7, none⟩ = some (.slice h.A4 s.frames.length h.c4) := HK3.out.cell 7
  have e8 : W.cell? ⟨w.heap.size, 8, none⟩ = some (.slice h.A5 s.tanks.length h.c5) := HK3.out.cell 8
  have e9 : W.cell? ⟨w.heap.size, 9, none⟩ = some (.int .i64 s.m0) := HK3.out.cell 9
  have e10 : W.cell? ⟨w.heap.size, 10, none⟩ = some (.int .i64 s.m1) := HK3.out.cell 10
  have e11 : W.cell? ⟨w.heap.size, 11, none⟩ = some (.int .i64 s.m2) := HK3.out.cell 11
  have e12 : W.cell? ⟨w.heap.size, 12, none⟩ = some (.int .i64 s.m3) := HK3.out.cell 12
  generalize allF s size = L at *
  go_wp2_with fail
  refine KA1.out.mono ?_
  rintro e w2 ⟨v, rfl, hv, hb2⟩
  simp only
  obtain ⟨AF, cF, rfl, _, _, hsF⟩ := OwnT.sl hv
  have HST2 := Lib.hid (HST1.out.on hb2)
  have HM2 := Lib.hid (HM.out.on hb2)
  have HKM2 := Lib.hid (HKM.out.below hb2 HKM.out.lt)
  have HK5 := Lib.hid (HK4.out.below hb2 HK4.out.lt)
  have KO := Lib.hid (onlySlt_any AF cF L 81 #[.pointer (some ⟨ga, 0, none⟩), .pointer (some ⟨w.heap.size + 1, 0, none⟩)] (spareP s st) w2 hsF hN Try.call81 (fun x w' hx hb' => spare1 s A2 c2 st x ga (w.heap.size + 1) bm n w' (HM2.out.on hb') ((HKM2.out.below hb' HKM2.out.lt).cell 0) ((HK5.out.below hb' HK5.out.lt).cell 0) (HST2.out.on hb') hl (HIN.out x hx)))
  have HB3 := Lib.hid (HB2.out.trans (hb2.mono HB2.out.size))
  clear KA1 hv hsF hb2 HB2 HST1 HM HKM HK3 HK4 e0 e1 e2 e3 e4 e5 e6 e7 e8 e9 e10 e11 e12
  go_wp2_with fail
  refine KO.out.mono ?_
  rintro e w3 ⟨v, rfl, hv, hb3⟩
  simp only
  go_wp2_with fail
  go_ret
  exact ⟨_, rfl, by rw [HV.out]; exact hv.down HB3.out.size, HB3.out.trans (hb3.mono HB3.out.size)⟩
end Go.Proofs.Ytmkplemdnglhmaa
