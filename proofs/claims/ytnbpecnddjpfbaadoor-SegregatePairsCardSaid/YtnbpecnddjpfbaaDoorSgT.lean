/-
  What the outright statements of chapter 14 share: a loaded state at hand, contracts over it.
-/
import Derived.Test.YtnbpecnddjpfbaaDoorSgS
import Derived.Test.YtnbpecnddjpfbaaDoorSgJ
namespace Go.Proofs.YtnbpecnddjpfbaaDoor
open Go.RowKit

/-- A loaded state at hand. -/
structure SX (w V : World) (g : Nat) (s : Shp) (h : Hd) (A1 : Option Addr) (bs : List Bx) (A3 : Option Addr) (st : List Stw) : Prop where
  bk : Bk V g 32 (shpA s h)
  rd : ShpR V (Lt V.heap.size) s h
  bx : SlT tBx V (Lt V.heap.size) A1 bs
  sx : SlT tStw V (Lt V.heap.size) A3 st
  tb : TabOK V
  nm : NamesOK V
  be : Below w.heap.size w V
theorem SX.on {w V V' : World} {g : Nat} {s : Shp} {h : Hd} {A1 A3 : Option Addr} {bs : List Bx} {st : List Stw} (r : SX w V g s h A1 bs A3 st) (hb : Below V.heap.size V V') : SX w V' g s h A1 bs A3 st :=
  ⟨r.bk.below hb r.bk.lt, r.rd.on hb, r.bx.on hb, r.sx.on hb, r.tb.below hb r.tb.lt, r.nm.below hb r.nm.lt, r.be.trans (hb.mono r.be.size)⟩
theorem filter_hit {α : Type} (p : α → Bool) (l : List α) {k : Nat} (h : k < l.length) (d : α) (hp : p (l.getD k d) = true) : ((l.take k).filter p).length < (l.filter p).length ∧ (l.filter p).getD ((l.take k).filter p).length d = l.getD k d := by
  have e : l.filter p = (l.take k).filter p ++ (l.getD k d :: (l.drop (k + 1)).filter p) := by
    have e1 : l = l.take k ++ l.getD k d :: l.drop (k + 1) := by
      have hx : l.getD k d = l[k] := by simp [h]
      rw [hx, ← List.drop_eq_getElem_cons h, List.take_append_drop]
    conv => lhs; rw [e1]
    rw [List.filter_append, List.filter_cons_of_pos hp]
  rw [e]
  constructor
  · simp
  · simp
theorem run_neq_slt14 (a b : Int) (c : Nat) (W : World) : (binOp .neq 37 (.agg #[.int .i64 a, .int .i64 b, .int .u8 (c : Nat)]) (.agg #[.int .i64 a, .int .i64 b, .int .u8 (c : Nat)])).run Tryd.prog W = .ok (.bool false) W := by
  simp [go_sem]
theorem Sd.oerr {s : Shp} {bs : List Bx} {st : List Stw} (h : Sd s bs st) {id : Int} (hf : (findBx bs id).2 = true) : oErr s bs st id = 0 := by
  unfold oErr
  rw [if_pos h.derr, if_pos hf, if_neg (by have := cls_lt h.cls id; omega)]
theorem Sd.onone {s : Shp} {bs : List Bx} {st : List Stw} (h : Sd s bs st) {id : Int} (hf : (findBx bs id).2 = false) : oErr s bs st id = 6 := by
  unfold oErr
  rw [if_pos h.derr, if_neg (by rw [hf]; decide)]
theorem against_zero {s : Shp} (hc : Cs s) (gs : List Gd) (x : Stw) : againstF s gs x 0 = [] := by
  unfold againstF
  rw [List.map_eq_nil_iff, List.filter_eq_nil_iff]
  intro g _
  unfold agB
  have h0 : Dg.tab g.cls 0 = 0 := by
    by_cases hx : g.cls < 10
    · rcases Dg.tab_zero _ _ hx (by decide : 0 < 10) with h | h
      · exact h
      · omega
    · exact tab_out (by omega)
  rw [h0, near_eq hc, nearR_zero, Bool.and_false]
  decide
section
variable {w V : World} {g : Nat} {s : Shp} {h : Hd} {A1 A3 : Option Addr} {bs : List Bx} {st : List Stw} {q3 : Nat}
theorem SX.tiers (hb : Bu s) (hd : Sd s bs st) : ∀ x ∈ st, x.slot.tier ≤ 9223372036854775807 := fun x hx => by have := hd.tier hb hx; omega
theorem SX.free (r : SX w V g s h A1 bs A3 st) (hb : Bu s) (hd : Sd s bs st) (hq : st.length ≤ q3) (q1 : Nat) (id : Int) : Calls Tryd.prog 16 #[.agg (shpA s h), .slice A1 bs.length q1, .slice A3 st.length q3, .int .i64 id] V (ErRet tSlt 37 V (oErr s bs st id) (freeS s bs st id)) :=
  Free_any s h A1 q1 bs A3 q3 st id V r.rd hb.Few hb.ints hb.short r.bx (by have := hd.blen; omega) r.sx (by have := hd.slen; omega) hq (SX.tiers hb hd) r.nm hb.rows r.tb (fun c => by have := hb.tiers14 c; omega) (fun size => by have := hb.all14 size; omega)
theorem SX.against (r : SX w V g s h A1 bs A3 st) (hb : Bu s) (hd : Sd s bs st) (hq : st.length ≤ q3) (q1 : Nat) (x : Stw) (hf : (findBx bs x.box).2 = true) : Calls Tryd.prog 19 #[.agg (shpA s h), .slice A1 bs.length q1, .slice A3 st.length q3, .agg (stwL x).toArray] V
    (fun e w' => Below V.heap.size V w' ∧ ∃ A c, e = .returned (.tuple #[.slice A (againstF s (goodsF bs st) x (clsF bs x.box)).length c, .int .i64 0]) ∧ (againstF s (goodsF bs st) x (clsF bs x.box)).length ≤ c ∧ SlT tInt w' (Lt w'.heap.size) A (againstF s (goodsF bs st) x (clsF bs x.box))) := by
  refine (Against_any s h A1 q1 bs A3 q3 st x V r.rd hb.Few hb.ints hb.short r.bx (by have := hd.blen; omega) r.sx (by have := hd.slen; omega) hq (SX.tiers hb hd) r.nm hb.rows r.tb).mono ?_
  rintro e w' ⟨hbe, v, rfl, ho⟩
  rw [hd.oerr hf] at ho ⊢
  simp only [if_true] at ho
  obtain ⟨A, c, rfl, hc, _, hs⟩ := ho.sl
  exact ⟨hbe, A, c, rfl, hc, hs⟩
theorem SX.clashes (r : SX w V g s h A1 bs A3 st) (hb : Bu s) (hd : Sd s bs st) (hq : st.length ≤ q3) (q1 : Nat) : Calls Tryd.prog 26 #[.agg (shpA s h), .slice A1 bs.length q1, .slice A3 st.length q3] V
    (fun e w' => Below V.heap.size V w' ∧ ∃ A c, e = .returned (.tuple #[.slice A (clashF s bs st).length c, .int .i64 0]) ∧ (clashF s bs st).length ≤ c ∧ SlT tCl w' (Lt w'.heap.size) A (clashF s bs st)) := by
  refine (clashes_any s h A1 q1 bs A3 q3 st V r.rd hb.Few hb.ints hb.short r.bx (by have := hd.blen; omega) r.sx (by have := hd.slen; omega) hq (SX.tiers hb hd) r.nm hb.rows r.tb).mono ?_
  rintro e w' ⟨hbe, v, rfl, ho⟩
  rw [hd.derr] at ho ⊢
  simp only [if_true] at ho
  obtain ⟨A, c, rfl, hc, _, hs⟩ := ho.sl
  exact ⟨hbe, A, c, rfl, hc, hs⟩
theorem SX.all (r : SX w V g s h A1 bs A3 st) (hb : Bu s) (size : Nat) : Calls Tryd.prog 18 #[.agg (shpA s h), .int .u8 (size : Nat)] V (fun e w' => ∃ A c, e = .returned (.slice A (allF s size).length c) ∧ (allF s size).length ≤ c ∧ SlT tSlt w' (Lt w'.heap.size) A (allF s size) ∧ Below V.heap.size V w') := by
  refine (all_any s h size V r.rd hb.short (fun c => by have := hb.tiers14 c; omega) (by have := hb.all14 size; omega)).mono ?_
  rintro e w' ⟨v, rfl, ho, hbe⟩
  obtain ⟨A, c, rfl, hc, _, hs⟩ := ho.sl
  exact ⟨A, c, rfl, hc, hs, hbe⟩
end
end Go.Proofs.YtnbpecnddjpfbaaDoor
