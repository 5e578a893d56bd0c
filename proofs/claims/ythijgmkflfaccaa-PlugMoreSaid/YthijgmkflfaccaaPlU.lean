/-
  What the statements of the chapter of plugs share.
-/
import Derived.Test.YthijgmkflfaccaaPlT
namespace Go.Proofs.Ythijgmkflfaccaa
open Go.RowKit

/-- A ship in its variable, boxes and a state, to read. -/
structure W5 (w V : World) (g : Nat) (s : Shp) (h : Hd) (A1 : Option Addr) (bs : List Bx) (A2 : Option Addr) (st : List Stw) : Prop where
  bk : Bk V g 37 (shpA s h)
  rd : ShpR V (Lt V.heap.size) s h
  bx : SlT tBx V (Lt V.heap.size) A1 bs
  sx : SlT tStw V (Lt V.heap.size) A2 st
  be : Below w.heap.size w V
theorem W5.on {w V V' : World} {g : Nat} {s : Shp} {h : Hd} {A1 A2 : Option Addr} {bs : List Bx} {st : List Stw} (r : W5 w V g s h A1 bs A2 st) (hb : Below V.heap.size V V') : W5 w V' g s h A1 bs A2 st :=
  ⟨r.bk.below hb r.bk.lt, r.rd.on hb, r.bx.on hb, r.sx.on hb, r.be.trans (hb.mono r.be.size)⟩
theorem Ld.i64s {s : Shp} {bs : List Bx} {st : List Stw} (hl : Lm s) (h : Ld s bs st) : ∀ x ∈ st, I64 x.slot.col ∧ I64 x.slot.tier := fun x hx => by
  have := h.tier hl hx
  have := hl.twelve
  unfold I64
  omega
/-- Where a box stands there is a slot of the ship. -/
theorem Ld.at12 {s : Shp} {bs : List Bx} {st : List Stw} (h : Ld s bs st) {x : Stw} (hx : x ∈ st) : atF s x.slot = pluggedB s x.slot.col x.slot.tier := by
  have h1 := h.slot hx
  have h2 := (h.box _ (h.box_at hx).2.1).1
  unfold atF
  have h3 : (slotRight s x.slot 20 || slotRight s x.slot 40) = true := by
    rcases h2 with h2 | h2
    · rw [h2] at h1; rw [h1]; simp
    · rw [h2] at h1; rw [h1]; simp
  rw [h3]; simp
/-- A reefer without current. -/
def cuB (s : Shp) (bs : List Bx) (x : Stw) : Bool := coldB bs x && unfedB s x
theorem pf_eq (s : Shp) (bs : List Bx) (st : List Stw) : pfF s bs st = (st.filter (cuB s bs)).map (·.box) := by
  unfold pfF cuB
  rw [List.filter_filter]
  congr 2
  funext x
  rw [Bool.and_comm]
theorem pf_at {s : Shp} {bs : List Bx} {st : List Stw} {k : Nat} (hk : k < st.length) (hc : cuB s bs (st.getD k default) = true) :
    ((st.take k).filter (cuB s bs)).length < (pfF s bs st).length ∧ (pfF s bs st).getD ((st.take k).filter (cuB s bs)).length 0 = (st.getD k default).box := by
  have e : st = st.take k ++ (st.getD k default :: st.drop (k + 1)) := by
    have h1 : st.getD k default = st[k] := by simp [hk]
    rw [h1, ← List.drop_eq_getElem_cons hk, List.take_append_drop]
  have e2 : pfF s bs st = ((st.take k).filter (cuB s bs)).map (·.box) ++ ((st.getD k default).box :: ((st.drop (k + 1)).filter (cuB s bs)).map (·.box)) := by
    rw [pf_eq]
    conv => lhs; rw [e]
    rw [List.filter_append, List.filter_cons, if_pos hc, List.map_append, List.map_cons]
  rw [e2]
  refine ⟨by simp, ?_⟩
  rw [List.getD_eq_getElem?_getD, List.getElem?_append_right (by simp)]
  simp
theorem filter_len_succ {α : Type} (p : α → Bool) (l : List α) {k : Nat} (h : k < l.length) (d : α) : ((l.take (k + 1)).filter p).length = ((l.take k).filter p).length + if p (l.getD k d) then 1 else 0 := by
  rw [filter_take p l h d, List.length_append]
  split <;> rfl
end Go.Proofs.Ythijgmkflfaccaa
