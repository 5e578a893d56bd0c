/-
  The walk of twistlocklaw09.Loaded.
-/
import Derived.Test.YtmkplemdnglhmaaStM
import Derived.Test.YtmkplemdnglhmaaQf
namespace Go.Proofs.Ytmkplemdnglhmaa
open Go.RowKit

theorem el_bx : El Try.prog 33 37 tBx.k 64 := El.mk' Try.underlying33 (by kernel_rfl) (by decide)
theorem el_stw : El Try.prog 38 42 tStw.k 32 := El.mk' Try.underlying38 (by kernel_rfl) (by decide)
def drpL (d : Drp) : List Value := [.int .u8 (d.col : Nat), .int .u8 (d.kilos : Nat), .bool d.small, .bool d.high]
def tDrp : Ty Drp where
  k := 4
  pos := by decide
  rd := fun _ _ cs x => cs = drpL x
  len := by rintro _ _ _ _ rfl; rfl
  one := by rintro _ _ _ _ rfl; rfl
  keep := fun h _ => h
  more := fun h _ => h
theorem SlT.drp {w : World} {S : Nat → Prop} {A : Option Addr} {l : List Drp} (h : SlT tDrp w S A l) {j : Nat} (hj : j < l.length) :
    ∃ b off, A = some ⟨b, off, none⟩ ∧ S b ∧ w.cell? ⟨b, off + j * 4, none⟩ = some (.int .u8 ((l.getD j default).col : Nat)) ∧ w.cell? ⟨b, off + j * 4 + 1, none⟩ = some (.int .u8 ((l.getD j default).kilos : Nat)) ∧
      w.cell? ⟨b, off + j * 4 + 2, none⟩ = some (.bool (l.getD j default).small) ∧ w.cell? ⟨b, off + j * 4 + 3, none⟩ = some (.bool (l.getD j default).high) := by
  obtain ⟨b, off, cs, e, hb, h1, h2⟩ := h.at_ hj default
  rw [show cs = _ from h1] at h2
  exact ⟨b, off, e, hb, h2 0 _ rfl, h2 1 _ rfl, h2 2 _ rfl, h2 3 _ rfl⟩
/-- Elements that point to nothing. -/
def Plain {α : Type} (T : Ty α) : Prop := ∀ {w w' : World} {S S' : Nat → Prop} {cs : List Value} {x : α}, T.rd w S cs x → T.rd w' S' cs x
theorem plain_bx : Plain tBx := fun h => h
theorem plain_stw : Plain tStw := fun h => h
theorem Flat.plain {α : Type} {T : Ty α} (hp : Plain T) {w w' : World} {S S' : Nat → Prop} : ∀ {xs : List Value} {l : List α}, Flat T w S xs l → Flat T w' S' xs l
  | _, [], h => h
  | _, _ :: _, ⟨cs, ys, e, h1, h2⟩ => ⟨cs, ys, e, hp h1, Flat.plain hp h2⟩
theorem OwnS.lower {α : Type} {T : Ty α} (hp : Plain T) {e : TypeId} {w : World} {B B' : Nat} {v : Value} {l : List α} (h : OwnS T e w B (Lt B) v l) (hB : B' ≤ B) : OwnS T e w B' (Lt B') v l := by
  obtain ⟨xs, ho, hf, hS⟩ := h
  exact ⟨xs, own_mono ho hB, hf.plain hp, fun b hb => hS b (Nat.lt_of_lt_of_le hb hB)⟩
theorem OwnS.kept' {α : Type} {T : Ty α} {e : TypeId} {w w' : World} {B : Nat} {v : Value} {l : List α} {row : Option Nat} (h : OwnS T e w B (Lt B) v l) (hg : w.grownBy w' row) (hne : v.ownBlock = none ∨ v.ownBlock ≠ row) (hB : ∀ r, row = some r → B ≤ r) : OwnS T e w' B (Lt B) v l := by
  obtain ⟨xs, ho, hf, hS⟩ := h
  refine ⟨xs, ho.kept hg hne, hf.keep fun b o hb => World.cell?_of_block (hg.block b (hS b hb).1 fun e => ?_), fun b hb => ⟨Nat.lt_of_lt_of_le (hS b hb).1 hg.size, (hS b hb).2⟩⟩
  have h1 := hB b e.symm
  have h2 : b < B := hb
  omega
theorem OwnS.lt {α : Type} {T : Ty α} {e : TypeId} {w : World} {B : Nat} {S : Nat → Prop} {v : Value} {l : List α} (h : OwnS T e w B S v l) : ∀ g, v.ownBlock = some g → g < w.heap.size := own_ltT h.toT
/-- Boxes and a state of the call's own, and the ship in its variable. -/
structure LdI (w wr : World) (s : Shp) (h : Hd) (v1 v2 : Value) (bs : List Bx) (st : List Stw) : Prop where
  boxes : OwnS tBx 37 wr w.heap.size (Lt w.heap.size) v1 bs
  state : OwnS tStw 42 wr w.heap.size (Lt w.heap.size) v2 st
  be : Below w.heap.size w wr
  ship : Bk wr w.heap.size 32 (shpA s h)
theorem LdI.on {w wr wr' : World} {s : Shp} {h : Hd} {v1 v2 : Value} {bs : List Bx} {st : List Stw} (i : LdI w wr s h v1 v2 bs st) (hb : Below wr.heap.size wr wr') : LdI w wr' s h v1 v2 bs st :=
  ⟨i.boxes.below hb, i.state.below hb, i.be.trans (hb.mono i.be.size), i.ship.below hb i.ship.lt⟩
theorem LdI.grown {w wr wr' : World} {s : Shp} {h : Hd} {v1 v2 : Value} {bs : List Bx} {st : List Stw} {g : Nat} (i : LdI w wr s h v1 v2 bs st) (hg : wr.grownBy wr' (some g)) (hb : ∀ r, v1.ownBlock = some r → r < g) (hs : ∀ r, v2.ownBlock = some r → r < g) (hl : w.heap.size < g) : LdI w wr' s h v1 v2 bs st := by
  refine ⟨i.boxes.kept' hg (.inr fun e => Nat.lt_irrefl _ (hb g e)) (fun r e => ?_), i.state.kept' hg (.inr fun e => Nat.lt_irrefl _ (hs g e)) (fun r e => ?_), i.be.trans (below_of_grown hg (Nat.le_of_lt hl) i.be.size), i.ship.grown hg (fun e => ?_)⟩
  · injection e with e; omega
  · injection e with e; omega
  · injection e with e; omega
theorem loadTo_succ (s : Shp) (ds : List Drp) (k : Nat) : loadTo s ds (k + 1) = ((loadTo s ds k).1 ++ [dropB k (ds.getD k default)], dropS s ((loadTo s ds k).1 ++ [dropB k (ds.getD k default)]) (loadTo s ds k).2 (ds.getD k default) (dropB k (ds.getD k default))) := rfl
/-- Whether a box that is dropped can stand in a slot. -/
def dropP (s : Shp) (bs : List Bx) (st : List Stw) (d : Drp) (b : Bx) (x : Slt) : Bool := x.col == (d.col : Int) % s.cols.length && stowRight s bs (st ++ [⟨b.id, x⟩])
theorem drop_hit {s : Shp} {bs : List Bx} {st : List Stw} {d : Drp} {b : Bx} {j : Nat} (hj : j < (allF s b.size).length) (h0 : ∀ i, i < j → dropP s bs st d b ((allF s b.size).getD i default) = false) (h1 : dropP s bs st d b ((allF s b.size).getD j default) = true) : dropS s bs st d b = st ++ [⟨b.id, (allF s b.size).getD j default⟩] := by
  unfold dropS
  have hf : (allF s b.size).find? (fun x => x.col == (d.col : Int) % s.cols.length && stowRight s bs (st ++ [⟨b.id, x⟩])) = some ((allF s b.size).getD j default) := by
    rw [List.find?_eq_some_iff_getElem]
    refine ⟨h1, j, hj, by simp [hj], fun i hi => ?_⟩
    have := h0 i hi
    unfold dropP at this
    have hil : i < (allF s b.size).length := Nat.lt_trans hi hj
    rw [show (allF s b.size).getD i default = (allF s b.size)[i] by simp [hil]] at this
    rw [Bool.not_eq_true']
    exact this
  rw [hf]
theorem drop_miss {s : Shp} {bs : List Bx} {st : List Stw} {d : Drp} {b : Bx} (h0 : ∀ i, i < (allF s b.size).length → dropP s bs st d b ((allF s b.size).getD i default) = false) : dropS s bs st d b = st := by
  unfold dropS
  have hf : (allF s b.size).find? (fun x => x.col == (d.col : Int) % s.cols.length && stowRight s bs (st ++ [⟨b.id, x⟩])) = none := by
    rw [List.find?_eq_none]
    intro x hx
    obtain ⟨i, hi, rfl⟩ := List.getElem_of_mem hx
    have := h0 i hi
    unfold dropP at this
    rw [show (allF s b.size).getD i default = (allF s b.size)[i] by simp [hi]] at this
    simpa using this
  rw [hf]
/-- Slots of a right state are not too high. -/
theorem tier_le {s : Shp} {bs : List Bx} {l : List Stw} (hT : ∀ c, tiersN s c ≤ 1000000) (h : stowRight s bs l = true) : ∀ x ∈ l, x.slot.tier ≤ 1000000 := fun x hx => by
  obtain ⟨i, hi, rfl⟩ := List.getElem_of_mem hx
  have := (stowRight_parts.1 h).2.1 i hi
  unfold stowAt slotRight at this
  simp only [Bool.and_eq_true, decide_eq_true_eq] at this
  have h4 := this.1.1.2.2.2.2.1
  rw [show l.getD i default = l[i] by simp [hi]] at h4
  have h5 := hT l[i].slot.col.toNat
  unfold tiersN at h5
  omega
theorem tier_app {s : Shp} {bs : List Bx} {l : List Stw} (hT : ∀ c, tiersN s c ≤ 1000000) (h : stowRight s bs l = true) {b : Int} {x : Slt} {size : Nat} (hx : ∃ c t : Nat, c < s.cols.length ∧ t < tiersN s c ∧ x.col = (c : Int) ∧ x.tier = (t : Int) ∧ x.half ∈ halvesL size) : ∀ y ∈ l ++ [(⟨b, x⟩ : Stw)], y.slot.tier ≤ 9223372036854775807 := fun y hy => by
  rcases List.mem_append.1 hy with hy | hy
  · have := tier_le hT h y hy
    omega
  · obtain rfl : y = ⟨b, x⟩ := by simpa using hy
    obtain ⟨c', t', _, ht1, _, ht2, _⟩ := hx
    have h3 := hT c'
    show x.tier ≤ _
    omega
theorem len_app {α : Type} {l : List α} {x : α} (h : l.length ≤ 1000) : (l ++ [x]).length ≤ 1000000 := by simp; omega
theorem cast_ne0 {n : Nat} (h : 1 ≤ n) : (n : Int) ≠ 0 := by omega
theorem u8_in {d : Nat} (h : d < 256) : IntKind.i64.wrap (d : Int) = (d : Int) := IntWalk.i64_in _ (by omega)
theorem not_before {α : Type} [Inhabited α] {p : α → Bool} {l : List α} {j : Nat} (h : ∀ i, i < j → p (l.getD i default) = false) (h1 : p (l.getD j default) = false) : ∀ i, i < j + 1 → p (l.getD i default) = false := fun i hi => by
  by_cases he : i = j
  · subst he; exact h1
  · exact h i (by omega)
theorem load_blen (s : Shp) (ds : List Drp) (k : Nat) : (loadTo s ds k).1.length = k := by rw [load_boxes]; simp
/-- What Loaded returns. -/
def LoadRet (w : World) (r : List Bx × List Stw) (e : Ending) (w' : World) : Prop :=
  ∃ v1 v2, e = .returned (.tuple #[v1, v2]) ∧ OwnS tBx 37 w' w.heap.size (Lt w.heap.size) v1 r.1 ∧ OwnS tStw 42 w' w.heap.size (Lt w.heap.size) v2 r.2 ∧ Below w.heap.size w w'
end Go.Proofs.Ytmkplemdnglhmaa
