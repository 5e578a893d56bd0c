/-
  How Go's slices and structs read as lists and structures. No program in sight.
-/
import Derived.Test.YtggebllkkiennaaDoorLib3
namespace Go.Proofs.YtggebllkkiennaaDoor
open Go.RowKit

/-- The blocks below B. -/
def Lt (B : Nat) (b : Nat) : Prop := b < B
/-- The blocks that are there, but for a slice's own. -/
def But (w : World) (v : Value) (b : Nat) : Prop := b < w.heap.size ∧ some b ≠ v.ownBlock

/-- How an element of k cells reads: the cells cs read as x, and point to blocks in S alone. -/
structure Ty (α : Type) where
  k : Nat
  pos : 0 < k
  rd : World → (Nat → Prop) → List Value → α → Prop
  len : ∀ {w S cs x}, rd w S cs x → cs.length = k
  one : ∀ {w S cs x}, rd w S cs x → cs.all (·.oneCell') = true
  keep : ∀ {w w' S cs x}, rd w S cs x → (∀ b o, S b → w'.cell? ⟨b, o, none⟩ = w.cell? ⟨b, o, none⟩) → rd w' S cs x
  more : ∀ {w S S' cs x}, rd w S cs x → (∀ b, S b → S' b) → rd w S' cs x

/-- A slice at A reads as the list l. -/
def SlT {α : Type} (T : Ty α) (w : World) (S : Nat → Prop) (A : Option Addr) (l : List α) : Prop :=
  l ≠ [] → ∃ b off, A = some ⟨b, off, none⟩ ∧ S b ∧ ∀ i x, l[i]? = some x → ∃ cs, T.rd w S cs x ∧ ∀ j u, cs[j]? = some u → w.cell? ⟨b, off + i * T.k + j, none⟩ = some u

section
variable {α : Type} {T : Ty α} {w w' : World} {S S' : Nat → Prop} {A : Option Addr} {l : List α}
theorem SlT.nil : SlT T w S A [] := fun h => absurd rfl h
theorem SlT.keep (h : SlT T w S A l) (hk : ∀ b o, S b → w'.cell? ⟨b, o, none⟩ = w.cell? ⟨b, o, none⟩) : SlT T w' S A l := fun hn => by
  obtain ⟨b, off, e, hb, hc⟩ := h hn
  refine ⟨b, off, e, hb, fun i x hx => ?_⟩
  obtain ⟨cs, h1, h2⟩ := hc i x hx
  exact ⟨cs, T.keep h1 hk, fun j u hu => (hk _ _ hb).trans (h2 j u hu)⟩
theorem SlT.more (h : SlT T w S A l) (hS : ∀ b, S b → S' b) : SlT T w S' A l := fun hn => by
  obtain ⟨b, off, e, hb, hc⟩ := h hn
  refine ⟨b, off, e, hS b hb, fun i x hx => ?_⟩
  obtain ⟨cs, h1, h2⟩ := hc i x hx
  exact ⟨cs, T.more h1 hS, h2⟩
theorem SlT.at_ (h : SlT T w S A l) {i : Nat} (hi : i < l.length) (d : α) :
    ∃ b off cs, A = some ⟨b, off, none⟩ ∧ S b ∧ T.rd w S cs (l.getD i d) ∧ ∀ j u, cs[j]? = some u → w.cell? ⟨b, off + i * T.k + j, none⟩ = some u := by
  have hn : l ≠ [] := by rintro rfl; simp at hi
  obtain ⟨b, off, e, hb, hc⟩ := h hn
  obtain ⟨cs, h1, h2⟩ := hc i (l.getD i d) (by simp [hi])
  exact ⟨b, off, cs, e, hb, h1, h2⟩
theorem SlT.sub {m : List α} (h : SlT T w S A l) (hm : ∀ (i : Nat) (x : α), m[i]? = some x → l[i]? = some x) : SlT T w S A m := fun hn => by
  have hl : l ≠ [] := by
    rintro rfl
    cases m with
    | nil => exact hn rfl
    | cons x m => have := hm 0 x rfl; simp at this
  obtain ⟨b, off, e, hb, hc⟩ := h hl
  exact ⟨b, off, e, hb, fun i x hx => hc i x (hm i x hx)⟩
theorem SlT.take (h : SlT T w S A l) (n : Nat) : SlT T w S A (l.take n) := h.sub fun i x hx => by
  rw [List.getElem?_take] at hx
  split at hx
  · exact hx
  · cases hx
theorem SlT.left {m : List α} (h : SlT T w S A (l ++ m)) : SlT T w S A l := h.sub fun i x hx => by
  rw [List.getElem?_append_left (List.getElem?_eq_some_iff.1 hx).1]; exact hx
/-- The slice s[j:], as the model has it. -/
theorem SlT.cut {c j : Nat} (h : SlT T w S A l) (hj : j ≤ l.length) (hc : l.length ≤ c) : SlT T w S (if c = j then A else A.map (·.add (j * T.k))) (l.drop j) := fun hn => by
  have hl : j < l.length := by
    rcases Nat.lt_or_ge j l.length with h' | h'
    · exact h'
    · exact absurd (List.drop_of_length_le h') hn
  obtain ⟨b, off, rfl, hb, hcell⟩ := h (by rintro rfl; simp at hl)
  rw [if_neg (by omega)]
  refine ⟨b, off + j * T.k, by simp [add_mk], hb, fun i x hx => ?_⟩
  obtain ⟨cs, h1, h2⟩ := hcell (j + i) x (by rw [← List.getElem?_drop]; exact hx)
  refine ⟨cs, h1, fun m u hu => ?_⟩
  have := h2 m u hu
  rw [Nat.add_mul] at this
  rw [show off + j * T.k + i * T.k + m = off + (j * T.k + i * T.k) + m by omega]
  exact this
end
theorem keep_below {w w' : World} {B : Nat} (h : Below B w w') : ∀ b o, Lt B b → w'.cell? ⟨b, o, none⟩ = w.cell? ⟨b, o, none⟩ := fun b o hb => h.cell (p := ⟨b, o, none⟩) hb
theorem lt_more {B B' : Nat} (h : B ≤ B') : ∀ b, Lt B b → Lt B' b := fun _ hb => Nat.lt_of_lt_of_le hb h
theorem SlT.below {α : Type} {T : Ty α} {w w' : World} {A : Option Addr} {l : List α} {B : Nat} (h : SlT T w (Lt B) A l) (hb : Below B w w') : SlT T w' (Lt B) A l := h.keep (keep_below hb)
theorem SlT.up {α : Type} {T : Ty α} {w : World} {A : Option Addr} {l : List α} {B B' : Nat} (h : SlT T w (Lt B) A l) (hb : B ≤ B') : SlT T w (Lt B') A l := h.more (lt_more hb)
/-- Behind a call: what read as l reads so still. -/
theorem SlT.on {α : Type} {T : Ty α} {w w' : World} {A : Option Addr} {l : List α} (h : SlT T w (Lt w.heap.size) A l) (hb : Below w.heap.size w w') : SlT T w' (Lt w'.heap.size) A l := (h.below hb).up hb.size

def tInt : Ty Int where
  k := 1
  pos := by decide
  rd := fun _ _ cs x => cs = [.int .i64 x]
  len := by rintro _ _ _ _ rfl; rfl
  one := by rintro _ _ _ _ rfl; rfl
  keep := fun h _ => h
  more := fun h _ => h
def tU8 : Ty Nat where
  k := 1
  pos := by decide
  rd := fun _ _ cs x => cs = [.int .u8 (x : Nat)]
  len := by rintro _ _ _ _ rfl; rfl
  one := by rintro _ _ _ _ rfl; rfl
  keep := fun h _ => h
  more := fun h _ => h
def tList {α : Type} (T : Ty α) : Ty (List α) where
  k := 1
  pos := by decide
  rd := fun w S cs l => ∃ A c, cs = [.slice A l.length c] ∧ l.length ≤ c ∧ SlT T w S A l
  len := by rintro _ _ _ _ ⟨A, c, rfl, _⟩; rfl
  one := by rintro _ _ _ _ ⟨A, c, rfl, _⟩; rfl
  keep := by rintro _ _ _ _ _ ⟨A, c, rfl, h1, h2⟩ hk; exact ⟨A, c, rfl, h1, h2.keep hk⟩
  more := by rintro _ _ _ _ _ ⟨A, c, rfl, h1, h2⟩ hk; exact ⟨A, c, rfl, h1, h2.more hk⟩
/-- k ints in a row. -/
def tInts (k : Nat) (hk : 0 < k) : Ty (List Int) where
  k := k
  pos := hk
  rd := fun _ _ cs x => x.length = k ∧ cs = i64s x
  len := by rintro _ _ _ _ ⟨h, rfl⟩; rw [i64s_len]; exact h
  one := by rintro _ _ _ _ ⟨_, rfl⟩; exact i64s_one _
  keep := fun h _ => h
  more := fun h _ => h
theorem SlT.int {w : World} {S : Nat → Prop} {A : Option Addr} {l : List Int} (h : SlT tInt w S A l) {j : Nat} (hj : j < l.length) :
    ∃ b off, A = some ⟨b, off, none⟩ ∧ S b ∧ w.cell? ⟨b, off + j, none⟩ = some (.int .i64 (l.getD j 0)) := by
  obtain ⟨b, off, cs, e, hb, h1, h2⟩ := h.at_ hj 0
  refine ⟨b, off, e, hb, ?_⟩
  have := h2 0 (.int .i64 (l.getD j 0)) (by rw [show cs = _ from h1]; rfl)
  simpa [tInt] using this

/-- The cells of a row read as a list. -/
def Flat {α : Type} (T : Ty α) (w : World) (S : Nat → Prop) : List Value → List α → Prop
  | xs, [] => xs = []
  | xs, x :: l => ∃ cs ys, xs = cs ++ ys ∧ T.rd w S cs x ∧ Flat T w S ys l
section
variable {α : Type} {T : Ty α} {w w' : World} {S S' : Nat → Prop}
theorem Flat.len : ∀ {xs : List Value} {l : List α}, Flat T w S xs l → xs.length = l.length * T.k
  | xs, [], h => by rw [show xs = [] from h]; simp
  | xs, x :: l, ⟨cs, ys, e, h1, h2⟩ => by
    rw [e, List.length_append, T.len h1, h2.len, List.length_cons, Nat.add_mul, Nat.add_comm]; simp
theorem Flat.one : ∀ {xs : List Value} {l : List α}, Flat T w S xs l → xs.all (·.oneCell') = true
  | xs, [], h => by rw [show xs = [] from h]; rfl
  | xs, x :: l, ⟨cs, ys, e, h1, h2⟩ => by rw [e, List.all_append, T.one h1, h2.one]; rfl
theorem Flat.keep (hk : ∀ b o, S b → w'.cell? ⟨b, o, none⟩ = w.cell? ⟨b, o, none⟩) : ∀ {xs : List Value} {l : List α}, Flat T w S xs l → Flat T w' S xs l
  | _, [], h => h
  | _, _ :: _, ⟨cs, ys, e, h1, h2⟩ => ⟨cs, ys, e, T.keep h1 hk, h2.keep hk⟩
theorem Flat.more (hS : ∀ b, S b → S' b) : ∀ {xs : List Value} {l : List α}, Flat T w S xs l → Flat T w S' xs l
  | _, [], h => h
  | _, _ :: _, ⟨cs, ys, e, h1, h2⟩ => ⟨cs, ys, e, T.more h1 hS, h2.more hS⟩
theorem Flat.append : ∀ {xs ys : List Value} {l m : List α}, Flat T w S xs l → Flat T w S ys m → Flat T w S (xs ++ ys) (l ++ m)
  | xs, ys, [], m, h, h' => by rw [show xs = [] from h]; simpa using h'
  | xs, ys, x :: l, m, ⟨cs, zs, e, h1, h2⟩, h' => ⟨cs, zs ++ ys, by rw [e, List.append_assoc], h1, h2.append h'⟩
theorem Flat.single {cs : List Value} {x : α} (h : T.rd w S cs x) : Flat T w S cs [x] := ⟨cs, [], by simp, h, rfl⟩
theorem Flat.at_ : ∀ {xs : List Value} {l : List α} {i : Nat} {x : α}, Flat T w S xs l → l[i]? = some x → ∃ cs, T.rd w S cs x ∧ ∀ j u, cs[j]? = some u → xs[i * T.k + j]? = some u
  | xs, [], i, x, _, hx => by simp at hx
  | xs, y :: l, 0, x, ⟨cs, ys, e, h1, _⟩, hx => by
    simp at hx; subst hx
    refine ⟨cs, h1, fun j u hu => ?_⟩
    rw [e, Nat.zero_mul, Nat.zero_add, List.getElem?_append_left (List.getElem?_eq_some_iff.1 hu).1]; exact hu
  | xs, y :: l, i + 1, x, ⟨cs, ys, e, h1, h2⟩, hx => by
    obtain ⟨cs', h3, h4⟩ := h2.at_ (i := i) (x := x) (by simpa using hx)
    refine ⟨cs', h3, fun j u hu => ?_⟩
    have hl := T.len h1
    rw [e, List.getElem?_append_right (by rw [hl, Nat.add_mul]; omega), hl, show (i + 1) * T.k + j - T.k = i * T.k + j by rw [Nat.add_mul]; omega]
    exact h4 j u hu
end

/-- A slice of the call's own that reads as a list. -/
def OwnT {α : Type} (T : Ty α) (e : TypeId) (w : World) (base : Nat) (v : Value) (l : List α) : Prop :=
  ∃ xs, w.ownsRow base e T.k v l.length xs ∧ Flat T w (But w v) xs l
section
variable {α : Type} {T : Ty α} {e : TypeId} {w w' : World} {base : Nat} {v : Value} {l : List α}
theorem OwnT.nil : OwnT T e w base (.slice none 0 0) [] := ⟨[], World.ownsRow_nil _ _ _ _, rfl⟩
theorem OwnT.sl (h : OwnT T e w base v l) : ∃ A c, v = .slice A l.length c ∧ l.length ≤ c ∧ c ≤ maxLen ∧ SlT T w (Lt w.heap.size) A l := by
  obtain ⟨xs, ho, hf⟩ := h
  obtain ⟨A, c, rfl, h1, h2, h3⟩ := own_sl ho
  refine ⟨A, c, rfl, h1, h2, fun hn => ?_⟩
  have hp : 0 < l.length := by cases l with | nil => exact absurd rfl hn | cons x l => simp
  obtain ⟨b, off, e, hb, hc⟩ := h3.mem hp
  refine ⟨b, off, e, hb, fun i x hx => ?_⟩
  obtain ⟨cs, h4, h5⟩ := (hf.more (S' := Lt w.heap.size) fun b hb => hb.1).at_ hx
  refine ⟨cs, h4, fun j u hu => ?_⟩
  rw [Nat.add_assoc]
  exact hc _ u (h5 j u hu)
theorem OwnT.below (h : OwnT T e w base v l) (hb : Below w.heap.size w w') : OwnT T e w' base v l := by
  obtain ⟨xs, ho, hf⟩ := h
  exact ⟨xs, own_below ho hb (Nat.le_refl _), (hf.keep (w' := w') fun b o hbb => hb.cell (p := ⟨b, o, none⟩) hbb.1).more fun b hbb => ⟨Nat.lt_of_lt_of_le hbb.1 hb.size, hbb.2⟩⟩
theorem OwnT.down {base' : Nat} (h : OwnT T e w base v l) (hb : base' ≤ base) : OwnT T e w base' v l := by
  obtain ⟨xs, ho, hf⟩ := h
  exact ⟨xs, own_mono ho hb, hf⟩
/-- Elements appended. -/
theorem OwnT.append {v' : Value} {m : List α} {xs ys : List Value} (hf : Flat T w (But w v) xs l) (hm : Flat T w (But w v) ys m) (ho : w'.ownsRow base e T.k v' (l.length + m.length) (xs ++ ys)) (hg : w.grownBy w' v.ownBlock)
    (hd : v'.ownBlock = v.ownBlock ∨ ∃ g, v'.ownBlock = some g ∧ w.heap.size ≤ g) : OwnT T e w' base v' (l ++ m) := by
  have hk : ∀ b o, But w v b → w'.cell? ⟨b, o, none⟩ = w.cell? ⟨b, o, none⟩ := fun b o hb => World.cell?_of_block (hg.block b hb.1 hb.2)
  have hS : ∀ b, But w v b → But w' v' b := fun b hb => ⟨Nat.lt_of_lt_of_le hb.1 hg.size, by
    rcases hd with hd | ⟨g, hd, hgs⟩
    · rw [hd]; exact hb.2
    · rw [hd]; intro e'; injection e' with e'; have := hb.1; omega⟩
  refine ⟨xs ++ ys, by rw [List.length_append]; exact ho, ?_⟩
  exact ((hf.append hm).keep hk).more hS
theorem OwnT.append1 {v' : Value} {x : α} {xs cs : List Value} (hf : Flat T w (But w v) xs l) (hx : T.rd w (But w v) cs x) (ho : w'.ownsRow base e T.k v' (l.length + 1) (xs ++ cs)) (hg : w.grownBy w' v.ownBlock)
    (hd : v'.ownBlock = v.ownBlock ∨ ∃ g, v'.ownBlock = some g ∧ w.heap.size ≤ g) : OwnT T e w' base v' (l ++ [x]) := OwnT.append hf (.single hx) ho hg hd
end
/-- Values that point to nothing of memory. -/
theorem OwnT.int1 {e : TypeId} {w w' : World} {base : Nat} {v v' : Value} {l : List Int} {x : Int} {xs : List Value} (hf : Flat tInt w (But w v) xs l) (ho : w'.ownsRow base e 1 v' (l.length + 1) (xs ++ [.int .i64 x])) (hg : w.grownBy w' v.ownBlock)
    (hd : v'.ownBlock = v.ownBlock ∨ ∃ g, v'.ownBlock = some g ∧ w.heap.size ≤ g) : OwnT tInt e w' base v' (l ++ [x]) := OwnT.append1 (T := tInt) hf (cs := [.int .i64 x]) rfl ho hg hd
end Go.Proofs.YtggebllkkiennaaDoor
