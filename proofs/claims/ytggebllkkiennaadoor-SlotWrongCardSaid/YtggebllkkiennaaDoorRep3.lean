/-
  Slices of a call's own whose elements point into a known set of blocks. No program in sight.
-/
import Derived.Test.YtggebllkkiennaaDoorRep2
namespace Go.Proofs.YtggebllkkiennaaDoor
open Go.RowKit

theorem SlT.drew {α : Type} {T : Ty α} {w : World} {S : Nat → Prop} {A : Option Addr} {l : List α} (h : SlT T w S A l) : SlT T w.drew S A l := h.keep fun _ _ _ => rfl
theorem SlT.keepB {α : Type} {T : Ty α} {w w' : World} {S : Nat → Prop} {A : Option Addr} {l : List α} {B : Nat} (h : SlT T w S A l) (hS : ∀ b, S b → b < B) (hb : Below B w w') : SlT T w' S A l :=
  h.keep fun b o hs => hb.cell (p := ⟨b, o, none⟩) (hS b hs)
theorem OwnT.drew {α : Type} {T : Ty α} {e : TypeId} {w : World} {base : Nat} {v : Value} {l : List α} (h : OwnT T e w base v l) : OwnT T e w.drew base v l := by
  obtain ⟨xs, h1, h2⟩ := h
  exact ⟨xs, h1, Flat.more (S := But w v) (fun _ hb => hb) (Flat.keep (w := w) (w' := w.drew) (S := But w v) (fun _ _ _ => rfl) h2)⟩

/-- A slice of the call's own, at base or above; its elements point into S. -/
def OwnS {α : Type} (T : Ty α) (e : TypeId) (w : World) (base : Nat) (S : Nat → Prop) (v : Value) (l : List α) : Prop :=
  ∃ xs, w.ownsRow base e T.k v l.length xs ∧ Flat T w S xs l ∧ ∀ b, S b → But w v b
/-- S, or the call's own blocks. -/
def Or2 (S : Nat → Prop) (base : Nat) (w : World) (b : Nat) : Prop := S b ∨ (base ≤ b ∧ b < w.heap.size)
section
variable {α : Type} {T : Ty α} {e : TypeId} {w w' : World} {base : Nat} {S : Nat → Prop} {v : Value} {l : List α}
theorem OwnS.nil (hS : ∀ b, S b → b < w.heap.size) : OwnS T e w base S (.slice none 0 0) [] := ⟨[], World.ownsRow_nil _ _ _ _, rfl, fun b hb => ⟨hS b hb, by simp [Value.ownBlock]⟩⟩
theorem OwnS.empty (T : Ty α) (e : TypeId) (w : World) (base : Nat) (S : Nat → Prop) (hb : base ≤ w.heap.size) (hS : ∀ b, S b → b < w.heap.size) : OwnS T e (w.alloc (.cells #[] e)) base S (.slice (some ⟨w.heap.size, 0, none⟩) 0 0) [] :=
  ⟨[], own_empty w base e T.k hb, rfl, fun b hs => ⟨by have := hS b hs; simp; omega, by have := hS b hs; simp [Value.ownBlock]; omega⟩⟩
theorem OwnS.toT (h : OwnS T e w base S v l) : OwnT T e w base v l := by
  obtain ⟨xs, h1, h2, h3⟩ := h
  exact ⟨xs, h1, h2.more h3⟩
theorem OwnS.drew (h : OwnS T e w base S v l) : OwnS T e w.drew base S v l := by
  obtain ⟨xs, h1, h2, h3⟩ := h
  exact ⟨xs, h1, Flat.keep (w := w) (w' := w.drew) (S := S) (fun _ _ _ => rfl) h2, h3⟩
theorem OwnS.below (h : OwnS T e w base S v l) (hb : Below w.heap.size w w') : OwnS T e w' base S v l := by
  obtain ⟨xs, h1, h2, h3⟩ := h
  exact ⟨xs, own_below h1 hb (Nat.le_refl _), h2.keep fun b o hs => hb.cell (p := ⟨b, o, none⟩) (h3 b hs).1, fun b hs => ⟨Nat.lt_of_lt_of_le (h3 b hs).1 hb.size, (h3 b hs).2⟩⟩
theorem OwnS.sl (h : OwnS T e w base S v l) : ∃ A c, v = .slice A l.length c ∧ l.length ≤ c ∧ c ≤ maxLen ∧ SlT T w (Or2 S base w) A l := by
  obtain ⟨xs, ho, hf, hS⟩ := h
  have ho0 := ho
  obtain ⟨A, c, rfl, h1, h2, h3⟩ := own_sl ho
  refine ⟨A, c, rfl, h1, h2, fun hn => ?_⟩
  have hp : 0 < l.length := by cases l with | nil => exact absurd rfl hn | cons x l => simp
  obtain ⟨b, off, rfl, hb, hc⟩ := h3.mem hp
  refine ⟨b, off, rfl, .inr ⟨(ho0.lt b rfl).1, hb⟩, fun i x hx => ?_⟩
  obtain ⟨cs, h4, h5⟩ := (hf.more (S' := Or2 S base w) fun b hb => .inl hb).at_ hx
  refine ⟨cs, h4, fun j u hu => ?_⟩
  rw [Nat.add_assoc]
  exact hc _ u (h5 j u hu)
theorem OwnS.append {v' : Value} {m : List α} {xs ys : List Value} (hf : Flat T w S xs l) (hm : Flat T w S ys m) (hS : ∀ b, S b → But w v b) (ho : w'.ownsRow base e T.k v' (l.length + m.length) (xs ++ ys)) (hg : w.grownBy w' v.ownBlock)
    (hd : v'.ownBlock = v.ownBlock ∨ ∃ g, v'.ownBlock = some g ∧ w.heap.size ≤ g) : OwnS T e w' base S v' (l ++ m) := by
  have hk : ∀ b o, S b → w'.cell? ⟨b, o, none⟩ = w.cell? ⟨b, o, none⟩ := fun b o hb => World.cell?_of_block (hg.block b (hS b hb).1 (hS b hb).2)
  refine ⟨xs ++ ys, by rw [List.length_append]; exact ho, (hf.append hm).keep hk, fun b hb => ⟨Nat.lt_of_lt_of_le (hS b hb).1 hg.size, ?_⟩⟩
  rcases hd with hd | ⟨g, hd, hgs⟩
  · rw [hd]; exact (hS b hb).2
  · rw [hd]; intro e'; injection e' with e'; have := (hS b hb).1; omega
end
theorem run_append_S {α : Type} {T : Ty α} {P : Program} {w : World} {t e : TypeId} {bytes : Nat} (hE : El P t e T.k bytes) (ty : TypeId)
    (base : Nat) (S : Nat → Prop) (v : Value) (l : List α) (hown : OwnS T e w base S v l) (A : Option Addr) (m c : Nat) (ms : List α) (hm : ms.length = m) (hsrc : SlT T w S A ms)
    (h63 : l.length + m ≤ maxLen) (hbytes : (l.length + m) * bytes ≤ 140737488355328) (hbase : base ≤ w.heap.size) :
    ∃ v' w', (Builtin.append_ #[t, t] ty #[v, .slice A m c]).run P w = .ok v' w' ∧ OwnS T e w' base S v' (l ++ ms) ∧ w.grownBy w' v.ownBlock ∧ Below base w w' := by
  obtain ⟨xs, ho, hf, hS⟩ := hown
  obtain ⟨ys, hg, hs⟩ := hsrc.raw (B := w.heap.size) fun b hb => (hS b hb).1
  rw [hm] at hs
  obtain ⟨v', w', hrun, h1, h2, h3, h4⟩ := run_append_sl hE ty base v l.length xs ho w.heap.size A m c ys hs hg.one h63 hbytes hbase
  exact ⟨v', w', hrun, OwnS.append hf hg hS (by rw [hm]; exact h1) h2 h3, h2, h4⟩
theorem wpList_append_S {α : Type} {T : Ty α} {P : Program} {ops : Array Oper} {rest : List Oper} {o : Oper} {a : Act} {Q : Exit → Act → World → Prop} {w : World} {t e : TypeId} {bytes : Nat} (hE : El P t e T.k bytes)
    (hgd : o.guard = none) (s x : Operand) (ho : o.op = .call { callee := .builtin .append, args := #[s, x], argTypes := #[t, t] })
    (base : Nat) (S : Nat → Prop) (v : Value) (l : List α) (hs : a.eval s = v) (hown : OwnS T e w base S v l) (A : Option Addr) (m c : Nat) (ms : List α) (hm : ms.length = m) (hx : a.eval x = .slice A m c) (hsrc : SlT T w S A ms)
    (h63 : l.length + m ≤ maxLen) (hbytes : (l.length + m) * bytes ≤ 140737488355328) (hbase : base ≤ w.heap.size)
    (h : ∀ v' w', OwnS T e w' base S v' (l ++ ms) → w.grownBy w' v.ownBlock → Below base w w' → wpList P ops Q rest (a.put o.dst v') w') :
    wpList P ops Q (o :: rest) a w := by
  obtain ⟨v', w', hrun, h2, h3, h4⟩ := run_append_S hE o.type base S v l hown A m c ms hm hsrc h63 hbytes hbase
  refine wpList_plain hgd fun _ hK => ?_
  unfold Oper.wp execOp
  simp only [ho, resolve, invoke, builtin, Sem.run_bind, Sem.run_pure, Result.andThen_ok, List.map_toArray, List.map_cons, List.map_nil, hs, hx, hrun]
  exact hK _ _ (h v' w' h2 h3 h4)
theorem step_append_S {α : Type} {T : Ty α} {P : Program} {ops : Array Oper} {o : Oper} {a : Act} {K : Act → World → Prop} {Q : Exit → Act → World → Prop} {E : Prop} {w : World} {t e : TypeId} {bytes : Nat} (hE : El P t e T.k bytes)
    (hgd : o.guard = none) (s x : Operand) (ho : o.op = .call { callee := .builtin .append, args := #[s, x], argTypes := #[t, t] })
    (base : Nat) (S : Nat → Prop) (v : Value) (l : List α) (hs : a.eval s = v) (hown : OwnS T e w base S v l) (A : Option Addr) (m c : Nat) (ms : List α) (hm : ms.length = m) (hx : a.eval x = .slice A m c) (hsrc : SlT T w S A ms)
    (h63 : l.length + m ≤ maxLen) (hbytes : (l.length + m) * bytes ≤ 140737488355328) (hbase : base ≤ w.heap.size)
    (h : ∀ v' w', OwnS T e w' base S v' (l ++ ms) → w.grownBy w' v.ownBlock → Below base w w' → K (a.put o.dst v') w') :
    if Region.wanted o (yielded ops a.tmps) = true then Oper.wp P o a w K Q else E := by
  have hw : Region.wanted o (yielded ops a.tmps) = true := by simp [Region.wanted, hgd]
  rw [if_pos hw]
  obtain ⟨v', w', hrun, h2, h3, h4⟩ := run_append_S hE o.type base S v l hown A m c ms hm hsrc h63 hbytes hbase
  unfold Oper.wp execOp
  simp only [ho, resolve, invoke, builtin, Sem.run_bind, Sem.run_pure, Result.andThen_ok, List.map_toArray, List.map_cons, List.map_nil, hs, hx, hrun]
  exact h v' w' h2 h3 h4
/-- What one has of a slice copied: after the first append, and after the second. -/
theorem copy_front {α : Type} {T : Ty α} {W : World} {B : Nat} {A : Option Addr} {l : List α} {e : TypeId} (hs : SlT T W (Lt B) A l) (hB : B ≤ W.heap.size) (k : Nat) :
    SlT T (W.alloc (.cells #[] e)) (Lt B) A (l.take k) := (hs.take k).keepB (B := W.heap.size) (fun _ hb => Nat.lt_of_lt_of_le hb hB) ((Below.refl _ _).alloc (Nat.le_refl _) _)
theorem copy_back {α : Type} {T : Ty α} {W w1 : World} {B : Nat} {A : Option Addr} {l : List α} {c j : Nat} (hs : SlT T W (Lt B) A l) (hB : B ≤ W.heap.size) (hj : j ≤ l.length) (hc : l.length ≤ c) (hb : Below W.heap.size W w1) :
    SlT T w1 (Lt B) (if c = j then A else A.map (·.add (j * T.k))) (l.drop j) := (hs.cut hj hc).keepB (B := W.heap.size) (fun _ hb => Nat.lt_of_lt_of_le hb hB) hb
end Go.Proofs.YtggebllkkiennaaDoor
