/-
  Append to a slice of the call's own, from a source of any kind. No program in sight.
-/
import Derived.Test.YtggebllkkiennaaDoorRep3
namespace Go.Proofs.YtggebllkkiennaaDoor
open Go.RowKit

/-- m elements at A, that read as ms and point into S. -/
def Src {α : Type} (T : Ty α) (w : World) (S : Nat → Prop) (A : Option Addr) (m : Nat) (ms : List α) : Prop := ∃ ys, Flat T w S ys ms ∧ Sl w w.heap.size T.k A m ys
theorem SlT.src {α : Type} {T : Ty α} {w : World} {S : Nat → Prop} {A : Option Addr} {m : Nat} {ms : List α} (h : SlT T w S A ms) (hm : ms.length = m) (hS : ∀ b, S b → b < w.heap.size) : Src T w S A m ms := by
  obtain ⟨ys, h1, h2⟩ := h.raw hS
  exact ⟨ys, h1, by rw [← hm]; exact h2⟩
theorem Src.blk {α : Type} {T : Ty α} {w : World} {S : Nat → Prop} {g m : Nat} {e : TypeId} {cs : Array Value} {ms : List α} (hb : Bk w g e cs) (hf : Flat T w S cs.toList ms) (hm : ms.length = m) : Src T w S (some ⟨g, 0, none⟩) m ms :=
  ⟨cs.toList, hf, by rw [hf.len, hm], fun _ => ⟨g, 0, rfl, hb.lt, fun j u hu => by rw [Nat.zero_add, hb.cell j]; simpa using hu⟩⟩
theorem Src.new {α : Type} {T : Ty α} {w : World} {S : Nat → Prop} {m : Nat} {e : TypeId} {cs : Array Value} {ms : List α} (hf : Flat T (w.alloc (.cells cs e)) S cs.toList ms) (hm : ms.length = m) : Src T (w.alloc (.cells cs e)) S (some ⟨w.heap.size, 0, none⟩) m ms :=
  Src.blk (Bk.new w e cs) hf hm
theorem run_append_R {α : Type} {T : Ty α} {P : Program} {w : World} {t e : TypeId} {bytes : Nat} (hE : El P t e T.k bytes) (ty : TypeId)
    (base : Nat) (S : Nat → Prop) (v : Value) (l : List α) (hown : OwnS T e w base S v l) (A : Option Addr) (m c : Nat) (ms : List α) (hm : ms.length = m) (hsrc : Src T w S A m ms)
    (h63 : l.length + m ≤ maxLen) (hbytes : (l.length + m) * bytes ≤ 140737488355328) (hbase : base ≤ w.heap.size) :
    ∃ v' w', (Builtin.append_ #[t, t] ty #[v, .slice A m c]).run P w = .ok v' w' ∧ OwnS T e w' base S v' (l ++ ms) ∧ w.grownBy w' v.ownBlock ∧ Below base w w' := by
  obtain ⟨xs, ho, hf, hS⟩ := hown
  obtain ⟨ys, hg, hs⟩ := hsrc
  obtain ⟨v', w', hrun, h1, h2, h3, h4⟩ := run_append_sl hE ty base v l.length xs ho w.heap.size A m c ys hs hg.one h63 hbytes hbase
  exact ⟨v', w', hrun, OwnS.append hf hg hS (by rw [hm]; exact h1) h2 h3, h2, h4⟩
theorem wpList_append_R {α : Type} {T : Ty α} {P : Program} {ops : Array Oper} {rest : List Oper} {o : Oper} {a : Act} {Q : Exit → Act → World → Prop} {w : World} {t e : TypeId} {bytes : Nat} (hE : El P t e T.k bytes)
    (hgd : o.guard = none) (s x : Operand) (ho : o.op = .call { callee := .builtin .append, args := #[s, x], argTypes := #[t, t] })
    (base : Nat) (S : Nat → Prop) (v : Value) (l : List α) (hs : a.eval s = v) (hown : OwnS T e w base S v l) (A : Option Addr) (m c : Nat) (ms : List α) (hm : ms.length = m) (hx : a.eval x = .slice A m c) (hsrc : Src T w S A m ms)
    (h63 : l.length + m ≤ maxLen) (hbytes : (l.length + m) * bytes ≤ 140737488355328) (hbase : base ≤ w.heap.size)
    (h : ∀ v' w', OwnS T e w' base S v' (l ++ ms) → w.grownBy w' v.ownBlock → Below base w w' → wpList P ops Q rest (a.put o.dst v') w') :
    wpList P ops Q (o :: rest) a w := by
  obtain ⟨v', w', hrun, h2, h3, h4⟩ := run_append_R hE o.type base S v l hown A m c ms hm hsrc h63 hbytes hbase
  refine wpList_plain hgd fun _ hK => ?_
  unfold Oper.wp execOp
  simp only [ho, resolve, invoke, builtin, Sem.run_bind, Sem.run_pure, Result.andThen_ok, List.map_toArray, List.map_cons, List.map_nil, hs, hx, hrun]
  exact hK _ _ (h v' w' h2 h3 h4)
theorem step_append_R {α : Type} {T : Ty α} {P : Program} {ops : Array Oper} {o : Oper} {a : Act} {K : Act → World → Prop} {Q : Exit → Act → World → Prop} {E : Prop} {w : World} {t e : TypeId} {bytes : Nat} (hE : El P t e T.k bytes)
    (hgd : o.guard = none) (s x : Operand) (ho : o.op = .call { callee := .builtin .append, args := #[s, x], argTypes := #[t, t] })
    (base : Nat) (S : Nat → Prop) (v : Value) (l : List α) (hs : a.eval s = v) (hown : OwnS T e w base S v l) (A : Option Addr) (m c : Nat) (ms : List α) (hm : ms.length = m) (hx : a.eval x = .slice A m c) (hsrc : Src T w S A m ms)
    (h63 : l.length + m ≤ maxLen) (hbytes : (l.length + m) * bytes ≤ 140737488355328) (hbase : base ≤ w.heap.size)
    (h : ∀ v' w', OwnS T e w' base S v' (l ++ ms) → w.grownBy w' v.ownBlock → Below base w w' → K (a.put o.dst v') w') :
    if Region.wanted o (yielded ops a.tmps) = true then Oper.wp P o a w K Q else E := by
  have hw : Region.wanted o (yielded ops a.tmps) = true := by simp [Region.wanted, hgd]
  rw [if_pos hw]
  obtain ⟨v', w', hrun, h2, h3, h4⟩ := run_append_R hE o.type base S v l hown A m c ms hm hsrc h63 hbytes hbase
  unfold Oper.wp execOp
  simp only [ho, resolve, invoke, builtin, Sem.run_bind, Sem.run_pure, Result.andThen_ok, List.map_toArray, List.map_cons, List.map_nil, hs, hx, hrun]
  exact h v' w' h2 h3 h4
end Go.Proofs.YtggebllkkiennaaDoor
