/-
  Slices copied: append from a slice that reads as a list. No program in sight.
-/
import Derived.Test.YtggebllkkiennaaDoorRep
namespace Go.Proofs.YtggebllkkiennaaDoor
open Go.RowKit

theorem SlT.raw {α : Type} {T : Ty α} {w : World} {S : Nat → Prop} {A : Option Addr} {l : List α} {B : Nat} (h : SlT T w S A l) (hS : ∀ b, S b → b < B) : ∃ xs, Flat T w S xs l ∧ Sl w B T.k A l.length xs := by
  by_cases hn : l = []
  · subst hn; exact ⟨[], rfl, Sl.nil rfl rfl⟩
  · obtain ⟨b, off, rfl, hb, hc⟩ := h hn
    have key : ∀ n, n ≤ l.length → ∃ xs, Flat T w S xs (l.take n) ∧ ∀ j u, xs[j]? = some u → w.cell? ⟨b, off + j, none⟩ = some u := by
      intro n
      induction n with
      | zero => intro _; exact ⟨[], rfl, by simp⟩
      | succ n ih =>
        intro hn'
        obtain ⟨xs, hf, hx⟩ := ih (by omega)
        obtain ⟨cs, h1, h2⟩ := hc n (l[n]'(by omega)) (List.getElem?_eq_getElem _)
        have hl := hf.len
        rw [List.length_take, Nat.min_eq_left (by omega)] at hl
        refine ⟨xs ++ cs, ?_, fun j u hu => ?_⟩
        · rw [List.take_succ_eq_append_getElem (by omega)]; exact hf.append (.single h1)
        · rw [List.getElem?_append] at hu
          split at hu
          · exact hx j u hu
          · have := h2 _ u hu
            rw [hl, show off + n * T.k + (j - n * T.k) = off + j by omega] at this
            exact this
    obtain ⟨xs, hf, hx⟩ := key l.length (Nat.le_refl _)
    rw [List.take_length] at hf
    exact ⟨xs, hf, hf.len, fun _ => ⟨b, off, rfl, hS b hb, hx⟩⟩
theorem SlT.but {α β : Type} {T : Ty α} {T' : Ty β} {e : TypeId} {w : World} {A : Option Addr} {l : List α} {l' : List β} {v : Value} {B base : Nat} (h : SlT T w (Lt B) A l) (ho : OwnT T' e w base v l') (hB : B ≤ base) (hs : B ≤ w.heap.size) : SlT T w (But w v) A l :=
  h.more fun b hb => ⟨Nat.lt_of_lt_of_le hb hs, by
    obtain ⟨xs, ho, _⟩ := ho
    intro e
    have := (ho.lt b e.symm).1
    have hb' : b < B := hb
    omega⟩
theorem OwnT.empty {α : Type} (T : Ty α) (e : TypeId) (w : World) (base : Nat) (hb : base ≤ w.heap.size) : OwnT T e (w.alloc (.cells #[] e)) base (.slice (some ⟨w.heap.size, 0, none⟩) 0 0) [] := ⟨[], own_empty w base e T.k hb, rfl⟩
theorem run_append_T {α : Type} {T : Ty α} {P : Program} {w : World} {t e : TypeId} {bytes : Nat} (hE : El P t e T.k bytes) (ty : TypeId)
    (base : Nat) (v : Value) (l : List α) (hown : OwnT T e w base v l) (A : Option Addr) (m c : Nat) (ms : List α) (hm : ms.length = m) (hsrc : SlT T w (But w v) A ms)
    (h63 : l.length + m ≤ maxLen) (hbytes : (l.length + m) * bytes ≤ 140737488355328) (hbase : base ≤ w.heap.size) :
    ∃ v' w', (Builtin.append_ #[t, t] ty #[v, .slice A m c]).run P w = .ok v' w' ∧ OwnT T e w' base v' (l ++ ms) ∧ w.grownBy w' v.ownBlock ∧ Below base w w' := by
  obtain ⟨xs, ho, hf⟩ := hown
  obtain ⟨ys, hg, hs⟩ := hsrc.raw (B := w.heap.size) fun b hb => hb.1
  rw [hm] at hs
  obtain ⟨v', w', hrun, h1, h2, h3, h4⟩ := run_append_sl hE ty base v l.length xs ho w.heap.size A m c ys hs hg.one h63 hbytes hbase
  exact ⟨v', w', hrun, OwnT.append hf hg (by rw [hm]; exact h1) h2 h3, h2, h4⟩
theorem wpList_append_T {α : Type} {T : Ty α} {P : Program} {ops : Array Oper} {rest : List Oper} {o : Oper} {a : Act} {Q : Exit → Act → World → Prop} {w : World} {t e : TypeId} {bytes : Nat} (hE : El P t e T.k bytes)
    (hgd : o.guard = none) (s x : Operand) (ho : o.op = .call { callee := .builtin .append, args := #[s, x], argTypes := #[t, t] })
    (base : Nat) (v : Value) (l : List α) (hs : a.eval s = v) (hown : OwnT T e w base v l) (A : Option Addr) (m c : Nat) (ms : List α) (hm : ms.length = m) (hx : a.eval x = .slice A m c) (hsrc : SlT T w (But w v) A ms)
    (h63 : l.length + m ≤ maxLen) (hbytes : (l.length + m) * bytes ≤ 140737488355328) (hbase : base ≤ w.heap.size)
    (h : ∀ v' w', OwnT T e w' base v' (l ++ ms) → w.grownBy w' v.ownBlock → Below base w w' → wpList P ops Q rest (a.put o.dst v') w') :
    wpList P ops Q (o :: rest) a w := by
  obtain ⟨v', w', hrun, h2, h3, h4⟩ := run_append_T hE o.type base v l hown A m c ms hm hsrc h63 hbytes hbase
  refine wpList_plain hgd fun _ hK => ?_
  unfold Oper.wp execOp
  simp only [ho, resolve, invoke, builtin, Sem.run_bind, Sem.run_pure, Result.andThen_ok, List.map_toArray, List.map_cons, List.map_nil, hs, hx, hrun]
  exact hK _ _ (h v' w' h2 h3 h4)
theorem step_append_T {α : Type} {T : Ty α} {P : Program} {ops : Array Oper} {o : Oper} {a : Act} {K : Act → World → Prop} {Q : Exit → Act → World → Prop} {E : Prop} {w : World} {t e : TypeId} {bytes : Nat} (hE : El P t e T.k bytes)
    (hgd : o.guard = none) (s x : Operand) (ho : o.op = .call { callee := .builtin .append, args := #[s, x], argTypes := #[t, t] })
    (base : Nat) (v : Value) (l : List α) (hs : a.eval s = v) (hown : OwnT T e w base v l) (A : Option Addr) (m c : Nat) (ms : List α) (hm : ms.length = m) (hx : a.eval x = .slice A m c) (hsrc : SlT T w (But w v) A ms)
    (h63 : l.length + m ≤ maxLen) (hbytes : (l.length + m) * bytes ≤ 140737488355328) (hbase : base ≤ w.heap.size)
    (h : ∀ v' w', OwnT T e w' base v' (l ++ ms) → w.grownBy w' v.ownBlock → Below base w w' → K (a.put o.dst v') w') :
    if Region.wanted o (yielded ops a.tmps) = true then Oper.wp P o a w K Q else E := by
  have hw : Region.wanted o (yielded ops a.tmps) = true := by simp [Region.wanted, hgd]
  rw [if_pos hw]
  obtain ⟨v', w', hrun, h2, h3, h4⟩ := run_append_T hE o.type base v l hown A m c ms hm hsrc h63 hbytes hbase
  unfold Oper.wp execOp
  simp only [ho, resolve, invoke, builtin, Sem.run_bind, Sem.run_pure, Result.andThen_ok, List.map_toArray, List.map_cons, List.map_nil, hs, hx, hrun]
  exact h v' w' h2 h3 h4
end Go.Proofs.YtggebllkkiennaaDoor
