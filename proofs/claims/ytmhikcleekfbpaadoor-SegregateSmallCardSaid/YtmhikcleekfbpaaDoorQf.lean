/-
  Appends in regions that draw their order: steps for the law of one assertion an operation.
-/
import Derived.Test.YtmhikcleekfbpaaDoorQe
namespace Go.Proofs.YtmhikcleekfbpaaDoor
open Go.RowKit

theorem wp_append_og {α : Type} {T : Ty α} {P : Program} {o : Oper} {a : Act} {K : Act → World → Prop} {Q : Exit → Act → World → Prop} {w : World} {t e : TypeId} {bytes : Nat} (hE : El P t e T.k bytes)
    (s x : Operand) (ho : o.op = .call { callee := .builtin .append, args := #[s, x], argTypes := #[t, t] })
    (base : Nat) (S : Nat → Prop) (v : Value) (l : List α) (hs : a.eval s = v) (hown : OwnS T e w base S v l) (A : Option Addr) (m c : Nat) (ms : List α) (hm : ms.length = m) (hx : a.eval x = .slice A m c) (hsrc : Src T w S A m ms)
    (h63 : l.length + m ≤ maxLen) (hbytes : (l.length + m) * bytes ≤ 140737488355328) (hbase : base ≤ w.heap.size)
    (h : ∀ v' w', OwnS T e w' base S v' (l ++ ms) → w.grownBy w' v.ownBlock → Below base w w' → K (a.put o.dst v') w') : owp P o a w K Q := by
  rw [owp_eq]
  obtain ⟨v', w', hrun, h2, h3, h4⟩ := run_append_R hE o.type base S v l hown A m c ms hm hsrc h63 hbytes hbase
  unfold Oper.wp execOp
  simp only [ho, resolve, invoke, builtin, Sem.run_bind, Sem.run_pure, Result.andThen_ok, List.map_toArray, List.map_cons, List.map_nil, hs, hx, hrun]
  exact h v' w' h2 h3 h4
theorem own_of_empty {α : Type} {T : Ty α} {e : TypeId} {w : World} {g B : Nat} (h : Bk w g e #[]) (hg : B ≤ g) : OwnS T e w B (Lt B) (.slice (some ⟨g, 0, none⟩) 0 0) [] :=
  ⟨[], ⟨by simp, .inr ⟨g, 0, #[], rfl, hg, h, Nat.le_refl _, by simp [maxLen], by simp, by simp⟩⟩, rfl, fun b hb => ⟨Nat.lt_of_lt_of_le hb (Nat.le_trans hg (Nat.le_of_lt h.lt)), by
    have hb' : b < B := hb
    simp only [Value.ownBlock, ne_eq, Option.some.injEq]; omega⟩⟩
theorem Bk.size_ne {w : World} {g g' : Nat} {t t' : TypeId} {cs cs' : Array Value} (h : Bk w g t cs) (h' : Bk w g' t' cs') (hs : cs.size ≠ cs'.size) : g ≠ g' := by
  rintro rfl
  unfold Bk at h h'
  rw [h] at h'
  injection h' with h'
  injection h' with h' _
  exact hs (by rw [h'])
/-- A block that another slice's growth leaves alone. -/
theorem Bk.stay {w w' : World} {g : Nat} {t : TypeId} {cs : Array Value} {v : Value} (h : Bk w g t cs) (hg : w.grownBy w' v.ownBlock) (hne : v.ownBlock ≠ some g) : Bk w' g t cs := h.grown hg (Ne.symm hne)
theorem OwnS.ne {α : Type} {T : Ty α} {e t : TypeId} {w : World} {B g : Nat} {S : Nat → Prop} {v : Value} {l : List α} {cs : Array Value} (h : OwnS T e w B S v l) (hb : Bk w g t cs) (hne : e ≠ t) : v.ownBlock ≠ some g := by
  obtain ⟨xs, ho, _⟩ := h
  exact own_ne ho hb hne
theorem OwnS.base {α : Type} {T : Ty α} {e : TypeId} {w : World} {B g : Nat} {S : Nat → Prop} {v : Value} {l : List α} (h : OwnS T e w B S v l) (hg : v.ownBlock = some g) : B ≤ g := by
  obtain ⟨xs, ho, _⟩ := h
  exact (ho.lt g hg).1
theorem OwnS.blk {α : Type} {T : Ty α} {e : TypeId} {w : World} {B g : Nat} {S : Nat → Prop} {v : Value} {l : List α} (h : OwnS T e w B S v l) (hg : v.ownBlock = some g) : ∃ cs, Bk w g e cs := by
  obtain ⟨xs, ho, _⟩ := h
  rcases ho.2 with ⟨rfl, _⟩ | ⟨g', cap, cur, rfl, _, hh, _⟩
  · cases hg
  · simp only [Value.ownBlock, Option.some.injEq] at hg
    subst hg
    exact ⟨cur, hh⟩
/-- A slice of the call's own that the growth of one of another type leaves alone. -/
theorem OwnS.stay {α β : Type} {T : Ty α} {T' : Ty β} {e e' : TypeId} {w w' : World} {B : Nat} {v v' : Value} {l : List α} {l' : List β} (h : OwnS T e w B (Lt B) v l) (h' : OwnS T' e' w B (Lt B) v' l') (hne : e ≠ e') (hg : w.grownBy w' v'.ownBlock) : OwnS T e w' B (Lt B) v l := by
  have key : ∀ k, v.ownBlock = some k → v'.ownBlock ≠ some k := fun k hk hk' => by
    obtain ⟨cs, hb⟩ := h.blk hk
    exact h'.ne hb (Ne.symm hne) hk'
  obtain ⟨xs, ho, hf, hS⟩ := h
  refine ⟨xs, ?_, hf.keep fun b o hb => World.cell?_of_block (hg.block b (hS b hb).1 fun e => ?_), fun b hb => ⟨Nat.lt_of_lt_of_le (hS b hb).1 hg.size, (hS b hb).2⟩⟩
  · exact ho.kept hg (by
      cases hv : v.ownBlock with
      | none => exact .inl rfl
      | some k => exact .inr fun e => key k hv e.symm)
  · have h1 := h'.base e.symm
    have h2 : b < B := hb
    omega
theorem Cb.app {W V V' : World} (h : Cb W V) (hb : Below W.heap.size V V') : Cb W V' := Below.trans h hb
theorem OwnS.sl' {α : Type} {T : Ty α} {e : TypeId} {w : World} {B : Nat} {S : Nat → Prop} {v : Value} {l : List α} (h : OwnS T e w B S v l) : ∃ A c, v = .slice A l.length c ∧ l.length ≤ c ∧ c ≤ maxLen ∧ SlT T w (Lt w.heap.size) A l := h.toT.sl
end Go.Proofs.YtmhikcleekfbpaaDoor
