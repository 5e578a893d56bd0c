/-
  Covers of a call's own: words for the second half of Built.
-/
import Derived.Test.YtggebllkkiennaaDoorShL
namespace Go.Proofs.YtggebllkkiennaaDoor
open Go.RowKit

/-- One element, laid in block g0, appended to a row of the call's own. -/
theorem wpList_append_bk {P : Program} {ops : Array Oper} {rest : List Oper} {o : Oper} {a : Act} {Q : Exit → Act → World → Prop} {w : World} {t e : TypeId} {size bytes : Nat} (hE : El P t e size bytes)
    (hgd : o.guard = none) (s x : Operand) (ho : o.op = .call { callee := .builtin .append, args := #[s, x], argTypes := #[t, t] })
    (base : Nat) (v : Value) (n : Nat) (xs : List Value) (hs : a.eval s = v) (hown : w.ownsRow base e size v n xs)
    (g0 : Nat) (cs : Array Value) (c : Nat) (hx : a.eval x = .slice (some ⟨g0, 0, none⟩) 1 c) (hsrc : Bk w g0 e cs) (hcs : cs.size = size) (h1 : cs.toList.all (·.oneCell') = true)
    (h63 : n + 1 ≤ maxLen) (hbytes : (n + 1) * bytes ≤ 140737488355328) (hbase : base ≤ w.heap.size)
    (h : ∀ v' w', w'.ownsRow base e size v' (n + 1) (xs ++ cs.toList) → w.grownBy w' v.ownBlock → (v'.ownBlock = v.ownBlock ∨ ∃ g, v'.ownBlock = some g ∧ w.heap.size ≤ g) → Below base w w' → wpList P ops Q rest (a.put o.dst v') w') :
    wpList P ops Q (o :: rest) a w := by
  obtain ⟨v', w', hrun, h2, h3, h4, h5⟩ := run_append_blk hE o.type base v n xs hown g0 cs c hsrc hcs h1 h63 hbytes hbase
  refine wpList_plain hgd fun _ hK => ?_
  unfold Oper.wp execOp
  simp only [ho, resolve, invoke, builtin, Sem.run_bind, Sem.run_pure, Result.andThen_ok, List.map_toArray, List.map_cons, List.map_nil, hs, hx, hrun]
  exact hK _ _ (h v' w' h2 h3 h4 h5)
theorem Bk.new2 (w : World) (o : Obj) (t : TypeId) (cs : Array Value) : Bk ((w.alloc o).alloc (.cells cs t)) (w.heap.size + 1) t cs := by
  have := Bk.new (w.alloc o) t cs
  rw [show (w.alloc o).heap.size = w.heap.size + 1 by simp] at this
  exact this
def covCells : List Cov → List Nat → List Value
  | x :: l, g :: gs => .int .i64 x.bay :: .slice (some ⟨g, 0, none⟩) x.rows.length x.rows.length :: covCells l gs
  | _, _ => []
/-- The rows of the covers lie in the blocks gs, one by one. -/
def CovR (w : World) (base : Nat) : List Cov → List Nat → Prop
  | x :: l, g :: gs => Bk w g 3 (i64s x.rows).toArray ∧ base ≤ g ∧ g ∉ gs ∧ CovR w base l gs
  | [], [] => True
  | _, _ => False
theorem CovR.len {w : World} {base : Nat} : ∀ {l : List Cov} {gs : List Nat}, CovR w base l gs → l.length = gs.length
  | [], [], _ => rfl
  | _ :: _, _ :: _, h => by simp [h.2.2.2.len]
  | [], _ :: _, h => h.elim
  | _ :: _, [], h => h.elim
theorem CovR.keep {w w' : World} {base : Nat} : ∀ {l : List Cov} {gs : List Nat}, CovR w base l gs → (∀ g ∈ gs, w'.heap[g]? = w.heap[g]?) → CovR w' base l gs
  | [], [], _, _ => trivial
  | _ :: _, g :: _, ⟨h1, h2, h3, h4⟩, hk => ⟨(hk g (by simp)).trans h1, h2, h3, h4.keep fun x hx => hk x (by simp [hx])⟩
  | [], _ :: _, h, _ => h.elim
  | _ :: _, [], h, _ => h.elim
theorem CovR.lt {w : World} {base : Nat} : ∀ {l : List Cov} {gs : List Nat}, CovR w base l gs → ∀ g ∈ gs, base ≤ g ∧ g < w.heap.size ∧ ∃ cs, Bk w g 3 cs
  | [], [], _, g, hg => by cases hg
  | _ :: _, g :: _, ⟨h1, h2, h3, h4⟩, x, hx => by
    rcases List.mem_cons.1 hx with rfl | hx
    · exact ⟨h2, h1.lt, _, h1⟩
    · exact h4.lt x hx
  | [], _ :: _, h, _, _ => h.elim
  | _ :: _, [], h, _, _ => h.elim
theorem CovR.down {w : World} {base base' : Nat} (hb : base' ≤ base) : ∀ {l : List Cov} {gs : List Nat}, CovR w base l gs → CovR w base' l gs
  | [], [], _ => trivial
  | _ :: _, _ :: _, ⟨h1, h2, h3, h4⟩ => ⟨h1, Nat.le_trans hb h2, h3, h4.down hb⟩
  | [], _ :: _, h => h.elim
  | _ :: _, [], h => h.elim
theorem CovR.add {w : World} {base g : Nat} {x : Cov} (hb : Bk w g 3 (i64s x.rows).toArray) (hg : base ≤ g) : ∀ {l : List Cov} {gs : List Nat}, CovR w base l gs → g ∉ gs → CovR w base (l ++ [x]) (gs ++ [g])
  | [], [], _, _ => ⟨hb, hg, by simp, trivial⟩
  | _ :: _, g' :: gs, ⟨h1, h2, h3, h4⟩, hn => ⟨h1, h2, by
      intro hm
      rcases List.mem_append.1 hm with hm | hm
      · exact h3 hm
      · simp at hm; subst hm; exact hn (by simp), h4.add hb hg fun hm => hn (by simp [hm])⟩
  | [], _ :: _, h, _ => h.elim
  | _ :: _, [], h, _ => h.elim
theorem covCells_add {x : Cov} {g : Nat} : ∀ {l : List Cov} {gs : List Nat}, l.length = gs.length → covCells (l ++ [x]) (gs ++ [g]) = covCells l gs ++ [.int .i64 x.bay, .slice (some ⟨g, 0, none⟩) x.rows.length x.rows.length]
  | [], [], _ => rfl
  | _ :: l, _ :: gs, h => by simp [covCells, covCells_add (l := l) (gs := gs) (by simpa using h)]
  | [], _ :: _, h => by simp at h
  | _ :: _, [], h => by simp at h
theorem sl_ints' {w : World} {S : Nat → Prop} {g : Nat} {t : TypeId} {l : List Int} (hb : Bk w g t (i64s l).toArray) (hS : S g) : SlT tInt w S (some ⟨g, 0, none⟩) l := by
  refine sl_flat hb ?_ hS
  have : ∀ l : List Int, Flat tInt w S (i64s l) l := by
    intro l
    induction l with
    | nil => rfl
    | cons x l ih => exact ⟨[.int .i64 x], i64s l, rfl, rfl, ih⟩
  simpa using this l
theorem CovR.flat {w : World} {base : Nat} {S : Nat → Prop} : ∀ {l : List Cov} {gs : List Nat}, CovR w base l gs → (∀ g ∈ gs, S g) → Flat tCov w S (covCells l gs) l
  | [], [], _, _ => rfl
  | x :: l, g :: gs, ⟨h1, h2, h3, h4⟩, hS => ⟨[.int .i64 x.bay, .slice (some ⟨g, 0, none⟩) x.rows.length x.rows.length], covCells l gs, rfl, ⟨some ⟨g, 0, none⟩, x.rows.length, rfl, Nat.le_refl _, sl_ints' h1 (hS g (by simp))⟩, h4.flat fun y hy => hS y (by simp [hy])⟩
  | [], _ :: _, h, _ => h.elim
  | _ :: _, [], h, _ => h.elim
/-- Covers of a call's own. -/
structure CovOwn (w : World) (base : Nat) (v : Value) (covs : List Cov) (gs : List Nat) : Prop where
  own : w.ownsRow base 56 2 v covs.length (covCells covs gs)
  rows : CovR w base covs gs
theorem CovOwn.flat {w : World} {base : Nat} {v : Value} {covs : List Cov} {gs : List Nat} (h : CovOwn w base v covs gs) : Flat tCov w (But w v) (covCells covs gs) covs :=
  h.rows.flat fun g hg => by
    obtain ⟨_, h2, cs, h3⟩ := h.rows.lt g hg
    exact ⟨h2, Ne.symm (own_ne h.own h3 (by decide))⟩
theorem CovOwn.ownT {w : World} {base : Nat} {v : Value} {covs : List Cov} {gs : List Nat} (h : CovOwn w base v covs gs) : OwnT tCov 56 w base v covs := ⟨_, h.own, h.flat⟩
theorem CovOwn.below {w w' : World} {base : Nat} {v : Value} {covs : List Cov} {gs : List Nat} (h : CovOwn w base v covs gs) (hb : Below w.heap.size w w') : CovOwn w' base v covs gs :=
  ⟨own_below h.own hb (Nat.le_refl _), h.rows.keep fun g hg => hb.block g (h.rows.lt g hg).2.1⟩
/-- .. while other blocks are written. -/
theorem CovOwn.far {w : World} {base : Nat} {v : Value} {covs : List Cov} {gs : List Nat} (h : CovOwn w base v covs gs) {p : Addr} (hp : p.block < base) (u : Value) : CovOwn (w.setCell p u) base v covs gs :=
  ⟨own_far h.own p u (by intro e; have := (h.own.lt _ e).1; omega), h.rows.keep fun g hg => Below.heap_setCell w p u g (by have := (h.rows.lt g hg).1; omega)⟩
/-- One cover more: its rows were just laid, then the cover was appended. -/
theorem CovOwn.push {w w3 : World} {base : Nat} {v v' : Value} {covs : List Cov} {gs : List Nat} {x : Cov} (h : CovOwn w base v covs gs) (hb : base ≤ w.heap.size)
    (ho : w3.ownsRow base 56 2 v' (covs.length + 1) (covCells covs gs ++ [.int .i64 x.bay, .slice (some ⟨w.heap.size, 0, none⟩) x.rows.length x.rows.length]))
    (o : Obj) (hg : ((w.alloc (.cells (i64s x.rows).toArray 3)).alloc o).grownBy w3 v.ownBlock) : CovOwn w3 base v' (covs ++ [x]) (gs ++ [w.heap.size]) := by
  have h1 := h.below (ba2 w (.cells (i64s x.rows).toArray 3) o)
  have hk : ∀ g ∈ gs, w3.heap[g]? = ((w.alloc (.cells (i64s x.rows).toArray 3)).alloc o).heap[g]? := fun g hg' => by
    obtain ⟨_, h2, cs, h3⟩ := h1.rows.lt g hg'
    exact hg.block g h2 (Ne.symm (own_ne h1.own h3 (by decide)))
  have hn : Bk w3 w.heap.size 3 (i64s x.rows).toArray := by
    have := (Bk.new w 3 (i64s x.rows).toArray).alloc o
    refine this.grown hg ?_
    exact Ne.symm (own_ne h1.own this (by decide))
  refine ⟨by rw [covCells_add h.rows.len, List.length_append, List.length_singleton]; exact ho, (h1.rows.keep hk).add hn hb ?_⟩
  intro hm
  have := (h.rows.lt _ hm).2.1
  omega
/-- All covers that Built may make, up to a bay. -/
def allTo : Nat → List Cov
  | 0 => []
  | b + 1 => allTo b ++ [⟨b, [0, 1]⟩, ⟨b, [2, 3, 4]⟩]
end Go.Proofs.YtggebllkkiennaaDoor
