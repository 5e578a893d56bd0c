/-
  A ship, boxes and a state that a call builds by appends: what stays, what is added, a class set in place.
-/
import Derived.Test.YtmhikcleekfbpaaDoorMaP
import Derived.Test.YtmhikcleekfbpaaDoorQf
import Derived.Test.YtmhikcleekfbpaaDoorStA
import Derived.Test.YtmhikcleekfbpaaDoorSgJ
namespace Go.Proofs.YtmhikcleekfbpaaDoor
open Go.RowKit

/-- Elements that read alike in each world. -/
def PlainG {α : Type} (T : Ty α) : Prop := ∀ {w w' : World} {S S' : Nat → Prop} {cs : List Value} {x : α}, T.rd w S cs x → T.rd w' S' cs x
theorem Flat.plainG {α : Type} {T : Ty α} (hp : PlainG T) {w w' : World} {S S' : Nat → Prop} : ∀ {xs : List Value} {l : List α}, Flat T w S xs l → Flat T w' S' xs l
  | _, [], h => h
  | _, _ :: _, ⟨cs, ys, e, h1, h2⟩ => ⟨cs, ys, e, hp h1, h2.plainG hp⟩
theorem plainG_colN : PlainG tColN := fun h => h
theorem plainG_bx : PlainG tBx := fun h => h
theorem plainG_stw : PlainG tStw := fun h => h
theorem OwnS.farG {α : Type} {T : Ty α} (hp : PlainG T) {e : TypeId} {w : World} {B : Nat} {v : Value} {l : List α} {p : Addr} (h : OwnS T e w B (Lt B) v l) (hb : p.block < B) (u : Value) : OwnS T e (w.setCell p u) B (Lt B) v l := by
  obtain ⟨xs, h1, h2, h3⟩ := h
  refine ⟨xs, own_far h1 p u (fun e => ?_), h2.plainG hp, fun b hb => ⟨?_, (h3 b hb).2⟩⟩
  · have := (h1.lt _ e).1
    omega
  · have := (h3 b hb).1
    simpa [World.setCell] using this
theorem cell_farG {w : World} {p : Addr} {u : Value} {b o : Nat} (h : b ≠ p.block) : (w.setCell p u).cell? ⟨b, o, none⟩ = w.cell? ⟨b, o, none⟩ := World.cell?_of_block (Below.heap_setCell w p u b h)
theorem Flat.setG {α : Type} {T : Ty α} {w : World} {S : Nat → Prop} : ∀ {xs : List Value} {l : List α} {i : Nat} {x x' : α} {j : Nat} {u : Value}, Flat T w S xs l → l[i]? = some x → j < T.k → (∀ cs, T.rd w S cs x → T.rd w S (cs.set j u) x') → Flat T w S (xs.set (i * T.k + j) u) (l.set i x')
  | xs, [], i, x, x', j, u, _, hx, _, _ => by simp at hx
  | xs, y :: l, 0, x, x', j, u, ⟨cs, ys, e, h1, h2⟩, hx, hj, hr => by
    simp at hx; subst hx
    refine ⟨cs.set j u, ys, ?_, hr cs h1, h2⟩
    rw [e, Nat.zero_mul, Nat.zero_add, List.set_append_left _ _ (by rw [T.len h1]; exact hj)]
  | xs, y :: l, i + 1, x, x', j, u, ⟨cs, ys, e, h1, h2⟩, hx, hj, hr => by
    have ih := h2.setG (i := i) (x' := x') (u := u) (by simpa using hx) hj hr
    refine ⟨cs, ys.set (i * T.k + j) u, ?_, h1, ih⟩
    have hl := T.len h1
    rw [e, List.set_append_right _ _ (by rw [hl, Nat.add_mul]; omega), hl, show (i + 1) * T.k + j - T.k = i * T.k + j by rw [Nat.add_mul]; omega]
theorem OwnS.setG {α : Type} {T : Ty α} {e : TypeId} {w : World} {base b c : Nat} {S : Nat → Prop} {l : List α} (h : OwnS T e w base S (.slice (some ⟨b, 0, none⟩) l.length c) l) {i : Nat} {x x' : α} {j : Nat} {u : Value} (hx : l[i]? = some x) (hj : j < T.k) (hr : ∀ cs, T.rd w S cs x → T.rd w S (cs.set j u) x') :
    OwnS T e (w.setCell ⟨b, i * T.k + j, none⟩ u) base S (.slice (some ⟨b, 0, none⟩) (l.set i x').length c) (l.set i x') := by
  obtain ⟨xs, h1, h2, h3⟩ := h
  obtain ⟨k1, k2⟩ := h1.stored (i * T.k + j) u
  have hk : ∀ b' o, S b' → (w.setCell ⟨b, i * T.k + j, none⟩ u).cell? ⟨b', o, none⟩ = w.cell? ⟨b', o, none⟩ := fun b' o hb => cell_farG (by have := (h3 b' hb).2; simpa [Value.ownBlock] using this)
  refine ⟨xs.set (i * T.k + j) u, by rw [List.length_set]; exact k1, (h2.setG hx hj hr).keep hk, fun b' hb => ⟨Nat.lt_of_lt_of_le (h3 b' hb).1 k2.size, ?_⟩⟩
  rw [List.length_set]
  exact (h3 b' hb).2
theorem OwnS.formG {α : Type} {T : Ty α} {e : TypeId} {w : World} {base : Nat} {S : Nat → Prop} {v : Value} {l : List α} (h : OwnS T e w base S v l) (hl : 0 < l.length) : ∃ b c, v = .slice (some ⟨b, 0, none⟩) l.length c ∧ base ≤ b ∧ l.length ≤ c ∧ c ≤ maxLen := by
  obtain ⟨xs, h1, _, _⟩ := h
  obtain ⟨_, h0 | ⟨g, cap, cur, hv, hb, _, hn, hm, _⟩⟩ := h1
  · omega
  · exact ⟨g, cap, hv, hb, hn, hm⟩
theorem OwnS.cellG {α : Type} {T : Ty α} {e : TypeId} {w : World} {base b c : Nat} {S : Nat → Prop} {l : List α} (h : OwnS T e w base S (.slice (some ⟨b, 0, none⟩) l.length c) l) {i : Nat} {x : α} (hx : l[i]? = some x) :
    ∃ cs, T.rd w S cs x ∧ ∀ j u, cs[j]? = some u → w.cell? ⟨b, i * T.k + j, none⟩ = some u ∧ w.frozen? ⟨b, i * T.k + j, none⟩ = false := by
  obtain ⟨xs, h1, h2, _⟩ := h
  obtain ⟨cs, hr, hc⟩ := h2.at_ hx
  refine ⟨cs, hr, fun j u hu => ⟨?_, h1.frozenAt _⟩⟩
  have := h1.cells (g := b) rfl (i * T.k + j) _ (hc j u hu)
  rw [add_mk, Nat.zero_add] at this
  exact this

/-- What the statement builds: a ship in the block g, boxes, a state. -/
structure MA (w V : World) (g : Nat) (cols : List Col) (A1 : Option Addr) (c1 : Nat) (vb : Value) (bs : List Bx) (vl : Value) (st : List Stw) : Prop where
  gw : w.heap.size ≤ g
  pl : ∀ c ∈ cols, c.plugs = []
  own : OwnS tColN 35 V (g + 1) (Lt (g + 1)) (.slice A1 cols.length c1) cols
  cap : cols.length ≤ c1 ∧ c1 ≤ maxLen
  ks : Bk V g 32 (shpA (shp0 cols []) (hd0 A1 c1 none 0))
  bx : OwnS tBx 41 V (g + 1) (Lt (g + 1)) vb bs
  sx : OwnS tStw 44 V (g + 1) (Lt (g + 1)) vl st
  be : Below w.heap.size w V
section
variable {w U : World} {g : Nat} {cols : List Col} {A1 : Option Addr} {c1 : Nat} {vb : Value} {bs : List Bx} {vl : Value} {st : List Stw}
theorem MA.start (w : World) : MA w (w.alloc (.cells (shpA (shp0 [] []) (hd0 none 0 none 0)) 32)) w.heap.size [] none 0 (.slice none 0 0) [] (.slice none 0 0) [] :=
  ⟨Nat.le_refl _, by simp, OwnS.nil (fun b hb => by simpa [Lt] using hb), ⟨Nat.le_refl _, by simp⟩, Bk.new w _ _, OwnS.nil (fun b hb => by simpa [Lt] using hb), OwnS.nil (fun b hb => by simpa [Lt] using hb), ba1 w _⟩
theorem MA.on {V : World} (h : MA w U g cols A1 c1 vb bs vl st) (hb : Below U.heap.size U V) : MA w V g cols A1 c1 vb bs vl st :=
  ⟨h.gw, h.pl, h.own.below hb, h.cap, h.ks.below hb h.ks.lt, h.bx.below hb, h.sx.below hb, h.be.trans (hb.mono h.be.size)⟩
theorem MA.rd (h : MA w U g cols A1 c1 vb bs vl st) : ShpR U (Lt U.heap.size) (shp0 cols []) (hd0 A1 c1 none 0) := by
  obtain ⟨A, c, e, h1, h2, h3⟩ := h.own.toT.ofN.sl
  injection e with e1 _ e3
  subst e1
  exact ⟨h.cap.1, Nat.zero_le _, Nat.zero_le _, Nat.zero_le _, Nat.zero_le _, h.cap.2, by simp [hd0], by simp [hd0], by simp [hd0], by simp [hd0], h3, SlT.nil, SlT.nil, SlT.nil, SlT.nil⟩
theorem OwnS.notB {α : Type} {T : Ty α} {e : TypeId} {w : World} {B g : Nat} {S : Nat → Prop} {v : Value} {l : List α} (h : OwnS T e w B S v l) (hg : g < B) : v.ownBlock ≠ some g := fun e => by
  have := h.base e
  omega
theorem MA.pushC {w3 : World} {A3 : Option Addr} {c3 : Nat} {m : List Col} (h : MA w U g cols A1 c1 vb bs vl st) (o : Obj) (ho : OwnS tColN 35 w3 (g + 1) (Lt (g + 1)) (.slice A3 (cols ++ m).length c3) (cols ++ m)) (hc : (cols ++ m).length ≤ c3 ∧ c3 ≤ maxLen) (hm : ∀ c ∈ m, c.plugs = [])
    (hg : (U.alloc o).grownBy w3 (Value.slice A1 cols.length c1).ownBlock) (hb3 : Below (g + 1) (U.alloc o) w3) : MA w (w3.setCell ⟨g, 0, none⟩ (.slice A3 (cols ++ m).length c3)) g (cols ++ m) A3 c3 vb bs vl st := by
  have h' := h.on (ba1 U o)
  have ks3 := h'.ks.grown hg (fun e => h'.own.notB (Nat.lt_succ_self g) e.symm)
  refine ⟨h.gw, fun c hc => ?_, ho.farG plainG_colN (Nat.lt_succ_self g) _, hc, ?_, (h'.bx.stay h'.own (by decide) hg).farG plainG_bx (Nat.lt_succ_self g) _, (h'.sx.stay h'.own (by decide) hg).farG plainG_stw (Nat.lt_succ_self g) _, ?_⟩
  · rcases List.mem_append.1 hc with h1 | h1
    · exact h.pl c h1
    · exact hm c h1
  · have := ks3.set_ 0 (.slice A3 (cols ++ m).length c3)
    have e : (shpA (shp0 cols []) (hd0 A1 c1 none 0)).setIfInBounds 0 (.slice A3 (cols ++ m).length c3) = shpA (shp0 (cols ++ m) []) (hd0 A3 c3 none 0) := by simp [shpA, shp0, hd0]
    rw [e] at this
    exact this
  · exact (h'.be.trans (hb3.mono (by have := h.gw; omega))).setCell (p := ⟨g, 0, none⟩) h.gw _
theorem MA.cellC {w3 : World} {v : Value} (h : MA w U g cols A1 c1 vb bs vl st) (o : Obj) (hg : (U.alloc o).grownBy w3 (Value.slice A1 cols.length c1).ownBlock) (hv : v = .slice A1 cols.length c1) : w3.cell? ⟨g, 0, none⟩ = some v ∧ w3.frozen? ⟨g, 0, none⟩ = false := by
  subst hv
  have h' := h.on (ba1 U o)
  have ks3 := h'.ks.grown hg (fun e => h'.own.notB (Nat.lt_succ_self g) e.symm)
  exact ⟨ks3.cell 0, ks3.frozen 0⟩
theorem MA.pushB {w3 : World} {vb' : Value} {m : List Bx} (h : MA w U g cols A1 c1 vb bs vl st) (o : Obj) (ho : OwnS tBx 41 w3 (g + 1) (Lt (g + 1)) vb' (bs ++ m))
    (hg : (U.alloc o).grownBy w3 vb.ownBlock) (hb3 : Below (g + 1) (U.alloc o) w3) : MA w w3 g cols A1 c1 vb' (bs ++ m) vl st := by
  have h' := h.on (ba1 U o)
  exact ⟨h.gw, h.pl, h'.own.stay h'.bx (by decide) hg, h.cap, h'.ks.grown hg (fun e => h'.bx.notB (Nat.lt_succ_self g) e.symm), ho, h'.sx.stay h'.bx (by decide) hg, h'.be.trans (hb3.mono (by have := h.gw; omega))⟩
theorem MA.pushS {w3 : World} {vl' : Value} {m : List Stw} (h : MA w U g cols A1 c1 vb bs vl st) (o : Obj) (ho : OwnS tStw 44 w3 (g + 1) (Lt (g + 1)) vl' (st ++ m))
    (hg : (U.alloc o).grownBy w3 vl.ownBlock) (hb3 : Below (g + 1) (U.alloc o) w3) : MA w w3 g cols A1 c1 vb bs vl' (st ++ m) := by
  have h' := h.on (ba1 U o)
  exact ⟨h.gw, h.pl, h'.own.stay h'.sx (by decide) hg, h.cap, h'.ks.grown hg (fun e => h'.sx.notB (Nat.lt_succ_self g) e.symm), h'.bx.stay h'.sx (by decide) hg, ho, h'.be.trans (hb3.mono (by have := h.gw; omega))⟩
theorem MA.setB {b q i z : Nat} {x : Bx} (h : MA w U g cols A1 c1 (.slice (some ⟨b, 0, none⟩) bs.length q) bs vl st) (hx : bs[i]? = some x) :
    MA w (U.setCell ⟨b, i * 9 + 7, none⟩ (.int .u8 (z : Nat))) g cols A1 c1 (.slice (some ⟨b, 0, none⟩) bs.length q) (bs.set i { x with cls := z }) vl st ∧ U.cell? ⟨b, i * 9 + 7, none⟩ = some (.int .u8 (x.cls : Nat)) ∧ U.frozen? ⟨b, i * 9 + 7, none⟩ = false := by
  have hbl : 0 < bs.length := by
    cases bs with
    | nil => simp at hx
    | cons => simp
  obtain ⟨b', q', e, hb, _, _⟩ := h.bx.formG hbl
  injection e with e
  injection e with e
  injection e with e
  subst e
  have hg := grown_setCell U ⟨b, i * 9 + 7, none⟩ (.int .u8 (z : Nat))
  obtain ⟨cs, hr, hc⟩ := h.bx.cellG hx
  have hr : cs = bxL x := hr
  subst hr
  have h7 := hc 7 _ rfl
  refine ⟨⟨h.gw, h.pl, h.own.stay h.bx (by decide) hg, h.cap, h.ks.grown hg (fun e => by have e2 : g = b := Option.some.inj e; omega), ?_, h.sx.stay h.bx (by decide) hg, h.be.setCell (p := ⟨b, i * 9 + 7, none⟩) (show w.heap.size ≤ b by have := h.gw; omega) _⟩, h7.1, h7.2⟩
  have h9 := h.bx.setG (i := i) (j := 7) (u := .int .u8 (z : Nat)) (x' := { x with cls := z }) hx (by decide) (by
    intro c9 h9
    have h9 : c9 = bxL x := h9
    subst h9
    rfl)
  rw [List.length_set] at h9
  exact h9
end
end Go.Proofs.YtmhikcleekfbpaaDoor
