/-
  Walks of the statement SlotHeld.
-/
import Derived.Test.YtggebllkkiennaaDoorSlAw
import Derived.Test.YtggebllkkiennaaDoorShQ
import Derived.Test.YtggebllkkiennaaDoorShM
namespace Go.Proofs.YtggebllkkiennaaDoor
open Go.RowKit

def few8 (m : Nat) : Slt := ⟨(m % 2 : Nat), (m / 2 % 4 : Nat), m / 8 % 3⟩
set_option maxHeartbeats 1000000 in
theorem heldFew (m : Nat) (w : World) (hm : m < 1000000) : Calls Tryd.prog 23 #[.int .i64 (m : Nat)] w (Ret w (.agg (sltL (few8 m)).toArray)) := by
  go_enter Tryd.func23, Tryd.ntmps23
  go_wp2
  exact bodyPost_ret (results_row1 rfl _ _ w.heap.size 34 (sltL (few8 m)).toArray _ rfl (Bk.new w _ _) Tryd.underlying34 rfl info_slt) rfl ⟨rfl, ba1 w _⟩

/-- Three lists of slots of the call's own, apart from one another. -/
structure H3 (w wr : World) (va vb vc : Value) (la lb lc : List Slt) : Prop where
  a : wr.ownsRow w.heap.size 34 3 va la.length (la.flatMap sltL)
  b : wr.ownsRow w.heap.size 34 3 vb lb.length (lb.flatMap sltL)
  c : wr.ownsRow w.heap.size 34 3 vc lc.length (lc.flatMap sltL)
  ab : ∀ g, va.ownBlock = some g → vb.ownBlock ≠ some g
  ac : ∀ g, va.ownBlock = some g → vc.ownBlock ≠ some g
  bc : ∀ g, vb.ownBlock = some g → vc.ownBlock ≠ some g
  be : Below w.heap.size w wr
section
variable {w wr wx : World} {va vb vc : Value} {la lb lc : List Slt}
theorem H3.start (w : World) : H3 w w (.slice none 0 0) (.slice none 0 0) (.slice none 0 0) [] [] [] :=
  ⟨World.ownsRow_nil _ _ _ _, World.ownsRow_nil _ _ _ _, World.ownsRow_nil _ _ _ _, fun g h => by simp [Value.ownBlock] at h, fun g h => by simp [Value.ownBlock] at h, fun g h => by simp [Value.ownBlock] at h, Below.refl _ _⟩
theorem H3.on (h : H3 w wr va vb vc la lb lc) (hb : Below wr.heap.size wr wx) : H3 w wx va vb vc la lb lc :=
  ⟨own_below h.a hb (Nat.le_refl _), own_below h.b hb (Nat.le_refl _), own_below h.c hb (Nat.le_refl _), h.ab, h.ac, h.bc, h.be.trans (hb.mono h.be.size)⟩
theorem H3.rot (h : H3 w wr va vb vc la lb lc) : H3 w wr vb vc va lb lc la :=
  ⟨h.b, h.c, h.a, h.bc, fun g h1 h2 => h.ab g h2 h1, fun g h1 h2 => h.ac g h2 h1, h.be⟩
theorem own_apart {base : Nat} {v v1 v' : Value} {n : Nat} {xs : List Value} (hv1 : wr.ownsRow base 34 3 v1 n xs) (hd : v'.ownBlock = v.ownBlock ∨ ∃ g, v'.ownBlock = some g ∧ wr.heap.size ≤ g)
    (h : ∀ g, v.ownBlock = some g → v1.ownBlock ≠ some g) : ∀ g, v'.ownBlock = some g → v1.ownBlock ≠ some g := by
  intro g hg h1
  rcases hd with hd | ⟨g', hd, hl⟩
  · exact h g (hd ▸ hg) h1
  · rw [hd] at hg
    cases hg
    have := (hv1.lt _ h1).2
    omega
theorem own_other {base : Nat} {v v1 : Value} {n : Nat} {xs : List Value} (hv1 : wr.ownsRow base 34 3 v1 n xs) (hg : wr.grownBy wx v.ownBlock) (h : ∀ g, v.ownBlock = some g → v1.ownBlock ≠ some g) : wx.ownsRow base 34 3 v1 n xs := by
  refine hv1.kept hg ?_
  cases hv : v1.ownBlock with
  | none => exact .inl rfl
  | some g =>
    refine .inr fun he => ?_
    exact h g he.symm hv
theorem H3.add {v' : Value} (h : H3 w wr va vb vc la lb lc) (x : Slt) (ho : wx.ownsRow w.heap.size 34 3 v' (la.length + 1) (la.flatMap sltL ++ sltL x)) (hg : wr.grownBy wx va.ownBlock)
    (hd : v'.ownBlock = va.ownBlock ∨ ∃ g, v'.ownBlock = some g ∧ wr.heap.size ≤ g) (hB : Below w.heap.size wr wx) : H3 w wx v' vb vc (la ++ [x]) lb lc :=
  ⟨by rw [List.length_append, List.flatMap_append]; simpa using ho, own_other h.b hg h.ab, own_other h.c hg h.ac, own_apart h.b hd h.ab, own_apart h.c hd h.ac, h.bc, h.be.trans hB⟩
theorem H3.slA (h : H3 w wr va vb vc la lb lc) : ∃ A c, va = .slice A la.length c ∧ la.length ≤ c ∧ SlT tSlt wr (Lt wr.heap.size) A la := by
  obtain ⟨A, c, h1, h2, _, h3⟩ := OwnT.sl (T := tSlt) (e := 34) (base := w.heap.size) (l := la) ⟨la.flatMap sltL, h.a, flat_slt la⟩
  exact ⟨A, c, h1, h2, h3⟩
end

def below8 (x y : Slt) : Bool := overB x y && (y.tier == x.tier - 1)
def all8 (l : List Nat) (k : Nat) : List Slt := (l.take k).map few8
def back8 (l : List Nat) (k : Nat) : List Slt := (List.range k).map fun i => few8 (l.getD (l.length - 1 - i) 0)
def under8 (x : Slt) (l : List Nat) (k : Nat) : List Slt := (all8 l k).filter (below8 x)
theorem all8_succ {l : List Nat} {k : Nat} (h : k < l.length) : all8 l (k + 1) = all8 l k ++ [few8 (l.getD k 0)] := by
  unfold all8
  rw [List.take_succ_eq_append_getElem h, List.map_append, show l.getD k 0 = l[k] by simp [h]]
  rfl
theorem back8_succ (l : List Nat) (k : Nat) : back8 l (k + 1) = back8 l k ++ [few8 (l.getD (l.length - 1 - k) 0)] := by
  unfold back8
  rw [List.range_succ, List.map_append]; rfl
theorem under8_succ {x : Slt} {l : List Nat} {k : Nat} (h : k < l.length) : under8 x l (k + 1) = under8 x l k ++ if below8 x (few8 (l.getD k 0)) then [few8 (l.getD k 0)] else [] := by
  unfold under8
  rw [all8_succ h, List.filter_append]
  simp only [List.filter_cons, List.filter_nil]
theorem all8_len (l : List Nat) (k : Nat) : (all8 l k).length ≤ l.length := by unfold all8; simp; omega
theorem back8_len (l : List Nat) (k : Nat) : (back8 l k).length = k := by unfold back8; simp
theorem under8_len (x : Slt) (l : List Nat) (k : Nat) : (under8 x l k).length ≤ l.length := Nat.le_trans (List.length_filter_le _ _) (all8_len l k)
theorem back8_rev (l : List Nat) : back8 l l.length = (all8 l l.length).reverse := by
  apply list_ext default (n := l.length) (back8_len l _) (by simp [all8])
  intro i hi
  have h1 : l.length - 1 - i < l.length := by omega
  have h2 : i < (all8 l l.length).reverse.length := by simp [all8]; exact hi
  simp only [back8, List.getD_eq_getElem?_getD, List.getElem?_map, List.getElem?_range hi, Option.map_some, Option.getD_some]
  rw [List.getElem?_eq_getElem h2, List.getElem_reverse]
  simp [all8, h1]
theorem hasB_reverse (x : Slt) (l : List Slt) (h : Nat) : hasB x l.reverse h = hasB x l h := by unfold hasB; rw [List.any_reverse]
theorem held_reverse (x : Slt) (l : List Slt) : heldB x l.reverse = heldB x l := by unfold heldB; simp only [hasB_reverse]
theorem hasB_filter (x : Slt) (l : List Slt) (h : Nat) (hs : sharesB x.half h = true) : hasB x (l.filter (below8 x)) h = hasB x l h := by
  unfold hasB
  rw [List.any_filter]
  apply List.any_congr rfl
  intro y
  by_cases hy : sltEq ⟨x.col, x.tier - 1, h⟩ y = true
  · have := (sltEq_iff _ _).1 hy
    subst this
    have : below8 x ⟨x.col, x.tier - 1, h⟩ = true := by
      simp [below8, overB, hs]; omega
    rw [this]; simp
  · have : sltEq ⟨x.col, x.tier - 1, h⟩ y = false := by simpa using hy
    rw [this]; simp
theorem held_under (x : Slt) (l : List Slt) : heldB x (l.filter (below8 x)) = heldB x l := by
  unfold heldB
  rw [hasB_filter x l x.half (by simp [sharesB])]
  by_cases h : x.half = 0
  · rw [hasB_filter x l 1 (by simp [sharesB, h]), hasB_filter x l 2 (by simp [sharesB, h])]
  · have : (x.half == 0) = false := by simpa using h
    rw [this]; simp
theorem held_more (x y : Slt) (l : List Slt) (h : heldB x l = true) : heldB x (l ++ [y]) = true := by
  unfold heldB hasB at *
  simp only [List.any_append, Bool.or_eq_true, Bool.and_eq_true, decide_eq_true_eq] at *
  rcases h with h | h | h
  · exact .inl h
  · exact .inr (.inl (.inl h))
  · exact .inr (.inr ⟨h.1, .inl h.2.1, .inl h.2.2⟩)
/-- What the two loops over the boxes below find. -/
def pairB (x y z : Slt) : Bool := (y.half == x.half) || ((x.half == 0) && ((y.half == 1) && (z.half == 2)))
def need8 (x : Slt) (u : List Slt) (k : Nat) : Bool := (u.take k).any fun y => u.any (pairB x y)
theorem need8_succ {x : Slt} {u : List Slt} {k : Nat} (h : k < u.length) : need8 x u (k + 1) = (need8 x u k || u.any (pairB x (u.getD k default))) := any_take _ h default
theorem need8_all (x : Slt) (l : List Slt) (ht : 0 < x.tier) : need8 x (l.filter (below8 x)) (l.filter (below8 x)).length = heldB x (l.filter (below8 x)) := by
  have hu : ∀ y ∈ l.filter (below8 x), ∀ h, sltEq ⟨x.col, x.tier - 1, h⟩ y = (y.half == h) := by
    intro y hy h
    have := (List.mem_filter.1 hy).2
    simp only [below8, overB, Bool.and_eq_true, beq_iff_eq] at this
    rw [Bool.eq_iff_iff, sltEq_iff]
    obtain ⟨yc, yt, yh⟩ := y
    simp only at this
    simp [this.2, this.1.1]
    exact eq_comm
  generalize l.filter (below8 x) = u at *
  have hh : ∀ h, hasB x u h = u.any fun y => y.half == h := by
    intro h
    unfold hasB
    rw [Bool.eq_iff_iff, List.any_eq_true, List.any_eq_true]
    constructor
    · rintro ⟨y, hy, e⟩; exact ⟨y, hy, by rw [← hu y hy h]; exact e⟩
    · rintro ⟨y, hy, e⟩; exact ⟨y, hy, by rw [hu y hy h]; exact e⟩
  unfold need8 heldB
  rw [List.take_length, hh, hh, hh, decide_eq_false (by omega), Bool.false_or]
  rw [Bool.eq_iff_iff]
  simp only [List.any_eq_true, pairB, Bool.or_eq_true, Bool.and_eq_true, beq_iff_eq]
  constructor
  · rintro ⟨y, hy, z, hz, h | ⟨h1, h2, h3⟩⟩
    · exact .inl ⟨y, hy, h⟩
    · exact .inr ⟨h1, ⟨y, hy, h2⟩, ⟨z, hz, h3⟩⟩
  · rintro (⟨y, hy, h⟩ | ⟨h1, ⟨y, hy, h2⟩, ⟨z, hz, h3⟩⟩)
    · exact ⟨y, hy, y, hy, .inl h⟩
    · exact ⟨y, hy, z, hz, .inr ⟨h1, h2, h3⟩⟩
theorem held_low (x : Slt) (l : List Slt) (h : x.tier = 0) : heldB x l = true := by unfold heldB; rw [decide_eq_true (by omega)]; rfl
/-- One element appended, as a step of a region that draws, behind a guard that let it come. -/
theorem step_append1w {P : Program} {ops : Array Oper} {o : Oper} {a : Act} {K : Act → World → Prop} {Q : Exit → Act → World → Prop} {E : Prop} {w : World} {t e : TypeId} {size bytes : Nat} (hE : El P t e size bytes)
    (hw : Region.wanted o (yielded ops a.tmps) = true) (s x : Operand) (ho : o.op = .call { callee := .builtin .append, args := #[s, x], argTypes := #[t, t] })
    (base : Nat) (v : Value) (n : Nat) (xs : List Value) (hs : a.eval s = v) (hown : w.ownsRow base e size v n xs)
    (g0 : Nat) (cs : Array Value) (c : Nat) (hx : a.eval x = .slice (some ⟨g0, 0, none⟩) 1 c) (hsrc : Bk w g0 e cs) (hcs : cs.size = size) (h1 : cs.toList.all (·.oneCell') = true)
    (h63 : n + 1 ≤ maxLen) (hbytes : (n + 1) * bytes ≤ 140737488355328) (hbase : base ≤ w.heap.size)
    (h : ∀ v' w', w'.ownsRow base e size v' (n + 1) (xs ++ cs.toList) → w.grownBy w' v.ownBlock → (v'.ownBlock = v.ownBlock ∨ ∃ g, v'.ownBlock = some g ∧ w.heap.size ≤ g) → Below base w w' → K (a.put o.dst v') w') :
    if Region.wanted o (yielded ops a.tmps) = true then Oper.wp P o a w K Q else E := by
  rw [if_pos hw]
  obtain ⟨v', w', hrun, h2, h3, h4, h5⟩ := run_append_blk hE o.type base v n xs hown g0 cs c hsrc hcs h1 h63 hbytes hbase
  unfold Oper.wp execOp
  simp only [ho, resolve, invoke, builtin, Sem.run_bind, Sem.run_pure, Result.andThen_ok, List.map_toArray, List.map_cons, List.map_nil, hs, hx, hrun]
  exact h v' w' h2 h3 h4 h5
end Go.Proofs.YtggebllkkiennaaDoor
