/-
  Contracts and lemmas, in one text: Lib, Lib2, Lib3, Rep, Rep2, Rep3, Rep4, ShT, MapC, Post.
-/
import Derived.WalkKit
import Derived.ProofKit
import Derived.OpenShut
import Derived.Lib.Hide
import Derived.Laws.Rows
import Derived.Laws.OwnMore
import Derived.Deep.Draws
import Derived.Laws.ResultCell
import Derived.Maps.AppendAt
import Derived.StillTailTactics
import Derived.Laws.BytesArg
import Derived.Lib.Bytes
import Derived.WideKeyEntry
import Derived.Maps.RangeWalk
import Derived.Maps.Views
import Derived.Test.YtmhikcleekfbpaaDoorChecked
import Derived.Below
import Derived.ChangeSame
import Derived.Carry
namespace Go.Proofs.YtmhikcleekfbpaaDoor
open Go.RowKit

theorem add_mk (b o n : Nat) : (⟨b, o, none⟩ : Addr).add n = ⟨b, o + n, none⟩ := by
  unfold Addr.add; by_cases h : n = 0 <;> simp [h]

/-- The slice at A with n elements of k cells each holds the cells xs, below block B. -/
structure Sl (w : World) (B k : Nat) (A : Option Addr) (n : Nat) (xs : List Value) : Prop where
  len : xs.length = n * k
  mem : 0 < n → ∃ b off, A = some ⟨b, off, none⟩ ∧ b < B ∧ ∀ j u, xs[j]? = some u → w.cell? ⟨b, off + j, none⟩ = some u

section
variable {w w' : World} {B B' k n : Nat} {A : Option Addr} {xs : List Value}
theorem Sl.nil (h : n = 0) (hx : xs = []) : Sl w B k A n xs := ⟨by simp [h, hx], fun h' => absurd h' (by omega)⟩
theorem Sl.keep (h : Sl w B k A n xs) (hk : ∀ b o, b < B → w'.cell? ⟨b, o, none⟩ = w.cell? ⟨b, o, none⟩) : Sl w' B k A n xs :=
  ⟨h.len, fun hn => by
    obtain ⟨b, off, e, hb, hc⟩ := h.mem hn
    exact ⟨b, off, e, hb, fun j u hu => (hk _ _ hb).trans (hc j u hu)⟩⟩
theorem Sl.below (h : Sl w B k A n xs) (hb : Below B w w') : Sl w' B k A n xs := h.keep fun _ _ hp => hb.cell hp
theorem Sl.more (h : Sl w B k A n xs) (hB : B ≤ B') : Sl w B' k A n xs :=
  ⟨h.len, fun hn => by
    obtain ⟨b, off, e, hb, hc⟩ := h.mem hn
    exact ⟨b, off, e, by omega, hc⟩⟩
theorem Sl.drewN (h : Sl w B k A n xs) (m : Nat) : Sl (w.drewN m) B k A n xs := ⟨h.len, h.mem⟩
theorem Sl.at_ (h : Sl w B 1 A n xs) {j : Nat} (hj : j < n) :
    ∃ b off, A = some ⟨b, off, none⟩ ∧ b < B ∧ w.cell? ⟨b, off + j, none⟩ = some (xs.getD j undef) := by
  obtain ⟨b, off, e, hb, hc⟩ := h.mem (by omega)
  have hl : j < xs.length := by rw [h.len]; omega
  refine ⟨b, off, e, hb, hc j _ ?_⟩
  simp [List.getElem?_eq_getElem hl]
end

/-- Bytes and ints as cells. -/
def u8s (l : List Nat) : List Value := l.map fun (x : Nat) => Value.int .u8 (x : Int)
def i64s (l : List Int) : List Value := l.map fun (x : Int) => Value.int .i64 x
theorem u8s_len (l : List Nat) : (u8s l).length = l.length := by simp [u8s]
theorem i64s_len (l : List Int) : (i64s l).length = l.length := by simp [i64s]
theorem Sl.u8 {w : World} {B n : Nat} {A : Option Addr} {l : List Nat} (h : Sl w B 1 A n (u8s l)) {j : Nat} (hj : j < n) :
    ∃ b off, A = some ⟨b, off, none⟩ ∧ b < B ∧ w.cell? ⟨b, off + j, none⟩ = some (.int .u8 (l.getD j 0 : Nat)) := by
  obtain ⟨b, off, e, hb, hc⟩ := h.at_ hj
  have hl : j < l.length := by have := h.len; rw [u8s_len] at this; omega
  refine ⟨b, off, e, hb, hc.trans ?_⟩
  simp [u8s, hl]
theorem Sl.i64 {w : World} {B n : Nat} {A : Option Addr} {l : List Int} (h : Sl w B 1 A n (i64s l)) {j : Nat} (hj : j < n) :
    ∃ b off, A = some ⟨b, off, none⟩ ∧ b < B ∧ w.cell? ⟨b, off + j, none⟩ = some (.int .i64 (l.getD j 0)) := by
  obtain ⟨b, off, e, hb, hc⟩ := h.at_ hj
  have hl : j < l.length := by have := h.len; rw [i64s_len] at this; omega
  refine ⟨b, off, e, hb, hc.trans ?_⟩
  simp [i64s, hl]

/-- Block g is just the cells cs of element type t, none frozen. -/
def Bk (w : World) (g : Nat) (t : TypeId) (cs : Array Value) : Prop := w.heap[g]? = some (.cells cs t (0, 0))
section
variable {w w' : World} {g : Nat} {t : TypeId} {cs : Array Value}
theorem Bk.eq (h : Bk w g t cs) : w.heap[g]? = some (.cells cs t (0, 0)) := h
theorem Bk.lt (h : Bk w g t cs) : g < w.heap.size := by
  rcases Nat.lt_or_ge g w.heap.size with hlt | hge
  · exact hlt
  · unfold Bk at h; rw [Array.getElem?_eq_none hge] at h; cases h
theorem Bk.cell (h : Bk w g t cs) (i : Nat) : w.cell? ⟨g, i, none⟩ = cs[i]? := by unfold Bk at h; simp [World.cell?, h]
theorem Bk.frozen (h : Bk w g t cs) (i : Nat) : w.frozen? ⟨g, i, none⟩ = false := by unfold Bk at h; simp [World.frozen?, h]
theorem Bk.new (w : World) (t : TypeId) (cs : Array Value) : Bk (w.alloc (.cells cs t)) w.heap.size t cs := heap_alloc_new w _
theorem Bk.alloc (h : Bk w g t cs) (o : Obj) : Bk (w.alloc o) g t cs := (Below.heap_alloc w o g h.lt).trans h
theorem Bk.set_ (h : Bk w g t cs) (i : Nat) (u : Value) : Bk (w.setCell ⟨g, i, none⟩ u) g t (cs.setIfInBounds i u) := by
  unfold Bk at h ⊢
  simp [World.setCell, Array.getElem?_modify, h]
theorem Bk.far (h : Bk w g t cs) {p : Addr} (hp : g ≠ p.block) (u : Value) : Bk (w.setCell p u) g t cs := (Below.heap_setCell w p u g hp).trans h
theorem Bk.below {B : Nat} (h : Bk w g t cs) (hb : Below B w w') (hg : g < B) : Bk w' g t cs := (hb.block g hg).trans h
theorem Bk.grown {row : Option Nat} (h : Bk w g t cs) (hb : w.grownBy w' row) (hg : some g ≠ row) : Bk w' g t cs := (hb.block g h.lt hg).trans h
theorem Bk.ne_ {g' : Nat} {t' : TypeId} {cs' : Array Value} (h : Bk w g t cs) (h' : Bk w g' t' cs') (hne : t ≠ t') : g ≠ g' := by
  rintro rfl
  unfold Bk at h h'
  rw [h] at h'
  injection h' with h'
  injection h' with _ ht
  exact hne ht
end
theorem Bk.row {w : World} {g : Nat} {t : TypeId} {cs : Array Value} (h : Bk w g t cs) (new : Array Value) : Bk (w.setRow g new) g t new := setRow_heap w g cs new t (0, 0) h
theorem Bk.rowfar {w : World} {g g' : Nat} {t : TypeId} {cs : Array Value} (h : Bk w g t cs) (hne : g ≠ g') (new : Array Value) : Bk (w.setRow g' new) g t cs := (setRow_other w g' g new hne).trans h
theorem below_setRow {B : Nat} {a w : World} (h : Below B a w) {g : Nat} (hg : B ≤ g) (cs : Array Value) : Below B a (w.setRow g cs) :=
  h.trans ⟨rfl, rfl, rfl, by simp, fun k hk => setRow_other w g k cs (by omega)⟩
theorem results_row_tmp {P : Program} {fn : Func} {p u : Tmp} {ty : TypeId} (h : fn.results = #[.cell p ty, .tmp u]) (tmps : Array Value) (w : World) (g : Nat) (t : TypeId) (cs : Array Value) (d : TypeDesc)
    (hp : tmps.getD p undef = .pointer (some ⟨g, 0, none⟩)) (hg : Bk w g t cs)
    (hu : P.underlying ty = some d) (hd : (match d with | .struct _ | .array _ _ => true | _ => false) = true) (hi : (P.info? ty).map (·.size) = some cs.size) :
    (results fn tmps).run P w = .ok (.tuple #[.agg cs, tmps.getD u undef]) w := by
  rw [results_cell_tmp h, hp]
  simp only [asAddr, Sem.run_pure, Result.andThen_ok, run_loadVar_row w g t ty cs (0, 0) d hg hu hd hi]
theorem below_drewN {B : Nat} {a w : World} (h : Below B a w) (n : Nat) : Below B a (w.drewN n) := ⟨h.os, h.tape, h.output, h.size, h.block⟩
/-- A slice type t with elements of type e: cells and bytes an element. -/
structure El (P : Program) (t e : TypeId) (size bytes : Nat) : Prop where
  under : P.underlying t = some (.slice e)
  info : ∃ i z, P.info? e = some i ∧ i.zero = some z ∧ i.size = size ∧ i.bytes = bytes ∧ z.cells.size = size
  pos : 0 < size
theorem El.mk' {P : Program} {t e : TypeId} {size bytes : Nat} (h1 : P.underlying t = some (.slice e)) (h2 : (P.info? e).map (fun i => (i.zero.map (fun z => z.cells.size), i.size, i.bytes)) = some (some size, size, bytes)) (h4 : 0 < size) : El P t e size bytes := by
  refine ⟨h1, ?_, h4⟩
  cases hi : P.info? e with
  | none => simp [hi] at h2
  | some i =>
    simp only [hi, Option.map_some, Option.some.injEq, Prod.mk.injEq] at h2
    cases hz : i.zero with
    | none => simp [hz] at h2
    | some z =>
      simp only [hz, Option.map_some, Option.some.injEq] at h2
      exact ⟨i, z, rfl, hz, h2.2.1, h2.2.2, h2.1⟩

/-- One element (the cells cs, just laid in a block of their own) appended to a row of the call's own. -/
theorem wpList_append1 {P : Program} {ops : Array Oper} {rest : List Oper} {o : Oper} {a : Act} {Q : Exit → Act → World → Prop} {w : World} {t e : TypeId} {size bytes : Nat} (hE : El P t e size bytes)
    (hgd : o.guard = none) (s x : Operand) (ho : o.op = .call { callee := .builtin .append, args := #[s, x], argTypes := #[t, t] })
    (base : Nat) (v : Value) (n : Nat) (xs : List Value) (hs : a.eval s = v) (hown : w.ownsRow base e size v n xs)
    (cs : Array Value) (c : Nat) (hx : a.eval x = .slice (some ⟨w.heap.size, 0, none⟩) 1 c) (hcs : cs.size = size) (h1 : cs.toList.all (·.oneCell') = true)
    (h63 : n + 1 ≤ maxLen) (hbytes : (n + 1) * bytes ≤ 140737488355328) (hbase : base ≤ w.heap.size)
    (h : ∀ v' w', w'.ownsRow base e size v' (n + 1) (xs ++ cs.toList) → w.grownBy w' v.ownBlock → (v'.ownBlock = v.ownBlock ∨ ∃ g, v'.ownBlock = some g ∧ w.heap.size ≤ g) → Below base w w' → wpList P ops Q rest (a.put o.dst v') w') :
    wpList P ops Q (o :: rest) a (w.alloc (.cells cs e)) := by
  obtain ⟨i, z, hi, hz, hsz, hby, hzs⟩ := hE.info
  obtain ⟨v', w', hrun, h2, h3, _, h5⟩ := run_append_own_at (P := P) (w.alloc (.cells cs e)) base t o.type e i z size bytes hE.under hi hz hsz hby hzs hE.pos v n xs (hown.alloc _) ⟨w.heap.size, 0, none⟩ 1 c cs.toList (by simp [hcs])
    (fun j u hu => by rw [add_mk, Nat.zero_add]; rw [(Bk.new w e cs).cell j]; simpa using hu) (fun u hu => (List.all_eq_true.1 h1) u hu) h63 hbytes (by simp; omega)
  refine wpList_plain hgd fun _ hK => ?_
  unfold Oper.wp execOp
  simp only [ho, resolve, invoke, builtin, Sem.run_bind, Sem.run_pure, Result.andThen_ok, List.map_toArray, List.map_cons, List.map_nil, hs, hx, hrun]
  have hg : w.grownBy w' v.ownBlock := ⟨h3.os, h3.tape, h3.output, Nat.le_trans (by simp) h3.size, fun k hk hne => (h3.block k (by simp; omega) hne).trans (Below.heap_alloc w _ k hk)⟩
  refine hK _ _ (h v' w' h2 hg ?_ ((Below.refl _ _).grown hg hbase fun k hk => (hown.lt k hk).1))
  rcases h5 with h5 | h5
  · exact .inl h5
  · exact .inr ⟨_, h5, by simp⟩

theorem run_append_blk {P : Program} {w : World} {t e : TypeId} {size bytes : Nat} (hE : El P t e size bytes) (ty : TypeId)
    (base : Nat) (v : Value) (n : Nat) (xs : List Value) (hown : w.ownsRow base e size v n xs)
    (g0 : Nat) (cs : Array Value) (c : Nat) (hsrc : Bk w g0 e cs) (hcs : cs.size = size) (h1 : cs.toList.all (·.oneCell') = true)
    (h63 : n + 1 ≤ maxLen) (hbytes : (n + 1) * bytes ≤ 140737488355328) (hbase : base ≤ w.heap.size) :
    ∃ v' w', (Builtin.append_ #[t, t] ty #[v, .slice (some ⟨g0, 0, none⟩) 1 c]).run P w = .ok v' w' ∧ w'.ownsRow base e size v' (n + 1) (xs ++ cs.toList) ∧ w.grownBy w' v.ownBlock ∧
      (v'.ownBlock = v.ownBlock ∨ ∃ g, v'.ownBlock = some g ∧ w.heap.size ≤ g) ∧ Below base w w' := by
  obtain ⟨i, z, hi, hz, hsz, hby, hzs⟩ := hE.info
  obtain ⟨v', w', hrun, h2, h3, _, h5⟩ := run_append_own_at (P := P) w base t ty e i z size bytes hE.under hi hz hsz hby hzs hE.pos v n xs hown ⟨g0, 0, none⟩ 1 c cs.toList (by simp [hcs])
    (fun j u hu => by rw [add_mk, Nat.zero_add]; rw [hsrc.cell j]; simpa using hu) (fun u hu => (List.all_eq_true.1 h1) u hu) h63 hbytes hbase
  refine ⟨v', w', hrun, h2, h3, ?_, (Below.refl _ _).grown h3 hbase fun k hk => (hown.lt k hk).1⟩
  rcases h5 with h5 | h5
  · exact .inl h5
  · exact .inr ⟨_, h5, Nat.le_refl _⟩
/-- The same as a step of a region that draws. -/
theorem step_append1 {P : Program} {ops : Array Oper} {o : Oper} {a : Act} {K : Act → World → Prop} {Q : Exit → Act → World → Prop} {E : Prop} {w : World} {t e : TypeId} {size bytes : Nat} (hE : El P t e size bytes)
    (hgd : o.guard = none) (s x : Operand) (ho : o.op = .call { callee := .builtin .append, args := #[s, x], argTypes := #[t, t] })
    (base : Nat) (v : Value) (n : Nat) (xs : List Value) (hs : a.eval s = v) (hown : w.ownsRow base e size v n xs)
    (g0 : Nat) (cs : Array Value) (c : Nat) (hx : a.eval x = .slice (some ⟨g0, 0, none⟩) 1 c) (hsrc : Bk w g0 e cs) (hcs : cs.size = size) (h1 : cs.toList.all (·.oneCell') = true)
    (h63 : n + 1 ≤ maxLen) (hbytes : (n + 1) * bytes ≤ 140737488355328) (hbase : base ≤ w.heap.size)
    (h : ∀ v' w', w'.ownsRow base e size v' (n + 1) (xs ++ cs.toList) → w.grownBy w' v.ownBlock → (v'.ownBlock = v.ownBlock ∨ ∃ g, v'.ownBlock = some g ∧ w.heap.size ≤ g) → Below base w w' → K (a.put o.dst v') w') :
    if Region.wanted o (yielded ops a.tmps) = true then Oper.wp P o a w K Q else E := by
  have hw : Region.wanted o (yielded ops a.tmps) = true := by simp [Region.wanted, hgd]
  rw [if_pos hw]
  obtain ⟨v', w', hrun, h2, h3, h4, h5⟩ := run_append_blk hE o.type base v n xs hown g0 cs c hsrc hcs h1 h63 hbytes hbase
  unfold Oper.wp execOp
  simp only [ho, resolve, invoke, builtin, Sem.run_bind, Sem.run_pure, Result.andThen_ok, List.map_toArray, List.map_cons, List.map_nil, hs, hx, hrun]
  exact h v' w' h2 h3 h4 h5

/-- A whole variable stored: the world behind it is known by its blocks. -/
theorem wpList_store_abs {P : Program} {ops : Array Oper} {rest : List Oper} {o : Oper} {a : Act} {w : World} {Q : Exit → Act → World → Prop} (hgd : o.guard = none) (ty : TypeId) (x y : Operand) (ho : o.op = .store ty x y)
    (g : Nat) (cells : Array Value) (hx : a.eval x = .pointer (some ⟨g, 0, none⟩)) (hy : a.eval y = .agg cells)
    (t : TypeId) (old : Array Value) (hg : Bk w g t old) (hi : (P.info? ty).map (·.size) = some cells.size)
    (hold : old.size = cells.size) (h1 : cells.all (·.oneCell') = true)
    (h : ∀ w', Bk w' g t cells → w.grownBy w' (some g) → wpList P ops Q rest (a.put o.dst undef) w') : wpList P ops Q (o :: rest) a w :=
  wpList_store_row hgd ty x y ho g cells hx hy t old hg hi hold h1 (h _ (hg.row cells) ⟨rfl, rfl, rfl, by simp, fun k _ hne => setRow_other w g k cells (by rintro rfl; exact hne rfl)⟩)

theorem own_sl {w : World} {base : Nat} {e : TypeId} {k n : Nat} {v : Value} {xs : List Value} (h : w.ownsRow base e k v n xs) :
    ∃ A c, v = .slice A n c ∧ n ≤ c ∧ c ≤ maxLen ∧ Sl w w.heap.size k A n xs := by
  obtain ⟨hl, h | ⟨g, cap, cur, hv, hb, hh, hn, hm, hsz, ht⟩⟩ := h
  · exact ⟨none, 0, by rw [h.1, h.2], by omega, by simp [maxLen], Sl.nil h.2 (List.eq_nil_of_length_eq_zero (by rw [hl, h.2]; simp))⟩
  · refine ⟨_, _, hv, hn, hm, hl, fun _ => ⟨g, 0, rfl, Bk.lt hh, fun j u hu => ?_⟩⟩
    have hj : j < n * k := by rw [← hl]; exact (List.getElem?_eq_some_iff.1 hu).1
    rw [Bk.cell hh, Nat.zero_add, ← hu, ← ht, List.getElem?_take_of_lt hj]
    simp
theorem below_of_grown {w w' : World} {g : Nat} (h : w.grownBy w' (some g)) {B : Nat} (hB : B ≤ g) (hs : B ≤ w.heap.size) : Below B w w' :=
  ⟨h.os, h.tape, h.output, h.size, fun k hk => h.block k (by omega) (by intro e; injection e; omega)⟩
theorem below_store {B : Nat} {w w1 w2 : World} {o : Obj} (hb : Below B w w1) (hB : B ≤ w1.heap.size) (hg : (w1.alloc o).grownBy w2 (some w1.heap.size)) : Below B w w2 :=
  (hb.alloc hB o).trans (below_of_grown hg hB (by simp; omega))
theorem own_mono {w : World} {base base' : Nat} {e : TypeId} {k n : Nat} {v : Value} {xs : List Value} (h : w.ownsRow base e k v n xs) (hb : base' ≤ base) : w.ownsRow base' e k v n xs := by
  obtain ⟨hl, h | ⟨g, cap, cur, hv, hg, r⟩⟩ := h
  · exact ⟨hl, .inl h⟩
  · exact ⟨hl, .inr ⟨g, cap, cur, hv, by omega, r⟩⟩
theorem own_below {w w' : World} {base B : Nat} {e : TypeId} {k n : Nat} {v : Value} {xs : List Value} (h : w.ownsRow base e k v n xs) (hb : Below B w w') (hB : w.heap.size ≤ B) : w'.ownsRow base e k v n xs := by
  obtain ⟨hl, h | ⟨g, cap, cur, hv, hg, hh, r⟩⟩ := h
  · exact ⟨hl, .inl h⟩
  · exact ⟨hl, .inr ⟨g, cap, cur, hv, hg, (hb.block g (by have := Bk.lt (show Bk w g e cur from hh); omega)).trans hh, r⟩⟩
theorem Bk.kept {w w' : World} {g base : Nat} {t e : TypeId} {cs : Array Value} {k n : Nat} {v : Value} {xs : List Value} (h : Bk w g t cs) (ho : w.ownsRow base e k v n xs) (hg : w.grownBy w' v.ownBlock) (hb : g < base) : Bk w' g t cs :=
  h.grown hg (by intro e; have := ho.lt g e.symm; omega)
/-- A region that draws, whose operations but the last ones only read: its head in the order of the text, then its tail. -/
theorem region_tail {P : Program} {id : Nat} {Q : Exit → Act → World → Prop} {a : Act} {w : World} {l : List Oper} (n : Nat) (hm : P.follows .mixedOrders = true) (hB : Region.lexTailB .any l.toArray n = true)
    (h : wpStill P l.toArray w.drew (fun a' => wpList P l.toArray Q (l.drop n) a' w.drew) (l.take n) a) : (Code.region id l.toArray true).wp P Q a w := wp_region_still_tail n hm hB h
theorem vint {k : IntKind} {a b : Int} (h : a = b) : Value.int k a = .int k b := by rw [h]
theorem ret_eq {v v' : Value} (h : v = v') : Ending.returned v = .returned v' := by rw [h]
end Go.Proofs.YtmhikcleekfbpaaDoor
namespace Go.Proofs.YtmhikcleekfbpaaDoor
open Go.RowKit

def strN (l : List Nat) : ByteArray := strOfNums (l.map fun (x : Nat) => (x : Int))
theorem strN_toList (l : List Nat) : (strN l).toList = l.map fun x => UInt8.ofNat x := by
  unfold strN
  rw [Lib.strOfNums_toList]
  simp [Lib.bytesOf, Function.comp_def]
theorem strN_eq (a b : List Nat) (ha : ∀ x ∈ a, x < 256) (hb : ∀ x ∈ b, x < 256) : ((strN a).toList == (strN b).toList) = decide (a = b) := by
  rw [strN_toList, strN_toList, Bool.eq_iff_iff]
  simp only [beq_iff_eq, decide_eq_true_eq]
  constructor
  · intro h
    have h2 := congrArg (List.map UInt8.toNat) h
    simp only [List.map_map] at h2
    have key : ∀ l : List Nat, (∀ x ∈ l, x < 256) → l.map (UInt8.toNat ∘ fun x => UInt8.ofNat x) = l := by
      intro l hl
      conv => rhs; rw [← List.map_id l]
      apply List.map_congr_left
      intro x hx
      simp [Nat.mod_eq_of_lt (hl x hx)]
    rwa [key a ha, key b hb] at h2
  · intro h; rw [h]

theorem conv_u8 {P : Program} {w : World} {B n c : Nat} {A : Option Addr} {l : List Nat} {src e dst : TypeId} (hs : P.underlying src = some (.slice e)) (he : P.underlying e = some (.int .u8)) (hd : P.underlying dst = some .string)
    (h : Sl w B 1 A n (u8s l)) : (convert src dst (.slice A n c)).run P w = .ok (.string (strN l)) w := by
  have hl : l.length = n := by have := h.len; rw [u8s_len] at this; omega
  rcases Nat.eq_zero_or_pos n with h0 | h0
  · subst h0
    have : l = [] := List.eq_nil_of_length_eq_zero hl
    subst this
    rw [run_convert_bytes_string w src dst e A 0 c hs he hd]
    cases A with
    | none => simp [Conv.bytesToString]; rfl
    | some a => simp [Conv.bytesToString, loadCells, loadCellsFrom]; rfl
  · obtain ⟨b, off, rfl, _, hc⟩ := h.mem h0
    refine run_convert_bytes_arg w src e hs he b off n c (l.map fun (x : Nat) => (x : Int)) (by simpa using hl) (fun i hi => ?_) dst hd
    obtain ⟨b', off', hA, _, hcell⟩ := h.u8 hi
    injection hA with hA
    injection hA with h1 h2
    subst h1 h2
    rw [hcell]
    simp [show i < l.length by omega]

/-- A slice of byte slices that reads as a list of lists. -/
def Sl2 (w : World) (B : Nat) (A : Option Addr) (n : Nat) (L : List (List Nat)) : Prop :=
  ∃ vs : List Value, Sl w B 1 A n vs ∧ L.length = n ∧ ∀ i, i < n → ∃ Ai ci, vs.getD i undef = .slice Ai (L.getD i []).length ci ∧ Sl w B 1 Ai (L.getD i []).length (u8s (L.getD i []))
theorem Sl2.below {w w' : World} {B n : Nat} {A : Option Addr} {L : List (List Nat)} (h : Sl2 w B A n L) (hb : Below B w w') : Sl2 w' B A n L := by
  obtain ⟨vs, h1, h2, h3⟩ := h
  exact ⟨vs, h1.below hb, h2, fun i hi => by obtain ⟨Ai, ci, e, s⟩ := h3 i hi; exact ⟨Ai, ci, e, s.below hb⟩⟩
theorem Sl2.more {w : World} {B B' n : Nat} {A : Option Addr} {L : List (List Nat)} (h : Sl2 w B A n L) (hb : B ≤ B') : Sl2 w B' A n L := by
  obtain ⟨vs, h1, h2, h3⟩ := h
  exact ⟨vs, h1.more hb, h2, fun i hi => by obtain ⟨Ai, ci, e, s⟩ := h3 i hi; exact ⟨Ai, ci, e, s.more hb⟩⟩
theorem Sl2.at_ {w : World} {B n : Nat} {A : Option Addr} {L : List (List Nat)} (h : Sl2 w B A n L) {i : Nat} (hi : i < n) :
    ∃ b off Ai ci, A = some ⟨b, off, none⟩ ∧ b < B ∧ w.cell? ⟨b, off + i, none⟩ = some (.slice Ai (L.getD i []).length ci) ∧ Sl w B 1 Ai (L.getD i []).length (u8s (L.getD i [])) := by
  obtain ⟨vs, h1, h2, h3⟩ := h
  obtain ⟨b, off, hA, hb, hc⟩ := h1.at_ hi
  obtain ⟨Ai, ci, e, s⟩ := h3 i hi
  exact ⟨b, off, Ai, ci, hA, hb, by rw [hc, e], s⟩
end Go.Proofs.YtmhikcleekfbpaaDoor
namespace Go.Proofs.YtmhikcleekfbpaaDoor
open Go.RowKit

theorem run_append_sl {P : Program} {w : World} {t e : TypeId} {size bytes : Nat} (hE : El P t e size bytes) (ty : TypeId)
    (base : Nat) (v : Value) (n : Nat) (xs : List Value) (hown : w.ownsRow base e size v n xs)
    (B : Nat) (A : Option Addr) (m c : Nat) (news : List Value) (hsrc : Sl w B size A m news) (h1 : news.all (·.oneCell') = true)
    (h63 : n + m ≤ maxLen) (hbytes : (n + m) * bytes ≤ 140737488355328) (hbase : base ≤ w.heap.size) :
    ∃ v' w', (Builtin.append_ #[t, t] ty #[v, .slice A m c]).run P w = .ok v' w' ∧ w'.ownsRow base e size v' (n + m) (xs ++ news) ∧ w.grownBy w' v.ownBlock ∧
      (v'.ownBlock = v.ownBlock ∨ ∃ g, v'.ownBlock = some g ∧ w.heap.size ≤ g) ∧ Below base w w' := by
  obtain ⟨i, z, hi, hz, hsz, hby, hzs⟩ := hE.info
  cases A with
  | none =>
    have hm : m = 0 := by
      rcases Nat.eq_zero_or_pos m with h0 | h0
      · exact h0
      · obtain ⟨b, off, h, _⟩ := hsrc.mem h0; cases h
    subst hm
    have hn : news = [] := List.eq_nil_of_length_eq_zero (by simpa using hsrc.len)
    subst hn
    refine ⟨v, w, ?_, by simpa using hown, ⟨rfl, rfl, rfl, Nat.le_refl _, fun _ _ _ => rfl⟩, .inl rfl, Below.refl _ _⟩
    have hu := hE.under
    rcases hown.2 with ⟨rfl, rfl⟩ | ⟨g, cap, cur, rfl, _, _, hnc, _⟩
    · simp [Builtin.append_, run_underlying hu, sizeOf, typeInfo, hi, Builtin.lenOf, Builtin.firstCells]
    · simp [Builtin.append_, run_underlying hu, sizeOf, typeInfo, hi, Builtin.lenOf, Builtin.firstCells, hnc, storeCells]
  | some ad =>
    have hcells : ∀ j u, news[j]? = some u → w.cell? (ad.add j) = some u := by
      intro j u hu
      rcases Nat.eq_zero_or_pos m with h0 | h0
      · subst h0
        have hn : news = [] := List.eq_nil_of_length_eq_zero (by simpa using hsrc.len)
        subst hn; simp at hu
      · obtain ⟨b, off, h, _, hc⟩ := hsrc.mem h0
        injection h with h
        subst h
        rw [add_mk]; exact hc j u hu
    obtain ⟨v', w', hrun, h2, h3, _, h5⟩ := run_append_own_at (P := P) w base t ty e i z size bytes hE.under hi hz hsz hby hzs hE.pos v n xs hown ad m c news hsrc.len hcells (fun u hu => (List.all_eq_true.1 h1) u hu) h63 hbytes hbase
    refine ⟨v', w', hrun, h2, h3, ?_, (Below.refl _ _).grown h3 hbase fun k hk => (hown.lt k hk).1⟩
    rcases h5 with h5 | h5
    · exact .inl h5
    · exact .inr ⟨_, h5, Nat.le_refl _⟩
theorem wpList_append_sl {P : Program} {ops : Array Oper} {rest : List Oper} {o : Oper} {a : Act} {Q : Exit → Act → World → Prop} {w : World} {t e : TypeId} {size bytes : Nat} (hE : El P t e size bytes)
    (hgd : o.guard = none) (s x : Operand) (ho : o.op = .call { callee := .builtin .append, args := #[s, x], argTypes := #[t, t] })
    (base : Nat) (v : Value) (n : Nat) (xs : List Value) (hs : a.eval s = v) (hown : w.ownsRow base e size v n xs)
    (B : Nat) (A : Option Addr) (m c : Nat) (news : List Value) (hx : a.eval x = .slice A m c) (hsrc : Sl w B size A m news) (h1 : news.all (·.oneCell') = true)
    (h63 : n + m ≤ maxLen) (hbytes : (n + m) * bytes ≤ 140737488355328) (hbase : base ≤ w.heap.size)
    (h : ∀ v' w', w'.ownsRow base e size v' (n + m) (xs ++ news) → w.grownBy w' v.ownBlock → (v'.ownBlock = v.ownBlock ∨ ∃ g, v'.ownBlock = some g ∧ w.heap.size ≤ g) → Below base w w' → wpList P ops Q rest (a.put o.dst v') w') :
    wpList P ops Q (o :: rest) a w := by
  obtain ⟨v', w', hrun, h2, h3, h4, h5⟩ := run_append_sl hE o.type base v n xs hown B A m c news hsrc h1 h63 hbytes hbase
  refine wpList_plain hgd fun _ hK => ?_
  unfold Oper.wp execOp
  simp only [ho, resolve, invoke, builtin, Sem.run_bind, Sem.run_pure, Result.andThen_ok, List.map_toArray, List.map_cons, List.map_nil, hs, hx, hrun]
  exact hK _ _ (h v' w' h2 h3 h4 h5)
theorem step_append_sl {P : Program} {ops : Array Oper} {o : Oper} {a : Act} {K : Act → World → Prop} {Q : Exit → Act → World → Prop} {E : Prop} {w : World} {t e : TypeId} {size bytes : Nat} (hE : El P t e size bytes)
    (hgd : o.guard = none) (s x : Operand) (ho : o.op = .call { callee := .builtin .append, args := #[s, x], argTypes := #[t, t] })
    (base : Nat) (v : Value) (n : Nat) (xs : List Value) (hs : a.eval s = v) (hown : w.ownsRow base e size v n xs)
    (B : Nat) (A : Option Addr) (m c : Nat) (news : List Value) (hx : a.eval x = .slice A m c) (hsrc : Sl w B size A m news) (h1 : news.all (·.oneCell') = true)
    (h63 : n + m ≤ maxLen) (hbytes : (n + m) * bytes ≤ 140737488355328) (hbase : base ≤ w.heap.size)
    (h : ∀ v' w', w'.ownsRow base e size v' (n + m) (xs ++ news) → w.grownBy w' v.ownBlock → (v'.ownBlock = v.ownBlock ∨ ∃ g, v'.ownBlock = some g ∧ w.heap.size ≤ g) → Below base w w' → K (a.put o.dst v') w') :
    if Region.wanted o (yielded ops a.tmps) = true then Oper.wp P o a w K Q else E := by
  have hw : Region.wanted o (yielded ops a.tmps) = true := by simp [Region.wanted, hgd]
  rw [if_pos hw]
  obtain ⟨v', w', hrun, h2, h3, h4, h5⟩ := run_append_sl hE o.type base v n xs hown B A m c news hsrc h1 h63 hbytes hbase
  unfold Oper.wp execOp
  simp only [ho, resolve, invoke, builtin, Sem.run_bind, Sem.run_pure, Result.andThen_ok, List.map_toArray, List.map_cons, List.map_nil, hs, hx, hrun]
  exact h v' w' h2 h3 h4 h5
theorem own_empty (w : World) (base : Nat) (e : TypeId) (size : Nat) (hb : base ≤ w.heap.size) : (w.alloc (.cells #[] e)).ownsRow base e size (.slice (some ⟨w.heap.size, 0, none⟩) 0 0) 0 [] :=
  ⟨by simp, .inr ⟨_, 0, #[], rfl, hb, heap_alloc_new w _, Nat.le_refl _, by simp [maxLen], by simp, by simp⟩⟩
theorem own_empty_at (w : World) (base : Nat) (e : TypeId) (size g : Nat) (hg : w.heap.size = g) (hb : base ≤ w.heap.size) : (w.alloc (.cells #[] e)).ownsRow base e size (.slice (some ⟨g, 0, none⟩) 0 0) 0 [] := by
  subst hg; exact own_empty w base e size hb
theorem Sl.cut {w : World} {B k n c j : Nat} {A : Option Addr} {xs : List Value} (h : Sl w B k A n xs) (hj : j ≤ n) (hc : n ≤ c) :
    Sl w B k (if c = j then A else A.map (·.add (j * k))) (n - j) (xs.drop (j * k)) := by
  refine ⟨by rw [List.length_drop, h.len, Nat.sub_mul], fun hn => ?_⟩
  obtain ⟨b, off, rfl, hb, hcell⟩ := h.mem (by omega)
  rw [if_neg (by omega)]
  refine ⟨b, off + j * k, by simp [add_mk], hb, fun i u hu => ?_⟩
  rw [Nat.add_assoc]
  exact hcell _ u (by rw [← hu, List.getElem?_drop])
theorem u8s_one (l : List Nat) : (u8s l).all (·.oneCell') = true := by
  rw [List.all_eq_true]; intro v hv; simp [u8s] at hv; obtain ⟨x, _, rfl⟩ := hv; rfl
theorem i64s_one (l : List Int) : (i64s l).all (·.oneCell') = true := by
  rw [List.all_eq_true]; intro v hv; simp [i64s] at hv; obtain ⟨x, _, rfl⟩ := hv; rfl
theorem grown_setCell (w : World) (p : Addr) (u : Value) : w.grownBy (w.setCell p u) (some p.block) :=
  ⟨rfl, rfl, rfl, by simp [World.setCell], fun k _ hne => Below.heap_setCell w p u k (by rintro rfl; exact hne rfl)⟩
theorem own_far {w : World} {base : Nat} {e : TypeId} {k n : Nat} {v : Value} {xs : List Value} (h : w.ownsRow base e k v n xs) (p : Addr) (u : Value) (hne : v.ownBlock ≠ some p.block) : (w.setCell p u).ownsRow base e k v n xs :=
  h.kept (grown_setCell w p u) (.inr hne)
/-- A row of another element type lies in another block. -/
theorem own_ne {w : World} {base : Nat} {e t : TypeId} {k n g : Nat} {v : Value} {xs : List Value} {cs : Array Value} (h : w.ownsRow base e k v n xs) (hb : Bk w g t cs) (hne : e ≠ t) : v.ownBlock ≠ some g := by
  rcases h.2 with ⟨rfl, _⟩ | ⟨g', cap, cur, rfl, _, hh, _⟩
  · simp [Value.ownBlock]
  · simp only [Value.ownBlock, ne_eq, Option.some.injEq]
    exact Bk.ne_ (show Bk w g' e cur from hh) hb hne
end Go.Proofs.YtmhikcleekfbpaaDoor
namespace Go.Proofs.YtmhikcleekfbpaaDoor
open Go.RowKit

/-- The blocks below B. -/
def Lt (B : Nat) (b : Nat) : Prop := b < B
/-- The blocks that are there, but for a slice's own. -/
def But (w : World) (v : Value) (b : Nat) : Prop := b < w.heap.size ∧ some b ≠ v.ownBlock

/-- How an element of k cells reads: the cells cs read as x, and point to blocks in S alone. -/
structure Ty (α : Type) where
  k : Nat
  pos : 0 < k
  rd : World → (Nat → Prop) → List Value → α → Prop
  len : ∀ {w S cs x}, rd w S cs x → cs.length = k
  one : ∀ {w S cs x}, rd w S cs x → cs.all (·.oneCell') = true
  keep : ∀ {w w' S cs x}, rd w S cs x → (∀ b o, S b → w'.cell? ⟨b, o, none⟩ = w.cell? ⟨b, o, none⟩) → rd w' S cs x
  more : ∀ {w S S' cs x}, rd w S cs x → (∀ b, S b → S' b) → rd w S' cs x

/-- A slice at A reads as the list l. -/
def SlT {α : Type} (T : Ty α) (w : World) (S : Nat → Prop) (A : Option Addr) (l : List α) : Prop :=
  l ≠ [] → ∃ b off, A = some ⟨b, off, none⟩ ∧ S b ∧ ∀ i x, l[i]? = some x → ∃ cs, T.rd w S cs x ∧ ∀ j u, cs[j]? = some u → w.cell? ⟨b, off + i * T.k + j, none⟩ = some u

section
variable {α : Type} {T : Ty α} {w w' : World} {S S' : Nat → Prop} {A : Option Addr} {l : List α}
theorem SlT.nil : SlT T w S A [] := fun h => absurd rfl h
theorem SlT.keep (h : SlT T w S A l) (hk : ∀ b o, S b → w'.cell? ⟨b, o, none⟩ = w.cell? ⟨b, o, none⟩) : SlT T w' S A l := fun hn => by
  obtain ⟨b, off, e, hb, hc⟩ := h hn
  refine ⟨b, off, e, hb, fun i x hx => ?_⟩
  obtain ⟨cs, h1, h2⟩ := hc i x hx
  exact ⟨cs, T.keep h1 hk, fun j u hu => (hk _ _ hb).trans (h2 j u hu)⟩
theorem SlT.more (h : SlT T w S A l) (hS : ∀ b, S b → S' b) : SlT T w S' A l := fun hn => by
  obtain ⟨b, off, e, hb, hc⟩ := h hn
  refine ⟨b, off, e, hS b hb, fun i x hx => ?_⟩
  obtain ⟨cs, h1, h2⟩ := hc i x hx
  exact ⟨cs, T.more h1 hS, h2⟩
theorem SlT.at_ (h : SlT T w S A l) {i : Nat} (hi : i < l.length) (d : α) :
    ∃ b off cs, A = some ⟨b, off, none⟩ ∧ S b ∧ T.rd w S cs (l.getD i d) ∧ ∀ j u, cs[j]? = some u → w.cell? ⟨b, off + i * T.k + j, none⟩ = some u := by
  have hn : l ≠ [] := by rintro rfl; simp at hi
  obtain ⟨b, off, e, hb, hc⟩ := h hn
  obtain ⟨cs, h1, h2⟩ := hc i (l.getD i d) (by simp [hi])
  exact ⟨b, off, cs, e, hb, h1, h2⟩
theorem SlT.sub {m : List α} (h : SlT T w S A l) (hm : ∀ (i : Nat) (x : α), m[i]? = some x → l[i]? = some x) : SlT T w S A m := fun hn => by
  have hl : l ≠ [] := by
    rintro rfl
    cases m with
    | nil => exact hn rfl
    | cons x m => have := hm 0 x rfl; simp at this
  obtain ⟨b, off, e, hb, hc⟩ := h hl
  exact ⟨b, off, e, hb, fun i x hx => hc i x (hm i x hx)⟩
theorem SlT.take (h : SlT T w S A l) (n : Nat) : SlT T w S A (l.take n) := h.sub fun i x hx => by
  rw [List.getElem?_take] at hx
  split at hx
  · exact hx
  · cases hx
theorem SlT.left {m : List α} (h : SlT T w S A (l ++ m)) : SlT T w S A l := h.sub fun i x hx => by
  rw [List.getElem?_append_left (List.getElem?_eq_some_iff.1 hx).1]; exact hx
/-- The slice s[j:], as the model has it. -/
theorem SlT.cut {c j : Nat} (h : SlT T w S A l) (hj : j ≤ l.length) (hc : l.length ≤ c) : SlT T w S (if c = j then A else A.map (·.add (j * T.k))) (l.drop j) := fun hn => by
  have hl : j < l.length := by
    rcases Nat.lt_or_ge j l.length with h' | h'
    · exact h'
    · exact absurd (List.drop_of_length_le h') hn
  obtain ⟨b, off, rfl, hb, hcell⟩ := h (by rintro rfl; simp at hl)
  rw [if_neg (by omega)]
  refine ⟨b, off + j * T.k, by simp [add_mk], hb, fun i x hx => ?_⟩
  obtain ⟨cs, h1, h2⟩ := hcell (j + i) x (by rw [← List.getElem?_drop]; exact hx)
  refine ⟨cs, h1, fun m u hu => ?_⟩
  have := h2 m u hu
  rw [Nat.add_mul] at this
  rw [show off + j * T.k + i * T.k + m = off + (j * T.k + i * T.k) + m by omega]
  exact this
end
theorem keep_below {w w' : World} {B : Nat} (h : Below B w w') : ∀ b o, Lt B b → w'.cell? ⟨b, o, none⟩ = w.cell? ⟨b, o, none⟩ := fun b o hb => h.cell (p := ⟨b, o, none⟩) hb
theorem lt_more {B B' : Nat} (h : B ≤ B') : ∀ b, Lt B b → Lt B' b := fun _ hb => Nat.lt_of_lt_of_le hb h
theorem SlT.below {α : Type} {T : Ty α} {w w' : World} {A : Option Addr} {l : List α} {B : Nat} (h : SlT T w (Lt B) A l) (hb : Below B w w') : SlT T w' (Lt B) A l := h.keep (keep_below hb)
theorem SlT.up {α : Type} {T : Ty α} {w : World} {A : Option Addr} {l : List α} {B B' : Nat} (h : SlT T w (Lt B) A l) (hb : B ≤ B') : SlT T w (Lt B') A l := h.more (lt_more hb)
/-- Behind a call: what read as l reads so still. -/
theorem SlT.on {α : Type} {T : Ty α} {w w' : World} {A : Option Addr} {l : List α} (h : SlT T w (Lt w.heap.size) A l) (hb : Below w.heap.size w w') : SlT T w' (Lt w'.heap.size) A l := (h.below hb).up hb.size

def tInt : Ty Int where
  k := 1
  pos := by decide
  rd := fun _ _ cs x => cs = [.int .i64 x]
  len := by rintro _ _ _ _ rfl; rfl
  one := by rintro _ _ _ _ rfl; rfl
  keep := fun h _ => h
  more := fun h _ => h
def tU8 : Ty Nat where
  k := 1
  pos := by decide
  rd := fun _ _ cs x => cs = [.int .u8 (x : Nat)]
  len := by rintro _ _ _ _ rfl; rfl
  one := by rintro _ _ _ _ rfl; rfl
  keep := fun h _ => h
  more := fun h _ => h
def tList {α : Type} (T : Ty α) : Ty (List α) where
  k := 1
  pos := by decide
  rd := fun w S cs l => ∃ A c, cs = [.slice A l.length c] ∧ l.length ≤ c ∧ SlT T w S A l
  len := by rintro _ _ _ _ ⟨A, c, rfl, _⟩; rfl
  one := by rintro _ _ _ _ ⟨A, c, rfl, _⟩; rfl
  keep := by rintro _ _ _ _ _ ⟨A, c, rfl, h1, h2⟩ hk; exact ⟨A, c, rfl, h1, h2.keep hk⟩
  more := by rintro _ _ _ _ _ ⟨A, c, rfl, h1, h2⟩ hk; exact ⟨A, c, rfl, h1, h2.more hk⟩
/-- k ints in a row. -/
def tInts (k : Nat) (hk : 0 < k) : Ty (List Int) where
  k := k
  pos := hk
  rd := fun _ _ cs x => x.length = k ∧ cs = i64s x
  len := by rintro _ _ _ _ ⟨h, rfl⟩; rw [i64s_len]; exact h
  one := by rintro _ _ _ _ ⟨_, rfl⟩; exact i64s_one _
  keep := fun h _ => h
  more := fun h _ => h
theorem SlT.int {w : World} {S : Nat → Prop} {A : Option Addr} {l : List Int} (h : SlT tInt w S A l) {j : Nat} (hj : j < l.length) :
    ∃ b off, A = some ⟨b, off, none⟩ ∧ S b ∧ w.cell? ⟨b, off + j, none⟩ = some (.int .i64 (l.getD j 0)) := by
  obtain ⟨b, off, cs, e, hb, h1, h2⟩ := h.at_ hj 0
  refine ⟨b, off, e, hb, ?_⟩
  have := h2 0 (.int .i64 (l.getD j 0)) (by rw [show cs = _ from h1]; rfl)
  simpa [tInt] using this

/-- The cells of a row read as a list. -/
def Flat {α : Type} (T : Ty α) (w : World) (S : Nat → Prop) : List Value → List α → Prop
  | xs, [] => xs = []
  | xs, x :: l => ∃ cs ys, xs = cs ++ ys ∧ T.rd w S cs x ∧ Flat T w S ys l
section
variable {α : Type} {T : Ty α} {w w' : World} {S S' : Nat → Prop}
theorem Flat.len : ∀ {xs : List Value} {l : List α}, Flat T w S xs l → xs.length = l.length * T.k
  | xs, [], h => by rw [show xs = [] from h]; simp
  | xs, x :: l, ⟨cs, ys, e, h1, h2⟩ => by
    rw [e, List.length_append, T.len h1, h2.len, List.length_cons, Nat.add_mul, Nat.add_comm]; simp
theorem Flat.one : ∀ {xs : List Value} {l : List α}, Flat T w S xs l → xs.all (·.oneCell') = true
  | xs, [], h => by rw [show xs = [] from h]; rfl
  | xs, x :: l, ⟨cs, ys, e, h1, h2⟩ => by rw [e, List.all_append, T.one h1, h2.one]; rfl
theorem Flat.keep (hk : ∀ b o, S b → w'.cell? ⟨b, o, none⟩ = w.cell? ⟨b, o, none⟩) : ∀ {xs : List Value} {l : List α}, Flat T w S xs l → Flat T w' S xs l
  | _, [], h => h
  | _, _ :: _, ⟨cs, ys, e, h1, h2⟩ => ⟨cs, ys, e, T.keep h1 hk, h2.keep hk⟩
theorem Flat.more (hS : ∀ b, S b → S' b) : ∀ {xs : List Value} {l : List α}, Flat T w S xs l → Flat T w S' xs l
  | _, [], h => h
  | _, _ :: _, ⟨cs, ys, e, h1, h2⟩ => ⟨cs, ys, e, T.more h1 hS, h2.more hS⟩
theorem Flat.append : ∀ {xs ys : List Value} {l m : List α}, Flat T w S xs l → Flat T w S ys m → Flat T w S (xs ++ ys) (l ++ m)
  | xs, ys, [], m, h, h' => by rw [show xs = [] from h]; simpa using h'
  | xs, ys, x :: l, m, ⟨cs, zs, e, h1, h2⟩, h' => ⟨cs, zs ++ ys, by rw [e, List.append_assoc], h1, h2.append h'⟩
theorem Flat.single {cs : List Value} {x : α} (h : T.rd w S cs x) : Flat T w S cs [x] := ⟨cs, [], by simp, h, rfl⟩
theorem Flat.at_ : ∀ {xs : List Value} {l : List α} {i : Nat} {x : α}, Flat T w S xs l → l[i]? = some x → ∃ cs, T.rd w S cs x ∧ ∀ j u, cs[j]? = some u → xs[i * T.k + j]? = some u
  | xs, [], i, x, _, hx => by simp at hx
  | xs, y :: l, 0, x, ⟨cs, ys, e, h1, _⟩, hx => by
    simp at hx; subst hx
    refine ⟨cs, h1, fun j u hu => ?_⟩
    rw [e, Nat.zero_mul, Nat.zero_add, List.getElem?_append_left (List.getElem?_eq_some_iff.1 hu).1]; exact hu
  | xs, y :: l, i + 1, x, ⟨cs, ys, e, h1, h2⟩, hx => by
    obtain ⟨cs', h3, h4⟩ := h2.at_ (i := i) (x := x) (by simpa using hx)
    refine ⟨cs', h3, fun j u hu => ?_⟩
    have hl := T.len h1
    rw [e, List.getElem?_append_right (by rw [hl, Nat.add_mul]; omega), hl, show (i + 1) * T.k + j - T.k = i * T.k + j by rw [Nat.add_mul]; omega]
    exact h4 j u hu
end

/-- A slice of the call's own that reads as a list. -/
def OwnT {α : Type} (T : Ty α) (e : TypeId) (w : World) (base : Nat) (v : Value) (l : List α) : Prop :=
  ∃ xs, w.ownsRow base e T.k v l.length xs ∧ Flat T w (But w v) xs l
section
variable {α : Type} {T : Ty α} {e : TypeId} {w w' : World} {base : Nat} {v : Value} {l : List α}
theorem OwnT.nil : OwnT T e w base (.slice none 0 0) [] := ⟨[], World.ownsRow_nil _ _ _ _, rfl⟩
theorem OwnT.sl (h : OwnT T e w base v l) : ∃ A c, v = .slice A l.length c ∧ l.length ≤ c ∧ c ≤ maxLen ∧ SlT T w (Lt w.heap.size) A l := by
  obtain ⟨xs, ho, hf⟩ := h
  obtain ⟨A, c, rfl, h1, h2, h3⟩ := own_sl ho
  refine ⟨A, c, rfl, h1, h2, fun hn => ?_⟩
  have hp : 0 < l.length := by cases l with | nil => exact absurd rfl hn | cons x l => simp
  obtain ⟨b, off, e, hb, hc⟩ := h3.mem hp
  refine ⟨b, off, e, hb, fun i x hx => ?_⟩
  obtain ⟨cs, h4, h5⟩ := (hf.more (S' := Lt w.heap.size) fun b hb => hb.1).at_ hx
  refine ⟨cs, h4, fun j u hu => ?_⟩
  rw [Nat.add_assoc]
  exact hc _ u (h5 j u hu)
theorem OwnT.below (h : OwnT T e w base v l) (hb : Below w.heap.size w w') : OwnT T e w' base v l := by
  obtain ⟨xs, ho, hf⟩ := h
  exact ⟨xs, own_below ho hb (Nat.le_refl _), (hf.keep (w' := w') fun b o hbb => hb.cell (p := ⟨b, o, none⟩) hbb.1).more fun b hbb => ⟨Nat.lt_of_lt_of_le hbb.1 hb.size, hbb.2⟩⟩
theorem OwnT.down {base' : Nat} (h : OwnT T e w base v l) (hb : base' ≤ base) : OwnT T e w base' v l := by
  obtain ⟨xs, ho, hf⟩ := h
  exact ⟨xs, own_mono ho hb, hf⟩
/-- Elements appended. -/
theorem OwnT.append {v' : Value} {m : List α} {xs ys : List Value} (hf : Flat T w (But w v) xs l) (hm : Flat T w (But w v) ys m) (ho : w'.ownsRow base e T.k v' (l.length + m.length) (xs ++ ys)) (hg : w.grownBy w' v.ownBlock)
    (hd : v'.ownBlock = v.ownBlock ∨ ∃ g, v'.ownBlock = some g ∧ w.heap.size ≤ g) : OwnT T e w' base v' (l ++ m) := by
  have hk : ∀ b o, But w v b → w'.cell? ⟨b, o, none⟩ = w.cell? ⟨b, o, none⟩ := fun b o hb => World.cell?_of_block (hg.block b hb.1 hb.2)
  have hS : ∀ b, But w v b → But w' v' b := fun b hb => ⟨Nat.lt_of_lt_of_le hb.1 hg.size, by
    rcases hd with hd | ⟨g, hd, hgs⟩
    · rw [hd]; exact hb.2
    · rw [hd]; intro e'; injection e' with e'; have := hb.1; omega⟩
  refine ⟨xs ++ ys, by rw [List.length_append]; exact ho, ?_⟩
  exact ((hf.append hm).keep hk).more hS
theorem OwnT.append1 {v' : Value} {x : α} {xs cs : List Value} (hf : Flat T w (But w v) xs l) (hx : T.rd w (But w v) cs x) (ho : w'.ownsRow base e T.k v' (l.length + 1) (xs ++ cs)) (hg : w.grownBy w' v.ownBlock)
    (hd : v'.ownBlock = v.ownBlock ∨ ∃ g, v'.ownBlock = some g ∧ w.heap.size ≤ g) : OwnT T e w' base v' (l ++ [x]) := OwnT.append hf (.single hx) ho hg hd
end
/-- Values that point to nothing of memory. -/
theorem OwnT.int1 {e : TypeId} {w w' : World} {base : Nat} {v v' : Value} {l : List Int} {x : Int} {xs : List Value} (hf : Flat tInt w (But w v) xs l) (ho : w'.ownsRow base e 1 v' (l.length + 1) (xs ++ [.int .i64 x])) (hg : w.grownBy w' v.ownBlock)
    (hd : v'.ownBlock = v.ownBlock ∨ ∃ g, v'.ownBlock = some g ∧ w.heap.size ≤ g) : OwnT tInt e w' base v' (l ++ [x]) := OwnT.append1 (T := tInt) hf (cs := [.int .i64 x]) rfl ho hg hd
end Go.Proofs.YtmhikcleekfbpaaDoor
namespace Go.Proofs.YtmhikcleekfbpaaDoor
open Go.RowKit

theorem SlT.raw {α : Type} {T : Ty α} {w : World} {S : Nat → Prop} {A : Option Addr} {l : List α} {B : Nat} (h : SlT T w S A l) (hS : ∀ b, S b → b < B) : ∃ xs, Flat T w S xs l ∧ Sl w B T.k A l.length xs := by
  by_cases hn : l = []
  · subst hn; exact ⟨[], rfl, Sl.nil rfl rfl⟩
  · obtain ⟨b, off, rfl, hb, hc⟩ := h hn
    have key : ∀ n, n ≤ l.length → ∃ xs, Flat T w S xs (l.take n) ∧ ∀ j u, xs[j]? = some u → w.cell? ⟨b, off + j, none⟩ = some u := by
      intro n
      induction n with
      | zero => intro _; exact ⟨[], rfl, by simp⟩
      | succ n ih =>
        intro hn'
        obtain ⟨xs, hf, hx⟩ := ih (by omega)
        obtain ⟨cs, h1, h2⟩ := hc n (l[n]'(by omega)) (List.getElem?_eq_getElem _)
        have hl := hf.len
        rw [List.length_take, Nat.min_eq_left (by omega)] at hl
        refine ⟨xs ++ cs, ?_, fun j u hu => ?_⟩
        · rw [List.take_succ_eq_append_getElem (by omega)]; exact hf.append (.single h1)
        · rw [List.getElem?_append] at hu
          split at hu
          · exact hx j u hu
          · have := h2 _ u hu
            rw [hl, show off + n * T.k + (j - n * T.k) = off + j by omega] at this
            exact this
    obtain ⟨xs, hf, hx⟩ := key l.length (Nat.le_refl _)
    rw [List.take_length] at hf
    exact ⟨xs, hf, hf.len, fun _ => ⟨b, off, rfl, hS b hb, hx⟩⟩
theorem SlT.but {α β : Type} {T : Ty α} {T' : Ty β} {e : TypeId} {w : World} {A : Option Addr} {l : List α} {l' : List β} {v : Value} {B base : Nat} (h : SlT T w (Lt B) A l) (ho : OwnT T' e w base v l') (hB : B ≤ base) (hs : B ≤ w.heap.size) : SlT T w (But w v) A l :=
  h.more fun b hb => ⟨Nat.lt_of_lt_of_le hb hs, by
    obtain ⟨xs, ho, _⟩ := ho
    intro e
    have := (ho.lt b e.symm).1
    have hb' : b < B := hb
    omega⟩
theorem OwnT.empty {α : Type} (T : Ty α) (e : TypeId) (w : World) (base : Nat) (hb : base ≤ w.heap.size) : OwnT T e (w.alloc (.cells #[] e)) base (.slice (some ⟨w.heap.size, 0, none⟩) 0 0) [] := ⟨[], own_empty w base e T.k hb, rfl⟩
theorem run_append_T {α : Type} {T : Ty α} {P : Program} {w : World} {t e : TypeId} {bytes : Nat} (hE : El P t e T.k bytes) (ty : TypeId)
    (base : Nat) (v : Value) (l : List α) (hown : OwnT T e w base v l) (A : Option Addr) (m c : Nat) (ms : List α) (hm : ms.length = m) (hsrc : SlT T w (But w v) A ms)
    (h63 : l.length + m ≤ maxLen) (hbytes : (l.length + m) * bytes ≤ 140737488355328) (hbase : base ≤ w.heap.size) :
    ∃ v' w', (Builtin.append_ #[t, t] ty #[v, .slice A m c]).run P w = .ok v' w' ∧ OwnT T e w' base v' (l ++ ms) ∧ w.grownBy w' v.ownBlock ∧ Below base w w' := by
  obtain ⟨xs, ho, hf⟩ := hown
  obtain ⟨ys, hg, hs⟩ := hsrc.raw (B := w.heap.size) fun b hb => hb.1
  rw [hm] at hs
  obtain ⟨v', w', hrun, h1, h2, h3, h4⟩ := run_append_sl hE ty base v l.length xs ho w.heap.size A m c ys hs hg.one h63 hbytes hbase
  exact ⟨v', w', hrun, OwnT.append hf hg (by rw [hm]; exact h1) h2 h3, h2, h4⟩
theorem wpList_append_T {α : Type} {T : Ty α} {P : Program} {ops : Array Oper} {rest : List Oper} {o : Oper} {a : Act} {Q : Exit → Act → World → Prop} {w : World} {t e : TypeId} {bytes : Nat} (hE : El P t e T.k bytes)
    (hgd : o.guard = none) (s x : Operand) (ho : o.op = .call { callee := .builtin .append, args := #[s, x], argTypes := #[t, t] })
    (base : Nat) (v : Value) (l : List α) (hs : a.eval s = v) (hown : OwnT T e w base v l) (A : Option Addr) (m c : Nat) (ms : List α) (hm : ms.length = m) (hx : a.eval x = .slice A m c) (hsrc : SlT T w (But w v) A ms)
    (h63 : l.length + m ≤ maxLen) (hbytes : (l.length + m) * bytes ≤ 140737488355328) (hbase : base ≤ w.heap.size)
    (h : ∀ v' w', OwnT T e w' base v' (l ++ ms) → w.grownBy w' v.ownBlock → Below base w w' → wpList P ops Q rest (a.put o.dst v') w') :
    wpList P ops Q (o :: rest) a w := by
  obtain ⟨v', w', hrun, h2, h3, h4⟩ := run_append_T hE o.type base v l hown A m c ms hm hsrc h63 hbytes hbase
  refine wpList_plain hgd fun _ hK => ?_
  unfold Oper.wp execOp
  simp only [ho, resolve, invoke, builtin, Sem.run_bind, Sem.run_pure, Result.andThen_ok, List.map_toArray, List.map_cons, List.map_nil, hs, hx, hrun]
  exact hK _ _ (h v' w' h2 h3 h4)
theorem step_append_T {α : Type} {T : Ty α} {P : Program} {ops : Array Oper} {o : Oper} {a : Act} {K : Act → World → Prop} {Q : Exit → Act → World → Prop} {E : Prop} {w : World} {t e : TypeId} {bytes : Nat} (hE : El P t e T.k bytes)
    (hgd : o.guard = none) (s x : Operand) (ho : o.op = .call { callee := .builtin .append, args := #[s, x], argTypes := #[t, t] })
    (base : Nat) (v : Value) (l : List α) (hs : a.eval s = v) (hown : OwnT T e w base v l) (A : Option Addr) (m c : Nat) (ms : List α) (hm : ms.length = m) (hx : a.eval x = .slice A m c) (hsrc : SlT T w (But w v) A ms)
    (h63 : l.length + m ≤ maxLen) (hbytes : (l.length + m) * bytes ≤ 140737488355328) (hbase : base ≤ w.heap.size)
    (h : ∀ v' w', OwnT T e w' base v' (l ++ ms) → w.grownBy w' v.ownBlock → Below base w w' → K (a.put o.dst v') w') :
    if Region.wanted o (yielded ops a.tmps) = true then Oper.wp P o a w K Q else E := by
  have hw : Region.wanted o (yielded ops a.tmps) = true := by simp [Region.wanted, hgd]
  rw [if_pos hw]
  obtain ⟨v', w', hrun, h2, h3, h4⟩ := run_append_T hE o.type base v l hown A m c ms hm hsrc h63 hbytes hbase
  unfold Oper.wp execOp
  simp only [ho, resolve, invoke, builtin, Sem.run_bind, Sem.run_pure, Result.andThen_ok, List.map_toArray, List.map_cons, List.map_nil, hs, hx, hrun]
  exact h v' w' h2 h3 h4
end Go.Proofs.YtmhikcleekfbpaaDoor
namespace Go.Proofs.YtmhikcleekfbpaaDoor
open Go.RowKit

theorem SlT.drew {α : Type} {T : Ty α} {w : World} {S : Nat → Prop} {A : Option Addr} {l : List α} (h : SlT T w S A l) : SlT T w.drew S A l := h.keep fun _ _ _ => rfl
theorem SlT.keepB {α : Type} {T : Ty α} {w w' : World} {S : Nat → Prop} {A : Option Addr} {l : List α} {B : Nat} (h : SlT T w S A l) (hS : ∀ b, S b → b < B) (hb : Below B w w') : SlT T w' S A l :=
  h.keep fun b o hs => hb.cell (p := ⟨b, o, none⟩) (hS b hs)
theorem OwnT.drew {α : Type} {T : Ty α} {e : TypeId} {w : World} {base : Nat} {v : Value} {l : List α} (h : OwnT T e w base v l) : OwnT T e w.drew base v l := by
  obtain ⟨xs, h1, h2⟩ := h
  exact ⟨xs, h1, Flat.more (S := But w v) (fun _ hb => hb) (Flat.keep (w := w) (w' := w.drew) (S := But w v) (fun _ _ _ => rfl) h2)⟩

/-- A slice of the call's own, at base or above; its elements point into S. -/
def OwnS {α : Type} (T : Ty α) (e : TypeId) (w : World) (base : Nat) (S : Nat → Prop) (v : Value) (l : List α) : Prop :=
  ∃ xs, w.ownsRow base e T.k v l.length xs ∧ Flat T w S xs l ∧ ∀ b, S b → But w v b
/-- S, or the call's own blocks. -/
def Or2 (S : Nat → Prop) (base : Nat) (w : World) (b : Nat) : Prop := S b ∨ (base ≤ b ∧ b < w.heap.size)
section
variable {α : Type} {T : Ty α} {e : TypeId} {w w' : World} {base : Nat} {S : Nat → Prop} {v : Value} {l : List α}
theorem OwnS.nil (hS : ∀ b, S b → b < w.heap.size) : OwnS T e w base S (.slice none 0 0) [] := ⟨[], World.ownsRow_nil _ _ _ _, rfl, fun b hb => ⟨hS b hb, by simp [Value.ownBlock]⟩⟩
theorem OwnS.empty (T : Ty α) (e : TypeId) (w : World) (base : Nat) (S : Nat → Prop) (hb : base ≤ w.heap.size) (hS : ∀ b, S b → b < w.heap.size) : OwnS T e (w.alloc (.cells #[] e)) base S (.slice (some ⟨w.heap.size, 0, none⟩) 0 0) [] :=
  ⟨[], own_empty w base e T.k hb, rfl, fun b hs => ⟨by have := hS b hs; simp; omega, by have := hS b hs; simp [Value.ownBlock]; omega⟩⟩
theorem OwnS.toT (h : OwnS T e w base S v l) : OwnT T e w base v l := by
  obtain ⟨xs, h1, h2, h3⟩ := h
  exact ⟨xs, h1, h2.more h3⟩
theorem OwnS.drew (h : OwnS T e w base S v l) : OwnS T e w.drew base S v l := by
  obtain ⟨xs, h1, h2, h3⟩ := h
  exact ⟨xs, h1, Flat.keep (w := w) (w' := w.drew) (S := S) (fun _ _ _ => rfl) h2, h3⟩
theorem OwnS.below (h : OwnS T e w base S v l) (hb : Below w.heap.size w w') : OwnS T e w' base S v l := by
  obtain ⟨xs, h1, h2, h3⟩ := h
  exact ⟨xs, own_below h1 hb (Nat.le_refl _), h2.keep fun b o hs => hb.cell (p := ⟨b, o, none⟩) (h3 b hs).1, fun b hs => ⟨Nat.lt_of_lt_of_le (h3 b hs).1 hb.size, (h3 b hs).2⟩⟩
theorem OwnS.sl (h : OwnS T e w base S v l) : ∃ A c, v = .slice A l.length c ∧ l.length ≤ c ∧ c ≤ maxLen ∧ SlT T w (Or2 S base w) A l := by
  obtain ⟨xs, ho, hf, hS⟩ := h
  have ho0 := ho
  obtain ⟨A, c, rfl, h1, h2, h3⟩ := own_sl ho
  refine ⟨A, c, rfl, h1, h2, fun hn => ?_⟩
  have hp : 0 < l.length := by cases l with | nil => exact absurd rfl hn | cons x l => simp
  obtain ⟨b, off, rfl, hb, hc⟩ := h3.mem hp
  refine ⟨b, off, rfl, .inr ⟨(ho0.lt b rfl).1, hb⟩, fun i x hx => ?_⟩
  obtain ⟨cs, h4, h5⟩ := (hf.more (S' := Or2 S base w) fun b hb => .inl hb).at_ hx
  refine ⟨cs, h4, fun j u hu => ?_⟩
  rw [Nat.add_assoc]
  exact hc _ u (h5 j u hu)
theorem OwnS.append {v' : Value} {m : List α} {xs ys : List Value} (hf : Flat T w S xs l) (hm : Flat T w S ys m) (hS : ∀ b, S b → But w v b) (ho : w'.ownsRow base e T.k v' (l.length + m.length) (xs ++ ys)) (hg : w.grownBy w' v.ownBlock)
    (hd : v'.ownBlock = v.ownBlock ∨ ∃ g, v'.ownBlock = some g ∧ w.heap.size ≤ g) : OwnS T e w' base S v' (l ++ m) := by
  have hk : ∀ b o, S b → w'.cell? ⟨b, o, none⟩ = w.cell? ⟨b, o, none⟩ := fun b o hb => World.cell?_of_block (hg.block b (hS b hb).1 (hS b hb).2)
  refine ⟨xs ++ ys, by rw [List.length_append]; exact ho, (hf.append hm).keep hk, fun b hb => ⟨Nat.lt_of_lt_of_le (hS b hb).1 hg.size, ?_⟩⟩
  rcases hd with hd | ⟨g, hd, hgs⟩
  · rw [hd]; exact (hS b hb).2
  · rw [hd]; intro e'; injection e' with e'; have := (hS b hb).1; omega
end
theorem run_append_S {α : Type} {T : Ty α} {P : Program} {w : World} {t e : TypeId} {bytes : Nat} (hE : El P t e T.k bytes) (ty : TypeId)
    (base : Nat) (S : Nat → Prop) (v : Value) (l : List α) (hown : OwnS T e w base S v l) (A : Option Addr) (m c : Nat) (ms : List α) (hm : ms.length = m) (hsrc : SlT T w S A ms)
    (h63 : l.length + m ≤ maxLen) (hbytes : (l.length + m) * bytes ≤ 140737488355328) (hbase : base ≤ w.heap.size) :
    ∃ v' w', (Builtin.append_ #[t, t] ty #[v, .slice A m c]).run P w = .ok v' w' ∧ OwnS T e w' base S v' (l ++ ms) ∧ w.grownBy w' v.ownBlock ∧ Below base w w' := by
  obtain ⟨xs, ho, hf, hS⟩ := hown
  obtain ⟨ys, hg, hs⟩ := hsrc.raw (B := w.heap.size) fun b hb => (hS b hb).1
  rw [hm] at hs
  obtain ⟨v', w', hrun, h1, h2, h3, h4⟩ := run_append_sl hE ty base v l.length xs ho w.heap.size A m c ys hs hg.one h63 hbytes hbase
  exact ⟨v', w', hrun, OwnS.append hf hg hS (by rw [hm]; exact h1) h2 h3, h2, h4⟩
theorem wpList_append_S {α : Type} {T : Ty α} {P : Program} {ops : Array Oper} {rest : List Oper} {o : Oper} {a : Act} {Q : Exit → Act → World → Prop} {w : World} {t e : TypeId} {bytes : Nat} (hE : El P t e T.k bytes)
    (hgd : o.guard = none) (s x : Operand) (ho : o.op = .call { callee := .builtin .append, args := #[s, x], argTypes := #[t, t] })
    (base : Nat) (S : Nat → Prop) (v : Value) (l : List α) (hs : a.eval s = v) (hown : OwnS T e w base S v l) (A : Option Addr) (m c : Nat) (ms : List α) (hm : ms.length = m) (hx : a.eval x = .slice A m c) (hsrc : SlT T w S A ms)
    (h63 : l.length + m ≤ maxLen) (hbytes : (l.length + m) * bytes ≤ 140737488355328) (hbase : base ≤ w.heap.size)
    (h : ∀ v' w', OwnS T e w' base S v' (l ++ ms) → w.grownBy w' v.ownBlock → Below base w w' → wpList P ops Q rest (a.put o.dst v') w') :
    wpList P ops Q (o :: rest) a w := by
  obtain ⟨v', w', hrun, h2, h3, h4⟩ := run_append_S hE o.type base S v l hown A m c ms hm hsrc h63 hbytes hbase
  refine wpList_plain hgd fun _ hK => ?_
  unfold Oper.wp execOp
  simp only [ho, resolve, invoke, builtin, Sem.run_bind, Sem.run_pure, Result.andThen_ok, List.map_toArray, List.map_cons, List.map_nil, hs, hx, hrun]
  exact hK _ _ (h v' w' h2 h3 h4)
theorem step_append_S {α : Type} {T : Ty α} {P : Program} {ops : Array Oper} {o : Oper} {a : Act} {K : Act → World → Prop} {Q : Exit → Act → World → Prop} {E : Prop} {w : World} {t e : TypeId} {bytes : Nat} (hE : El P t e T.k bytes)
    (hgd : o.guard = none) (s x : Operand) (ho : o.op = .call { callee := .builtin .append, args := #[s, x], argTypes := #[t, t] })
    (base : Nat) (S : Nat → Prop) (v : Value) (l : List α) (hs : a.eval s = v) (hown : OwnS T e w base S v l) (A : Option Addr) (m c : Nat) (ms : List α) (hm : ms.length = m) (hx : a.eval x = .slice A m c) (hsrc : SlT T w S A ms)
    (h63 : l.length + m ≤ maxLen) (hbytes : (l.length + m) * bytes ≤ 140737488355328) (hbase : base ≤ w.heap.size)
    (h : ∀ v' w', OwnS T e w' base S v' (l ++ ms) → w.grownBy w' v.ownBlock → Below base w w' → K (a.put o.dst v') w') :
    if Region.wanted o (yielded ops a.tmps) = true then Oper.wp P o a w K Q else E := by
  have hw : Region.wanted o (yielded ops a.tmps) = true := by simp [Region.wanted, hgd]
  rw [if_pos hw]
  obtain ⟨v', w', hrun, h2, h3, h4⟩ := run_append_S hE o.type base S v l hown A m c ms hm hsrc h63 hbytes hbase
  unfold Oper.wp execOp
  simp only [ho, resolve, invoke, builtin, Sem.run_bind, Sem.run_pure, Result.andThen_ok, List.map_toArray, List.map_cons, List.map_nil, hs, hx, hrun]
  exact h v' w' h2 h3 h4
/-- What one has of a slice copied: after the first append, and after the second. -/
theorem copy_front {α : Type} {T : Ty α} {W : World} {B : Nat} {A : Option Addr} {l : List α} {e : TypeId} (hs : SlT T W (Lt B) A l) (hB : B ≤ W.heap.size) (k : Nat) :
    SlT T (W.alloc (.cells #[] e)) (Lt B) A (l.take k) := (hs.take k).keepB (B := W.heap.size) (fun _ hb => Nat.lt_of_lt_of_le hb hB) ((Below.refl _ _).alloc (Nat.le_refl _) _)
theorem copy_back {α : Type} {T : Ty α} {W w1 : World} {B : Nat} {A : Option Addr} {l : List α} {c j : Nat} (hs : SlT T W (Lt B) A l) (hB : B ≤ W.heap.size) (hj : j ≤ l.length) (hc : l.length ≤ c) (hb : Below W.heap.size W w1) :
    SlT T w1 (Lt B) (if c = j then A else A.map (·.add (j * T.k))) (l.drop j) := (hs.cut hj hc).keepB (B := W.heap.size) (fun _ hb => Nat.lt_of_lt_of_le hb hB) hb
end Go.Proofs.YtmhikcleekfbpaaDoor
namespace Go.Proofs.YtmhikcleekfbpaaDoor
open Go.RowKit

/-- m elements at A, that read as ms and point into S. -/
def Src {α : Type} (T : Ty α) (w : World) (S : Nat → Prop) (A : Option Addr) (m : Nat) (ms : List α) : Prop := ∃ ys, Flat T w S ys ms ∧ Sl w w.heap.size T.k A m ys
theorem SlT.src {α : Type} {T : Ty α} {w : World} {S : Nat → Prop} {A : Option Addr} {m : Nat} {ms : List α} (h : SlT T w S A ms) (hm : ms.length = m) (hS : ∀ b, S b → b < w.heap.size) : Src T w S A m ms := by
  obtain ⟨ys, h1, h2⟩ := h.raw hS
  exact ⟨ys, h1, by rw [← hm]; exact h2⟩
theorem Src.blk {α : Type} {T : Ty α} {w : World} {S : Nat → Prop} {g m : Nat} {e : TypeId} {cs : Array Value} {ms : List α} (hb : Bk w g e cs) (hf : Flat T w S cs.toList ms) (hm : ms.length = m) : Src T w S (some ⟨g, 0, none⟩) m ms :=
  ⟨cs.toList, hf, by rw [hf.len, hm], fun _ => ⟨g, 0, rfl, hb.lt, fun j u hu => by rw [Nat.zero_add, hb.cell j]; simpa using hu⟩⟩
theorem Src.new {α : Type} {T : Ty α} {w : World} {S : Nat → Prop} {m : Nat} {e : TypeId} {cs : Array Value} {ms : List α} (hf : Flat T (w.alloc (.cells cs e)) S cs.toList ms) (hm : ms.length = m) : Src T (w.alloc (.cells cs e)) S (some ⟨w.heap.size, 0, none⟩) m ms :=
  Src.blk (Bk.new w e cs) hf hm
theorem run_append_R {α : Type} {T : Ty α} {P : Program} {w : World} {t e : TypeId} {bytes : Nat} (hE : El P t e T.k bytes) (ty : TypeId)
    (base : Nat) (S : Nat → Prop) (v : Value) (l : List α) (hown : OwnS T e w base S v l) (A : Option Addr) (m c : Nat) (ms : List α) (hm : ms.length = m) (hsrc : Src T w S A m ms)
    (h63 : l.length + m ≤ maxLen) (hbytes : (l.length + m) * bytes ≤ 140737488355328) (hbase : base ≤ w.heap.size) :
    ∃ v' w', (Builtin.append_ #[t, t] ty #[v, .slice A m c]).run P w = .ok v' w' ∧ OwnS T e w' base S v' (l ++ ms) ∧ w.grownBy w' v.ownBlock ∧ Below base w w' := by
  obtain ⟨xs, ho, hf, hS⟩ := hown
  obtain ⟨ys, hg, hs⟩ := hsrc
  obtain ⟨v', w', hrun, h1, h2, h3, h4⟩ := run_append_sl hE ty base v l.length xs ho w.heap.size A m c ys hs hg.one h63 hbytes hbase
  exact ⟨v', w', hrun, OwnS.append hf hg hS (by rw [hm]; exact h1) h2 h3, h2, h4⟩
theorem wpList_append_R {α : Type} {T : Ty α} {P : Program} {ops : Array Oper} {rest : List Oper} {o : Oper} {a : Act} {Q : Exit → Act → World → Prop} {w : World} {t e : TypeId} {bytes : Nat} (hE : El P t e T.k bytes)
    (hgd : o.guard = none) (s x : Operand) (ho : o.op = .call { callee := .builtin .append, args := #[s, x], argTypes := #[t, t] })
    (base : Nat) (S : Nat → Prop) (v : Value) (l : List α) (hs : a.eval s = v) (hown : OwnS T e w base S v l) (A : Option Addr) (m c : Nat) (ms : List α) (hm : ms.length = m) (hx : a.eval x = .slice A m c) (hsrc : Src T w S A m ms)
    (h63 : l.length + m ≤ maxLen) (hbytes : (l.length + m) * bytes ≤ 140737488355328) (hbase : base ≤ w.heap.size)
    (h : ∀ v' w', OwnS T e w' base S v' (l ++ ms) → w.grownBy w' v.ownBlock → Below base w w' → wpList P ops Q rest (a.put o.dst v') w') :
    wpList P ops Q (o :: rest) a w := by
  obtain ⟨v', w', hrun, h2, h3, h4⟩ := run_append_R hE o.type base S v l hown A m c ms hm hsrc h63 hbytes hbase
  refine wpList_plain hgd fun _ hK => ?_
  unfold Oper.wp execOp
  simp only [ho, resolve, invoke, builtin, Sem.run_bind, Sem.run_pure, Result.andThen_ok, List.map_toArray, List.map_cons, List.map_nil, hs, hx, hrun]
  exact hK _ _ (h v' w' h2 h3 h4)
theorem step_append_R {α : Type} {T : Ty α} {P : Program} {ops : Array Oper} {o : Oper} {a : Act} {K : Act → World → Prop} {Q : Exit → Act → World → Prop} {E : Prop} {w : World} {t e : TypeId} {bytes : Nat} (hE : El P t e T.k bytes)
    (hgd : o.guard = none) (s x : Operand) (ho : o.op = .call { callee := .builtin .append, args := #[s, x], argTypes := #[t, t] })
    (base : Nat) (S : Nat → Prop) (v : Value) (l : List α) (hs : a.eval s = v) (hown : OwnS T e w base S v l) (A : Option Addr) (m c : Nat) (ms : List α) (hm : ms.length = m) (hx : a.eval x = .slice A m c) (hsrc : Src T w S A m ms)
    (h63 : l.length + m ≤ maxLen) (hbytes : (l.length + m) * bytes ≤ 140737488355328) (hbase : base ≤ w.heap.size)
    (h : ∀ v' w', OwnS T e w' base S v' (l ++ ms) → w.grownBy w' v.ownBlock → Below base w w' → K (a.put o.dst v') w') :
    if Region.wanted o (yielded ops a.tmps) = true then Oper.wp P o a w K Q else E := by
  have hw : Region.wanted o (yielded ops a.tmps) = true := by simp [Region.wanted, hgd]
  rw [if_pos hw]
  obtain ⟨v', w', hrun, h2, h3, h4⟩ := run_append_R hE o.type base S v l hown A m c ms hm hsrc h63 hbytes hbase
  unfold Oper.wp execOp
  simp only [ho, resolve, invoke, builtin, Sem.run_bind, Sem.run_pure, Result.andThen_ok, List.map_toArray, List.map_cons, List.map_nil, hs, hx, hrun]
  exact h v' w' h2 h3 h4
end Go.Proofs.YtmhikcleekfbpaaDoor
namespace Go.Proofs.YtmhikcleekfbpaaDoor
open Go.RowKit

structure Col where
  bay : Int
  row : Int
  deck : Bool
  tiers : Int
  height : Int
  k20 : Int
  k40 : Int
  lash : Int
  plugs : List Int
  x : Int
  y : Int
  z : Int
  deriving DecidableEq, Inhabited
structure Cov where
  bay : Int
  rows : List Int
  deriving DecidableEq, Inhabited
structure Tnk where
  a0 : Int
  a1 : Int
  a2 : Int
  a3 : Int
  a4 : Int
  steps : List Int
  deriving DecidableEq, Inhabited
structure Shp where
  cols : List Col
  covs : List Cov
  l0 : Int
  l1 : Int
  l2 : Int
  l3 : Int
  rows : List (List Int)
  frames : List (List Int)
  tanks : List Tnk
  m0 : Int
  m1 : Int
  m2 : Int
  m3 : Int
  deriving DecidableEq, Inhabited
def colL (c : Col) (A : Option Addr) (p : Nat) : List Value :=
  [.int .i64 c.bay, .int .i64 c.row, .bool c.deck, .int .i64 c.tiers, .int .i64 c.height, .int .i64 c.k20, .int .i64 c.k40, .int .i64 c.lash, .slice A c.plugs.length p, .int .i64 c.x, .int .i64 c.y, .int .i64 c.z]
def tCol : Ty Col where
  k := 12
  pos := by decide
  rd := fun w S cs c => ∃ A p, cs = colL c A p ∧ c.plugs.length ≤ p ∧ SlT tInt w S A c.plugs
  len := by rintro _ _ _ _ ⟨A, c, rfl, _⟩; rfl
  one := by rintro _ _ _ _ ⟨A, c, rfl, _⟩; rfl
  keep := by rintro _ _ _ _ _ ⟨A, c, rfl, h1, h2⟩ hk; exact ⟨A, c, rfl, h1, h2.keep hk⟩
  more := by rintro _ _ _ _ _ ⟨A, c, rfl, h1, h2⟩ hk; exact ⟨A, c, rfl, h1, h2.more hk⟩
def tCov : Ty Cov where
  k := 2
  pos := by decide
  rd := fun w S cs c => ∃ A p, cs = [.int .i64 c.bay, .slice A c.rows.length p] ∧ c.rows.length ≤ p ∧ SlT tInt w S A c.rows
  len := by rintro _ _ _ _ ⟨A, c, rfl, _⟩; rfl
  one := by rintro _ _ _ _ ⟨A, c, rfl, _⟩; rfl
  keep := by rintro _ _ _ _ _ ⟨A, c, rfl, h1, h2⟩ hk; exact ⟨A, c, rfl, h1, h2.keep hk⟩
  more := by rintro _ _ _ _ _ ⟨A, c, rfl, h1, h2⟩ hk; exact ⟨A, c, rfl, h1, h2.more hk⟩
def tTnk : Ty Tnk where
  k := 6
  pos := by decide
  rd := fun w S cs c => ∃ A p, cs = [.int .i64 c.a0, .int .i64 c.a1, .int .i64 c.a2, .int .i64 c.a3, .int .i64 c.a4, .slice A c.steps.length p] ∧ c.steps.length ≤ p ∧ SlT tInt w S A c.steps
  len := by rintro _ _ _ _ ⟨A, c, rfl, _⟩; rfl
  one := by rintro _ _ _ _ ⟨A, c, rfl, _⟩; rfl
  keep := by rintro _ _ _ _ _ ⟨A, c, rfl, h1, h2⟩ hk; exact ⟨A, c, rfl, h1, h2.keep hk⟩
  more := by rintro _ _ _ _ _ ⟨A, c, rfl, h1, h2⟩ hk; exact ⟨A, c, rfl, h1, h2.more hk⟩
def tRow : Ty (List Int) := tInts 5 (by decide)
/-- Where the slices of a ship lie. -/
structure Hd where
  A1 : Option Addr
  c1 : Nat
  A2 : Option Addr
  c2 : Nat
  A3 : Option Addr
  c3 : Nat
  A4 : Option Addr
  c4 : Nat
  A5 : Option Addr
  c5 : Nat
def shpA (s : Shp) (h : Hd) : Array Value :=
  #[.slice h.A1 s.cols.length h.c1, .slice h.A2 s.covs.length h.c2, .int .i64 s.l0, .int .i64 s.l1, .int .i64 s.l2, .int .i64 s.l3, .slice h.A3 s.rows.length h.c3, .slice h.A4 s.frames.length h.c4, .slice h.A5 s.tanks.length h.c5, .int .i64 s.m0, .int .i64 s.m1, .int .i64 s.m2, .int .i64 s.m3]
/-- The ship s reads at h. -/
structure ShpR (w : World) (S : Nat → Prop) (s : Shp) (h : Hd) : Prop where
  n1 : s.cols.length ≤ h.c1
  n2 : s.covs.length ≤ h.c2
  n3 : s.rows.length ≤ h.c3
  n4 : s.frames.length ≤ h.c4
  n5 : s.tanks.length ≤ h.c5
  m1 : h.c1 ≤ maxLen
  m2 : h.c2 ≤ maxLen
  m3 : h.c3 ≤ maxLen
  m4 : h.c4 ≤ maxLen
  m5 : h.c5 ≤ maxLen
  cols : SlT tCol w S h.A1 s.cols
  covs : SlT tCov w S h.A2 s.covs
  rows : SlT tRow w S h.A3 s.rows
  frames : SlT tRow w S h.A4 s.frames
  tanks : SlT tTnk w S h.A5 s.tanks
section
variable {w w' : World} {S S' : Nat → Prop} {s : Shp} {h : Hd}
theorem ShpR.keep (r : ShpR w S s h) (hk : ∀ b o, S b → w'.cell? ⟨b, o, none⟩ = w.cell? ⟨b, o, none⟩) : ShpR w' S s h :=
  { r with cols := r.cols.keep hk, covs := r.covs.keep hk, rows := r.rows.keep hk, frames := r.frames.keep hk, tanks := r.tanks.keep hk }
theorem ShpR.more (r : ShpR w S s h) (hS : ∀ b, S b → S' b) : ShpR w S' s h :=
  { r with cols := r.cols.more hS, covs := r.covs.more hS, rows := r.rows.more hS, frames := r.frames.more hS, tanks := r.tanks.more hS }
end
theorem ShpR.below {w w' : World} {s : Shp} {h : Hd} {B : Nat} (r : ShpR w (Lt B) s h) (hb : Below B w w') : ShpR w' (Lt B) s h := r.keep (keep_below hb)
theorem ShpR.up {w : World} {s : Shp} {h : Hd} {B B' : Nat} (r : ShpR w (Lt B) s h) (hb : B ≤ B') : ShpR w (Lt B') s h := r.more (lt_more hb)
theorem ShpR.on {w w' : World} {s : Shp} {h : Hd} (r : ShpR w (Lt w.heap.size) s h) (hb : Below w.heap.size w w') : ShpR w' (Lt w'.heap.size) s h := (r.below hb).up hb.size

/-- A column's cells, one by one. -/
theorem SlT.col {w : World} {S : Nat → Prop} {A : Option Addr} {l : List Col} (h : SlT tCol w S A l) {i : Nat} (hi : i < l.length) :
    ∃ b off Ap p, A = some ⟨b, off, none⟩ ∧ S b ∧ (l.getD i default).plugs.length ≤ p ∧ SlT tInt w S Ap (l.getD i default).plugs ∧
      (w.cell? ⟨b, off + i * 12, none⟩ = some (.int .i64 (l.getD i default).bay) ∧ w.cell? ⟨b, off + i * 12 + 1, none⟩ = some (.int .i64 (l.getD i default).row) ∧ w.cell? ⟨b, off + i * 12 + 2, none⟩ = some (.bool (l.getD i default).deck) ∧ w.cell? ⟨b, off + i * 12 + 3, none⟩ = some (.int .i64 (l.getD i default).tiers) ∧
       w.cell? ⟨b, off + i * 12 + 4, none⟩ = some (.int .i64 (l.getD i default).height) ∧ w.cell? ⟨b, off + i * 12 + 5, none⟩ = some (.int .i64 (l.getD i default).k20) ∧ w.cell? ⟨b, off + i * 12 + 6, none⟩ = some (.int .i64 (l.getD i default).k40) ∧ w.cell? ⟨b, off + i * 12 + 7, none⟩ = some (.int .i64 (l.getD i default).lash) ∧
       w.cell? ⟨b, off + i * 12 + 8, none⟩ = some (.slice Ap (l.getD i default).plugs.length p) ∧ w.cell? ⟨b, off + i * 12 + 9, none⟩ = some (.int .i64 (l.getD i default).x) ∧ w.cell? ⟨b, off + i * 12 + 10, none⟩ = some (.int .i64 (l.getD i default).y) ∧ w.cell? ⟨b, off + i * 12 + 11, none⟩ = some (.int .i64 (l.getD i default).z)) := by
  obtain ⟨b, off, cs, e, hb, ⟨Ap, p, rfl, h1, h2⟩, hc⟩ := h.at_ hi default
  exact ⟨b, off, Ap, p, e, hb, h1, h2, hc 0 _ rfl, hc 1 _ rfl, hc 2 _ rfl, hc 3 _ rfl, hc 4 _ rfl, hc 5 _ rfl, hc 6 _ rfl, hc 7 _ rfl, hc 8 _ rfl, hc 9 _ rfl, hc 10 _ rfl, hc 11 _ rfl⟩
theorem SlT.cov {w : World} {S : Nat → Prop} {A : Option Addr} {l : List Cov} (h : SlT tCov w S A l) {i : Nat} (hi : i < l.length) :
    ∃ b off Ap p, A = some ⟨b, off, none⟩ ∧ S b ∧ (l.getD i default).rows.length ≤ p ∧ SlT tInt w S Ap (l.getD i default).rows ∧
      w.cell? ⟨b, off + i * 2, none⟩ = some (.int .i64 (l.getD i default).bay) ∧ w.cell? ⟨b, off + i * 2 + 1, none⟩ = some (.slice Ap (l.getD i default).rows.length p) := by
  obtain ⟨b, off, cs, e, hb, ⟨Ap, p, rfl, h1, h2⟩, hc⟩ := h.at_ hi default
  exact ⟨b, off, Ap, p, e, hb, h1, h2, hc 0 _ rfl, hc 1 _ rfl⟩
end Go.Proofs.YtmhikcleekfbpaaDoor
namespace Go.Proofs.YtmhikcleekfbpaaDoor
open Go.RowKit Go.ChangeMaps Go.MapKept
open Go.WideElems (Fit rd rg elemAt entry_then_store)
open Go.WideMaps (KeyLaw)
open Go.Maps (Keyed)

theorem setBlock_twice (w : World) (b : Nat) (o o' : Obj) : setBlock (setBlock w b o) b o' = setBlock w b o' := by
  unfold setBlock
  simp

theorem ok_world {α : Type} {a b : α} {w w' : World} (h : Result.ok a w = Result.ok b w') : w = w' := by injection h
theorem ok_val {α : Type} {a b : α} {w w' : World} (h : Result.ok a w = Result.ok b w') : a = b := by injection h
theorem wf_i64 {x : Int} (h1 : -9223372036854775808 ≤ x) (h2 : x ≤ 9223372036854775807) : (Lit.int .i64 x).wf = true := by
  simp [Lit.wf, IntKind.min, IntKind.max, IntKind.bits, IntKind.signed]; omega
section
variable {P : Program} {kt et t : TypeId}
theorem isMap_owns {w : World} {b n : Nat} {D : DataW Unit} {R : Value → Option (DataW Unit × List MemPlace)} (h : w.ownsMap P kt R b n D) : Maps.IsMap D := by
  obtain ⟨es, clock, _, _, _, rfl⟩ := h
  exact ⟨_, rfl⟩
/-- 'm[k]++', as the model has it: the reading, the entry, the store. -/
theorem inc_step {w : World} {b n : Nat} {D : DataW Unit} (K : KeyLaw P kt) (ht : P.underlying t = some (.map kt et)) (he : P.underlying et = some (.int .i64)) (hz : ∀ u : World, (zeroValue et).run P u = .ok (.int .i64 0) u)
    (h : w.ownsMap P kt (plainElem P et) b n D) (hn : n + 1 < maxLen) {key : Value} {kl : Lit} (hkey : keyOf P kt key = some kl) :
    ∃ (c : Int) (v0 : Value) (st : Nat) (w1 : World), (Instr.lookup t (.map (some b)) key false).run P w = .ok (.int .i64 c) w ∧ D.atKey kl (.lit (.int .i64 0)) = .lit (.int .i64 c) ∧
      (Instr.mapEntry t (.map (some b)) key).run P w = .ok (.tuple #[v0, goInt st]) w1 ∧ (Instr.lookup t (.map (some b)) key false).run P w1 = .ok (.int .i64 c) w1 ∧ w.grownBy w1 (some b) ∧ w1.heap.size = w.heap.size ∧
      ((Lit.int .i64 (c + 1)).wf = true → ∃ w2, (Instr.entryStore t (.map (some b)) (goInt st) (.int .i64 (c + 1))).run P w1 = .ok () w2 ∧ w2.ownsMap P kt (plainElem P et) b (n + 1) (D.put kl (.lit (.int .i64 (c + 1)))) ∧ w.grownBy w2 (some b) ∧ w2.heap.size = w.heap.size) := by
  have KK := Keyed.of_law K
  obtain ⟨c, hl, hat, hwc⟩ := h.lookup_int KK ht he (hz w) hkey
  have h' := h
  obtain ⟨es, clock, hb, F, hs, hD⟩ := h'
  obtain ⟨v0, st, es1, clock1, hme, hcase, hes⟩ := entry_then_store (R := plainElem (H := Unit) P et) K ht hz hb F hkey
  have hw1b : (setBlock w b (.map es1 clock1)).heap[b]? = some (.map es1 clock1) := heap_setBlock_same hb _
  have hgr : ∀ o, w.grownBy (setBlock w b o) (some b) := fun o => ⟨rfl, rfl, rfl, by simp [setBlock], fun i _ hi => heap_setBlock_other hb _ (fun e => hi (by rw [e]))⟩
  -- the map with the entry reads as before
  have hlook : (Instr.lookup t (.map (some b)) key false).run P (setBlock w b (.map es1 clock1)) = .ok (.int .i64 c) (setBlock w b (.map es1 clock1)) := by
    obtain ⟨w0, hup, hown0, _⟩ := h.update KK ht (by omega) hkey (plainElem_int (H := Unit) he (a := 0) (by decide))
    rcases K.find w hkey es.toList F.keys with ⟨f1, f2⟩ | ⟨j, e0, f1, f2, f3⟩
    · have e1 : (Instr.mapEntry t (.map (some b)) key).run P w = .ok (.tuple #[.int .i64 0, goInt clock]) (setBlock w b (.map (es.push ⟨key, .int .i64 0, clock⟩) (clock + 1))) := by
        simp [Instr.mapEntry, run_underlying ht, MapKept.run_getObj_map hb, K.check w false hkey, f1, hz, MapKept.run_setObj_map _ hb, Result.andThen, setBlock]
      have e2 : (Instr.mapUpdate t (.map (some b)) key (.int .i64 0)).run P w = .ok () (setBlock w b (.map (es.push ⟨key, .int .i64 0, clock⟩) (clock + 1))) := by
        simp [Instr.mapUpdate, run_underlying ht, MapKept.run_getObj_map hb, K.check w false hkey, f1, MapKept.run_setObj_map _ hb, Result.andThen, setBlock]
      rw [e1] at hme
      have e3 := ok_world hme
      rw [hup] at e2
      have e4 := ok_world e2
      rw [← e3, ← e4]
      obtain ⟨c', hl', hat', _⟩ := hown0.lookup_int KK ht he (hz w0) hkey
      rw [hl']
      have hc0 : c = 0 := by
        have hzero : (Instr.lookup t (.map (some b)) key false).run P w = .ok (.int .i64 0) w := by
          rcases Maps.fit_look false KK ht (hz w) hb F hkey with ⟨hrun, _, _⟩ | ⟨e0, y, hm, hk0, _⟩
          · exact hrun
          · exact absurd hk0 (f2 e0 hm)
        rw [hl] at hzero
        have e5 := ok_val hzero
        injection e5
      rw [Maps.atKey_put_same (isMap_owns h) (KK.key hkey)] at hat'
      injection hat' with e6
      injection e6 with _ e7
      rw [hc0, e7]
    · have e1 : (Instr.mapEntry t (.map (some b)) key).run P w = .ok (.tuple #[e0.val, goInt e0.born]) (setBlock w b (.map es clock)) := by
        have hj : es[j]? = some e0 := by simpa using f2
        have hsame : es.modify j (fun e => { e with key := key }) = es := by
          apply Array.ext'
          rw [Array.toList_modify, modify_eq_set _ _ _ _ f2]
          have : ({ e0 with key := key } : MapEntry) = e0 := by rw [← f3]
          rw [this]
          exact WideElems.set_self _ _ _ f2
        simp [Instr.mapEntry, run_underlying ht, MapKept.run_getObj_map hb, K.check w false hkey, f1, hj, f3, K.stays w hkey, hsame, MapKept.run_setObj_map _ hb, Result.andThen, setBlock]
      rw [e1] at hme
      have e3 := ok_world hme
      rw [← e3]
      have hown1 : (setBlock w b (.map es clock)).ownsMap P kt (plainElem (H := Unit) P et) b n D := ⟨es, clock, heap_setBlock_same hb _, F, hs, hD⟩
      obtain ⟨c', hl', hat', _⟩ := hown1.lookup_int KK ht he (hz _) hkey
      rw [hl']
      rw [hat] at hat'
      injection hat' with e6
      injection e6 with _ e7
      rw [e7]
  refine ⟨c, v0, st, setBlock w b (.map es1 clock1), hl, hat, hme, hlook, hgr _, by simp [setBlock], fun hw => ?_⟩
  obtain ⟨es', clock', hrun, hup⟩ := hes _ (.int .i64 (c + 1)) hw1b
  obtain ⟨w2, hup2, hown2, hgr2⟩ := h.update KK ht (by omega) hkey (plainElem_int (H := Unit) he hw)
  rw [hup] at hup2
  have e := ok_world hup2
  refine ⟨w2, ?_, hown2, hgr2, ?_⟩
  · rw [hrun, setBlock_twice, e]
  · rw [← e]; simp [setBlock]

/-- Keys of three ints. -/
def mkKey (k : Int × Int × Int) : Value := .agg #[.int .i64 k.1, .int .i64 k.2.1, .int .i64 k.2.2]
/-- Block b counts the keys of L. -/
def Cnt (P : Program) (kt et : TypeId) (w : World) (b n : Nat) (L : List (Int × Int × Int)) : Prop :=
  ∃ D : DataW Unit, w.ownsMap P kt (plainElem P et) b n D ∧ (∀ k kl, keyOf P kt (mkKey k) = some kl → D.atKey kl (.lit (.int .i64 0)) = .lit (.int .i64 (L.count k : Nat))) ∧
    (∀ kl, Maps.has D kl = true → ∃ k ∈ L, keyOf P kt (mkKey k) = some kl) ∧ ∀ k ∈ L, ∃ kl, keyOf P kt (mkKey k) = some kl ∧ Maps.has D kl = true
theorem Cnt.made (w : World) : Cnt P kt et (w.alloc (.map #[] 0)) w.heap.size 0 [] :=
  ⟨.map [], World.ownsMap_made w P kt _, fun k kl _ => by simp [DataW.atKey], fun kl h => by simp [Maps.has] at h, by simp⟩
theorem Cnt.kept {w w' : World} {b n : Nat} {L : List (Int × Int × Int)} {row : Option Nat} (h : Cnt P kt et w b n L) (hg : w.grownBy w' row) (hne : some b ≠ row) : Cnt P kt et w' b n L := by
  obtain ⟨D, h1, h2⟩ := h
  exact ⟨D, h1.kept hg hne, h2⟩
theorem Cnt.below {w w' : World} {b n B : Nat} {L : List (Int × Int × Int)} (h : Cnt P kt et w b n L) (hb : Below B w w') (hB : w.heap.size ≤ B) : Cnt P kt et w' b n L :=
  h.kept (row := none) ⟨hb.os, hb.tape, hb.output, hb.size, fun i hi _ => hb.block i (by omega)⟩ (by simp)
theorem Cnt.alloc {w : World} {b n : Nat} {L : List (Int × Int × Int)} (h : Cnt P kt et w b n L) (o : Obj) : Cnt P kt et (w.alloc o) b n L := h.kept (World.grownBy_alloc w o none) (by simp)
theorem Cnt.drew {w : World} {b n : Nat} {L : List (Int × Int × Int)} (h : Cnt P kt et w b n L) : Cnt P kt et w.drew b n L := h
theorem Cnt.lt {w : World} {b n : Nat} {L : List (Int × Int × Int)} (h : Cnt P kt et w b n L) : b < w.heap.size := by
  obtain ⟨D, h1, _⟩ := h
  exact h1.lt
theorem key_inj {k k' : Int × Int × Int} (h : mkKey k = mkKey k') : k = k' := by
  unfold mkKey at h
  injection h with h
  have h1 := congrArg Array.toList h
  simp at h1
  obtain ⟨a, b, c⟩ := k
  obtain ⟨a', b', c'⟩ := k'
  simp at h1
  simp [h1]
/-- 'm[k]++' for a map that counts. -/
theorem Cnt.inc {w : World} {b n : Nat} {L : List (Int × Int × Int)} (K : KeyLaw P kt) (ht : P.underlying t = some (.map kt et)) (he : P.underlying et = some (.int .i64)) (hz : ∀ u : World, (zeroValue et).run P u = .ok (.int .i64 0) u)
    (h : Cnt P kt et w b n L) (hn : n + 1 < maxLen) (hL : L.length ≤ 1000000000) (k : Int × Int × Int) {kl : Lit} (hkey : keyOf P kt (mkKey k) = some kl) :
    ∃ (c : Nat) (v0 : Value) (st : Nat) (w1 w2 : World), c ≤ 1000000000 ∧ (Instr.lookup t (.map (some b)) (mkKey k) false).run P w = .ok (.int .i64 c) w ∧
      (Instr.mapEntry t (.map (some b)) (mkKey k)).run P w = .ok (.tuple #[v0, .int .i64 st]) w1 ∧ (Instr.lookup t (.map (some b)) (mkKey k) false).run P w1 = .ok (.int .i64 c) w1 ∧
      (Instr.entryStore t (.map (some b)) (.int .i64 st) (.int .i64 ((c : Int) + 1))).run P w1 = .ok () w2 ∧ Cnt P kt et w2 b (n + 1) (L ++ [k]) ∧ w.grownBy w1 (some b) ∧ w.grownBy w2 (some b) ∧ w1.heap.size = w.heap.size ∧ w2.heap.size = w.heap.size := by
  obtain ⟨D, h1, h2, h3, h4⟩ := h
  obtain ⟨c, v0, st, w1, r1, r2, r3, r4, g1, z1, hw⟩ := inc_step K ht he hz h1 hn hkey
  have hc : c = (L.count k : Nat) := by
    have := h2 k kl hkey
    rw [r2] at this
    injection this with e
    injection e with _ e
  have hle : L.count k ≤ 1000000000 := by have := List.count_le_length (a := k) (l := L); omega
  obtain ⟨w2, s1, s2, s3, s4⟩ := hw (by rw [hc]; exact wf_i64 (by omega) (by omega))
  subst hc
  refine ⟨L.count k, v0, st, w1, w2, hle, r1, r3, r4, s1, ⟨_, s2, fun k' kl' hk' => ?_, fun kl' hh => ?_, fun k' hk' => ?_⟩, g1, s3, z1, s4⟩
  · by_cases e : kl' = kl
    · subst e
      have := key_inj (K.inj hk' hkey)
      subst this
      rw [Maps.atKey_put_same (isMap_owns h1) ((Keyed.of_law K).key hkey)]
      simp
    · rw [Maps.atKey_put_other e, h2 k' kl' hk', List.count_append]
      have hne : k ≠ k' := by
        rintro rfl
        rw [hkey] at hk'
        injection hk' with hk'
        exact e hk'.symm
      simp [hne]
  · by_cases e : kl' = kl
    · subst e; exact ⟨k, by simp, hkey⟩
    · rw [Maps.has_put_other e] at hh
      obtain ⟨k', hm, hk'⟩ := h3 kl' hh
      exact ⟨k', by simp [hm], hk'⟩
  · have hsame : Maps.has (D.put kl (.lit (.int .i64 ((L.count k : Nat) + 1)))) kl = true := Maps.has_put_same (isMap_owns h1) ((Keyed.of_law K).key hkey) _
    rcases List.mem_append.1 hk' with hk' | hk'
    · obtain ⟨kl', e1, e2⟩ := h4 k' hk'
      refine ⟨kl', e1, ?_⟩
      by_cases e : kl' = kl
      · subst e; exact hsame
      · rw [Maps.has_put_other e]; exact e2
    · simp at hk'
      subst hk'
      exact ⟨kl, hkey, hsame⟩
end
end Go.Proofs.YtmhikcleekfbpaaDoor
namespace Go.Proofs.YtmhikcleekfbpaaDoor
open Go.RowKit Go.WideShapes Go.ChangeShapes
section
variable {H : Type} {enc : TypeId × Value → H} {P : Program}
theorem post_below {f : Func} {s : ChangeSpec} {apart fresh handsOn : Bool} {W W' : World} {args : Array Value} {v : Value} {ds gs : List (DataW H)} {before pa pv : List MemPlace}
    (hW : DataW.Whole enc P f.params.toList s.vars apart W args.toList ds gs before)
    (hres : ∀ (b : Nat) (sp : Nat → Bool) (hd : Bool), DataW.TrodAll enc P W' b sp hd f.resultTypes.toList (v.resultList f.resultTypes.size) (s.fn H (ds ++ gs)).results [])
    (hargs : DataW.TrodAll enc P W' 0 (fun b => decide (b < W.heap.size)) true f.params.toList args.toList (s.fn H (ds ++ gs)).args pa)
    (hvars : DataW.TrodVars enc P W' (fun b => decide (b < W.heap.size)) s.vars (s.fn H (ds ++ gs)).vars pv)
    (hps : before = pa ++ pv) (hb : Below W.heap.size W W') : s.post enc P f apart fresh handsOn false W args v W' := by
  refine ⟨ds, gs, before, [], pa, pv, hW, hres _ _ _, hargs, hvars, World.keptBut_mono (fun p hp => ⟨hp, ?_⟩) (hb.frame (· ∈ before)), fun h => by cases h⟩
  rw [hps, List.mem_append] at hp
  exact Or.inr hp
/-- Arguments read behind the call as they did before it. -/
theorem trodAll_below (hl : laidOutB P = true) {W W' : World} (hb : Below W.heap.size W W') : ∀ (ts : List TypeId) (vs : List Value) (ds : List (DataW H)) (ps : List MemPlace),
    (∀ t ∈ ts, P.readableRec t = true ∧ t < P.types.size) → DataW.TrodAll enc P W 0 (fun _ => true) true ts vs ds ps → (∀ x ∈ ps, x.block < W.heap.size) → DataW.TrodAll enc P W' 0 (fun b => decide (b < W.heap.size)) true ts vs ds ps
  | [], vs, ds, ps, _, h, _ => by
    obtain ⟨rfl, rfl, rfl⟩ := trodAll_nil h
    exact trodAll_mk0
  | t :: ts, vs, ds, ps, ht, h, hlt => by
    obtain ⟨v0, vs0, d0, ds0, p0, q0, rfl, rfl, rfl, h0, r0⟩ := trodAll_cons h
    have h1 := ht t (by simp)
    exact trodAll_cons_mk (Below.trod hl h1.1 h1.2 h0 hb fun x hx => hlt x (by simp [hx])) (trodAll_below hl hb ts vs0 ds0 q0 (fun t' h' => ht t' (by simp [h'])) r0 fun x hx => hlt x (by simp [hx]))
theorem post_true {f : Func} {s : ChangeSpec} {apart fresh handsOn : Bool} {W W' : World} {args : Array Value} {ds gs : List (DataW H)} {before : List MemPlace} {tb : TypeId}
    (hW : DataW.Whole enc P f.params.toList s.vars apart W args.toList ds gs before) (hl : laidOutB P = true) (hpar : (f.params.toList.all fun t => P.readableRec t && decide (t < P.types.size)) = true)
    (hrt : f.resultTypes = #[tb]) (hbool : P.underlying tb = some .bool) (hv : s.vars = []) (hfn : s.fn H (ds ++ gs) = { results := [.lit (.bool true)], args := ds }) (hb : Below W.heap.size W W') :
    s.post enc P f apart fresh handsOn false W args (.bool true) W' := by
  have hW' := hW
  obtain ⟨p, q, hA, hV, rfl, hfz, hnd⟩ := hW
  rw [hv] at hV
  obtain ⟨rfl, rfl⟩ := trodVars_none hV
  have hpar' : ∀ t ∈ f.params.toList, P.readableRec t = true ∧ t < P.types.size := fun t ht => by
    have := List.all_eq_true.1 hpar t ht
    simpa using this
  refine post_below (pa := p) (pv := []) hW' (fun b sp hd => ?_) ?_ ?_ rfl hb
  · rw [hfn, hrt]
    exact trodAll_cons_mk (shut_bool hbool _) trodAll_mk0
  · rw [hfn]
    exact trodAll_below hl hb _ _ _ _ hpar' hA fun x hx => hW'.lt x (by simp [hx])
  · rw [hfn, hv]; rfl
end
end Go.Proofs.YtmhikcleekfbpaaDoor
