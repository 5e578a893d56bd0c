/-
  A ship that came in, opened: its lists, and how long they are at the most.
-/
import Derived.Test.YtmhikcleekfbpaaGreatDoorB3
import Derived.SizedLaws
namespace Go.Proofs.YtmhikcleekfbpaaGreatDoor
open Go.ChangeShapes Go.WideShapes Go.ChangeAt Go.RowKit Go.Deep

/-- A reading of no more bytes a piece than the form's own reach. -/
def Sm {H : Type} (d : DataW H) (t : TypeId) : Prop := ∀ n ∈ d.weights Tryz.prog t, n ≤ reachBytes
theorem mem_weightsAll {H : Type} {e : TypeId} {d : DataW H} : ∀ {l : List (DataW H)}, d ∈ l → ∀ n ∈ d.weights Tryz.prog e, n ∈ DataW.weightsAll Tryz.prog e l
  | [], h, _, _ => by cases h
  | x :: l, h, n, hn => by
    simp only [DataW.weightsAll, List.mem_append]
    rcases List.mem_cons.1 h with rfl | h
    · exact .inl hn
    · exact .inr (mem_weightsAll h n hn)
theorem Sm.field {H : Type} {parts : List (DataW H)} {t : TypeId} {fs : Array Field} (h : Sm (.agg parts) t) (ht : Tryz.prog.underlying t = some (.struct fs)) {j : Nat} {f : Field} {d : DataW H} (hf : fs[j]? = some f) (hd : parts[j]? = some d) : Sm d f.type := fun n hn => by
  refine h n ?_
  simp only [DataW.weights, ht]
  exact DataW.weights_mem_each (j := j) (by simp [hf]) hd n hn
theorem Sm.elem {H : Type} {elems spare : List (DataW H)} {t e : TypeId} (h : Sm (.slice elems spare) t) (ht : Tryz.prog.underlying t = some (.slice e)) {d : DataW H} (hd : d ∈ elems) : Sm d e := fun n hn => by
  refine h n ?_
  simp only [DataW.weights, ht, List.mem_cons, List.mem_append]
  exact .inr (.inl (mem_weightsAll hd n hn))
theorem Sm.len {H : Type} {elems spare : List (DataW H)} {t e : TypeId} (h : Sm (.slice elems spare) t) (ht : Tryz.prog.underlying t = some (.slice e)) : elems.length * Tryz.prog.bytesOf e ≤ reachBytes := by
  have := h ((elems.length + spare.length) * Tryz.prog.bytesOf e) (by simp [DataW.weights, ht])
  exact Nat.le_trans (Nat.mul_le_mul_right _ (Nat.le_add_right _ _)) this
def OpensW {α : Type} {H : Type} (enc : TypeId × Value → H) (W : World) (T : Ty α) (t : TypeId) (Q : α → Prop) : Prop :=
  ∀ (fuel : Nat) (cs : List Value) (x : DataW H × List MemPlace), DataW.trod enc Tryz.prog W 0 (fun _ => true) true fuel t cs = some x → Sm x.1 t → ∃ a, T.rd W (Lt W.heap.size) cs a ∧ Q a
section
variable {H : Type} {enc : TypeId × Value → H} {W : World}
theorem opensW_int : OpensW enc W tInt 3 I64 := fun fuel cs x h _ => by
  obtain ⟨n, rfl, _, hw⟩ := DataW.trod_int Tryz.underlying3 h
  exact ⟨n, rfl, bounds_i64 hw⟩
theorem open_slW {α : Type} {T : Ty α} {t e : TypeId} {Q : α → Prop} [Inhabited α] (ht : Tryz.prog.underlying t = some (.slice e)) (hk : Tryz.prog.cellsOf e = T.k) (hel : OpensW enc W T e Q)
    {fuel : Nat} {cs : List Value} {x : DataW H × List MemPlace} (h : DataW.trod enc Tryz.prog W 0 (fun _ => true) true fuel t cs = some x) (hs : Sm x.1 t) :
    ∃ (A : Option Addr) (c : Nat) (l : List α), cs = [.slice A l.length c] ∧ l.length ≤ c ∧ c ≤ maxLen ∧ SlT T W (Lt W.heap.size) A l ∧ (∀ a ∈ l, Q a) ∧ l.length * Tryz.prog.bytesOf e ≤ reachBytes := by
  rcases open_slice ht h with ⟨rfl, _⟩ | ⟨a, len, cap, m, n, D, Pl, rfl, _, hl, hm, hmm, hx, hi⟩
  · exact ⟨none, 0, [], rfl, Nat.le_refl _, by simp, SlT.nil, by simp, by simp⟩
  · simp only [if_true] at hmm
    subst hmm
    rw [hk] at hi
    rw [hx] at hs
    simp only at hs
    obtain ⟨l, hll, hR⟩ := pick_list (default : α) len (fun i x => ∃ cs', (∀ j u, cs'[j]? = some u → W.cell? (a.add (i * T.k + j)) = some u) ∧ T.rd W (Lt W.heap.size) cs' x ∧ Q x) fun i hil => by
      obtain ⟨cs', hc, ht'⟩ := hi i (by omega)
      obtain ⟨_, hcl, hat⟩ := World.cells?_some hc
      obtain ⟨x, hx, hq⟩ := hel n cs' _ ht' (hs.elem ht (List.mem_map.2 ⟨i, by simpa using hil, rfl⟩))
      refine ⟨x, cs', fun j u hu => ?_, hx, hq⟩
      have hj : j < T.k := by rw [← hcl]; exact (List.getElem?_eq_some_iff.1 hu).1
      rw [← add_add, hat j hj, hu]
    have hlen := hs.len ht
    rw [List.length_map, List.length_range] at hlen
    subst hll
    refine ⟨some a, m, l, rfl, by omega, by omega, fun hn => ?_, fun x hx => ?_, hlen⟩
    · have hp : 0 < l.length := by cases l with | nil => exact absurd rfl hn | cons x l => simp
      obtain ⟨b, off, spot⟩ := a
      obtain ⟨cs0, hc0, hrd0, _⟩ := hR 0 hp
      have hl0 := T.len hrd0
      have hk0 := T.pos
      have hcell0 := hc0 0 (cs0[0]'(by omega)) (List.getElem?_eq_getElem _)
      have hspot : spot = none := by simpa [Addr.add] using World.cell?_spot hcell0
      subst hspot
      refine ⟨b, off, rfl, ?_, fun i x hx => ?_⟩
      · rw [add_mk] at hcell0
        exact block_lt_of_cell hcell0
      · have hil := (List.getElem?_eq_some_iff.1 hx).1
        obtain ⟨cs', hc', hrd', _⟩ := hR i hil
        have hxe : l.getD i default = x := by simp [hx]
        rw [hxe] at hrd'
        refine ⟨cs', hrd', fun j u hu => ?_⟩
        have := hc' j u hu
        rw [add_mk] at this
        rw [Nat.add_assoc]
        exact this
    · obtain ⟨i, hil, rfl⟩ := List.getElem_of_mem hx
      obtain ⟨_, _, _, hq⟩ := hR i hil
      simpa [hil] using hq
theorem cellsInts : Tryz.prog.cellsOf 48 = 1 := by kernel_rfl
theorem bytesInt : Tryz.prog.bytesOf 3 = 8 := by kernel_rfl
theorem bytesRow : Tryz.prog.bytesOf 112 = 40 := by kernel_rfl
theorem bytesFrame : Tryz.prog.bytesOf 115 = 40 := by kernel_rfl
theorem bytesTank : Tryz.prog.bytesOf 118 = 64 := by kernel_rfl
theorem opens_ints {fuel : Nat} {cs : List Value} {x : DataW H × List MemPlace} (h : DataW.trod enc Tryz.prog W 0 (fun _ => true) true fuel 48 cs = some x) (hs : Sm x.1 48) :
    ∃ A c l, cs = [.slice A l.length c] ∧ l.length ≤ c ∧ SlT tInt W (Lt W.heap.size) A l ∧ l.length ≤ 17592186043904 := by
  obtain ⟨A, c, l, e, h1, _, h3, _, h5⟩ := open_slW (T := tInt) Tryz.underlying48 cellsI opensW_int h hs
  rw [bytesInt] at h5
  unfold reachBytes at h5
  exact ⟨A, c, l, e, h1, h3, by omega⟩
theorem cells_col : Tryz.prog.cellsOf 50 = 12 := by kernel_rfl
set_option maxRecDepth 100000 in
set_option maxHeartbeats 1000000 in
theorem opensW_col : OpensW enc W tCol 50 (fun c => I64 c.bay ∧ I64 c.row ∧ I64 c.tiers ∧ c.plugs.length ≤ 17592186043904) := fun fuel cs x h hs => by
  obtain ⟨xs, n, _, hx, hl, hxl, hf⟩ := DataW.trod_struct Tryz.underlying50 h
  subst hx
  have hlk : cs.length = 12 := hl.trans cells_col
  match cs, hlk, xs, hxl with
  | [c0, c1, c2, c3, c4, c5, c6, c7, c8, c9, c10, c11], _, [x0, x1, x2, x3, x4, x5, x6, x7, x8, x9, x10, x11], _ =>
    have f0 := hf 0 _ rfl
    have f1 := hf 1 _ rfl
    have f2 := hf 2 _ rfl
    have f3 := hf 3 _ rfl
    have f4 := hf 4 _ rfl
    have f5 := hf 5 _ rfl
    have f6 := hf 6 _ rfl
    have f7 := hf 7 _ rfl
    have f8 := hf 8 _ rfl
    have f9 := hf 9 _ rfl
    have f10 := hf 10 _ rfl
    have f11 := hf 11 _ rfl
    simp [cellsI, cellsB, cellsInts] at f0 f1 f2 f3 f4 f5 f6 f7 f8 f9 f10 f11
    obtain ⟨n0, e0, _, w0⟩ := DataW.trod_int Tryz.underlying3 f0
    have e0 := (List.cons.inj e0).1
    have q0 := bounds_i64 w0
    obtain ⟨n1, e1, _, w1⟩ := DataW.trod_int Tryz.underlying3 f1
    have e1 := (List.cons.inj e1).1
    have q1 := bounds_i64 w1
    obtain ⟨n2, e2, _⟩ := DataW.trod_bool Tryz.underlying4 f2
    have e2 := (List.cons.inj e2).1
    obtain ⟨n3, e3, _, w3⟩ := DataW.trod_int Tryz.underlying3 f3
    have e3 := (List.cons.inj e3).1
    have q3 := bounds_i64 w3
    obtain ⟨n4, e4, _, w4⟩ := DataW.trod_int Tryz.underlying3 f4
    have e4 := (List.cons.inj e4).1
    have q4 := bounds_i64 w4
    obtain ⟨n5, e5, _, w5⟩ := DataW.trod_int Tryz.underlying3 f5
    have e5 := (List.cons.inj e5).1
    have q5 := bounds_i64 w5
    obtain ⟨n6, e6, _, w6⟩ := DataW.trod_int Tryz.underlying3 f6
    have e6 := (List.cons.inj e6).1
    have q6 := bounds_i64 w6
    obtain ⟨n7, e7, _, w7⟩ := DataW.trod_int Tryz.underlying3 f7
    have e7 := (List.cons.inj e7).1
    have q7 := bounds_i64 w7
    obtain ⟨A8, p8, n8, e8, u8, v8, z8⟩ := opens_ints f8 (hs.field Tryz.underlying50 (j := 8) rfl rfl)
    have e8 := (List.cons.inj e8).1
    obtain ⟨n9, e9, _, w9⟩ := DataW.trod_int Tryz.underlying3 f9
    have e9 := (List.cons.inj e9).1
    have q9 := bounds_i64 w9
    obtain ⟨n10, e10, _, w10⟩ := DataW.trod_int Tryz.underlying3 f10
    have e10 := (List.cons.inj e10).1
    have q10 := bounds_i64 w10
    obtain ⟨n11, e11, _, w11⟩ := DataW.trod_int Tryz.underlying3 f11
    have e11 := (List.cons.inj e11).1
    have q11 := bounds_i64 w11
    subst e0 e1 e2 e3 e4 e5 e6 e7 e8 e9 e10 e11
    exact ⟨⟨n0, n1, n2, n3, n4, n5, n6, n7, n8, n9, n10, n11⟩, ⟨A8, p8, rfl, u8, v8⟩, ⟨q0, q1, q3, z8⟩⟩
theorem cells_cov : Tryz.prog.cellsOf 52 = 2 := by kernel_rfl
set_option maxRecDepth 100000 in
set_option maxHeartbeats 1000000 in
theorem opensW_cov : OpensW enc W tCov 52 (fun c => c.rows.length ≤ 17592186043904) := fun fuel cs x h hs => by
  obtain ⟨xs, n, _, hx, hl, hxl, hf⟩ := DataW.trod_struct Tryz.underlying52 h
  subst hx
  have hlk : cs.length = 2 := hl.trans cells_cov
  match cs, hlk, xs, hxl with
  | [c0, c1], _, [x0, x1], _ =>
    have f0 := hf 0 _ rfl
    have f1 := hf 1 _ rfl
    simp [cellsI, cellsInts] at f0 f1
    obtain ⟨n0, e0, _, w0⟩ := DataW.trod_int Tryz.underlying3 f0
    have e0 := (List.cons.inj e0).1
    have q0 := bounds_i64 w0
    obtain ⟨A1, p1, n1, e1, u1, v1, z1⟩ := opens_ints f1 (hs.field Tryz.underlying52 (j := 1) rfl rfl)
    have e1 := (List.cons.inj e1).1
    subst e0 e1
    exact ⟨⟨n0, n1⟩, ⟨A1, p1, rfl, u1, v1⟩, z1⟩
theorem cells_tnk : Tryz.prog.cellsOf 118 = 6 := by kernel_rfl
set_option maxRecDepth 100000 in
set_option maxHeartbeats 1000000 in
theorem opensW_tnk : OpensW enc W tTnk 118 (fun c => c.steps.length ≤ 17592186043904) := fun fuel cs x h hs => by
  obtain ⟨xs, n, _, hx, hl, hxl, hf⟩ := DataW.trod_struct Tryz.underlying118 h
  subst hx
  have hlk : cs.length = 6 := hl.trans cells_tnk
  match cs, hlk, xs, hxl with
  | [c0, c1, c2, c3, c4, c5], _, [x0, x1, x2, x3, x4, x5], _ =>
    have f0 := hf 0 _ rfl
    have f1 := hf 1 _ rfl
    have f2 := hf 2 _ rfl
    have f3 := hf 3 _ rfl
    have f4 := hf 4 _ rfl
    have f5 := hf 5 _ rfl
    simp [cellsI, cellsInts] at f0 f1 f2 f3 f4 f5
    obtain ⟨n0, e0, _, w0⟩ := DataW.trod_int Tryz.underlying3 f0
    have e0 := (List.cons.inj e0).1
    have q0 := bounds_i64 w0
    obtain ⟨n1, e1, _, w1⟩ := DataW.trod_int Tryz.underlying3 f1
    have e1 := (List.cons.inj e1).1
    have q1 := bounds_i64 w1
    obtain ⟨n2, e2, _, w2⟩ := DataW.trod_int Tryz.underlying3 f2
    have e2 := (List.cons.inj e2).1
    have q2 := bounds_i64 w2
    obtain ⟨n3, e3, _, w3⟩ := DataW.trod_int Tryz.underlying3 f3
    have e3 := (List.cons.inj e3).1
    have q3 := bounds_i64 w3
    obtain ⟨n4, e4, _, w4⟩ := DataW.trod_int Tryz.underlying3 f4
    have e4 := (List.cons.inj e4).1
    have q4 := bounds_i64 w4
    obtain ⟨A5, p5, n5, e5, u5, v5, z5⟩ := opens_ints f5 (hs.field Tryz.underlying118 (j := 5) rfl rfl)
    have e5 := (List.cons.inj e5).1
    subst e0 e1 e2 e3 e4 e5
    exact ⟨⟨n0, n1, n2, n3, n4, n5⟩, ⟨A5, p5, rfl, u5, v5⟩, z5⟩
theorem cells_row : Tryz.prog.cellsOf 112 = 5 := by kernel_rfl
set_option maxRecDepth 100000 in
set_option maxHeartbeats 1000000 in
theorem opensW_row : OpensW enc W tRow 112 (fun _ => True) := fun fuel cs x h hs => by
  obtain ⟨xs, n, _, hx, hl, hxl, hf⟩ := DataW.trod_struct Tryz.underlying112 h
  subst hx
  have hlk : cs.length = 5 := hl.trans cells_row
  match cs, hlk, xs, hxl with
  | [c0, c1, c2, c3, c4], _, [x0, x1, x2, x3, x4], _ =>
    have f0 := hf 0 _ rfl
    have f1 := hf 1 _ rfl
    have f2 := hf 2 _ rfl
    have f3 := hf 3 _ rfl
    have f4 := hf 4 _ rfl
    simp [cellsI] at f0 f1 f2 f3 f4
    obtain ⟨n0, e0, _, w0⟩ := DataW.trod_int Tryz.underlying3 f0
    have e0 := (List.cons.inj e0).1
    have q0 := bounds_i64 w0
    obtain ⟨n1, e1, _, w1⟩ := DataW.trod_int Tryz.underlying3 f1
    have e1 := (List.cons.inj e1).1
    have q1 := bounds_i64 w1
    obtain ⟨n2, e2, _, w2⟩ := DataW.trod_int Tryz.underlying3 f2
    have e2 := (List.cons.inj e2).1
    have q2 := bounds_i64 w2
    obtain ⟨n3, e3, _, w3⟩ := DataW.trod_int Tryz.underlying3 f3
    have e3 := (List.cons.inj e3).1
    have q3 := bounds_i64 w3
    obtain ⟨n4, e4, _, w4⟩ := DataW.trod_int Tryz.underlying3 f4
    have e4 := (List.cons.inj e4).1
    have q4 := bounds_i64 w4
    subst e0 e1 e2 e3 e4
    exact ⟨[n0, n1, n2, n3, n4], ⟨rfl, rfl⟩, trivial⟩
theorem cells_frm : Tryz.prog.cellsOf 115 = 5 := by kernel_rfl
set_option maxRecDepth 100000 in
set_option maxHeartbeats 1000000 in
theorem opensW_frm : OpensW enc W tRow 115 (fun _ => True) := fun fuel cs x h hs => by
  obtain ⟨xs, n, _, hx, hl, hxl, hf⟩ := DataW.trod_struct Tryz.underlying115 h
  subst hx
  have hlk : cs.length = 5 := hl.trans cells_frm
  match cs, hlk, xs, hxl with
  | [c0, c1, c2, c3, c4], _, [x0, x1, x2, x3, x4], _ =>
    have f0 := hf 0 _ rfl
    have f1 := hf 1 _ rfl
    have f2 := hf 2 _ rfl
    have f3 := hf 3 _ rfl
    have f4 := hf 4 _ rfl
    simp [cellsI] at f0 f1 f2 f3 f4
    obtain ⟨n0, e0, _, w0⟩ := DataW.trod_int Tryz.underlying3 f0
    have e0 := (List.cons.inj e0).1
    have q0 := bounds_i64 w0
    obtain ⟨n1, e1, _, w1⟩ := DataW.trod_int Tryz.underlying3 f1
    have e1 := (List.cons.inj e1).1
    have q1 := bounds_i64 w1
    obtain ⟨n2, e2, _, w2⟩ := DataW.trod_int Tryz.underlying3 f2
    have e2 := (List.cons.inj e2).1
    have q2 := bounds_i64 w2
    obtain ⟨n3, e3, _, w3⟩ := DataW.trod_int Tryz.underlying3 f3
    have e3 := (List.cons.inj e3).1
    have q3 := bounds_i64 w3
    obtain ⟨n4, e4, _, w4⟩ := DataW.trod_int Tryz.underlying3 f4
    have e4 := (List.cons.inj e4).1
    have q4 := bounds_i64 w4
    subst e0 e1 e2 e3 e4
    exact ⟨[n0, n1, n2, n3, n4], ⟨rfl, rfl⟩, trivial⟩
theorem cells_light : Tryz.prog.cellsOf 25 = 4 := by kernel_rfl
set_option maxRecDepth 100000 in
theorem open4_light {fuel : Nat} {cs : List Value} {x : DataW H × List MemPlace} (h : DataW.trod enc Tryz.prog W 0 (fun _ => true) true fuel 25 cs = some x) :
    ∃ a b c d : Int, cs = [.int .i64 a, .int .i64 b, .int .i64 c, .int .i64 d] := by
  obtain ⟨xs, n, _, hx, hl, hxl, hf⟩ := DataW.trod_struct Tryz.underlying25 h
  have hlk : cs.length = 4 := hl.trans cells_light
  match cs, hlk, xs, hxl with
  | [c0, c1, c2, c3], _, [x0, x1, x2, x3], _ =>
    have f0 := hf 0 _ rfl
    have f1 := hf 1 _ rfl
    have f2 := hf 2 _ rfl
    have f3 := hf 3 _ rfl
    simp [cellsI] at f0 f1 f2 f3
    obtain ⟨n0, e0, _⟩ := DataW.trod_int Tryz.underlying3 f0
    obtain ⟨n1, e1, _⟩ := DataW.trod_int Tryz.underlying3 f1
    obtain ⟨n2, e2, _⟩ := DataW.trod_int Tryz.underlying3 f2
    obtain ⟨n3, e3, _⟩ := DataW.trod_int Tryz.underlying3 f3
    have e0 := (List.cons.inj e0).1
    have e1 := (List.cons.inj e1).1
    have e2 := (List.cons.inj e2).1
    have e3 := (List.cons.inj e3).1
    subst e0 e1 e2 e3
    exact ⟨_, _, _, _, rfl⟩
theorem cells_limits : Tryz.prog.cellsOf 30 = 4 := by kernel_rfl
set_option maxRecDepth 100000 in
theorem open4_limits {fuel : Nat} {cs : List Value} {x : DataW H × List MemPlace} (h : DataW.trod enc Tryz.prog W 0 (fun _ => true) true fuel 30 cs = some x) :
    ∃ a b c d : Int, cs = [.int .i64 a, .int .i64 b, .int .i64 c, .int .i64 d] := by
  obtain ⟨xs, n, _, hx, hl, hxl, hf⟩ := DataW.trod_struct Tryz.underlying30 h
  have hlk : cs.length = 4 := hl.trans cells_limits
  match cs, hlk, xs, hxl with
  | [c0, c1, c2, c3], _, [x0, x1, x2, x3], _ =>
    have f0 := hf 0 _ rfl
    have f1 := hf 1 _ rfl
    have f2 := hf 2 _ rfl
    have f3 := hf 3 _ rfl
    simp [cellsI] at f0 f1 f2 f3
    obtain ⟨n0, e0, _⟩ := DataW.trod_int Tryz.underlying3 f0
    obtain ⟨n1, e1, _⟩ := DataW.trod_int Tryz.underlying3 f1
    obtain ⟨n2, e2, _⟩ := DataW.trod_int Tryz.underlying3 f2
    obtain ⟨n3, e3, _⟩ := DataW.trod_int Tryz.underlying3 f3
    have e0 := (List.cons.inj e0).1
    have e1 := (List.cons.inj e1).1
    have e2 := (List.cons.inj e2).1
    have e3 := (List.cons.inj e3).1
    subst e0 e1 e2 e3
    exact ⟨_, _, _, _, rfl⟩
theorem cells_ship : Tryz.prog.cellsOf 32 = 13 := by kernel_rfl
theorem cells_slColumn : Tryz.prog.cellsOf 22 = 1 := by kernel_rfl
theorem cells_slCover : Tryz.prog.cellsOf 23 = 1 := by kernel_rfl
theorem cells_slRow : Tryz.prog.cellsOf 26 = 1 := by kernel_rfl
theorem cells_slFrame : Tryz.prog.cellsOf 27 = 1 := by kernel_rfl
theorem cells_slTank : Tryz.prog.cellsOf 28 = 1 := by kernel_rfl
/-- How long the lists of a ship that came in are at the most. -/
structure InS (s : Shp) : Prop where
  ints : Ints s
  plugs : ∀ x ∈ s.cols, x.plugs.length ≤ 17592186043904
  hrows : ∀ x ∈ s.covs, x.rows.length ≤ 17592186043904
  steps : ∀ x ∈ s.tanks, x.steps.length ≤ 17592186043904
  rows : s.rows.length ≤ 3518437208780
  frames : s.frames.length ≤ 3518437208780
  tanks : s.tanks.length ≤ 2199023255488
set_option maxRecDepth 100000 in
set_option maxHeartbeats 4000000 in
theorem open_ship {base : Nat} {r : Reach} {v : Value} {d : DataW H} {p : List MemPlace} (hv : Value.okWide Tryz.prog W r base 32 v) (h : DataW.Trod enc Tryz.prog W 0 (fun _ => true) true 32 v d p) (hs : Sm d 32) :
    ∃ s h, v = .agg (shpA s h) ∧ ShpR W (Lt W.heap.size) s h ∧ InS s := by
  obtain ⟨cs, rfl, hsz⟩ := okWide_struct Tryz.underlying32 hv
  obtain ⟨fuel, hf⟩ := h
  obtain ⟨xs, n, _, hx, hl, hxl, hf⟩ := DataW.trod_struct Tryz.underlying32 hf
  have hd := congrArg Prod.fst hx
  simp only at hd
  rw [hd] at hs
  clear hx hd
  rw [cells_ship] at hsz
  obtain ⟨cs⟩ := cs
  match cs, hsz, xs, hxl with
  | [c0, c1, c2, c3, c4, c5, c6, c7, c8, c9, c10, c11, c12], _, [x0, x1, x2, x3, x4, x5, x6], _ =>
    have f0 := hf 0 _ rfl
    have f1 := hf 1 _ rfl
    have f2 := hf 2 _ rfl
    have f3 := hf 3 _ rfl
    have f4 := hf 4 _ rfl
    have f5 := hf 5 _ rfl
    have f6 := hf 6 _ rfl
    simp [Value.cells, cells_slColumn, cells_slCover, cells_slRow, cells_slFrame, cells_slTank, cells_light, cells_limits] at f0 f1 f2 f3 f4 f5 f6
    obtain ⟨A0, p0, n0, e0, h0, m0, s0, k0, z0⟩ := open_slW (T := tCol) Tryz.underlying22 cells_col opensW_col f0 (hs.field Tryz.underlying32 (j := 0) rfl rfl)
    have e0 := (List.cons.inj e0).1
    obtain ⟨A1, p1, n1, e1, h1, m1, s1, k1, z1⟩ := open_slW (T := tCov) Tryz.underlying23 cells_cov opensW_cov f1 (hs.field Tryz.underlying32 (j := 1) rfl rfl)
    have e1 := (List.cons.inj e1).1
    obtain ⟨A3, p3, n3, e3, h3, m3, s3, k3, z3⟩ := open_slW (T := tRow) Tryz.underlying26 cells_row opensW_row f3 (hs.field Tryz.underlying32 (j := 3) rfl rfl)
    have e3 := (List.cons.inj e3).1
    obtain ⟨A4, p4, n4, e4, h4, m4, s4, k4, z4⟩ := open_slW (T := tRow) Tryz.underlying27 cells_frm opensW_frm f4 (hs.field Tryz.underlying32 (j := 4) rfl rfl)
    have e4 := (List.cons.inj e4).1
    obtain ⟨A5, p5, n5, e5, h5, m5, s5, k5, z5⟩ := open_slW (T := tTnk) Tryz.underlying28 cells_tnk opensW_tnk f5 (hs.field Tryz.underlying32 (j := 5) rfl rfl)
    have e5 := (List.cons.inj e5).1
    obtain ⟨l0, l1, l2, l3, e2⟩ := open4_light f2
    obtain ⟨m0, m1', m2, m3', e6⟩ := open4_limits f6
    simp only [List.cons.injEq, and_true] at e2 e6
    obtain ⟨rfl, rfl, rfl, rfl⟩ := e2
    obtain ⟨rfl, rfl, rfl, rfl⟩ := e6
    subst e0 e1 e3 e4 e5
    rw [bytesRow] at z3
    rw [bytesFrame] at z4
    rw [bytesTank] at z5
    unfold reachBytes at z3 z4 z5
    exact ⟨⟨n0, n1, l0, l1, l2, l3, n3, n4, n5, m0, m1', m2, m3'⟩, ⟨A0, p0, A1, p1, A3, p3, A4, p4, A5, p5⟩, rfl, ⟨h0, h1, h3, h4, h5, by assumption, by assumption, by assumption, by assumption, by assumption, s0, s1, s3, s4, s5⟩, ⟨⟨fun c hc => ⟨(k0 c hc).1, (k0 c hc).2.1, (k0 c hc).2.2.1⟩⟩, fun c hc => (k0 c hc).2.2.2, k1, k5, by show n3.length ≤ _; omega, by show n4.length ≤ _; omega, by show n5.length ≤ _; omega⟩⟩
end
end Go.Proofs.YtmhikcleekfbpaaGreatDoor
