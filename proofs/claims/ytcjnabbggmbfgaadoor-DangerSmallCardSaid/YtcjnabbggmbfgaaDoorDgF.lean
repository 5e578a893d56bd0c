/-
  The walk of the statements' 'awake'.
-/
import Derived.Test.YtcjnabbggmbfgaaDoorDgE
namespace Go.Proofs.YtcjnabbggmbfgaaDoor
open Go.RowKit

theorem sl_blk {w : World} {g n k : Nat} {t : TypeId} {cs : Array Value} (h : Bk w g t cs) (hs : cs.size = n * k) : Sl w w.heap.size k (some ⟨g, 0, none⟩) n cs.toList :=
  ⟨by simpa using hs, fun _ => ⟨g, 0, rfl, h.lt, fun j u hu => by rw [Nat.zero_add, h.cell j]; simpa using hu⟩⟩
theorem sl_lit (w : World) (e : TypeId) (cs : Array Value) (n : Nat) (l : List Nat) (hn : cs.size = n * 1) (h : cs.toList = u8s l) : Sl (w.alloc (.cells cs e)) (w.alloc (.cells cs e)).heap.size 1 (some ⟨w.heap.size, 0, none⟩) n (u8s l) :=
  h ▸ sl_blk (Bk.new w e cs) hn
theorem sl2_of_blks {w : World} {g n : Nat} {t : TypeId} {vs : Array Value} {L : List (List Nat)} (h : Bk w g t vs) (hn : vs.size = n) (hL : L.length = n)
    (hi : ∀ i, i < n → ∃ gi ci t' cs, vs.toList.getD i undef = .slice (some ⟨gi, 0, none⟩) (L.getD i []).length ci ∧ Bk w gi t' cs ∧ cs.toList = u8s (L.getD i [])) : Sl2 w w.heap.size (some ⟨g, 0, none⟩) n L := by
  refine ⟨vs.toList, sl_blk h (by omega), hL, fun i hlt => ?_⟩
  obtain ⟨gi, ci, t', cs, e, hb, hc⟩ := hi i hlt
  refine ⟨_, ci, e, ?_⟩
  rw [← hc]
  exact sl_blk hb (by have := congrArg List.length hc; simp only [u8s, List.length_map, Array.length_toList] at this; omega)
theorem groups_sl2 {w : World} {base : Nat} {v : Value} {R : List (List Nat)} (h : Groups w base v R) : ∃ A c, v = .slice A R.length c ∧ Sl2 w w.heap.size A R.length R := by
  obtain ⟨vs, ho, hl, hi⟩ := h
  obtain ⟨A, c, rfl, _, _, hs⟩ := own_sl ho
  refine ⟨A, c, rfl, vs, hs, rfl, fun i hlt => ?_⟩
  obtain ⟨Ai, ci, e, _, _, si⟩ := own_sl (hi i hlt)
  exact ⟨Ai, ci, e, si⟩

theorem cell_take {cs : Array Value} {n : Nat} {l : List Value} (h : cs.toList.take n = l) (i : Nat) (u : Value) (hl : l[i]? = some u) : cs[i]? = some u := by
  rw [← h, List.getElem?_take] at hl
  split at hl
  · simpa using hl
  · cases hl
theorem aw_code15 (w : World) (ht : TabOK w) : Calls Tryd.prog 18 #[.int .u8 1, .int .u8 5] w fun e w' => e = .returned (.tuple #[.int .u8 3, .int .i64 0]) ∧ w = w' := code_ok 1 5 w (by decide) (by decide) ht
theorem aw_code55 (w : World) (ht : TabOK w) : Calls Tryd.prog 18 #[.int .u8 5, .int .u8 5] w fun e w' => e = .returned (.tuple #[.int .u8 1, .int .i64 0]) ∧ w = w' := code_ok 5 5 w (by decide) (by decide) ht
theorem aw_code01 (w : World) (ht : TabOK w) : Calls Tryd.prog 18 #[.int .u8 0, .int .u8 1] w fun e w' => e = .returned (.tuple #[.int .u8 0, .int .i64 0]) ∧ w = w' := code_ok 0 1 w (by decide) (by decide) ht
theorem aw_code310 (w : World) : Calls Tryd.prog 18 #[.int .u8 3, .int .u8 10] w fun e w' => e = .returned (.tuple #[.int .u8 0, .int .i64 130]) ∧ w = w' := code_bad 3 10 w (by decide)
theorem TabOK.alloc {w : World} (h : TabOK w) (o : Obj) : TabOK (w.alloc o) := h.below ((Below.refl _ _).alloc (Nat.le_refl _) o) h.lt
theorem below_of_alloc {w w' : World} {o : Obj} (h : Below (w.alloc o).heap.size (w.alloc o) w') : Below w.heap.size w w' := ((Below.refl _ _).alloc (Nat.le_refl _) o).trans (h.mono (by simp))
theorem aw_strict (w : World) (ht : TabOK w) : Calls Tryd.prog 15 #[.int .u8 6, .slice (some ⟨w.heap.size, 0, none⟩) 3 3] (w.alloc (.cells #[.int .u8 2, .int .u8 5, .int .u8 8] 5)) fun e w' => e = .returned (.tuple #[.int .u8 1, .int .i64 0]) ∧ Below w.heap.size w w' :=
  (strictest_ok 6 _ 3 3 [2, 5, 8] _ (ht.alloc _) (sl_lit w _ _ 3 [2, 5, 8] rfl rfl) (by decide) (by decide)).mono fun _ _ ⟨h1, h2⟩ => ⟨h1, below_of_alloc h2⟩
theorem aw_clash (w : World) (ht : TabOK w) : Calls Tryd.prog 14 #[.slice (some ⟨w.heap.size, 0, none⟩) 3 3] (w.alloc (.cells #[.int .u8 5, .int .u8 2, .int .u8 5] 5)) fun e w' =>
    ∃ g c cs, e = .returned (.tuple #[.slice (some ⟨g, 0, none⟩) 2 c, .int .i64 0]) ∧ Bk w' g 39 cs ∧ Hid (cs.toList.take 6 = [.int .u8 2, .int .u8 5, .int .u8 2, .int .u8 5, .int .u8 5, .int .u8 1]) ∧ Below w.heap.size w w' :=
  (clashes_ok _ 3 3 [5, 2, 5] _ (ht.alloc _) (sl_lit w _ _ 3 [5, 2, 5] rfl rfl) (by decide)).mono fun _ _ ⟨v, h1, h2, h3⟩ => by
    rw [show Dg.clashes (Dg.pre [5, 2, 5]) = [(2, 5, 2), (5, 5, 1)] by decide] at h2
    obtain ⟨_, ⟨_, h⟩ | ⟨g, cap, cur, rfl, _, hh, _, _, _, ht⟩⟩ := h2
    · simp at h
    · exact ⟨g, cap, cur, h1, hh, ht, below_of_alloc h3⟩
def DivIs (w : World) (R : List (List Nat)) (e : Ending) (w' : World) : Prop :=
  ∃ A c, e = .returned (.tuple #[.slice A R.length c, .int .i64 0]) ∧ Sl2 w' w'.heap.size A R.length R ∧ Below w.heap.size w w'
theorem divIs {w : World} {R : List (List Nat)} {e : Ending} {w' : World} (h : DivRet w R 0 e w') : DivIs w R e w' := by
  obtain ⟨v, h1, h2, h3⟩ := h
  obtain ⟨A, c, rfl, hs⟩ := groups_sl2 h2
  exact ⟨A, c, h1, hs, h3⟩
theorem DivIs.alloc {w : World} {o : Obj} {R : List (List Nat)} {e : Ending} {w' : World} (h : DivIs (w.alloc o) R e w') : DivIs w R e w' := by
  obtain ⟨A, c, h1, hs, h3⟩ := h
  exact ⟨A, c, h1, hs, below_of_alloc h3⟩
theorem aw_div1 (w : World) (ht : TabOK w) : Calls Tryd.prog 11 #[.slice (some ⟨w.heap.size, 0, none⟩) 5 5] (w.alloc (.cells #[.int .u8 9, .int .u8 2, .int .u8 3, .int .u8 4, .int .u8 6] 5)) (DivIs w [[2, 6, 9], [3], [4]]) :=
  (divide_ok _ 5 5 [9, 2, 3, 4, 6] _ (ht.alloc _) (sl_lit w _ _ 5 [9, 2, 3, 4, 6] rfl rfl) (by decide)).mono fun _ _ h => by
    rw [show Dg.divide (Dg.pre [9, 2, 3, 4, 6]) = [[2, 6, 9], [3], [4]] by decide +kernel] at h
    exact (divIs h).alloc
theorem aw_div2 (w : World) (ht : TabOK w) : Calls Tryd.prog 11 #[.slice (some ⟨w.heap.size, 0, none⟩) 3 3] (w.alloc (.cells #[.int .u8 1, .int .u8 0, .int .u8 1] 5)) (DivIs w [[1]]) :=
  (divide_ok _ 3 3 [1, 0, 1] _ (ht.alloc _) (sl_lit w _ _ 3 [1, 0, 1] rfl rfl) (by decide)).mono fun _ _ h => by
    rw [show Dg.divide (Dg.pre [1, 0, 1]) = [[1]] by decide +kernel] at h
    exact (divIs h).alloc
theorem aw_div3 (w : World) (ht : TabOK w) : Calls Tryd.prog 11 #[.slice none 0 0] w (DivIs w []) :=
  (divide_ok _ 0 0 [] _ ht (Sl.nil rfl rfl) (by decide)).mono fun _ _ h => by
    rw [show Dg.divide (Dg.pre []) = [] by decide +kernel] at h
    exact divIs h

theorem below_drewN' {B : Nat} {a w : World} (h : Below B a w) {w' : World} (hm : ∃ m, w' = w.drewN m) : Below B a w' := by
  obtain ⟨m, rfl⟩ := hm; exact below_drewN h m
theorem aw_same3 (w : World) (A : Option Addr) (c : Nat) (hs : Sl2 w w.heap.size A 3 [[2, 6, 9], [3], [4]]) :
    Calls Tryd.prog 20 #[.slice A 3 c, .slice (some { block := w.heap.size + 1 + 1 + 1, off := 0 }) 3 3]
      ((((w.alloc (Obj.cells #[Value.int IntKind.u8 2, Value.int IntKind.u8 6, Value.int IntKind.u8 9] 5)).alloc (Obj.cells #[Value.int IntKind.u8 3] 5)).alloc (Obj.cells #[Value.int IntKind.u8 4] 5)).alloc
        (Obj.cells #[Value.slice (some { block := w.heap.size, off := 0 }) 3 3, Value.slice (some { block := w.heap.size + 1, off := 0 }) 1 1, Value.slice (some { block := w.heap.size + 1 + 1, off := 0 }) 1 1] 22))
      fun e w' => e = .returned (.bool true) ∧ Below w.heap.size w w' := by
  have b1 := Bk.new w 5 #[Value.int IntKind.u8 2, Value.int IntKind.u8 6, Value.int IntKind.u8 9]
  have b2 := Bk.new (w.alloc (Obj.cells #[Value.int IntKind.u8 2, Value.int IntKind.u8 6, Value.int IntKind.u8 9] 5)) 5 #[Value.int IntKind.u8 3]
  have b3 := Bk.new ((w.alloc (Obj.cells #[Value.int IntKind.u8 2, Value.int IntKind.u8 6, Value.int IntKind.u8 9] 5)).alloc (Obj.cells #[Value.int IntKind.u8 3] 5)) 5 #[Value.int IntKind.u8 4]
  have b4 := Bk.new (((w.alloc (Obj.cells #[Value.int IntKind.u8 2, Value.int IntKind.u8 6, Value.int IntKind.u8 9] 5)).alloc (Obj.cells #[Value.int IntKind.u8 3] 5)).alloc (Obj.cells #[Value.int IntKind.u8 4] 5)) 22 #[Value.slice (some { block := w.heap.size, off := 0 }) 3 3, Value.slice (some { block := w.heap.size + 1, off := 0 }) 1 1, Value.slice (some { block := w.heap.size + 1 + 1, off := 0 }) 1 1]
  simp at b2 b3 b4
  have hbel : Below w.heap.size w ((((w.alloc (Obj.cells #[Value.int IntKind.u8 2, Value.int IntKind.u8 6, Value.int IntKind.u8 9] 5)).alloc (Obj.cells #[Value.int IntKind.u8 3] 5)).alloc (Obj.cells #[Value.int IntKind.u8 4] 5)).alloc
        (Obj.cells #[Value.slice (some { block := w.heap.size, off := 0 }) 3 3, Value.slice (some { block := w.heap.size + 1, off := 0 }) 1 1, Value.slice (some { block := w.heap.size + 1 + 1, off := 0 }) 1 1] 22)) :=
    ((((Below.refl _ _).alloc (Nat.le_refl _) _).alloc (by simp) _).alloc (by simp; omega) _).alloc (by simp; omega) _
  refine (same_any A _ 3 3 c 3 [[2, 6, 9], [3], [4]] [[2, 6, 9], [3], [4]] _ ((hs.below hbel).more (by simp; omega)) (sl2_of_blks b4 rfl rfl fun i hi => ?_) (by omega) (by decide) (by decide)).mono fun e w' ⟨h1, h2⟩ => ⟨by rw [h1]; rfl, below_drewN' hbel h2⟩
  match i, hi with
  | 0, _ => exact ⟨_, 3, _, _, rfl, ((b1.alloc _).alloc _).alloc _, rfl⟩
  | 1, _ => exact ⟨_, 1, _, _, rfl, (b2.alloc _).alloc _, rfl⟩
  | 2, _ => exact ⟨_, 1, _, _, rfl, b3.alloc _, rfl⟩
theorem aw_same1 (w : World) (A : Option Addr) (c : Nat) (hs : Sl2 w w.heap.size A 1 [[1]]) :
    Calls Tryd.prog 20 #[.slice A 1 c, .slice (some { block := w.heap.size + 1, off := 0 }) 1 1]
      ((w.alloc (Obj.cells #[Value.int IntKind.u8 1] 5)).alloc (Obj.cells #[Value.slice (some { block := w.heap.size, off := 0 }) 1 1] 22))
      fun e w' => e = .returned (.bool true) ∧ Below w.heap.size w w' := by
  have b1 := Bk.new w 5 #[Value.int IntKind.u8 1]
  have b4 := Bk.new (w.alloc (Obj.cells #[Value.int IntKind.u8 1] 5)) 22 #[Value.slice (some { block := w.heap.size, off := 0 }) 1 1]
  simp at b4
  have hbel : Below w.heap.size w ((w.alloc (Obj.cells #[Value.int IntKind.u8 1] 5)).alloc (Obj.cells #[Value.slice (some { block := w.heap.size, off := 0 }) 1 1] 22)) := ((Below.refl _ _).alloc (Nat.le_refl _) _).alloc (by simp) _
  refine (same_any A _ 1 1 c 1 [[1]] [[1]] _ ((hs.below hbel).more (by simp; omega)) (sl2_of_blks b4 rfl rfl fun i hi => ?_) (by omega) (by decide) (by decide)).mono fun e w' ⟨h1, h2⟩ => ⟨by rw [h1]; rfl, below_drewN' hbel h2⟩
  match i, hi with
  | 0, _ => exact ⟨_, 1, _, _, rfl, b1.alloc _, rfl⟩

set_option maxRecDepth 100000 in
set_option maxHeartbeats 4000000 in
theorem awake_true (w : World) (ht : TabOK w) : Calls Tryd.prog 9 #[] w fun e w' => e = .returned (.bool true) ∧ Below w.heap.size w w' := by
  have HT := Lib.hid ht; clear ht
  go_enter Tryd.func9, Tryd.ntmps9
  go_wp2_with fail
  refine (aw_code15 _ HT.out).mono ?_
  rintro e _ ⟨rfl, rfl⟩
  go_wp2_with fail
  refine (aw_code55 _ HT.out).mono ?_
  rintro e _ ⟨rfl, rfl⟩
  go_wp2_with fail
  refine (aw_code01 _ HT.out).mono ?_
  rintro e _ ⟨rfl, rfl⟩
  go_wp2_with fail
  refine (aw_code310 _).mono ?_
  rintro e _ ⟨rfl, rfl⟩
  go_wp2_with fail
  refine (aw_strict _ HT.out).mono ?_
  rintro e w1 ⟨rfl, hb1⟩
  have HT1 := Lib.hid (HT.out.below hb1 HT.out.lt)
  go_wp2_with fail
  refine (aw_clash _ HT1.out).mono ?_
  rintro e w2 ⟨g, c, cs, rfl, hg, hcs, hb2⟩
  have HT2 := Lib.hid (HT1.out.below hb2 HT1.out.lt)
  go_wp2_with fail
  refine (aw_div1 _ HT2.out).mono ?_
  rintro e w3 ⟨A3, c3, rfl, hs3, hb3⟩
  have HT3 := Lib.hid (HT2.out.below hb3 HT2.out.lt)
  go_wp2_with fail
  refine (aw_div2 _ HT3.out).mono ?_
  rintro e w4 ⟨A4, c4, rfl, hs4, hb4⟩
  have HT4 := Lib.hid (HT3.out.below hb4 HT3.out.lt)
  go_wp2_with fail
  refine (aw_div3 _ HT4.out).mono ?_
  rintro e w5 ⟨A5, c5, rfl, hs5, hb5⟩
  have k5 := ((hg.below hb3 hg.lt).below hb4 (by have := hg.lt; have := hb3.size; omega)).below hb5 (by have := hg.lt; have := hb3.size; have := hb4.size; omega)
  have e0 := (k5.cell 0).trans (cell_take hcs.out 0 (.int .u8 2) rfl)
  have e1 := (k5.cell 1).trans (cell_take hcs.out 1 (.int .u8 5) rfl)
  have e2 := (k5.cell 2).trans (cell_take hcs.out 2 (.int .u8 2) rfl)
  have e3 := (k5.cell 3).trans (cell_take hcs.out 3 (.int .u8 5) rfl)
  have e4 := (k5.cell 4).trans (cell_take hcs.out 4 (.int .u8 5) rfl)
  have e5 := (k5.cell 5).trans (cell_take hcs.out 5 (.int .u8 1) rfl)
  simp only [List.length_nil]
  go_wp2_with fail
  have s3 := ((hs3.below hb4).more hb4.size).below hb5
  refine (aw_same3 w5 A3 c3 (s3.more hb5.size)).mono ?_
  rintro e w6 ⟨rfl, hb6⟩
  clear e0 e1 e2 e3 e4 e5 k5
  have s4 := ((hs4.below hb5).more hb5.size).below hb6
  go_wp2_with fail
  refine (aw_same1 w6 A4 c4 (s4.more hb6.size)).mono ?_
  rintro e w7 ⟨rfl, hb7⟩
  go_wp2
  go_ret
  have z1 := hb1.size; have z2 := hb2.size; have z3 := hb3.size; have z4 := hb4.size; have z5 := hb5.size; have z6 := hb6.size
  exact ⟨rfl, hb1.trans ((hb2.mono (by omega)).trans ((hb3.mono (by omega)).trans ((hb4.mono (by omega)).trans ((hb5.mono (by omega)).trans ((hb6.mono (by omega)).trans (hb7.mono (by omega)))))))⟩
end Go.Proofs.YtcjnabbggmbfgaaDoor
