/-
  Walks of the law file of chapter 14: at, Same, the examples of the chapter.
-/
import Derived.Test.YtmhikcleekfbpaaDoorSgI
import Derived.Test.YtmhikcleekfbpaaDoorSlTs
namespace Go.Proofs.YtmhikcleekfbpaaDoor
open Go.RowKit

/-- A slice and an error that operation i has laid. -/
def As.tpT {α : Type} (T : Ty α) (i : Nat) (l : List α) (er : Nat) : As := ⟨[i], fun x w => ∃ A c, x i = .tuple #[.slice A l.length c, .int .i64 (er : Nat)] ∧ l.length ≤ c ∧ SlT T w (Lt w.heap.size) A l, fun h ⟨A, c, e, r⟩ => ⟨A, c, (h i (by simp)).symm.trans e, r⟩, fun hb ⟨A, c, e, h1, h2⟩ => ⟨A, c, e, h1, h2.on hb⟩⟩
theorem info_stw14 : (Tryd.prog.info? 44).map (·.size) = some 4 := by kernel_rfl
set_option maxHeartbeats 1000000 in
theorem at14 (i a b h : Int) (w : World) : Calls Tryd.prog 5 #[.int .i64 i, .int .i64 a, .int .i64 b, .int .u8 h] w (Ret w (.agg #[.int .i64 i, .int .i64 a, .int .i64 b, .int .u8 h])) := by
  go_enter Tryd.func5, Tryd.ntmps5
  go_wp2
  exact bodyPost_ret (results_row1 rfl _ _ w.heap.size 44 #[.int .i64 i, .int .i64 a, .int .i64 b, .int .u8 h] _ rfl (Bk.new w _ _) Tryd.underlying44 rfl info_stw14) rfl ⟨rfl, ba1 w _⟩
theorem run_neq_cl (a b : Int) (c : Nat) (W : World) : (binOp .neq 58 (.agg #[.int .i64 a, .int .i64 b, .int .u8 (c : Nat)]) (.agg #[.int .i64 a, .int .i64 b, .int .u8 (c : Nat)])).run Tryd.prog W = .ok (.bool false) W := by
  simp [go_sem]
theorem SlT.cl {w : World} {S : Nat → Prop} {A : Option Addr} {l : List Cl} (h : SlT tCl w S A l) {j : Nat} (hj : j < l.length) :
    ∃ b off, A = some ⟨b, off, none⟩ ∧ S b ∧ w.cell? ⟨b, off + j * 3, none⟩ = some (.int .i64 (l.getD j default).a) ∧ w.cell? ⟨b, off + j * 3 + 1, none⟩ = some (.int .i64 (l.getD j default).b) ∧ w.cell? ⟨b, off + j * 3 + 2, none⟩ = some (.int .u8 ((l.getD j default).code : Nat)) := by
  obtain ⟨b, off, cs, e, hb, h1, h2⟩ := h.at_ hj default
  rw [show cs = _ from h1] at h2
  exact ⟨b, off, e, hb, h2 0 _ rfl, h2 1 _ rfl, h2 2 _ rfl⟩
set_option maxRecDepth 100000 in
set_option maxHeartbeats 4000000 in
theorem sameCl_any (A1 A2 : Option Addr) (c1 c2 : Nat) (l : List Cl) (w : World) (h1 : SlT tCl w (Lt w.heap.size) A1 l) (h2 : SlT tCl w (Lt w.heap.size) A2 l) (hl : l.length ≤ 1000000) :
    Calls Tryd.prog 14 #[.slice A1 l.length c1, .slice A2 l.length c2] w (Ret w (.bool true)) := by
  have HS1 := Lib.hid h1
  have HS2 := Lib.hid h2
  clear h1 h2
  have hb0 : ((l.length : Int) != (l.length : Int)) = false := by simp
  go_enter Tryd.func14, Tryd.ntmps14
  go_wp2_with fail
  go_loopw [5] (fun i wr => ∃ k : Nat, k ≤ l.length ∧ i = .int .i64 k ∧ Hid (Below w.heap.size w wr)) (fun i _ => l.length - (intOf i).toNat)
  case atStart => exact ⟨0, Nat.zero_le _, rfl, Lib.hid (Below.refl _ _)⟩
  case round =>
    obtain ⟨k, hk, rfl, HB⟩ := hrel
    obtain ⟨V, rfl⟩ : ∃ V, V = wr := ⟨_, rfl⟩
    by_cases hlt : k < l.length
    · obtain ⟨b1, o1, rfl, _, p0, p1, p2⟩ := (HS1.out.on HB.out).cl hlt
      obtain ⟨b2, o2, rfl, _, q0, q1, q2⟩ := (HS2.out.on HB.out).cl hlt
      have i0 : (0 : Int) ≤ (k : Int) := by omega
      have i1 : (k : Int) < (l.length : Int) := by omega
      generalize l.getD k default = x at *
      obtain ⟨y0, y1, y2⟩ := x
      simp only at p0 p1 p2 q0 q1 q2
      have hrun := run_neq_cl y0 y1 y2
      go_step
      go_step
      go_upto_region 6 with fail
      have a0 : ∀ gp : Gr V, gp.W.cell? ⟨b1, o1 + k * 3, none⟩ = some (.int .i64 y0) := Gr.cell p0
      have a1 : ∀ gp : Gr V, gp.W.cell? ⟨b1, o1 + k * 3 + 1, none⟩ = some (.int .i64 y1) := Gr.cell p1
      have a2 : ∀ gp : Gr V, gp.W.cell? ⟨b1, o1 + k * 3 + 2, none⟩ = some (.int .u8 (y2 : Nat)) := Gr.cell p2
      have d0 : ∀ gp : Gr V, gp.W.cell? ⟨b2, o2 + k * 3, none⟩ = some (.int .i64 y0) := Gr.cell q0
      have d1 : ∀ gp : Gr V, gp.W.cell? ⟨b2, o2 + k * 3 + 1, none⟩ = some (.int .i64 y1) := Gr.cell q1
      have d2 : ∀ gp : Gr V, gp.W.cell? ⟨b2, o2 + k * 3 + 2, none⟩ = some (.int .u8 (y2 : Nat)) := Gr.cell q2
      refine wp_region_gr (by kernel_rfl) (by kernel_rfl) ?_
      repeat (go_big_quiet_step (fail))
      refine wpQuiet_nil ?_
      rintro Y ⟨⟨_, hbY⟩, rfl⟩
      have HN := Lib.hid (HB.out.trans (hbY.mono HB.out.size))
      clear hbY HB hrun p0 p1 p2 q0 q1 q2
      clear a0 a1 a2 d0 d1 d2
      go_wp2_with fail
      go_roundw
      case rel => first | exact ⟨k + 1, by omega, by go_num, HN⟩ | ((repeat apply Exists.intro); (first | exact ⟨⟨k + 1, by omega, by go_num, HN⟩, rfl⟩ | exact ⟨(show k + 1 ≤ l.length from hlt), by go_num, HN⟩))
      case measure => simp [intOf]; omega
    · obtain rfl : k = l.length := by omega
      go_wp2_with fail
      go_ret
      exact ⟨rfl, HB.out⟩
def b14 : List Bx := [⟨1, ⟨#[]⟩, 40, false, 0, 0, 0, 1, false⟩, ⟨2, ⟨#[]⟩, 40, false, 0, 0, 0, 3, false⟩, ⟨3, ⟨#[]⟩, 40, false, 0, 0, 0, 3, false⟩, ⟨4, ⟨#[]⟩, 40, false, 0, 0, 0, 4, false⟩]
@[reducible] def b14A : Array Value := #[.int .i64 1, .string ⟨#[]⟩, .int .u8 40, .bool false, .int .i64 0, .int .i64 0, .int .i64 0, .int .u8 1, .bool false, .int .i64 2, .string ⟨#[]⟩, .int .u8 40, .bool false, .int .i64 0, .int .i64 0, .int .i64 0, .int .u8 3, .bool false, .int .i64 3, .string ⟨#[]⟩, .int .u8 40, .bool false, .int .i64 0, .int .i64 0, .int .i64 0, .int .u8 3, .bool false, .int .i64 4, .string ⟨#[]⟩, .int .u8 40, .bool false, .int .i64 0, .int .i64 0, .int .i64 0, .int .u8 4, .bool false]
theorem ex14_0 : dErr exShp b14 [⟨1, ⟨0, 0, 0⟩⟩, ⟨2, ⟨2, 0, 0⟩⟩] = 0 ∧ clashF exShp b14 [⟨1, ⟨0, 0, 0⟩⟩, ⟨2, ⟨2, 0, 0⟩⟩] = [⟨1, 2, 3⟩] := by decide +kernel
theorem ex14_1 : dErr exShp b14 [⟨3, ⟨0, 0, 0⟩⟩, ⟨4, ⟨2, 0, 0⟩⟩] = 0 ∧ clashF exShp b14 [⟨3, ⟨0, 0, 0⟩⟩, ⟨4, ⟨2, 0, 0⟩⟩] = [] := by decide +kernel
theorem ex14_2 : dErr exShp b14 [⟨3, ⟨0, 0, 0⟩⟩, ⟨4, ⟨0, 1, 0⟩⟩] = 0 ∧ clashF exShp b14 [⟨3, ⟨0, 0, 0⟩⟩, ⟨4, ⟨0, 1, 0⟩⟩] = [⟨3, 4, 1⟩] := by decide +kernel
theorem ex14_n : ∀ k : Fin 4, nearF exShp ⟨0, 0, 0⟩ ⟨0, 1, 0⟩ k.val = decide (0 < k.val) ∧ nearF exShp ⟨2, 0, 1⟩ ⟨2, 0, 2⟩ k.val = decide (1 < k.val) := by decide +kernel
theorem Bk.at14 {w : World} {g : Nat} (t : TypeId) (cs : Array Value) (h : w.heap.size = g) : Bk (w.alloc (.cells cs t)) g t cs := by subst h; exact Bk.new w t cs
theorem flat_bxs14 {w : World} {S : Nat → Prop} : ∀ l : List Bx, Flat tBx w S (l.flatMap bxL) l
  | [] => rfl
  | x :: l => ⟨_, _, by rw [List.flatMap_cons], rfl, flat_bxs14 l⟩
theorem flat_stws14 {w : World} {S : Nat → Prop} : ∀ l : List Stw, Flat tStw w S (l.flatMap stwL) l
  | [] => rfl
  | x :: l => ⟨_, _, by rw [List.flatMap_cons], rfl, flat_stws14 l⟩
/-- What Clashes returns where the state is right. -/
def ClOK (w : World) (R : List Cl) (e : Ending) (w' : World) : Prop := Below w.heap.size w w' ∧ ∃ A c, e = .returned (.tuple #[.slice A R.length c, .int .i64 (0 : Nat)]) ∧ R.length ≤ c ∧ SlT tCl w' (Lt w'.heap.size) A R
theorem clashes_ok (h : Hd) (gb gl : Nat) (L : List Stw) (cs : Array Value) (R : List Cl) (V : World) (hL : L.length = 2) (hcs : cs.toList = L.flatMap stwL) (hsh : ShpR V (Lt V.heap.size) exShp h) (hb : Bk V gb 41 b14A) (hl : Bk V gl 44 cs) (hn : NamesOK V) (ht : TabOK V) (htt : ∀ x ∈ L, x.slot.tier ≤ 9223372036854775807)
    (hd : dErr exShp b14 L = 0) (hc : clashF exShp b14 L = R) :
    Calls Tryd.prog 12 #[.agg (shpA exShp h), .slice (some ⟨gb, 0, none⟩) 4 4, .slice (some ⟨gl, 0, none⟩) 2 2] V (ClOK V R) := by
  have := clashes_any exShp h (some ⟨gb, 0, none⟩) 4 b14 (some ⟨gl, 0, none⟩) 2 L V hsh ex_few ex_ints ex_len (sl_flat hb (flat_bxs14 b14) hb.lt) (by decide) (sl_flat hl (by rw [hcs]; exact flat_stws14 L) hl.lt) (by omega) (by omega) htt hn ex_rows ht
  rw [hL] at this
  refine this.mono ?_
  rintro e w' ⟨hb, v, rfl, ho⟩
  rw [hd, hc] at ho
  simp only [if_true] at ho
  obtain ⟨A, c, rfl, hc2, _, hs⟩ := ho.sl
  exact ⟨hb, A, c, by rw [hd], hc2, hs⟩
set_option maxRecDepth 100000 in
set_option maxHeartbeats 8000000 in
theorem awake14_true (w : World) (ht : TabOK w) (hn : NamesOK w) : Calls Tryd.prog 9 #[] w (TrueRet w) := by
  have HT := Lib.hid ht
  have HN := Lib.hid hn
  clear ht hn
  go_enter Tryd.func9, Tryd.ntmps9
  go_wp2_with fail
  refine (example_any w).mono ?_
  rintro e w1 ⟨h, rfl, hrd, hb1⟩
  simp only
  have hb2 := ba1 w1 (.cells (shpA exShp h) 32)
  have KE := Lib.hid (Bk.new w1 32 (shpA exShp h))
  have HS := Lib.hid (hrd.on hb2)
  have HB := Lib.hid (hb1.trans (hb2.mono hb1.size))
  have KN : Hid (∀ V : World, ShpR V (Lt V.heap.size) exShp h → ∀ (a b : Slt) (code : Nat), code < 256 → Calls Tryd.prog 10 #[.agg (shpA exShp h), .agg (sltL a).toArray, .agg (sltL b).toArray, .int .u8 (code : Nat)] V (Ret V (.bool (nearF exShp a b code)))) := Lib.hid fun V hV a b code hc => near_any exShp h a b code V hV ex_len ex_rows hc
  have KC : Hid (∀ (V : World) (gb gl : Nat) (L : List Stw) (cs : Array Value) (R : List Cl), L.length = 2 → cs.toList = L.flatMap stwL → ShpR V (Lt V.heap.size) exShp h → Bk V gb 41 b14A → Bk V gl 44 cs → NamesOK V → TabOK V → (∀ x ∈ L, x.slot.tier ≤ 9223372036854775807) → dErr exShp b14 L = 0 → clashF exShp b14 L = R →
    Calls Tryd.prog 12 #[.agg (shpA exShp h), .slice (some ⟨gb, 0, none⟩) 4 4, .slice (some ⟨gl, 0, none⟩) 2 2] V (ClOK V R)) := Lib.hid fun V gb gl L cs R h1 h2 h3 h4 h5 h6 h7 h8 h9 h10 => clashes_ok h gb gl L cs R V h1 h2 h3 h4 h5 h6 h7 h8 h9 h10
  have X0 := Lib.hid ex14_0
  have X1 := Lib.hid ex14_1
  have X2 := Lib.hid ex14_2
  have XN := Lib.hid ex14_n
  clear hrd hb1 hb2
  generalize exShp = s at *
  unfold shpA at *
  go_upto_region 2 with fail
  generalize w1.heap.size = g at *
  generalize (w1.alloc _) = V at *
  clear w1
  have K0 := Lib.hid ((((Bk.at14 (w := V) (g := V.heap.size) 37 #[.int .i64 0, .int .i64 0, .int .u8 0] rfl).alloc (.cells #[.int .i64 0, .int .i64 1, .int .u8 0] 37)).alloc (.cells #[.int .i64 2, .int .i64 0, .int .u8 1] 37)).alloc (.cells #[.int .i64 2, .int .i64 0, .int .u8 2] 37))
  have K1 := Lib.hid (((Bk.at14 (w := (V.alloc (.cells #[.int .i64 0, .int .i64 0, .int .u8 0] 37))) (g := V.heap.size + 1) 37 #[.int .i64 0, .int .i64 1, .int .u8 0] (by simp)).alloc (.cells #[.int .i64 2, .int .i64 0, .int .u8 1] 37)).alloc (.cells #[.int .i64 2, .int .i64 0, .int .u8 2] 37))
  have K2 := Lib.hid ((Bk.at14 (w := ((V.alloc (.cells #[.int .i64 0, .int .i64 0, .int .u8 0] 37)).alloc (.cells #[.int .i64 0, .int .i64 1, .int .u8 0] 37))) (g := V.heap.size + 1 + 1) 37 #[.int .i64 2, .int .i64 0, .int .u8 1] (by simp)).alloc (.cells #[.int .i64 2, .int .i64 0, .int .u8 2] 37))
  have K3 := Lib.hid (Bk.at14 (w := (((V.alloc (.cells #[.int .i64 0, .int .i64 0, .int .u8 0] 37)).alloc (.cells #[.int .i64 0, .int .i64 1, .int .u8 0] 37)).alloc (.cells #[.int .i64 2, .int .i64 0, .int .u8 1] 37))) (g := V.heap.size + 1 + 1 + 1) 37 #[.int .i64 2, .int .i64 0, .int .u8 2] (by simp))
  have hb4 := ba4 V (.cells #[.int .i64 0, .int .i64 0, .int .u8 0] 37) (.cells #[.int .i64 0, .int .i64 1, .int .u8 0] 37) (.cells #[.int .i64 2, .int .i64 0, .int .u8 1] 37) (.cells #[.int .i64 2, .int .i64 0, .int .u8 2] 37)
  have KE4 := Lib.hid (KE.out.below hb4 KE.out.lt)
  have HS4 := Lib.hid (HS.out.on hb4)
  have HB4 := Lib.hid (HB.out.trans (hb4.mono HB.out.size))
  clear hb4 KE HS HB
  go_upto_region 4 with fail
  generalize V.heap.size + 1 + 1 + 1 = g4 at *
  generalize V.heap.size + 1 + 1 = g3 at *
  generalize V.heap.size + 1 = g2 at *
  generalize V.heap.size = g1 at *
  generalize ((((V.alloc _).alloc _).alloc _).alloc _) = Z at *
  clear V
  go_wp2_with fail
  go_loopw [6] (fun i wr => ∃ k : Nat, k ≤ 4 ∧ i = .int .u8 (k : Nat) ∧ Hid (Below Z.heap.size Z wr)) (fun i _ => 4 - (intOf i).toNat)
  case atStart => exact ⟨0, by omega, rfl, Lib.hid (Below.refl _ _)⟩
  case round =>
    obtain ⟨k, hk, rfl, HBZ⟩ := hrel
    obtain ⟨U, rfl⟩ : ∃ V, V = wr := ⟨_, rfl⟩
    have HSU := Lib.hid (HS4.out.on HBZ.out)
    have SC := KE4.out.below HBZ.out KE4.out.lt
    have SK0 := K0.out.below HBZ.out K0.out.lt
    have SK1 := K1.out.below HBZ.out K1.out.lt
    have e0 : U.cell? ⟨g, 0, none⟩ = some (Value.slice h.A1 s.cols.length h.c1) := SC.cell 0
    have e1 : U.cell? ⟨g, 1, none⟩ = some (Value.slice h.A2 s.covs.length h.c2) := SC.cell 1
    have e2 : U.cell? ⟨g, 2, none⟩ = some (.int .i64 s.l0) := SC.cell 2
    have e3 : U.cell? ⟨g, 3, none⟩ = some (.int .i64 s.l1) := SC.cell 3
    have e4 : U.cell? ⟨g, 4, none⟩ = some (.int .i64 s.l2) := SC.cell 4
    have e5 : U.cell? ⟨g, 5, none⟩ = some (.int .i64 s.l3) := SC.cell 5
    have e6 : U.cell? ⟨g, 6, none⟩ = some (Value.slice h.A3 s.rows.length h.c3) := SC.cell 6
    have e7 : U.cell? ⟨g, 7, none⟩ = some (Value.slice h.A4 s.frames.length h.c4) := SC.cell 7
    have e8 : U.cell? ⟨g, 8, none⟩ = some (Value.slice h.A5 s.tanks.length h.c5) := SC.cell 8
    have e9 : U.cell? ⟨g, 9, none⟩ = some (.int .i64 s.m0) := SC.cell 9
    have e10 : U.cell? ⟨g, 10, none⟩ = some (.int .i64 s.m1) := SC.cell 10
    have e11 : U.cell? ⟨g, 11, none⟩ = some (.int .i64 s.m2) := SC.cell 11
    have e12 : U.cell? ⟨g, 12, none⟩ = some (.int .i64 s.m3) := SC.cell 12
    have x0 : U.cell? ⟨g1, 0, none⟩ = some (.int .i64 0) := SK0.cell 0
    have x1 : U.cell? ⟨g1, 1, none⟩ = some (.int .i64 0) := SK0.cell 1
    have x2 : U.cell? ⟨g1, 2, none⟩ = some (.int .u8 0) := SK0.cell 2
    have y0 : U.cell? ⟨g2, 0, none⟩ = some (.int .i64 0) := SK1.cell 0
    have y1 : U.cell? ⟨g2, 1, none⟩ = some (.int .i64 1) := SK1.cell 1
    have y2 : U.cell? ⟨g2, 2, none⟩ = some (.int .u8 0) := SK1.cell 2
    by_cases hk4 : k = 4
    · subst hk4
      have HB5 := Lib.hid (HB4.out.trans (HBZ.out.mono HB4.out.size))
      have KB := Lib.hid (Bk.new U 41 b14A)
      have hb6 := ba1 U (.cells b14A 41)
      have HBV := Lib.hid (HB5.out.trans (hb6.mono HB5.out.size))
      have HSV := Lib.hid (HSU.out.on hb6)
      have HNV := Lib.hid (HN.out.below HBV.out HN.out.lt)
      have HTV := Lib.hid (HT.out.below HBV.out HT.out.lt)
      have HEV := Lib.hid (SC.below hb6 SC.lt)
      clear hb6 HB5 SC SK0 SK1 e0 e1 e2 e3 e4 e5 e6 e7 e8 e9 e10 e11 e12 x0 x1 x2 y0 y1 y2 HSU K0 K1 K2 K3 KE4 HS4 HB4 HBZ KN XN HT HN
      go_upto_region 10 with fail
      generalize U.heap.size = gb at *
      generalize (U.alloc _) = V0 at *
      have HKB := KB
      clear KB
      try clear U
      try clear Z
      have SC := HEV.out
      have e0 : V0.cell? ⟨g, 0, none⟩ = some (Value.slice h.A1 s.cols.length h.c1) := SC.cell 0
      have e1 : V0.cell? ⟨g, 1, none⟩ = some (Value.slice h.A2 s.covs.length h.c2) := SC.cell 1
      have e2 : V0.cell? ⟨g, 2, none⟩ = some (.int .i64 s.l0) := SC.cell 2
      have e3 : V0.cell? ⟨g, 3, none⟩ = some (.int .i64 s.l1) := SC.cell 3
      have e4 : V0.cell? ⟨g, 4, none⟩ = some (.int .i64 s.l2) := SC.cell 4
      have e5 : V0.cell? ⟨g, 5, none⟩ = some (.int .i64 s.l3) := SC.cell 5
      have e6 : V0.cell? ⟨g, 6, none⟩ = some (Value.slice h.A3 s.rows.length h.c3) := SC.cell 6
      have e7 : V0.cell? ⟨g, 7, none⟩ = some (Value.slice h.A4 s.frames.length h.c4) := SC.cell 7
      have e8 : V0.cell? ⟨g, 8, none⟩ = some (Value.slice h.A5 s.tanks.length h.c5) := SC.cell 8
      have e9 : V0.cell? ⟨g, 9, none⟩ = some (.int .i64 s.m0) := SC.cell 9
      have e10 : V0.cell? ⟨g, 10, none⟩ = some (.int .i64 s.m1) := SC.cell 10
      have e11 : V0.cell? ⟨g, 11, none⟩ = some (.int .i64 s.m2) := SC.cell 11
      have e12 : V0.cell? ⟨g, 12, none⟩ = some (.int .i64 s.m3) := SC.cell 12
      clear SC
      refine wp_region_ogG [.val 0 (.agg #[Value.slice h.A1 s.cols.length h.c1, Value.slice h.A2 s.covs.length h.c2, .int .i64 s.l0, .int .i64 s.l1, .int .i64 s.l2, .int .i64 s.l3, Value.slice h.A3 s.rows.length h.c3, Value.slice h.A4 s.frames.length h.c4, Value.slice h.A5 s.tanks.length h.c5, .int .i64 s.m0, .int .i64 s.m1, .int .i64 s.m2, .int .i64 s.m3]),
        .val 1 (.slice (some ⟨gb, 0, none⟩) 4 4),
        .val 2 (.agg #[.int .i64 1, .int .i64 0, .int .i64 0, .int .u8 0]),
        .val 3 (.agg #[.int .i64 2, .int .i64 2, .int .i64 0, .int .u8 0]),
        .sl 4 2 44 #[.int .i64 1, .int .i64 0, .int .i64 0, .int .u8 0, .int .i64 2, .int .i64 2, .int .i64 0, .int .u8 0] V0.heap.size,
        .tpT tCl 5 [⟨1, 2, 3⟩] 0,
        .tpT tCl 6 [⟨1, 2, 3⟩] 0,
        .slT tCl 7 [⟨1, 2, 3⟩],
        .val 8 (.int .i64 0),
        .slT tCl 9 [⟨1, 2, 3⟩],
        .val 10 (.int .i64 0)]
        [[], [], [], [], [2, 3], [0, 1, 4], [5], [6], [6], [7], [8]] [9, 10] (Cb V0) (by kernel_rfl) (by kernel_rfl) (Cb.drew V0) ⟨?_, ?_, ?_, ?_, ?_, ?_, ?_, ?_, ?_, ?_, ?_, trivial⟩ ?_
      case refine_1 =>
        refine StepG.of rfl ?_
        refine StepL.up fun x V hV hu K Q hK => ?_
        have fe0 := hV.cell e0
        have fe1 := hV.cell e1
        have fe2 := hV.cell e2
        have fe3 := hV.cell e3
        have fe4 := hV.cell e4
        have fe5 := hV.cell e5
        have fe6 := hV.cell e6
        have fe7 := hV.cell e7
        have fe8 := hV.cell e8
        have fe9 := hV.cell e9
        have fe10 := hV.cell e10
        have fe11 := hV.cell e11
        have fe12 := hV.cell e12
        clear hu
        rw [owp_eq]
        go_big_op
        exact hK _ _ (Below.refl _ _) rfl
      case refine_2 =>
        refine StepG.of rfl ?_
        refine StepL.up fun x V hV hu K Q hK => ?_
        clear hu
        simp only [putL, List.set_cons_zero, List.set_cons_succ] at hK ⊢
        rw [owp_eq]
        go_big_op
        exact hK _ _ (Below.refl _ _) rfl
      case refine_3 =>
        refine StepG.of rfl ?_
        refine StepL.up fun x V hV hu K Q hK => ?_
        clear hu
        simp only [putL, List.set_cons_zero, List.set_cons_succ] at hK ⊢
        rw [owp_eq]
        go_big_op
        refine (at14 1 0 0 0 V).mono ?_
        rintro e V' ⟨rfl, hb⟩
        exact hK _ _ hb rfl
      case refine_4 =>
        refine StepG.of rfl ?_
        refine StepL.up fun x V hV hu K Q hK => ?_
        clear hu
        simp only [putL, List.set_cons_zero, List.set_cons_succ] at hK ⊢
        rw [owp_eq]
        go_big_op
        refine (at14 2 2 0 0 V).mono ?_
        rintro e V' ⟨rfl, hb⟩
        exact hK _ _ hb rfl
      case refine_5 =>
        refine StepG.of rfl ?_
        refine StepL.up fun x V hV hu K Q hK => ?_
        have u2 : x 2 = _ := hu 2 (by decide)
        have u3 : x 3 = _ := hu 3 (by decide)
        clear hu
        simp only [putL, List.set_cons_zero, List.set_cons_succ] at hK ⊢
        rw [owp_eq]
        go_big_op
        exact hK _ _ (ba1 V _) ⟨_, rfl, Below.size hV, Bk.new V _ _⟩
      case refine_6 =>
        refine StepG.of rfl ?_
        refine StepL.up fun x V hV hu K Q hK => ?_
        have u0 : x 0 = _ := hu 0 (by decide)
        have u1 : x 1 = _ := hu 1 (by decide)
        obtain ⟨gu4, u4, hg4, hk4⟩ := hu 4 (by decide)
        clear hu
        simp only [putL, List.set_cons_zero, List.set_cons_succ] at hK ⊢
        rw [owp_eq]
        go_big_op
        refine (KC.out V gb gu4 [⟨1, ⟨0, 0, 0⟩⟩, ⟨2, ⟨2, 0, 0⟩⟩] #[.int .i64 1, .int .i64 0, .int .i64 0, .int .u8 0, .int .i64 2, .int .i64 2, .int .i64 0, .int .u8 0] [⟨1, 2, 3⟩] rfl rfl (HSV.out.on hV) (HKB.out.below hV HKB.out.lt) hk4 (HNV.out.below hV HNV.out.lt) (HTV.out.below hV HTV.out.lt) (by decide) X0.out.1 X0.out.2).mono ?_
        rintro e V' ⟨hb, A, c, rfl, hc, hs⟩
        exact hK _ _ hb ⟨A, c, rfl, hc, hs⟩
      case refine_7 =>
        refine StepG.of rfl ?_
        refine StepL.up fun x V hV hu K Q hK => ?_
        obtain ⟨A, c, u5, hc, hs⟩ := hu 5 (by decide)
        clear hu
        simp only [putL, List.set_cons_zero, List.set_cons_succ] at hK ⊢
        rw [owp_eq]
        go_big_op
        exact hK _ _ (Below.refl _ _) ⟨A, c, by rw [upd_same]; rfl, hc, hs⟩
      case refine_8 =>
        refine StepG.of rfl ?_
        refine StepL.up fun x V hV hu K Q hK => ?_
        obtain ⟨A, c, u6, hc, hs⟩ := hu 6 (by decide)
        clear hu
        simp only [putL, List.set_cons_zero, List.set_cons_succ] at hK ⊢
        rw [owp_eq]
        go_big_op
        exact hK _ _ (Below.refl _ _) ⟨A, c, by rw [upd_same]; rfl, hc, hs⟩
      case refine_9 =>
        refine StepG.of rfl ?_
        refine StepL.up fun x V hV hu K Q hK => ?_
        obtain ⟨A, c, u6, hc, hs⟩ := hu 6 (by decide)
        clear hu
        simp only [putL, List.set_cons_zero, List.set_cons_succ] at hK ⊢
        rw [owp_eq]
        go_big_op
        exact hK _ _ (Below.refl _ _) rfl
      case refine_10 =>
        refine StepG.of rfl ?_
        refine StepL.up fun x V hV hu K Q hK => ?_
        obtain ⟨A, c, u7, hc, hs⟩ := hu 7 (by decide)
        clear hu
        simp only [putL, List.set_cons_zero, List.set_cons_succ] at hK ⊢
        rw [owp_eq]
        go_big_op
        exact hK _ _ (Below.refl _ _) ⟨A, c, by rw [upd_same]; rfl, hc, hs⟩
      case refine_11 =>
        refine StepG.of rfl ?_
        refine StepL.up fun x V hV hu K Q hK => ?_
        have u8 : x 8 = _ := hu 8 (by decide)
        clear hu
        simp only [putL, List.set_cons_zero, List.set_cons_succ] at hK ⊢
        rw [owp_eq]
        go_big_op
        exact hK _ _ (Below.refl _ _) rfl
      case refine_12 =>
      intro x Y hV hA
      obtain ⟨A0, c0, h9, hc9, hs9⟩ := hA 9 (by decide) (by decide)
      have h10 : x 10 = _ := hA 10 (by decide) (by decide)
      have hVY : Below V0.heap.size V0 Y := hV
      simp only [layL, putL, List.set_cons_zero, List.set_cons_succ, h9, h10]
      have HSY := Lib.hid (HSV.out.on hVY)
      have HKY := Lib.hid (HKB.out.below hVY HKB.out.lt)
      have HNY := Lib.hid (HNV.out.below hVY HNV.out.lt)
      have HTY := Lib.hid (HTV.out.below hVY HTV.out.lt)
      have HEY := Lib.hid (HEV.out.below hVY HEV.out.lt)
      have HBYY := Lib.hid (HBV.out.trans (hVY.mono HBV.out.size))
      have L0 := Lib.hid hs9
      clear h9 h10 hs9 hV hA hVY HSV HKB HNV HTV HEV HBV e0 e1 e2 e3 e4 e5 e6 e7 e8 e9 e10 e11 e12
      try clear V0
      obtain ⟨V1, rfl⟩ : ∃ V, V = Y := ⟨_, rfl⟩
      have HSV := HSY
      have HKB := HKY
      have HNV := HNY
      have HTV := HTY
      have HEV := HEY
      have HBV := HBYY
      clear HSY HKY HNY HTY HEY HBYY
      go_upto_region 11 with fail
      have SC := HEV.out
      have e0 : V1.cell? ⟨g, 0, none⟩ = some (Value.slice h.A1 s.cols.length h.c1) := SC.cell 0
      have e1 : V1.cell? ⟨g, 1, none⟩ = some (Value.slice h.A2 s.covs.length h.c2) := SC.cell 1
      have e2 : V1.cell? ⟨g, 2, none⟩ = some (.int .i64 s.l0) := SC.cell 2
      have e3 : V1.cell? ⟨g, 3, none⟩ = some (.int .i64 s.l1) := SC.cell 3
      have e4 : V1.cell? ⟨g, 4, none⟩ = some (.int .i64 s.l2) := SC.cell 4
      have e5 : V1.cell? ⟨g, 5, none⟩ = some (.int .i64 s.l3) := SC.cell 5
      have e6 : V1.cell? ⟨g, 6, none⟩ = some (Value.slice h.A3 s.rows.length h.c3) := SC.cell 6
      have e7 : V1.cell? ⟨g, 7, none⟩ = some (Value.slice h.A4 s.frames.length h.c4) := SC.cell 7
      have e8 : V1.cell? ⟨g, 8, none⟩ = some (Value.slice h.A5 s.tanks.length h.c5) := SC.cell 8
      have e9 : V1.cell? ⟨g, 9, none⟩ = some (.int .i64 s.m0) := SC.cell 9
      have e10 : V1.cell? ⟨g, 10, none⟩ = some (.int .i64 s.m1) := SC.cell 10
      have e11 : V1.cell? ⟨g, 11, none⟩ = some (.int .i64 s.m2) := SC.cell 11
      have e12 : V1.cell? ⟨g, 12, none⟩ = some (.int .i64 s.m3) := SC.cell 12
      clear SC
      refine wp_region_ogG [.val 0 (.agg #[Value.slice h.A1 s.cols.length h.c1, Value.slice h.A2 s.covs.length h.c2, .int .i64 s.l0, .int .i64 s.l1, .int .i64 s.l2, .int .i64 s.l3, Value.slice h.A3 s.rows.length h.c3, Value.slice h.A4 s.frames.length h.c4, Value.slice h.A5 s.tanks.length h.c5, .int .i64 s.m0, .int .i64 s.m1, .int .i64 s.m2, .int .i64 s.m3]),
        .val 1 (.slice (some ⟨gb, 0, none⟩) 4 4),
        .val 2 (.agg #[.int .i64 3, .int .i64 0, .int .i64 0, .int .u8 0]),
        .val 3 (.agg #[.int .i64 4, .int .i64 2, .int .i64 0, .int .u8 0]),
        .sl 4 2 44 #[.int .i64 3, .int .i64 0, .int .i64 0, .int .u8 0, .int .i64 4, .int .i64 2, .int .i64 0, .int .u8 0] V1.heap.size,
        .tpT tCl 5 ([] : List Cl) 0,
        .tpT tCl 6 ([] : List Cl) 0,
        .slT tCl 7 ([] : List Cl),
        .val 8 (.int .i64 0),
        .slT tCl 9 ([] : List Cl),
        .val 10 (.int .i64 0)]
        [[], [], [], [], [2, 3], [0, 1, 4], [5], [6], [6], [7], [8]] [9, 10] (Cb V1) (by kernel_rfl) (by kernel_rfl) (Cb.drew V1) ⟨?_, ?_, ?_, ?_, ?_, ?_, ?_, ?_, ?_, ?_, ?_, trivial⟩ ?_
      case refine_1 =>
        refine StepG.of rfl ?_
        refine StepL.up fun x V hV hu K Q hK => ?_
        have fe0 := hV.cell e0
        have fe1 := hV.cell e1
        have fe2 := hV.cell e2
        have fe3 := hV.cell e3
        have fe4 := hV.cell e4
        have fe5 := hV.cell e5
        have fe6 := hV.cell e6
        have fe7 := hV.cell e7
        have fe8 := hV.cell e8
        have fe9 := hV.cell e9
        have fe10 := hV.cell e10
        have fe11 := hV.cell e11
        have fe12 := hV.cell e12
        clear hu
        rw [owp_eq]
        go_big_op
        exact hK _ _ (Below.refl _ _) rfl
      case refine_2 =>
        refine StepG.of rfl ?_
        refine StepL.up fun x V hV hu K Q hK => ?_
        clear hu
        simp only [putL, List.set_cons_zero, List.set_cons_succ] at hK ⊢
        rw [owp_eq]
        go_big_op
        exact hK _ _ (Below.refl _ _) rfl
      case refine_3 =>
        refine StepG.of rfl ?_
        refine StepL.up fun x V hV hu K Q hK => ?_
        clear hu
        simp only [putL, List.set_cons_zero, List.set_cons_succ] at hK ⊢
        rw [owp_eq]
        go_big_op
        refine (at14 3 0 0 0 V).mono ?_
        rintro e V' ⟨rfl, hb⟩
        exact hK _ _ hb rfl
      case refine_4 =>
        refine StepG.of rfl ?_
        refine StepL.up fun x V hV hu K Q hK => ?_
        clear hu
        simp only [putL, List.set_cons_zero, List.set_cons_succ] at hK ⊢
        rw [owp_eq]
        go_big_op
        refine (at14 4 2 0 0 V).mono ?_
        rintro e V' ⟨rfl, hb⟩
        exact hK _ _ hb rfl
      case refine_5 =>
        refine StepG.of rfl ?_
        refine StepL.up fun x V hV hu K Q hK => ?_
        have u2 : x 2 = _ := hu 2 (by decide)
        have u3 : x 3 = _ := hu 3 (by decide)
        clear hu
        simp only [putL, List.set_cons_zero, List.set_cons_succ] at hK ⊢
        rw [owp_eq]
        go_big_op
        exact hK _ _ (ba1 V _) ⟨_, rfl, Below.size hV, Bk.new V _ _⟩
      case refine_6 =>
        refine StepG.of rfl ?_
        refine StepL.up fun x V hV hu K Q hK => ?_
        have u0 : x 0 = _ := hu 0 (by decide)
        have u1 : x 1 = _ := hu 1 (by decide)
        obtain ⟨gu4, u4, hg4, hk4⟩ := hu 4 (by decide)
        clear hu
        simp only [putL, List.set_cons_zero, List.set_cons_succ] at hK ⊢
        rw [owp_eq]
        go_big_op
        refine (KC.out V gb gu4 [⟨3, ⟨0, 0, 0⟩⟩, ⟨4, ⟨2, 0, 0⟩⟩] #[.int .i64 3, .int .i64 0, .int .i64 0, .int .u8 0, .int .i64 4, .int .i64 2, .int .i64 0, .int .u8 0] ([] : List Cl) rfl rfl (HSV.out.on hV) (HKB.out.below hV HKB.out.lt) hk4 (HNV.out.below hV HNV.out.lt) (HTV.out.below hV HTV.out.lt) (by decide) X1.out.1 X1.out.2).mono ?_
        rintro e V' ⟨hb, A, c, rfl, hc, hs⟩
        exact hK _ _ hb ⟨A, c, rfl, hc, hs⟩
      case refine_7 =>
        refine StepG.of rfl ?_
        refine StepL.up fun x V hV hu K Q hK => ?_
        obtain ⟨A, c, u5, hc, hs⟩ := hu 5 (by decide)
        clear hu
        simp only [putL, List.set_cons_zero, List.set_cons_succ] at hK ⊢
        rw [owp_eq]
        go_big_op
        exact hK _ _ (Below.refl _ _) ⟨A, c, by rw [upd_same]; rfl, hc, hs⟩
      case refine_8 =>
        refine StepG.of rfl ?_
        refine StepL.up fun x V hV hu K Q hK => ?_
        obtain ⟨A, c, u6, hc, hs⟩ := hu 6 (by decide)
        clear hu
        simp only [putL, List.set_cons_zero, List.set_cons_succ] at hK ⊢
        rw [owp_eq]
        go_big_op
        exact hK _ _ (Below.refl _ _) ⟨A, c, by rw [upd_same]; rfl, hc, hs⟩
      case refine_9 =>
        refine StepG.of rfl ?_
        refine StepL.up fun x V hV hu K Q hK => ?_
        obtain ⟨A, c, u6, hc, hs⟩ := hu 6 (by decide)
        clear hu
        simp only [putL, List.set_cons_zero, List.set_cons_succ] at hK ⊢
        rw [owp_eq]
        go_big_op
        exact hK _ _ (Below.refl _ _) rfl
      case refine_10 =>
        refine StepG.of rfl ?_
        refine StepL.up fun x V hV hu K Q hK => ?_
        obtain ⟨A, c, u7, hc, hs⟩ := hu 7 (by decide)
        clear hu
        simp only [putL, List.set_cons_zero, List.set_cons_succ] at hK ⊢
        rw [owp_eq]
        go_big_op
        exact hK _ _ (Below.refl _ _) ⟨A, c, by rw [upd_same]; rfl, hc, hs⟩
      case refine_11 =>
        refine StepG.of rfl ?_
        refine StepL.up fun x V hV hu K Q hK => ?_
        have u8 : x 8 = _ := hu 8 (by decide)
        clear hu
        simp only [putL, List.set_cons_zero, List.set_cons_succ] at hK ⊢
        rw [owp_eq]
        go_big_op
        exact hK _ _ (Below.refl _ _) rfl
      case refine_12 =>
      intro x Y hV hA
      obtain ⟨A1, c1, h9, hc9, hs9⟩ := hA 9 (by decide) (by decide)
      have h10 : x 10 = _ := hA 10 (by decide) (by decide)
      have hVY : Below V1.heap.size V1 Y := hV
      simp only [layL, putL, List.set_cons_zero, List.set_cons_succ, h9, h10]
      have HSY := Lib.hid (HSV.out.on hVY)
      have HKY := Lib.hid (HKB.out.below hVY HKB.out.lt)
      have HNY := Lib.hid (HNV.out.below hVY HNV.out.lt)
      have HTY := Lib.hid (HTV.out.below hVY HTV.out.lt)
      have HEY := Lib.hid (HEV.out.below hVY HEV.out.lt)
      have HBYY := Lib.hid (HBV.out.trans (hVY.mono HBV.out.size))
      have L1 := Lib.hid hs9
      replace L0 := Lib.hid (L0.out.on hVY)
      clear h9 h10 hs9 hV hA hVY HSV HKB HNV HTV HEV HBV e0 e1 e2 e3 e4 e5 e6 e7 e8 e9 e10 e11 e12
      try clear V1
      obtain ⟨V2, rfl⟩ : ∃ V, V = Y := ⟨_, rfl⟩
      have HSV := HSY
      have HKB := HKY
      have HNV := HNY
      have HTV := HTY
      have HEV := HEY
      have HBV := HBYY
      clear HSY HKY HNY HTY HEY HBYY
      go_upto_region 12 with fail
      have SC := HEV.out
      have e0 : V2.cell? ⟨g, 0, none⟩ = some (Value.slice h.A1 s.cols.length h.c1) := SC.cell 0
      have e1 : V2.cell? ⟨g, 1, none⟩ = some (Value.slice h.A2 s.covs.length h.c2) := SC.cell 1
      have e2 : V2.cell? ⟨g, 2, none⟩ = some (.int .i64 s.l0) := SC.cell 2
      have e3 : V2.cell? ⟨g, 3, none⟩ = some (.int .i64 s.l1) := SC.cell 3
      have e4 : V2.cell? ⟨g, 4, none⟩ = some (.int .i64 s.l2) := SC.cell 4
      have e5 : V2.cell? ⟨g, 5, none⟩ = some (.int .i64 s.l3) := SC.cell 5
      have e6 : V2.cell? ⟨g, 6, none⟩ = some (Value.slice h.A3 s.rows.length h.c3) := SC.cell 6
      have e7 : V2.cell? ⟨g, 7, none⟩ = some (Value.slice h.A4 s.frames.length h.c4) := SC.cell 7
      have e8 : V2.cell? ⟨g, 8, none⟩ = some (Value.slice h.A5 s.tanks.length h.c5) := SC.cell 8
      have e9 : V2.cell? ⟨g, 9, none⟩ = some (.int .i64 s.m0) := SC.cell 9
      have e10 : V2.cell? ⟨g, 10, none⟩ = some (.int .i64 s.m1) := SC.cell 10
      have e11 : V2.cell? ⟨g, 11, none⟩ = some (.int .i64 s.m2) := SC.cell 11
      have e12 : V2.cell? ⟨g, 12, none⟩ = some (.int .i64 s.m3) := SC.cell 12
      clear SC
      refine wp_region_ogG [.val 0 (.agg #[Value.slice h.A1 s.cols.length h.c1, Value.slice h.A2 s.covs.length h.c2, .int .i64 s.l0, .int .i64 s.l1, .int .i64 s.l2, .int .i64 s.l3, Value.slice h.A3 s.rows.length h.c3, Value.slice h.A4 s.frames.length h.c4, Value.slice h.A5 s.tanks.length h.c5, .int .i64 s.m0, .int .i64 s.m1, .int .i64 s.m2, .int .i64 s.m3]),
        .val 1 (.slice (some ⟨gb, 0, none⟩) 4 4),
        .val 2 (.agg #[.int .i64 3, .int .i64 0, .int .i64 0, .int .u8 0]),
        .val 3 (.agg #[.int .i64 4, .int .i64 0, .int .i64 1, .int .u8 0]),
        .sl 4 2 44 #[.int .i64 3, .int .i64 0, .int .i64 0, .int .u8 0, .int .i64 4, .int .i64 0, .int .i64 1, .int .u8 0] V2.heap.size,
        .tpT tCl 5 [⟨3, 4, 1⟩] 0,
        .tpT tCl 6 [⟨3, 4, 1⟩] 0,
        .slT tCl 7 [⟨3, 4, 1⟩],
        .val 8 (.int .i64 0),
        .slT tCl 9 [⟨3, 4, 1⟩],
        .val 10 (.int .i64 0)]
        [[], [], [], [], [2, 3], [0, 1, 4], [5], [6], [6], [7], [8]] [9, 10] (Cb V2) (by kernel_rfl) (by kernel_rfl) (Cb.drew V2) ⟨?_, ?_, ?_, ?_, ?_, ?_, ?_, ?_, ?_, ?_, ?_, trivial⟩ ?_
      case refine_1 =>
        refine StepG.of rfl ?_
        refine StepL.up fun x V hV hu K Q hK => ?_
        have fe0 := hV.cell e0
        have fe1 := hV.cell e1
        have fe2 := hV.cell e2
        have fe3 := hV.cell e3
        have fe4 := hV.cell e4
        have fe5 := hV.cell e5
        have fe6 := hV.cell e6
        have fe7 := hV.cell e7
        have fe8 := hV.cell e8
        have fe9 := hV.cell e9
        have fe10 := hV.cell e10
        have fe11 := hV.cell e11
        have fe12 := hV.cell e12
        clear hu
        rw [owp_eq]
        go_big_op
        exact hK _ _ (Below.refl _ _) rfl
      case refine_2 =>
        refine StepG.of rfl ?_
        refine StepL.up fun x V hV hu K Q hK => ?_
        clear hu
        simp only [putL, List.set_cons_zero, List.set_cons_succ] at hK ⊢
        rw [owp_eq]
        go_big_op
        exact hK _ _ (Below.refl _ _) rfl
      case refine_3 =>
        refine StepG.of rfl ?_
        refine StepL.up fun x V hV hu K Q hK => ?_
        clear hu
        simp only [putL, List.set_cons_zero, List.set_cons_succ] at hK ⊢
        rw [owp_eq]
        go_big_op
        refine (at14 3 0 0 0 V).mono ?_
        rintro e V' ⟨rfl, hb⟩
        exact hK _ _ hb rfl
      case refine_4 =>
        refine StepG.of rfl ?_
        refine StepL.up fun x V hV hu K Q hK => ?_
        clear hu
        simp only [putL, List.set_cons_zero, List.set_cons_succ] at hK ⊢
        rw [owp_eq]
        go_big_op
        refine (at14 4 0 1 0 V).mono ?_
        rintro e V' ⟨rfl, hb⟩
        exact hK _ _ hb rfl
      case refine_5 =>
        refine StepG.of rfl ?_
        refine StepL.up fun x V hV hu K Q hK => ?_
        have u2 : x 2 = _ := hu 2 (by decide)
        have u3 : x 3 = _ := hu 3 (by decide)
        clear hu
        simp only [putL, List.set_cons_zero, List.set_cons_succ] at hK ⊢
        rw [owp_eq]
        go_big_op
        exact hK _ _ (ba1 V _) ⟨_, rfl, Below.size hV, Bk.new V _ _⟩
      case refine_6 =>
        refine StepG.of rfl ?_
        refine StepL.up fun x V hV hu K Q hK => ?_
        have u0 : x 0 = _ := hu 0 (by decide)
        have u1 : x 1 = _ := hu 1 (by decide)
        obtain ⟨gu4, u4, hg4, hk4⟩ := hu 4 (by decide)
        clear hu
        simp only [putL, List.set_cons_zero, List.set_cons_succ] at hK ⊢
        rw [owp_eq]
        go_big_op
        refine (KC.out V gb gu4 [⟨3, ⟨0, 0, 0⟩⟩, ⟨4, ⟨0, 1, 0⟩⟩] #[.int .i64 3, .int .i64 0, .int .i64 0, .int .u8 0, .int .i64 4, .int .i64 0, .int .i64 1, .int .u8 0] [⟨3, 4, 1⟩] rfl rfl (HSV.out.on hV) (HKB.out.below hV HKB.out.lt) hk4 (HNV.out.below hV HNV.out.lt) (HTV.out.below hV HTV.out.lt) (by decide) X2.out.1 X2.out.2).mono ?_
        rintro e V' ⟨hb, A, c, rfl, hc, hs⟩
        exact hK _ _ hb ⟨A, c, rfl, hc, hs⟩
      case refine_7 =>
        refine StepG.of rfl ?_
        refine StepL.up fun x V hV hu K Q hK => ?_
        obtain ⟨A, c, u5, hc, hs⟩ := hu 5 (by decide)
        clear hu
        simp only [putL, List.set_cons_zero, List.set_cons_succ] at hK ⊢
        rw [owp_eq]
        go_big_op
        exact hK _ _ (Below.refl _ _) ⟨A, c, by rw [upd_same]; rfl, hc, hs⟩
      case refine_8 =>
        refine StepG.of rfl ?_
        refine StepL.up fun x V hV hu K Q hK => ?_
        obtain ⟨A, c, u6, hc, hs⟩ := hu 6 (by decide)
        clear hu
        simp only [putL, List.set_cons_zero, List.set_cons_succ] at hK ⊢
        rw [owp_eq]
        go_big_op
        exact hK _ _ (Below.refl _ _) ⟨A, c, by rw [upd_same]; rfl, hc, hs⟩
      case refine_9 =>
        refine StepG.of rfl ?_
        refine StepL.up fun x V hV hu K Q hK => ?_
        obtain ⟨A, c, u6, hc, hs⟩ := hu 6 (by decide)
        clear hu
        simp only [putL, List.set_cons_zero, List.set_cons_succ] at hK ⊢
        rw [owp_eq]
        go_big_op
        exact hK _ _ (Below.refl _ _) rfl
      case refine_10 =>
        refine StepG.of rfl ?_
        refine StepL.up fun x V hV hu K Q hK => ?_
        obtain ⟨A, c, u7, hc, hs⟩ := hu 7 (by decide)
        clear hu
        simp only [putL, List.set_cons_zero, List.set_cons_succ] at hK ⊢
        rw [owp_eq]
        go_big_op
        exact hK _ _ (Below.refl _ _) ⟨A, c, by rw [upd_same]; rfl, hc, hs⟩
      case refine_11 =>
        refine StepG.of rfl ?_
        refine StepL.up fun x V hV hu K Q hK => ?_
        have u8 : x 8 = _ := hu 8 (by decide)
        clear hu
        simp only [putL, List.set_cons_zero, List.set_cons_succ] at hK ⊢
        rw [owp_eq]
        go_big_op
        exact hK _ _ (Below.refl _ _) rfl
      case refine_12 =>
      intro x Y hV hA
      obtain ⟨A2, c2, h9, hc9, hs9⟩ := hA 9 (by decide) (by decide)
      have h10 : x 10 = _ := hA 10 (by decide) (by decide)
      have hVY : Below V2.heap.size V2 Y := hV
      simp only [layL, putL, List.set_cons_zero, List.set_cons_succ, h9, h10]
      have HSY := Lib.hid (HSV.out.on hVY)
      have HKY := Lib.hid (HKB.out.below hVY HKB.out.lt)
      have HNY := Lib.hid (HNV.out.below hVY HNV.out.lt)
      have HTY := Lib.hid (HTV.out.below hVY HTV.out.lt)
      have HEY := Lib.hid (HEV.out.below hVY HEV.out.lt)
      have HBYY := Lib.hid (HBV.out.trans (hVY.mono HBV.out.size))
      have L2 := Lib.hid hs9
      replace L0 := Lib.hid (L0.out.on hVY)
      replace L1 := Lib.hid (L1.out.on hVY)
      clear h9 h10 hs9 hV hA hVY HSV HKB HNV HTV HEV HBV e0 e1 e2 e3 e4 e5 e6 e7 e8 e9 e10 e11 e12
      try clear V2
      obtain ⟨V3, rfl⟩ : ∃ V, V = Y := ⟨_, rfl⟩
      have HSV := HSY
      have HKB := HKY
      have HNV := HNY
      have HTV := HTY
      have HEV := HEY
      have HBV := HBYY
      clear HSY HKY HNY HTY HEY HBYY
      go_upto_region 13 with fail
      simp only [List.length_cons, List.length_nil, Nat.zero_add]
      have q3 := ba1 V3 (.cells #[.int .i64 1, .int .i64 2, .int .u8 3] 58)
      have KS := Lib.hid (sameCl_any A0 (some ⟨V3.heap.size, 0, none⟩) c0 1 [⟨1, 2, 3⟩] _ (L0.out.on q3) (sl_flat (Bk.new V3 58 #[.int .i64 1, .int .i64 2, .int .u8 3]) (flat_cl [⟨1, 2, 3⟩]) (Bk.new V3 _ _).lt) (by decide))
      simp only [List.length_cons, List.length_nil, Nat.zero_add] at KS
      go_wp2_with fail
      refine KS.out.mono ?_
      rintro e Y ⟨rfl, hb⟩
      simp only
      have HQ := Lib.hid (q3.trans (hb.mono q3.size))
      clear q3 hb KS
      have hl2 := L2.out.on HQ.out
      have q4 := ba1 Y (.cells #[.int .i64 3, .int .i64 4, .int .u8 1] 58)
      have KS := Lib.hid (sameCl_any A2 (some ⟨Y.heap.size, 0, none⟩) c2 1 [⟨3, 4, 1⟩] _ (hl2.on q4) (sl_flat (Bk.new Y 58 #[.int .i64 3, .int .i64 4, .int .u8 1]) (flat_cl [⟨3, 4, 1⟩]) (Bk.new Y _ _).lt) (by decide))
      simp only [List.length_cons, List.length_nil, Nat.zero_add] at KS
      clear hl2
      go_wp2_with fail
      refine KS.out.mono ?_
      rintro e Y2 ⟨rfl, hb⟩
      simp only
      have HE := Lib.hid (HBV.out.trans ((HQ.out.trans ((q4.trans (hb.mono q4.size)).mono HQ.out.size)).mono HBV.out.size))
      clear q4 hb KS
      go_wp2_with fail
      go_ret
      exact ⟨rfl, HE.out⟩
    by_cases hk0 : k = 0
    · subst hk0
      have N1 := KN.out U HSU.out ⟨0, 0, 0⟩ ⟨0, 1, 0⟩ 0 (by decide)
      rw [(XN.out ⟨0, by decide⟩).1] at N1
      have NN1 : Hid (Calls Tryd.prog 10 #[.agg #[Value.slice h.A1 s.cols.length h.c1, Value.slice h.A2 s.covs.length h.c2, .int .i64 s.l0, .int .i64 s.l1, .int .i64 s.l2, .int .i64 s.l3, Value.slice h.A3 s.rows.length h.c3, Value.slice h.A4 s.frames.length h.c4, Value.slice h.A5 s.tanks.length h.c5, .int .i64 s.m0, .int .i64 s.m1, .int .i64 s.m2, .int .i64 s.m3], .agg #[.int .i64 0, .int .i64 0, .int .u8 0], .agg #[.int .i64 0, .int .i64 1, .int .u8 0], .int .u8 0] U (Ret U (.bool false))) := Lib.hid N1
      clear N1
      go_step
      go_step
      go_wp2_with fail
      refine NN1.out.mono ?_
      rintro e X ⟨rfl, hbX⟩
      simp only
      have HBX := Lib.hid (HBZ.out.trans (hbX.mono HBZ.out.size))
      clear NN1 hbX e0 e1 e2 e3 e4 e5 e6 e7 e8 e9 e10 e11 e12 x0 x1 x2 y0 y1 y2
      have HSX := Lib.hid (HS4.out.on HBX.out)
      have SC := KE4.out.below HBX.out KE4.out.lt
      have SK2 := K2.out.below HBX.out K2.out.lt
      have SK3 := K3.out.below HBX.out K3.out.lt
      have e0 : X.cell? ⟨g, 0, none⟩ = some (Value.slice h.A1 s.cols.length h.c1) := SC.cell 0
      have e1 : X.cell? ⟨g, 1, none⟩ = some (Value.slice h.A2 s.covs.length h.c2) := SC.cell 1
      have e2 : X.cell? ⟨g, 2, none⟩ = some (.int .i64 s.l0) := SC.cell 2
      have e3 : X.cell? ⟨g, 3, none⟩ = some (.int .i64 s.l1) := SC.cell 3
      have e4 : X.cell? ⟨g, 4, none⟩ = some (.int .i64 s.l2) := SC.cell 4
      have e5 : X.cell? ⟨g, 5, none⟩ = some (.int .i64 s.l3) := SC.cell 5
      have e6 : X.cell? ⟨g, 6, none⟩ = some (Value.slice h.A3 s.rows.length h.c3) := SC.cell 6
      have e7 : X.cell? ⟨g, 7, none⟩ = some (Value.slice h.A4 s.frames.length h.c4) := SC.cell 7
      have e8 : X.cell? ⟨g, 8, none⟩ = some (Value.slice h.A5 s.tanks.length h.c5) := SC.cell 8
      have e9 : X.cell? ⟨g, 9, none⟩ = some (.int .i64 s.m0) := SC.cell 9
      have e10 : X.cell? ⟨g, 10, none⟩ = some (.int .i64 s.m1) := SC.cell 10
      have e11 : X.cell? ⟨g, 11, none⟩ = some (.int .i64 s.m2) := SC.cell 11
      have e12 : X.cell? ⟨g, 12, none⟩ = some (.int .i64 s.m3) := SC.cell 12
      have x0 : X.cell? ⟨g3, 0, none⟩ = some (.int .i64 2) := SK2.cell 0
      have x1 : X.cell? ⟨g3, 1, none⟩ = some (.int .i64 0) := SK2.cell 1
      have x2 : X.cell? ⟨g3, 2, none⟩ = some (.int .u8 1) := SK2.cell 2
      have y0 : X.cell? ⟨g4, 0, none⟩ = some (.int .i64 2) := SK3.cell 0
      have y1 : X.cell? ⟨g4, 1, none⟩ = some (.int .i64 0) := SK3.cell 1
      have y2 : X.cell? ⟨g4, 2, none⟩ = some (.int .u8 2) := SK3.cell 2
      clear SC SK2 SK3
      have N2 := KN.out X HSX.out ⟨2, 0, 1⟩ ⟨2, 0, 2⟩ 0 (by decide)
      rw [(XN.out ⟨0, by decide⟩).2] at N2
      have NN2 : Hid (Calls Tryd.prog 10 #[.agg #[Value.slice h.A1 s.cols.length h.c1, Value.slice h.A2 s.covs.length h.c2, .int .i64 s.l0, .int .i64 s.l1, .int .i64 s.l2, .int .i64 s.l3, Value.slice h.A3 s.rows.length h.c3, Value.slice h.A4 s.frames.length h.c4, Value.slice h.A5 s.tanks.length h.c5, .int .i64 s.m0, .int .i64 s.m1, .int .i64 s.m2, .int .i64 s.m3], .agg #[.int .i64 2, .int .i64 0, .int .u8 1], .agg #[.int .i64 2, .int .i64 0, .int .u8 2], .int .u8 0] X (Ret X (.bool false))) := Lib.hid N2
      clear N2
      go_wp2_with fail
      refine NN2.out.mono ?_
      rintro e Y ⟨rfl, hbY⟩
      simp only
      have HBY := Lib.hid (HBX.out.trans (hbY.mono HBX.out.size))
      clear NN2 hbY e0 e1 e2 e3 e4 e5 e6 e7 e8 e9 e10 e11 e12 x0 x1 x2 y0 y1 y2
      go_wp2_with fail
      go_roundw
      case rel => (first | exact ⟨1, by omega, by go_num, HBY⟩ | ((repeat apply Exists.intro); (first | exact ⟨⟨1, by omega, by go_num, HBY⟩, rfl⟩ | exact ⟨(show 1 ≤ 4 by omega), by go_num, HBY⟩)))
      case measure => simp [intOf]
    by_cases hk1 : k = 1
    · subst hk1
      have N1 := KN.out U HSU.out ⟨0, 0, 0⟩ ⟨0, 1, 0⟩ 1 (by decide)
      rw [(XN.out ⟨1, by decide⟩).1] at N1
      have NN1 : Hid (Calls Tryd.prog 10 #[.agg #[Value.slice h.A1 s.cols.length h.c1, Value.slice h.A2 s.covs.length h.c2, .int .i64 s.l0, .int .i64 s.l1, .int .i64 s.l2, .int .i64 s.l3, Value.slice h.A3 s.rows.length h.c3, Value.slice h.A4 s.frames.length h.c4, Value.slice h.A5 s.tanks.length h.c5, .int .i64 s.m0, .int .i64 s.m1, .int .i64 s.m2, .int .i64 s.m3], .agg #[.int .i64 0, .int .i64 0, .int .u8 0], .agg #[.int .i64 0, .int .i64 1, .int .u8 0], .int .u8 1] U (Ret U (.bool true))) := Lib.hid N1
      clear N1
      go_step
      go_step
      go_wp2_with fail
      refine NN1.out.mono ?_
      rintro e X ⟨rfl, hbX⟩
      simp only
      have HBX := Lib.hid (HBZ.out.trans (hbX.mono HBZ.out.size))
      clear NN1 hbX e0 e1 e2 e3 e4 e5 e6 e7 e8 e9 e10 e11 e12 x0 x1 x2 y0 y1 y2
      have HSX := Lib.hid (HS4.out.on HBX.out)
      have SC := KE4.out.below HBX.out KE4.out.lt
      have SK2 := K2.out.below HBX.out K2.out.lt
      have SK3 := K3.out.below HBX.out K3.out.lt
      have e0 : X.cell? ⟨g, 0, none⟩ = some (Value.slice h.A1 s.cols.length h.c1) := SC.cell 0
      have e1 : X.cell? ⟨g, 1, none⟩ = some (Value.slice h.A2 s.covs.length h.c2) := SC.cell 1
      have e2 : X.cell? ⟨g, 2, none⟩ = some (.int .i64 s.l0) := SC.cell 2
      have e3 : X.cell? ⟨g, 3, none⟩ = some (.int .i64 s.l1) := SC.cell 3
      have e4 : X.cell? ⟨g, 4, none⟩ = some (.int .i64 s.l2) := SC.cell 4
      have e5 : X.cell? ⟨g, 5, none⟩ = some (.int .i64 s.l3) := SC.cell 5
      have e6 : X.cell? ⟨g, 6, none⟩ = some (Value.slice h.A3 s.rows.length h.c3) := SC.cell 6
      have e7 : X.cell? ⟨g, 7, none⟩ = some (Value.slice h.A4 s.frames.length h.c4) := SC.cell 7
      have e8 : X.cell? ⟨g, 8, none⟩ = some (Value.slice h.A5 s.tanks.length h.c5) := SC.cell 8
      have e9 : X.cell? ⟨g, 9, none⟩ = some (.int .i64 s.m0) := SC.cell 9
      have e10 : X.cell? ⟨g, 10, none⟩ = some (.int .i64 s.m1) := SC.cell 10
      have e11 : X.cell? ⟨g, 11, none⟩ = some (.int .i64 s.m2) := SC.cell 11
      have e12 : X.cell? ⟨g, 12, none⟩ = some (.int .i64 s.m3) := SC.cell 12
      have x0 : X.cell? ⟨g3, 0, none⟩ = some (.int .i64 2) := SK2.cell 0
      have x1 : X.cell? ⟨g3, 1, none⟩ = some (.int .i64 0) := SK2.cell 1
      have x2 : X.cell? ⟨g3, 2, none⟩ = some (.int .u8 1) := SK2.cell 2
      have y0 : X.cell? ⟨g4, 0, none⟩ = some (.int .i64 2) := SK3.cell 0
      have y1 : X.cell? ⟨g4, 1, none⟩ = some (.int .i64 0) := SK3.cell 1
      have y2 : X.cell? ⟨g4, 2, none⟩ = some (.int .u8 2) := SK3.cell 2
      clear SC SK2 SK3
      have N2 := KN.out X HSX.out ⟨2, 0, 1⟩ ⟨2, 0, 2⟩ 1 (by decide)
      rw [(XN.out ⟨1, by decide⟩).2] at N2
      have NN2 : Hid (Calls Tryd.prog 10 #[.agg #[Value.slice h.A1 s.cols.length h.c1, Value.slice h.A2 s.covs.length h.c2, .int .i64 s.l0, .int .i64 s.l1, .int .i64 s.l2, .int .i64 s.l3, Value.slice h.A3 s.rows.length h.c3, Value.slice h.A4 s.frames.length h.c4, Value.slice h.A5 s.tanks.length h.c5, .int .i64 s.m0, .int .i64 s.m1, .int .i64 s.m2, .int .i64 s.m3], .agg #[.int .i64 2, .int .i64 0, .int .u8 1], .agg #[.int .i64 2, .int .i64 0, .int .u8 2], .int .u8 1] X (Ret X (.bool false))) := Lib.hid N2
      clear N2
      go_wp2_with fail
      refine NN2.out.mono ?_
      rintro e Y ⟨rfl, hbY⟩
      simp only
      have HBY := Lib.hid (HBX.out.trans (hbY.mono HBX.out.size))
      clear NN2 hbY e0 e1 e2 e3 e4 e5 e6 e7 e8 e9 e10 e11 e12 x0 x1 x2 y0 y1 y2
      go_wp2_with fail
      go_roundw
      case rel => (first | exact ⟨2, by omega, by go_num, HBY⟩ | ((repeat apply Exists.intro); (first | exact ⟨⟨2, by omega, by go_num, HBY⟩, rfl⟩ | exact ⟨(show 2 ≤ 4 by omega), by go_num, HBY⟩)))
      case measure => simp [intOf]
    by_cases hk2 : k = 2
    · subst hk2
      have N1 := KN.out U HSU.out ⟨0, 0, 0⟩ ⟨0, 1, 0⟩ 2 (by decide)
      rw [(XN.out ⟨2, by decide⟩).1] at N1
      have NN1 : Hid (Calls Tryd.prog 10 #[.agg #[Value.slice h.A1 s.cols.length h.c1, Value.slice h.A2 s.covs.length h.c2, .int .i64 s.l0, .int .i64 s.l1, .int .i64 s.l2, .int .i64 s.l3, Value.slice h.A3 s.rows.length h.c3, Value.slice h.A4 s.frames.length h.c4, Value.slice h.A5 s.tanks.length h.c5, .int .i64 s.m0, .int .i64 s.m1, .int .i64 s.m2, .int .i64 s.m3], .agg #[.int .i64 0, .int .i64 0, .int .u8 0], .agg #[.int .i64 0, .int .i64 1, .int .u8 0], .int .u8 2] U (Ret U (.bool true))) := Lib.hid N1
      clear N1
      go_step
      go_step
      go_wp2_with fail
      refine NN1.out.mono ?_
      rintro e X ⟨rfl, hbX⟩
      simp only
      have HBX := Lib.hid (HBZ.out.trans (hbX.mono HBZ.out.size))
      clear NN1 hbX e0 e1 e2 e3 e4 e5 e6 e7 e8 e9 e10 e11 e12 x0 x1 x2 y0 y1 y2
      have HSX := Lib.hid (HS4.out.on HBX.out)
      have SC := KE4.out.below HBX.out KE4.out.lt
      have SK2 := K2.out.below HBX.out K2.out.lt
      have SK3 := K3.out.below HBX.out K3.out.lt
      have e0 : X.cell? ⟨g, 0, none⟩ = some (Value.slice h.A1 s.cols.length h.c1) := SC.cell 0
      have e1 : X.cell? ⟨g, 1, none⟩ = some (Value.slice h.A2 s.covs.length h.c2) := SC.cell 1
      have e2 : X.cell? ⟨g, 2, none⟩ = some (.int .i64 s.l0) := SC.cell 2
      have e3 : X.cell? ⟨g, 3, none⟩ = some (.int .i64 s.l1) := SC.cell 3
      have e4 : X.cell? ⟨g, 4, none⟩ = some (.int .i64 s.l2) := SC.cell 4
      have e5 : X.cell? ⟨g, 5, none⟩ = some (.int .i64 s.l3) := SC.cell 5
      have e6 : X.cell? ⟨g, 6, none⟩ = some (Value.slice h.A3 s.rows.length h.c3) := SC.cell 6
      have e7 : X.cell? ⟨g, 7, none⟩ = some (Value.slice h.A4 s.frames.length h.c4) := SC.cell 7
      have e8 : X.cell? ⟨g, 8, none⟩ = some (Value.slice h.A5 s.tanks.length h.c5) := SC.cell 8
      have e9 : X.cell? ⟨g, 9, none⟩ = some (.int .i64 s.m0) := SC.cell 9
      have e10 : X.cell? ⟨g, 10, none⟩ = some (.int .i64 s.m1) := SC.cell 10
      have e11 : X.cell? ⟨g, 11, none⟩ = some (.int .i64 s.m2) := SC.cell 11
      have e12 : X.cell? ⟨g, 12, none⟩ = some (.int .i64 s.m3) := SC.cell 12
      have x0 : X.cell? ⟨g3, 0, none⟩ = some (.int .i64 2) := SK2.cell 0
      have x1 : X.cell? ⟨g3, 1, none⟩ = some (.int .i64 0) := SK2.cell 1
      have x2 : X.cell? ⟨g3, 2, none⟩ = some (.int .u8 1) := SK2.cell 2
      have y0 : X.cell? ⟨g4, 0, none⟩ = some (.int .i64 2) := SK3.cell 0
      have y1 : X.cell? ⟨g4, 1, none⟩ = some (.int .i64 0) := SK3.cell 1
      have y2 : X.cell? ⟨g4, 2, none⟩ = some (.int .u8 2) := SK3.cell 2
      clear SC SK2 SK3
      have N2 := KN.out X HSX.out ⟨2, 0, 1⟩ ⟨2, 0, 2⟩ 2 (by decide)
      rw [(XN.out ⟨2, by decide⟩).2] at N2
      have NN2 : Hid (Calls Tryd.prog 10 #[.agg #[Value.slice h.A1 s.cols.length h.c1, Value.slice h.A2 s.covs.length h.c2, .int .i64 s.l0, .int .i64 s.l1, .int .i64 s.l2, .int .i64 s.l3, Value.slice h.A3 s.rows.length h.c3, Value.slice h.A4 s.frames.length h.c4, Value.slice h.A5 s.tanks.length h.c5, .int .i64 s.m0, .int .i64 s.m1, .int .i64 s.m2, .int .i64 s.m3], .agg #[.int .i64 2, .int .i64 0, .int .u8 1], .agg #[.int .i64 2, .int .i64 0, .int .u8 2], .int .u8 2] X (Ret X (.bool true))) := Lib.hid N2
      clear N2
      go_wp2_with fail
      refine NN2.out.mono ?_
      rintro e Y ⟨rfl, hbY⟩
      simp only
      have HBY := Lib.hid (HBX.out.trans (hbY.mono HBX.out.size))
      clear NN2 hbY e0 e1 e2 e3 e4 e5 e6 e7 e8 e9 e10 e11 e12 x0 x1 x2 y0 y1 y2
      go_wp2_with fail
      go_roundw
      case rel => (first | exact ⟨3, by omega, by go_num, HBY⟩ | ((repeat apply Exists.intro); (first | exact ⟨⟨3, by omega, by go_num, HBY⟩, rfl⟩ | exact ⟨(show 3 ≤ 4 by omega), by go_num, HBY⟩)))
      case measure => simp [intOf]
    by_cases hk3 : k = 3
    · subst hk3
      have N1 := KN.out U HSU.out ⟨0, 0, 0⟩ ⟨0, 1, 0⟩ 3 (by decide)
      rw [(XN.out ⟨3, by decide⟩).1] at N1
      have NN1 : Hid (Calls Tryd.prog 10 #[.agg #[Value.slice h.A1 s.cols.length h.c1, Value.slice h.A2 s.covs.length h.c2, .int .i64 s.l0, .int .i64 s.l1, .int .i64 s.l2, .int .i64 s.l3, Value.slice h.A3 s.rows.length h.c3, Value.slice h.A4 s.frames.length h.c4, Value.slice h.A5 s.tanks.length h.c5, .int .i64 s.m0, .int .i64 s.m1, .int .i64 s.m2, .int .i64 s.m3], .agg #[.int .i64 0, .int .i64 0, .int .u8 0], .agg #[.int .i64 0, .int .i64 1, .int .u8 0], .int .u8 3] U (Ret U (.bool true))) := Lib.hid N1
      clear N1
      go_step
      go_step
      go_wp2_with fail
      refine NN1.out.mono ?_
      rintro e X ⟨rfl, hbX⟩
      simp only
      have HBX := Lib.hid (HBZ.out.trans (hbX.mono HBZ.out.size))
      clear NN1 hbX e0 e1 e2 e3 e4 e5 e6 e7 e8 e9 e10 e11 e12 x0 x1 x2 y0 y1 y2
      have HSX := Lib.hid (HS4.out.on HBX.out)
      have SC := KE4.out.below HBX.out KE4.out.lt
      have SK2 := K2.out.below HBX.out K2.out.lt
      have SK3 := K3.out.below HBX.out K3.out.lt
      have e0 : X.cell? ⟨g, 0, none⟩ = some (Value.slice h.A1 s.cols.length h.c1) := SC.cell 0
      have e1 : X.cell? ⟨g, 1, none⟩ = some (Value.slice h.A2 s.covs.length h.c2) := SC.cell 1
      have e2 : X.cell? ⟨g, 2, none⟩ = some (.int .i64 s.l0) := SC.cell 2
      have e3 : X.cell? ⟨g, 3, none⟩ = some (.int .i64 s.l1) := SC.cell 3
      have e4 : X.cell? ⟨g, 4, none⟩ = some (.int .i64 s.l2) := SC.cell 4
      have e5 : X.cell? ⟨g, 5, none⟩ = some (.int .i64 s.l3) := SC.cell 5
      have e6 : X.cell? ⟨g, 6, none⟩ = some (Value.slice h.A3 s.rows.length h.c3) := SC.cell 6
      have e7 : X.cell? ⟨g, 7, none⟩ = some (Value.slice h.A4 s.frames.length h.c4) := SC.cell 7
      have e8 : X.cell? ⟨g, 8, none⟩ = some (Value.slice h.A5 s.tanks.length h.c5) := SC.cell 8
      have e9 : X.cell? ⟨g, 9, none⟩ = some (.int .i64 s.m0) := SC.cell 9
      have e10 : X.cell? ⟨g, 10, none⟩ = some (.int .i64 s.m1) := SC.cell 10
      have e11 : X.cell? ⟨g, 11, none⟩ = some (.int .i64 s.m2) := SC.cell 11
      have e12 : X.cell? ⟨g, 12, none⟩ = some (.int .i64 s.m3) := SC.cell 12
      have x0 : X.cell? ⟨g3, 0, none⟩ = some (.int .i64 2) := SK2.cell 0
      have x1 : X.cell? ⟨g3, 1, none⟩ = some (.int .i64 0) := SK2.cell 1
      have x2 : X.cell? ⟨g3, 2, none⟩ = some (.int .u8 1) := SK2.cell 2
      have y0 : X.cell? ⟨g4, 0, none⟩ = some (.int .i64 2) := SK3.cell 0
      have y1 : X.cell? ⟨g4, 1, none⟩ = some (.int .i64 0) := SK3.cell 1
      have y2 : X.cell? ⟨g4, 2, none⟩ = some (.int .u8 2) := SK3.cell 2
      clear SC SK2 SK3
      have N2 := KN.out X HSX.out ⟨2, 0, 1⟩ ⟨2, 0, 2⟩ 3 (by decide)
      rw [(XN.out ⟨3, by decide⟩).2] at N2
      have NN2 : Hid (Calls Tryd.prog 10 #[.agg #[Value.slice h.A1 s.cols.length h.c1, Value.slice h.A2 s.covs.length h.c2, .int .i64 s.l0, .int .i64 s.l1, .int .i64 s.l2, .int .i64 s.l3, Value.slice h.A3 s.rows.length h.c3, Value.slice h.A4 s.frames.length h.c4, Value.slice h.A5 s.tanks.length h.c5, .int .i64 s.m0, .int .i64 s.m1, .int .i64 s.m2, .int .i64 s.m3], .agg #[.int .i64 2, .int .i64 0, .int .u8 1], .agg #[.int .i64 2, .int .i64 0, .int .u8 2], .int .u8 3] X (Ret X (.bool true))) := Lib.hid N2
      clear N2
      go_wp2_with fail
      refine NN2.out.mono ?_
      rintro e Y ⟨rfl, hbY⟩
      simp only
      have HBY := Lib.hid (HBX.out.trans (hbY.mono HBX.out.size))
      clear NN2 hbY e0 e1 e2 e3 e4 e5 e6 e7 e8 e9 e10 e11 e12 x0 x1 x2 y0 y1 y2
      go_wp2_with fail
      go_roundw
      case rel => (first | exact ⟨4, by omega, by go_num, HBY⟩ | ((repeat apply Exists.intro); (first | exact ⟨⟨4, by omega, by go_num, HBY⟩, rfl⟩ | exact ⟨(show 4 ≤ 4 by omega), by go_num, HBY⟩)))
      case measure => simp [intOf]
    omega
end Go.Proofs.YtmhikcleekfbpaaDoor
