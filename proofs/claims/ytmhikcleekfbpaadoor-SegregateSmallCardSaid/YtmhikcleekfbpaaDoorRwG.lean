/-
  Walks of twistlocklaw14: clashes and against.
-/
import Derived.Test.YtmhikcleekfbpaaDoorRwC
import Derived.Test.YtmhikcleekfbpaaDoorRwF
import Derived.Test.YtmhikcleekfbpaaDoorSgJ
import Derived.Test.YtmhikcleekfbpaaDoorSame
namespace Go.Proofs.YtmhikcleekfbpaaDoor
open Go.RowKit

/-- A ship, boxes and a state at hand that the statements look at. -/
structure CH (w : World) (s : Shp) (h : Hd) (A : Option Addr) (boxes : List Bx) (A2 : Option Addr) (c2 : Nat) (l : List Stw) : Prop where
  rd : ShpR w (Lt w.heap.size) s h
  few : Few s
  ints : Ints s
  cl : s.cols.length ≤ 60
  tn : ∀ c, tiersN s c ≤ 12
  al : ∀ size, (allF s size).length ≤ 1000000
  row : ∀ c ∈ s.cols, I64 c.row
  bx : SlT tBx w (Lt w.heap.size) A boxes
  bl : boxes.length ≤ 1000000
  sx : SlT tStw w (Lt w.heap.size) A2 l
  sl : l.length ≤ 200
  lc : l.length ≤ c2
  ti : ∀ x ∈ l, x.slot.tier ≤ 9223372036854775807
  sz : ∀ b ∈ boxes, b.size < 256
  nm : NamesOK w
  tb : TabOK w
  cs : stowRight s boxes l = true → Cs s
theorem CH.on {w w' : World} {s : Shp} {h : Hd} {A : Option Addr} {boxes : List Bx} {A2 : Option Addr} {c2 : Nat} {l : List Stw} (r : CH w s h A boxes A2 c2 l) (hb : Below w.heap.size w w') : CH w' s h A boxes A2 c2 l :=
  ⟨r.rd.on hb, r.few, r.ints, r.cl, r.tn, r.al, r.row, r.bx.on hb, r.bl, r.sx.on hb, r.sl, r.lc, r.ti, r.sz, r.nm.below hb r.nm.lt, r.tb.below hb r.tb.lt, r.cs⟩
def clOK (s : Shp) (boxes : List Bx) (l : List Stw) : List Cl := if dErr s boxes l = 0 then clashF s boxes l else []
def agOK (s : Shp) (boxes : List Bx) (l : List Stw) (x : Stw) : List Int := if oErr s boxes l x.box = 0 then againstR s boxes l x else []
def frOK (s : Shp) (boxes : List Bx) (l : List Stw) (id : Int) : List Slt := if oErr s boxes l id = 0 then freeR s boxes l id else []
theorem de_le (s : Shp) (boxes : List Bx) (l : List Stw) : dErr s boxes l ≤ 130 := by unfold dErr; split <;> (try split) <;> (try split) <;> omega
theorem oe_le (s : Shp) (boxes : List Bx) (l : List Stw) (id : Int) : oErr s boxes l id ≤ 130 := by
  have := de_le s boxes l
  unfold oErr
  split <;> (try split) <;> (try split) <;> omega
section
variable {w : World} {s : Shp} {h : Hd} {A : Option Addr} {boxes : List Bx} {A2 : Option Addr} {c2 : Nat} {l : List Stw}
theorem CH.clen (r : CH w s h A boxes A2 c2 l) : (clOK s boxes l).length ≤ 40000 := by
  unfold clOK
  by_cases h0 : dErr s boxes l = 0
  · rw [if_pos h0, clash_allR (r.cs (dErr_ok h0).1), ← clUp_all]
    exact clUp_len s boxes r.sl _ (Nat.le_refl _)
  · rw [if_neg h0]; simp
theorem CH.alen (r : CH w s h A boxes A2 c2 l) (x : Stw) : (agOK s boxes l x).length ≤ 200 := by
  unfold agOK
  split
  · unfold againstR
    rw [List.length_map]
    exact Nat.le_trans (List.length_filter_le _ _) r.sl
  · simp
theorem CH.flen (r : CH w s h A boxes A2 c2 l) (id : Int) : (frOK s boxes l id).length ≤ 1000000 := by
  unfold frOK
  split
  · exact Nat.le_trans (List.length_filter_le _ _) (r.al _)
  · simp
theorem CH.k1 (r : CH w s h A boxes A2 c2 l) (c : Nat) : Calls Tryd.prog 12 #[.agg (shpA s h), .slice A boxes.length c, .slice A2 l.length c2] w (fun e w' => Below w.heap.size w w' ∧ ∃ A' c', e = .returned (.tuple #[.slice A' (clOK s boxes l).length c', .int .i64 (dErr s boxes l : Nat)]) ∧ SlT tCl w' (Lt w'.heap.size) A' (clOK s boxes l)) := by
  refine (clashes_any s h A c boxes A2 c2 l w r.rd r.few r.ints (by have := r.cl; omega) r.bx r.bl r.sx (by have := r.sl; omega) r.lc r.ti r.nm r.row r.tb).mono ?_
  rintro e w' ⟨hb, v, rfl, ho⟩
  obtain ⟨A', c', rfl, _, _, hs⟩ := ho.sl
  exact ⟨hb, A', c', rfl, hs⟩
theorem CH.k2 (r : CH w s h A boxes A2 c2 l) (c : Nat) : Calls Tryd.prog 13 #[.agg (shpA s h), .slice A boxes.length c, .slice A2 l.length c2] w (fun e w' => Below w.heap.size w w' ∧ ∃ A' c', e = .returned (.tuple #[.slice A' (clOK s boxes l).length c', .int .i64 (dErr s boxes l : Nat)]) ∧ SlT tCl w' (Lt w'.heap.size) A' (clOK s boxes l)) := by
  refine (refClashes_any s h A c boxes A2 c2 l w r.rd r.few (by have := r.cl; omega) r.cs r.bx r.bl r.sx r.sl r.ti r.sz).mono ?_
  rintro e w' ⟨hb, v, rfl, ho⟩
  have e1 : (if dErr s boxes l = 0 then (pairsG (gdsF boxes l)).filterMap (clR s) else []) = clOK s boxes l := by
    unfold clOK
    by_cases h0 : dErr s boxes l = 0
    · rw [if_pos h0, if_pos h0, clash_allR (r.cs (dErr_ok h0).1)]
    · rw [if_neg h0, if_neg h0]
  rw [e1] at ho
  obtain ⟨A', c', rfl, _, _, hs⟩ := ho.sl
  exact ⟨hb, A', c', rfl, hs⟩
theorem CH.k3 (r : CH w s h A boxes A2 c2 l) (c : Nat) (x : Stw) : Calls Tryd.prog 15 #[.agg (shpA s h), .slice A boxes.length c, .slice A2 l.length c2, .agg (stwL x).toArray] w (fun e w' => Below w.heap.size w w' ∧ ∃ A' c', e = .returned (.tuple #[.slice A' (agOK s boxes l x).length c', .int .i64 (oErr s boxes l x.box : Nat)]) ∧ SlT tInt w' (Lt w'.heap.size) A' (agOK s boxes l x)) := by
  refine (Against_any s h A c boxes A2 c2 l x w r.rd r.few r.ints (by have := r.cl; omega) r.bx r.bl r.sx (by have := r.sl; omega) r.lc r.ti r.nm r.row r.tb).mono ?_
  rintro e w' ⟨hb, v, rfl, ho⟩
  have e1 : (if oErr s boxes l x.box = 0 then againstF s (goodsF boxes l) x (clsF boxes x.box) else []) = agOK s boxes l x := by
    unfold agOK
    by_cases h0 : oErr s boxes l x.box = 0
    · rw [if_pos h0, if_pos h0, against_all (r.cs (dErr_ok (oErr_ok h0).1).1) (cls_ten (oErr_ok h0).1) (oErr_ok h0).2.2]
    · rw [if_neg h0, if_neg h0]
  rw [e1] at ho
  obtain ⟨A', c', rfl, _, _, hs⟩ := ho.sl
  exact ⟨hb, A', c', rfl, hs⟩
theorem CH.k4 (r : CH w s h A boxes A2 c2 l) (c : Nat) (x : Stw) : Calls Tryd.prog 16 #[.agg (shpA s h), .slice A boxes.length c, .slice A2 l.length c2, .agg (stwL x).toArray] w (fun e w' => Below w.heap.size w w' ∧ ∃ A' c', e = .returned (.tuple #[.slice A' (agOK s boxes l x).length c', .int .i64 (oErr s boxes l x.box : Nat)]) ∧ SlT tInt w' (Lt w'.heap.size) A' (agOK s boxes l x)) := by
  refine (refAgainst_any s h A c boxes A2 c2 l x w r.rd r.few (by have := r.cl; omega) r.cs r.bx r.bl r.sx (by have := r.sl; omega) r.ti r.sz).mono ?_
  rintro e w' ⟨hb, v, rfl, ho⟩
  obtain ⟨A', c', rfl, _, _, hs⟩ := ho.sl
  exact ⟨hb, A', c', rfl, hs⟩
theorem CH.k5 (r : CH w s h A boxes A2 c2 l) (c : Nat) (id : Int) : Calls Tryd.prog 17 #[.agg (shpA s h), .slice A boxes.length c, .slice A2 l.length c2, .int .i64 id] w (fun e w' => Below w.heap.size w w' ∧ ∃ A' c', e = .returned (.tuple #[.slice A' (frOK s boxes l id).length c', .int .i64 (oErr s boxes l id : Nat)]) ∧ SlT tSlt w' (Lt w'.heap.size) A' (frOK s boxes l id)) := by
  refine (Free_any s h A c boxes A2 c2 l id w r.rd r.few r.ints (by have := r.cl; omega) r.bx r.bl r.sx (by have := r.sl; omega) r.lc r.ti r.nm r.row r.tb (fun c => by have := r.tn c; omega) r.al).mono ?_
  rintro e w' ⟨hb, v, rfl, ho⟩
  have e1 : (if oErr s boxes l id = 0 then freeS s boxes l id else []) = frOK s boxes l id := by
    unfold frOK
    by_cases h0 : oErr s boxes l id = 0
    · rw [if_pos h0, if_pos h0, free_allR (r.cs (dErr_ok (oErr_ok h0).1).1) (cls_ten (oErr_ok h0).1) (oErr_ok h0).2.2]
    · rw [if_neg h0, if_neg h0]
  rw [e1] at ho
  obtain ⟨A', c', rfl, _, _, hs⟩ := ho.sl
  exact ⟨hb, A', c', rfl, hs⟩
theorem CH.k6 (r : CH w s h A boxes A2 c2 l) (c : Nat) (id : Int) : Calls Tryd.prog 18 #[.agg (shpA s h), .slice A boxes.length c, .slice A2 l.length c2, .int .i64 id] w (fun e w' => Below w.heap.size w w' ∧ ∃ A' c', e = .returned (.tuple #[.slice A' (frOK s boxes l id).length c', .int .i64 (oErr s boxes l id : Nat)]) ∧ SlT tSlt w' (Lt w'.heap.size) A' (frOK s boxes l id)) := by
  refine (refFree_any s h A c boxes A2 c2 l id w r.rd r.few r.cl r.tn r.cs (r.al _) r.bx r.bl r.sx (by have := r.sl; omega) r.ti r.sz).mono ?_
  rintro e w' ⟨hb, v, rfl, ho⟩
  obtain ⟨A', c', rfl, _, _, hs⟩ := ho.sl
  exact ⟨hb, A', c', rfl, hs⟩
end

set_option maxRecDepth 100000 in
set_option maxHeartbeats 8000000 in
theorem clashesLaw_any (s : Shp) (h : Hd) (A : Option Addr) (c : Nat) (boxes : List Bx) (A2 : Option Addr) (c2 : Nat) (l : List Stw) (w : World) (r : CH w s h A boxes A2 c2 l) :
    Calls Tryd.prog 6 #[.agg (shpA s h), .slice A boxes.length c, .slice A2 l.length c2] w (TrueRet w) := by
  have hb0 := ba1 w (.cells (shpA s h) 32)
  have KE := Lib.hid (Bk.new w 32 (shpA s h))
  have HB0 := Lib.hid hb0
  have HR := Lib.hid (r.on hb0)
  have hlen := r.clen
  have K1 := Lib.hid ((r.on hb0).k1 c)
  have K2 := Lib.hid (fun (V : World) (hV : Below (w.alloc (.cells (shpA s h) 32)).heap.size (w.alloc (.cells (shpA s h) 32)) V) => ((r.on hb0).on hV).k2 c)
  have hde := de_le s boxes l
  clear r hb0 HR
  generalize clOK s boxes l = L at *
  generalize dErr s boxes l = de at *
  unfold shpA at KE HB0 K1 K2 ⊢
  go_enter Tryd.func6, Tryd.ntmps6
  go_upto_region 1 with fail
  generalize (w.alloc _) = W at *
  have e0 : W.cell? ⟨w.heap.size, 0, none⟩ = some (Value.slice h.A1 s.cols.length h.c1) := KE.out.cell 0
  have e1 : W.cell? ⟨w.heap.size, 1, none⟩ = some (Value.slice h.A2 s.covs.length h.c2) := KE.out.cell 1
  have e2 : W.cell? ⟨w.heap.size, 2, none⟩ = some (.int .i64 s.l0) := KE.out.cell 2
  have e3 : W.cell? ⟨w.heap.size, 3, none⟩ = some (.int .i64 s.l1) := KE.out.cell 3
  have e4 : W.cell? ⟨w.heap.size, 4, none⟩ = some (.int .i64 s.l2) := KE.out.cell 4
  have e5 : W.cell? ⟨w.heap.size, 5, none⟩ = some (.int .i64 s.l3) := KE.out.cell 5
  have e6 : W.cell? ⟨w.heap.size, 6, none⟩ = some (Value.slice h.A3 s.rows.length h.c3) := KE.out.cell 6
  have e7 : W.cell? ⟨w.heap.size, 7, none⟩ = some (Value.slice h.A4 s.frames.length h.c4) := KE.out.cell 7
  have e8 : W.cell? ⟨w.heap.size, 8, none⟩ = some (Value.slice h.A5 s.tanks.length h.c5) := KE.out.cell 8
  have e9 : W.cell? ⟨w.heap.size, 9, none⟩ = some (.int .i64 s.m0) := KE.out.cell 9
  have e10 : W.cell? ⟨w.heap.size, 10, none⟩ = some (.int .i64 s.m1) := KE.out.cell 10
  have e11 : W.cell? ⟨w.heap.size, 11, none⟩ = some (.int .i64 s.m2) := KE.out.cell 11
  have e12 : W.cell? ⟨w.heap.size, 12, none⟩ = some (.int .i64 s.m3) := KE.out.cell 12
  go_wp2_with fail
  refine K1.out.mono ?_
  rintro e w1 ⟨hb, B1, q1, rfl, hs1⟩
  simp only
  have KE1 := Lib.hid (KE.out.below hb KE.out.lt)
  have HB1 := Lib.hid (HB0.out.trans (hb.mono HB0.out.size))
  have K3 := Lib.hid (K2.out w1 hb)
  have HS1 := Lib.hid hs1
  clear hb hs1 K1 K2 KE HB0 e0 e1 e2 e3 e4 e5 e6 e7 e8 e9 e10 e11 e12
  go_upto_region 2 with fail
  have e0 : w1.cell? ⟨w.heap.size, 0, none⟩ = some (Value.slice h.A1 s.cols.length h.c1) := KE1.out.cell 0
  have e1 : w1.cell? ⟨w.heap.size, 1, none⟩ = some (Value.slice h.A2 s.covs.length h.c2) := KE1.out.cell 1
  have e2 : w1.cell? ⟨w.heap.size, 2, none⟩ = some (.int .i64 s.l0) := KE1.out.cell 2
  have e3 : w1.cell? ⟨w.heap.size, 3, none⟩ = some (.int .i64 s.l1) := KE1.out.cell 3
  have e4 : w1.cell? ⟨w.heap.size, 4, none⟩ = some (.int .i64 s.l2) := KE1.out.cell 4
  have e5 : w1.cell? ⟨w.heap.size, 5, none⟩ = some (.int .i64 s.l3) := KE1.out.cell 5
  have e6 : w1.cell? ⟨w.heap.size, 6, none⟩ = some (Value.slice h.A3 s.rows.length h.c3) := KE1.out.cell 6
  have e7 : w1.cell? ⟨w.heap.size, 7, none⟩ = some (Value.slice h.A4 s.frames.length h.c4) := KE1.out.cell 7
  have e8 : w1.cell? ⟨w.heap.size, 8, none⟩ = some (Value.slice h.A5 s.tanks.length h.c5) := KE1.out.cell 8
  have e9 : w1.cell? ⟨w.heap.size, 9, none⟩ = some (.int .i64 s.m0) := KE1.out.cell 9
  have e10 : w1.cell? ⟨w.heap.size, 10, none⟩ = some (.int .i64 s.m1) := KE1.out.cell 10
  have e11 : w1.cell? ⟨w.heap.size, 11, none⟩ = some (.int .i64 s.m2) := KE1.out.cell 11
  have e12 : w1.cell? ⟨w.heap.size, 12, none⟩ = some (.int .i64 s.m3) := KE1.out.cell 12
  go_wp2_with fail
  refine K3.out.mono ?_
  rintro e w2 ⟨hb, B2, q2, rfl, hs2⟩
  simp only
  have HB2 := Lib.hid (HB1.out.trans (hb.mono HB1.out.size))
  have HS3 := Lib.hid (HS1.out.on hb)
  have HS2 := Lib.hid hs2
  clear hb hs2 HS1 HB1 KE1 K3 e0 e1 e2 e3 e4 e5 e6 e7 e8 e9 e10 e11 e12
  try clear W
  try clear w1
  go_wp2_with fail
  go_loopw [11, 12] (fun v i wr => ∃ (k : Nat) (m : List Cl), k ≤ L.length ∧ i = .int .i64 k ∧ m.length = k ∧ Hid (m = L.take k) ∧ Hid (OwnT tCl 58 wr w2.heap.size v m) ∧ Hid (Below w2.heap.size w2 wr)) (fun _ i _ => L.length - (intOf i).toNat)
  case atStart => exact ⟨0, [], Nat.zero_le _, rfl, rfl, Lib.hid rfl, Lib.hid OwnT.nil, Lib.hid (Below.refl _ _)⟩
  case round =>
    obtain ⟨k, m, hk, rfl, hm, HM, HO, HBZ⟩ := hrel
    obtain ⟨V, rfl⟩ : ∃ V, V = wr := ⟨_, rfl⟩
    by_cases hlt : k < L.length
    · obtain ⟨b, o, hB, _, p0, p1, p2⟩ := (HS2.out.on HBZ.out).cl hlt
      have HT := Lib.hid (show L.take (k + 1) = L.take k ++ [L.getD k default] by rw [List.take_succ_eq_append_getElem hlt]; simp [hlt])
      subst hB
      have i0 : (0 : Int) ≤ (k : Int) := by omega
      have i1 : (k : Int) < (L.length : Int) := by omega
      generalize L.getD k default = x at *
      obtain ⟨y0, y1, y2⟩ := x
      simp only at p0 p1 p2
      have HM2 : Hid (m ++ [⟨y0, y1, y2⟩] = L.take (k + 1)) := Lib.hid (by rw [HT.out, HM.out])
      have hm2 : (m ++ [(⟨y0, y1, y2⟩ : Cl)]).length = k + 1 := by simp [hm]
      obtain ⟨xs, ho, hfl⟩ := HO.out
      have hb2s := HBZ.out.size
      clear HT HM HO
      go_wp2_with (at_builtin; (refine wpList_append1 el_cl rfl (.tmp 33) (.tmp 38) rfl w2.heap.size _ m.length xs rfl ho #[.int .i64 y0, .int .i64 y1, .int .u8 (y2 : Nat)] _ rfl rfl rfl ?c1 ?c2 ?c3 ?_))
      case c1 => unfold maxLen; omega
      case c2 => omega
      case c3 => omega
      intro v' w3 hown' hgr hd3 hbel
      have HBF := Lib.hid (HBZ.out.trans hbel)
      have HOF := Lib.hid (OwnT.append1 (T := tCl) (x := ⟨y0, y1, y2⟩) hfl (cs := clL ⟨y0, y1, y2⟩) rfl (by rw [hm]; exact hown') hgr hd3)
      clear hown' hgr hd3 hbel hfl ho p0 p1 p2 HBZ
      go_wp2
      go_roundw
      case rel => first | exact ⟨k + 1, m ++ [⟨y0, y1, y2⟩], by omega, by go_num, hm2, HM2, HOF, HBF⟩ | ((repeat apply Exists.intro); (first | exact ⟨⟨k + 1, m ++ [⟨y0, y1, y2⟩], by omega, by go_num, hm2, HM2, HOF, HBF⟩, rfl⟩ | exact ⟨(show k + 1 ≤ L.length from hlt), by go_num, hm2, HM2, HOF, HBF⟩))
      case measure => simp [intOf]; omega
    · obtain rfl : k = L.length := by omega
      have hmL : m = L := by rw [HM.out, List.take_length]
      subst hmL
      obtain ⟨Bw, qw, rfl, _, _, hsw⟩ := HO.out.sl
      have KS := Lib.hid (sameCl_any B1 Bw q1 qw m V (HS3.out.on HBZ.out) hsw (by omega))
      have HBF := Lib.hid (HB2.out.trans (HBZ.out.mono HB2.out.size))
      have u0 : ((de : Int) == (de : Int)) = true := by simp
      clear hsw HO HBZ HM hm
      go_wp2_with fail
      refine KS.out.mono ?_
      rintro e Z ⟨rfl, hb⟩
      simp only
      have HE := Lib.hid (HBF.out.trans (hb.mono HBF.out.size))
      clear hb KS
      go_wp2_with fail
      (try go_ret)
      exact ⟨rfl, HE.out⟩
set_option maxRecDepth 100000 in
set_option maxHeartbeats 8000000 in
theorem againstLaw_any (s : Shp) (h : Hd) (A : Option Addr) (c : Nat) (boxes : List Bx) (A2 : Option Addr) (c2 : Nat) (l : List Stw) (x : Stw) (w : World) (r : CH w s h A boxes A2 c2 l) :
    Calls Tryd.prog 7 #[.agg (shpA s h), .slice A boxes.length c, .slice A2 l.length c2, .agg (stwL x).toArray] w (TrueRet w) := by
  obtain ⟨xb, xc, xt, xh⟩ := x
  have hb0 := ba2 w (.cells (shpA s h) 32) (.cells #[.int .i64 xb, .int .i64 xc, .int .i64 xt, .int .u8 (xh : Nat)] 44)
  have KE := Lib.hid ((Bk.new w 32 (shpA s h)).alloc (.cells #[.int .i64 xb, .int .i64 xc, .int .i64 xt, .int .u8 (xh : Nat)] 44))
  have KX := Lib.hid (Bk.nxt14 (w := w) (.cells (shpA s h) 32) 44 #[.int .i64 xb, .int .i64 xc, .int .i64 xt, .int .u8 (xh : Nat)])
  have HB0 := Lib.hid hb0
  have hlen := r.alen ⟨xb, ⟨xc, xt, xh⟩⟩
  have hlen2 := r.flen xb
  have HR := Lib.hid (r.on hb0)
  have K1 := Lib.hid (fun (V : World) (hV : CH V s h A boxes A2 c2 l) => hV.k3 c ⟨xb, ⟨xc, xt, xh⟩⟩)
  have K2 := Lib.hid (fun (V : World) (hV : CH V s h A boxes A2 c2 l) => hV.k4 c ⟨xb, ⟨xc, xt, xh⟩⟩)
  have K3 := Lib.hid (fun (V : World) (hV : CH V s h A boxes A2 c2 l) => hV.k5 c xb)
  have K4 := Lib.hid (fun (V : World) (hV : CH V s h A boxes A2 c2 l) => hV.k6 c xb)
  have hoe := oe_le s boxes l xb
  clear r hb0
  unfold stwL at K1 K2 ⊢
  simp only at K1 K2 ⊢
  generalize agOK s boxes l ⟨xb, ⟨xc, xt, xh⟩⟩ = L at *
  generalize frOK s boxes l xb = F at *
  generalize oErr s boxes l xb = oe at *
  unfold shpA at KE KX HB0 HR K1 K2 K3 K4 ⊢
  go_enter Tryd.func7, Tryd.ntmps7
  go_upto_region 1 with fail
  generalize ((w.alloc _).alloc _) = W at *
  have e0 : W.cell? ⟨w.heap.size, 0, none⟩ = some (Value.slice h.A1 s.cols.length h.c1) := KE.out.cell 0
  have e1 : W.cell? ⟨w.heap.size, 1, none⟩ = some (Value.slice h.A2 s.covs.length h.c2) := KE.out.cell 1
  have e2 : W.cell? ⟨w.heap.size, 2, none⟩ = some (.int .i64 s.l0) := KE.out.cell 2
  have e3 : W.cell? ⟨w.heap.size, 3, none⟩ = some (.int .i64 s.l1) := KE.out.cell 3
  have e4 : W.cell? ⟨w.heap.size, 4, none⟩ = some (.int .i64 s.l2) := KE.out.cell 4
  have e5 : W.cell? ⟨w.heap.size, 5, none⟩ = some (.int .i64 s.l3) := KE.out.cell 5
  have e6 : W.cell? ⟨w.heap.size, 6, none⟩ = some (Value.slice h.A3 s.rows.length h.c3) := KE.out.cell 6
  have e7 : W.cell? ⟨w.heap.size, 7, none⟩ = some (Value.slice h.A4 s.frames.length h.c4) := KE.out.cell 7
  have e8 : W.cell? ⟨w.heap.size, 8, none⟩ = some (Value.slice h.A5 s.tanks.length h.c5) := KE.out.cell 8
  have e9 : W.cell? ⟨w.heap.size, 9, none⟩ = some (.int .i64 s.m0) := KE.out.cell 9
  have e10 : W.cell? ⟨w.heap.size, 10, none⟩ = some (.int .i64 s.m1) := KE.out.cell 10
  have e11 : W.cell? ⟨w.heap.size, 11, none⟩ = some (.int .i64 s.m2) := KE.out.cell 11
  have e12 : W.cell? ⟨w.heap.size, 12, none⟩ = some (.int .i64 s.m3) := KE.out.cell 12
  have x0 : W.cell? ⟨w.heap.size + 1, 0, none⟩ = some (.int .i64 xb) := KX.out.cell 0
  have x1 : W.cell? ⟨w.heap.size + 1, 1, none⟩ = some (.int .i64 xc) := KX.out.cell 1
  have x2 : W.cell? ⟨w.heap.size + 1, 2, none⟩ = some (.int .i64 xt) := KX.out.cell 2
  have x3 : W.cell? ⟨w.heap.size + 1, 3, none⟩ = some (.int .u8 (xh : Nat)) := KX.out.cell 3
  have KC := Lib.hid (K1.out W HR.out)
  clear K1
  go_wp2_with fail
  refine KC.out.mono ?_
  rintro e w1 ⟨hb, B1, q1, rfl, hs⟩
  simp only
  have KE1 := Lib.hid (KE.out.below hb KE.out.lt)
  have KX1 := Lib.hid (KX.out.below hb KX.out.lt)
  have HB1 := Lib.hid (HB0.out.trans (hb.mono HB0.out.size))
  have HR1 := Lib.hid (HR.out.on hb)
  have HS1 := Lib.hid hs
  clear hb hs KC KE KX HB0 HR e0 e1 e2 e3 e4 e5 e6 e7 e8 e9 e10 e11 e12 x0 x1 x2 x3
  try clear W
  go_upto_region 2 with fail
  have e0 : w1.cell? ⟨w.heap.size, 0, none⟩ = some (Value.slice h.A1 s.cols.length h.c1) := KE1.out.cell 0
  have e1 : w1.cell? ⟨w.heap.size, 1, none⟩ = some (Value.slice h.A2 s.covs.length h.c2) := KE1.out.cell 1
  have e2 : w1.cell? ⟨w.heap.size, 2, none⟩ = some (.int .i64 s.l0) := KE1.out.cell 2
  have e3 : w1.cell? ⟨w.heap.size, 3, none⟩ = some (.int .i64 s.l1) := KE1.out.cell 3
  have e4 : w1.cell? ⟨w.heap.size, 4, none⟩ = some (.int .i64 s.l2) := KE1.out.cell 4
  have e5 : w1.cell? ⟨w.heap.size, 5, none⟩ = some (.int .i64 s.l3) := KE1.out.cell 5
  have e6 : w1.cell? ⟨w.heap.size, 6, none⟩ = some (Value.slice h.A3 s.rows.length h.c3) := KE1.out.cell 6
  have e7 : w1.cell? ⟨w.heap.size, 7, none⟩ = some (Value.slice h.A4 s.frames.length h.c4) := KE1.out.cell 7
  have e8 : w1.cell? ⟨w.heap.size, 8, none⟩ = some (Value.slice h.A5 s.tanks.length h.c5) := KE1.out.cell 8
  have e9 : w1.cell? ⟨w.heap.size, 9, none⟩ = some (.int .i64 s.m0) := KE1.out.cell 9
  have e10 : w1.cell? ⟨w.heap.size, 10, none⟩ = some (.int .i64 s.m1) := KE1.out.cell 10
  have e11 : w1.cell? ⟨w.heap.size, 11, none⟩ = some (.int .i64 s.m2) := KE1.out.cell 11
  have e12 : w1.cell? ⟨w.heap.size, 12, none⟩ = some (.int .i64 s.m3) := KE1.out.cell 12
  have x0 : w1.cell? ⟨w.heap.size + 1, 0, none⟩ = some (.int .i64 xb) := KX1.out.cell 0
  have x1 : w1.cell? ⟨w.heap.size + 1, 1, none⟩ = some (.int .i64 xc) := KX1.out.cell 1
  have x2 : w1.cell? ⟨w.heap.size + 1, 2, none⟩ = some (.int .i64 xt) := KX1.out.cell 2
  have x3 : w1.cell? ⟨w.heap.size + 1, 3, none⟩ = some (.int .u8 (xh : Nat)) := KX1.out.cell 3
  have KC := Lib.hid (K2.out w1 HR1.out)
  clear K2
  go_wp2_with fail
  refine KC.out.mono ?_
  rintro e w2 ⟨hb, B2, q2, rfl, hs⟩
  simp only
  have KE2 := Lib.hid (KE1.out.below hb KE1.out.lt)
  have KX2 := Lib.hid (KX1.out.below hb KX1.out.lt)
  have HB2 := Lib.hid (HB1.out.trans (hb.mono HB1.out.size))
  have HR2 := Lib.hid (HR1.out.on hb)
  have HS2 := Lib.hid hs
  replace HS1 := Lib.hid (HS1.out.on hb)
  clear hb hs KC KE1 KX1 HB1 HR1 e0 e1 e2 e3 e4 e5 e6 e7 e8 e9 e10 e11 e12 x0 x1 x2 x3
  try clear w1
  go_upto_region 3 with fail
  have e0 : w2.cell? ⟨w.heap.size, 0, none⟩ = some (Value.slice h.A1 s.cols.length h.c1) := KE2.out.cell 0
  have e1 : w2.cell? ⟨w.heap.size, 1, none⟩ = some (Value.slice h.A2 s.covs.length h.c2) := KE2.out.cell 1
  have e2 : w2.cell? ⟨w.heap.size, 2, none⟩ = some (.int .i64 s.l0) := KE2.out.cell 2
  have e3 : w2.cell? ⟨w.heap.size, 3, none⟩ = some (.int .i64 s.l1) := KE2.out.cell 3
  have e4 : w2.cell? ⟨w.heap.size, 4, none⟩ = some (.int .i64 s.l2) := KE2.out.cell 4
  have e5 : w2.cell? ⟨w.heap.size, 5, none⟩ = some (.int .i64 s.l3) := KE2.out.cell 5
  have e6 : w2.cell? ⟨w.heap.size, 6, none⟩ = some (Value.slice h.A3 s.rows.length h.c3) := KE2.out.cell 6
  have e7 : w2.cell? ⟨w.heap.size, 7, none⟩ = some (Value.slice h.A4 s.frames.length h.c4) := KE2.out.cell 7
  have e8 : w2.cell? ⟨w.heap.size, 8, none⟩ = some (Value.slice h.A5 s.tanks.length h.c5) := KE2.out.cell 8
  have e9 : w2.cell? ⟨w.heap.size, 9, none⟩ = some (.int .i64 s.m0) := KE2.out.cell 9
  have e10 : w2.cell? ⟨w.heap.size, 10, none⟩ = some (.int .i64 s.m1) := KE2.out.cell 10
  have e11 : w2.cell? ⟨w.heap.size, 11, none⟩ = some (.int .i64 s.m2) := KE2.out.cell 11
  have e12 : w2.cell? ⟨w.heap.size, 12, none⟩ = some (.int .i64 s.m3) := KE2.out.cell 12
  have x0 : w2.cell? ⟨w.heap.size + 1, 0, none⟩ = some (.int .i64 xb) := KX2.out.cell 0
  have x1 : w2.cell? ⟨w.heap.size + 1, 1, none⟩ = some (.int .i64 xc) := KX2.out.cell 1
  have x2 : w2.cell? ⟨w.heap.size + 1, 2, none⟩ = some (.int .i64 xt) := KX2.out.cell 2
  have x3 : w2.cell? ⟨w.heap.size + 1, 3, none⟩ = some (.int .u8 (xh : Nat)) := KX2.out.cell 3
  have KC := Lib.hid (K3.out w2 HR2.out)
  clear K3
  go_wp2_with fail
  refine KC.out.mono ?_
  rintro e w3 ⟨hb, B3, q3, rfl, hs⟩
  simp only
  have KE3 := Lib.hid (KE2.out.below hb KE2.out.lt)
  have KX3 := Lib.hid (KX2.out.below hb KX2.out.lt)
  have HB3 := Lib.hid (HB2.out.trans (hb.mono HB2.out.size))
  have HR3 := Lib.hid (HR2.out.on hb)
  have HS3 := Lib.hid hs
  replace HS1 := Lib.hid (HS1.out.on hb)
  replace HS2 := Lib.hid (HS2.out.on hb)
  clear hb hs KC KE2 KX2 HB2 HR2 e0 e1 e2 e3 e4 e5 e6 e7 e8 e9 e10 e11 e12 x0 x1 x2 x3
  try clear w2
  go_upto_region 4 with fail
  have e0 : w3.cell? ⟨w.heap.size, 0, none⟩ = some (Value.slice h.A1 s.cols.length h.c1) := KE3.out.cell 0
  have e1 : w3.cell? ⟨w.heap.size, 1, none⟩ = some (Value.slice h.A2 s.covs.length h.c2) := KE3.out.cell 1
  have e2 : w3.cell? ⟨w.heap.size, 2, none⟩ = some (.int .i64 s.l0) := KE3.out.cell 2
  have e3 : w3.cell? ⟨w.heap.size, 3, none⟩ = some (.int .i64 s.l1) := KE3.out.cell 3
  have e4 : w3.cell? ⟨w.heap.size, 4, none⟩ = some (.int .i64 s.l2) := KE3.out.cell 4
  have e5 : w3.cell? ⟨w.heap.size, 5, none⟩ = some (.int .i64 s.l3) := KE3.out.cell 5
  have e6 : w3.cell? ⟨w.heap.size, 6, none⟩ = some (Value.slice h.A3 s.rows.length h.c3) := KE3.out.cell 6
  have e7 : w3.cell? ⟨w.heap.size, 7, none⟩ = some (Value.slice h.A4 s.frames.length h.c4) := KE3.out.cell 7
  have e8 : w3.cell? ⟨w.heap.size, 8, none⟩ = some (Value.slice h.A5 s.tanks.length h.c5) := KE3.out.cell 8
  have e9 : w3.cell? ⟨w.heap.size, 9, none⟩ = some (.int .i64 s.m0) := KE3.out.cell 9
  have e10 : w3.cell? ⟨w.heap.size, 10, none⟩ = some (.int .i64 s.m1) := KE3.out.cell 10
  have e11 : w3.cell? ⟨w.heap.size, 11, none⟩ = some (.int .i64 s.m2) := KE3.out.cell 11
  have e12 : w3.cell? ⟨w.heap.size, 12, none⟩ = some (.int .i64 s.m3) := KE3.out.cell 12
  have x0 : w3.cell? ⟨w.heap.size + 1, 0, none⟩ = some (.int .i64 xb) := KX3.out.cell 0
  have x1 : w3.cell? ⟨w.heap.size + 1, 1, none⟩ = some (.int .i64 xc) := KX3.out.cell 1
  have x2 : w3.cell? ⟨w.heap.size + 1, 2, none⟩ = some (.int .i64 xt) := KX3.out.cell 2
  have x3 : w3.cell? ⟨w.heap.size + 1, 3, none⟩ = some (.int .u8 (xh : Nat)) := KX3.out.cell 3
  have KC := Lib.hid (K4.out w3 HR3.out)
  clear K4
  go_wp2_with fail
  refine KC.out.mono ?_
  rintro e w4 ⟨hb, B4, q4, rfl, hs⟩
  simp only
  have KE4 := Lib.hid (KE3.out.below hb KE3.out.lt)
  have KX4 := Lib.hid (KX3.out.below hb KX3.out.lt)
  have HB4 := Lib.hid (HB3.out.trans (hb.mono HB3.out.size))
  have HR4 := Lib.hid (HR3.out.on hb)
  have HS4 := Lib.hid hs
  replace HS1 := Lib.hid (HS1.out.on hb)
  replace HS2 := Lib.hid (HS2.out.on hb)
  replace HS3 := Lib.hid (HS3.out.on hb)
  clear hb hs KC KE3 KX3 HB3 HR3 e0 e1 e2 e3 e4 e5 e6 e7 e8 e9 e10 e11 e12 x0 x1 x2 x3
  try clear w3
  go_upto_region 5 with fail
  clear HR4 KE4 KX4
  have KS := Lib.hid (sameInts_any B1 B2 q1 q2 L L _ _ w4 HS1.out HS2.out (by unfold maxLen; omega))
  rw [show decide (L = L) = true from decide_eq_true rfl] at KS
  have KT := Lib.hid (fun (V : World) (hV : Below w4.heap.size w4 V) => sameSlots_any B3 B4 q3 q4 F F V (HS3.out.on hV) (HS4.out.on hV) (by unfold maxLen; omega))
  rw [show decide (F = F) = true from decide_eq_true rfl] at KT
  have u0 : ((oe : Int) == (oe : Int)) = true := by simp
  clear HS1 HS2 HS3 HS4
  go_wp2_with fail
  refine KS.out.mono ?_
  rintro e Z ⟨rfl, n, rfl⟩
  simp only
  have hb := below_drewN (Below.refl w4.heap.size w4) n
  have KT1 := Lib.hid (KT.out _ hb)
  have HB5 := Lib.hid (HB4.out.trans (hb.mono HB4.out.size))
  clear hb KS KT HB4
  generalize w4.drewN n = Z at *
  go_wp2_with fail
  refine KT1.out.mono ?_
  rintro e Y ⟨rfl, hb⟩
  simp only
  have HE := Lib.hid (HB5.out.trans (hb.mono HB5.out.size))
  clear hb KT1 HB5
  go_wp2_with fail
  (try go_ret)
  exact ⟨rfl, HE.out⟩
end Go.Proofs.YtmhikcleekfbpaaDoor
