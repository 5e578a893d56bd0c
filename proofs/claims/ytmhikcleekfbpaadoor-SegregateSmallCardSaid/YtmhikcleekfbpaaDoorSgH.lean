/-
  Walks of package segregate: other, Against, Free.
-/
import Derived.Test.YtmhikcleekfbpaaDoorSgG
namespace Go.Proofs.YtmhikcleekfbpaaDoor
open Go.RowKit

theorem results_tct {P : Program} {fn : Func} {p u v : Tmp} {ty : TypeId} (h : fn.results = #[.tmp u, .cell p ty, .tmp v]) (tmps : Array Value) (w : World) (g : Nat) (t : TypeId) (cs : Array Value) (d : TypeDesc)
    (hp : tmps.getD p undef = .pointer (some ⟨g, 0, none⟩)) (hg : Bk w g t cs)
    (hu : P.underlying ty = some d) (hd : (match d with | .struct _ | .array _ _ => true | _ => false) = true) (hi : (P.info? ty).map (·.size) = some cs.size) :
    (results fn tmps).run P w = .ok (.tuple #[tmps.getD u undef, .agg cs, tmps.getD v undef]) w := by
  simp only [results, h]
  simp [Sem.run_bind, Result.andThen]
  simp only [Array.getD_eq_getD_getElem?] at hp
  rw [hp]
  simp [asAddr, Sem.run_pure, run_loadVar_row w g t ty cs (0, 0) d hg hu hd hi]
theorem Flat.gd {w w' : World} {S S' : Nat → Prop} : ∀ {xs : List Value} {l : List Gd}, Flat tGd w S xs l → Flat tGd w' S' xs l
  | _, [], h => h
  | _, _ :: _, ⟨cs, ys, e, h1, h2⟩ => ⟨cs, ys, e, h1, Flat.gd h2⟩
theorem OwnT.gdSet {w : World} {B g o : Nat} {t : TypeId} {cs : Array Value} {v u : Value} {l : List Gd} (h : OwnT tGd 85 w B v l) (hb : Bk w g t cs) (hne : 85 ≠ t) : OwnT tGd 85 (w.setCell ⟨g, o, none⟩ u) B v l := by
  obtain ⟨xs, ho, hf⟩ := h
  exact ⟨xs, ho.kept (grown_setCell w ⟨g, o, none⟩ u) (.inr (own_ne ho hb hne)), hf.gd⟩
theorem OwnT.gdSet9 {w : World} {B g : Nat} {t : TypeId} {cs : Array Value} {v : Value} {l : List Gd} (h : OwnT tGd 85 w B v l) (hb : Bk w g t cs) (hne : 85 ≠ t) (v0 v1 v2 v3 v4 v5 v6 v7 v8 : Value) :
    OwnT tGd 85 (((((((((w.setCell ⟨g, 0, none⟩ v0).setCell ⟨g, 1, none⟩ v1).setCell ⟨g, 2, none⟩ v2).setCell ⟨g, 3, none⟩ v3).setCell ⟨g, 4, none⟩ v4).setCell ⟨g, 5, none⟩ v5).setCell ⟨g, 6, none⟩ v6).setCell ⟨g, 7, none⟩ v7).setCell ⟨g, 8, none⟩ v8) B v l :=
  ((((((((h.gdSet hb hne).gdSet (hb.set_ 0 v0) hne).gdSet ((hb.set_ 0 v0).set_ 1 v1) hne).gdSet (((hb.set_ 0 v0).set_ 1 v1).set_ 2 v2) hne).gdSet ((((hb.set_ 0 v0).set_ 1 v1).set_ 2 v2).set_ 3 v3) hne).gdSet (((((hb.set_ 0 v0).set_ 1 v1).set_ 2 v2).set_ 3 v3).set_ 4 v4) hne).gdSet ((((((hb.set_ 0 v0).set_ 1 v1).set_ 2 v2).set_ 3 v3).set_ 4 v4).set_ 5 v5) hne).gdSet (((((((hb.set_ 0 v0).set_ 1 v1).set_ 2 v2).set_ 3 v3).set_ 4 v4).set_ 5 v5).set_ 6 v6) hne).gdSet ((((((((hb.set_ 0 v0).set_ 1 v1).set_ 2 v2).set_ 3 v3).set_ 4 v4).set_ 5 v5).set_ 6 v6).set_ 7 v7) hne
theorem bkDrew {w : World} {g : Nat} {t : TypeId} {cs : Array Value} (h : Bk w g t cs) : Bk w.drew g t cs := h.below (drew_below _ 1) h.lt
/-- What other returns. -/
def OthRet (w : World) (s : Shp) (boxes : List Bx) (l : List Stw) (id : Int) (e : Ending) (w' : World) : Prop :=
  Below w.heap.size w w' ∧ ∃ v bx, e = .returned (.tuple #[v, .agg (bxL bx).toArray, .int .i64 (oErr s boxes l id : Nat)]) ∧ (oErr s boxes l id = 0 → bx = (findBx boxes id).1 ∧ OwnT tGd 85 w' w.heap.size v (goodsF boxes l))
set_option maxRecDepth 100000 in
set_option maxHeartbeats 8000000 in
theorem other_any (s : Shp) (h : Hd) (A : Option Addr) (c : Nat) (boxes : List Bx) (A2 : Option Addr) (c2 : Nat) (l : List Stw) (id : Int) (w : World) (hsh : ShpR w (Lt w.heap.size) s h) (hf : Few s) (hi : Ints s) (hcl : s.cols.length ≤ 1000000)
    (hb : SlT tBx w (Lt w.heap.size) A boxes) (hbl : boxes.length ≤ 1000000) (hs : SlT tStw w (Lt w.heap.size) A2 l) (hl : l.length ≤ 1000000) (hlc : l.length ≤ c2) (ht : ∀ x ∈ l, x.slot.tier ≤ 9223372036854775807) (hn : NamesOK w) :
    Calls Tryd.prog 30 #[.agg (shpA s h), .slice A boxes.length c, .slice A2 l.length c2, .int .i64 id] w (OthRet w s boxes l id) := by
  have hb0 := ba2 w (.cells (shpA s h) 32) (.cells #[.int .i64 0, .string ⟨#[]⟩, .int .u8 0, .bool false, .int .i64 0, .int .i64 0, .int .i64 0, .int .u8 0, .bool false] 41)
  have HB0 := Lib.hid hb0
  have KDG := Lib.hid (dangerous_any s h A c boxes A2 c2 l _ (hsh.on hb0) hf hi hcl (hb.on hb0) hbl (hs.on hb0) hl hlc ht (hn.below hb0 hn.lt))
  have KE := Lib.hid ((Bk.new w 32 (shpA s h)).alloc (.cells #[.int .i64 0, .string ⟨#[]⟩, .int .u8 0, .bool false, .int .i64 0, .int .i64 0, .int .i64 0, .int .u8 0, .bool false] 41))
  have KZ := Lib.hid (Bk.nxt14 (w := w) (.cells (shpA s h) 32) 41 #[.int .i64 0, .string ⟨#[]⟩, .int .u8 0, .bool false, .int .i64 0, .int .i64 0, .int .i64 0, .int .u8 0, .bool false])
  have KF := Lib.hid (fun (V : World) (hV : Below w.heap.size w V) => stowFind_any A c boxes id V (hb.on hV) hbl)
  have HN := Lib.hid hn
  have HD : Hid (∀ e W, OthRet w s boxes l id e W = (Below w.heap.size w W ∧ ∃ v bx, e = .returned (.tuple #[v, .agg (bxL bx).toArray, .int .i64 (oErr s boxes l id : Nat)]) ∧ (oErr s boxes l id = 0 → bx = (findBx boxes id).1 ∧ OwnT tGd 85 W w.heap.size v (goodsF boxes l)))) := Lib.hid fun _ _ => rfl
  have HOE : Hid (oErr s boxes l id = if dErr s boxes l = 0 then (if (findBx boxes id).2 then (if 9 < (findBx boxes id).1.cls then 130 else 0) else 6) else dErr s boxes l) := Lib.hid rfl
  clear hb hs hn hsh hb0 hf hi ht
  unfold DngRet at KDG
  generalize OthRet w s boxes l id = RET at *
  generalize oErr s boxes l id = oe at *
  generalize dErr s boxes l = de at *
  generalize findBx boxes id = fb at *
  generalize goodsF boxes l = G at *
  unfold shpA at *
  go_enter Tryd.func30, Tryd.ntmps30
  go_upto_region 1 with fail
  generalize (w.alloc _).alloc _ = W at *
  have e0 : W.cell? ⟨w.heap.size, 0, none⟩ = some (Value.slice h.A1 s.cols.length h.c1) := KE.out.cell 0
  have e1 : W.cell? ⟨w.heap.size, 1, none⟩ = some (Value.slice h.A2 s.covs.length h.c2) := KE.out.cell 1
  have e2 : W.cell? ⟨w.heap.size, 2, none⟩ = some (.int .i64 s.l0) := KE.out.cell 2
  have e3 : W.cell? ⟨w.heap.size, 3, none⟩ = some (.int .i64 s.l1) := KE.out.cell 3
  have e4 : W.cell? ⟨w.heap.size, 4, none⟩ = some (.int .i64 s.l2) := KE.out.cell 4
  have e5 : W.cell? ⟨w.heap.size, 5, none⟩ = some (.int .i64 s.l3) := KE.out.cell 5
  have e6 : W.cell? ⟨w.heap.size, 6, none⟩ = some (Value.slice h.A3 s.rows.length h.c3) := KE.out.cell 6
  have e7 : W.cell? ⟨w.heap.size, 7, none⟩ = some (Value.slice h.A4 s.frames.length h.c4) := KE.out.cell 7
  have e8 : W.cell? ⟨w.heap.size, 8, none⟩ = some (Value.slice h.A5 s.tanks.length h.c5) := KE.out.cell 8
  have e9 : W.cell? ⟨w.heap.size, 9, none⟩ = some (.int .i64 s.m0) := KE.out.cell 9
  have e10 : W.cell? ⟨w.heap.size, 10, none⟩ = some (.int .i64 s.m1) := KE.out.cell 10
  have e11 : W.cell? ⟨w.heap.size, 11, none⟩ = some (.int .i64 s.m2) := KE.out.cell 11
  have e12 : W.cell? ⟨w.heap.size, 12, none⟩ = some (.int .i64 s.m3) := KE.out.cell 12
  go_wp2_with fail
  refine KDG.out.mono ?_
  rintro e w1 ⟨hb, v, rfl, ho⟩
  simp only
  have HB1 := Lib.hid (HB0.out.trans (hb.mono HB0.out.size))
  have KZ1 := Lib.hid (KZ.out.below hb KZ.out.lt)
  have HO := Lib.hid ho
  clear hb ho KDG KE KZ e0 e1 e2 e3 e4 e5 e6 e7 e8 e9 e10 e11 e12
  by_cases hde : de = 0
  · subst hde
    simp only [if_true] at HOE HO
    have KF1 := Lib.hid (KF.out w1 HB1.out)
    obtain ⟨⟨b0, b1, b2, b3, b4, b5, b6, b7, b8⟩, ok⟩ := fb
    unfold bxL at KF1
    simp only at KF1 HOE
    go_wp2_with fail
    refine KF1.out.mono ?_
    rintro e Y ⟨rfl, hbY⟩
    simp only
    have hy := hbY.trans ((ba1 Y (.cells #[.int .i64 b0, .string b1, .int .u8 (b2 : Nat), .bool b3, .int .i64 b4, .int .i64 b5, .int .i64 b6, .int .u8 (b7 : Nat), .bool b8] 41)).mono hbY.size)
    have HBB := Lib.hid (Bk.new Y 41 #[.int .i64 b0, .string b1, .int .u8 (b2 : Nat), .bool b3, .int .i64 b4, .int .i64 b5, .int .i64 b6, .int .u8 (b7 : Nat), .bool b8])
    have HB2 := Lib.hid (HB1.out.trans (hy.mono HB1.out.size))
    have HO2 := Lib.hid ((HO.out.down HB0.out.size).below hy)
    have KZ2 := Lib.hid (KZ1.out.below hy KZ1.out.lt)
    have hgl : w.heap.size + 1 < Y.heap.size := (KZ1.out.below hbY KZ1.out.lt).lt
    clear KF KF1 hy hbY HB1 HO KZ1
    go_upto_region 5 with fail
    generalize Y.heap.size = gb at *
    generalize (Y.alloc _) = Z at *
    try clear Y
    try clear w1
    try clear W
    have z0 : Z.cell? ⟨w.heap.size + 1, 0, none⟩ = some (.int .i64 0) := KZ2.out.cell 0
    have f0 := KZ2.out.frozen 0
    have z1 : Z.cell? ⟨w.heap.size + 1, 1, none⟩ = some (.string ⟨#[]⟩) := KZ2.out.cell 1
    have f1 := KZ2.out.frozen 1
    have z2 : Z.cell? ⟨w.heap.size + 1, 2, none⟩ = some (.int .u8 0) := KZ2.out.cell 2
    have f2 := KZ2.out.frozen 2
    have z3 : Z.cell? ⟨w.heap.size + 1, 3, none⟩ = some (.bool false) := KZ2.out.cell 3
    have f3 := KZ2.out.frozen 3
    have z4 : Z.cell? ⟨w.heap.size + 1, 4, none⟩ = some (.int .i64 0) := KZ2.out.cell 4
    have f4 := KZ2.out.frozen 4
    have z5 : Z.cell? ⟨w.heap.size + 1, 5, none⟩ = some (.int .i64 0) := KZ2.out.cell 5
    have f5 := KZ2.out.frozen 5
    have z6 : Z.cell? ⟨w.heap.size + 1, 6, none⟩ = some (.int .i64 0) := KZ2.out.cell 6
    have f6 := KZ2.out.frozen 6
    have z7 : Z.cell? ⟨w.heap.size + 1, 7, none⟩ = some (.int .u8 0) := KZ2.out.cell 7
    have f7 := KZ2.out.frozen 7
    have z8 : Z.cell? ⟨w.heap.size + 1, 8, none⟩ = some (.bool false) := KZ2.out.cell 8
    have f8 := KZ2.out.frozen 8
    cases ok with
    | false =>
      have HE2 := Lib.hid (show oe = 6 by rw [HOE.out]; rfl)
      go_wp2_with fail
      refine bodyPost_ret (results_tct rfl _ _ (w.heap.size + 1) 41 #[.int .i64 0, .string ⟨#[]⟩, .int .u8 0, .bool false, .int .i64 0, .int .i64 0, .int .i64 0, .int .u8 0, .bool false] _ rfl (set9 KZ2.out _ _ _ _ _ _ _ _ _ rfl) Tryd.underlying41 rfl info_bx) rfl ?_
      rw [HD.out]
      exact ⟨be_set9 HB2.out (Nat.le_succ _) _ _ _ _ _ _ _ _ _, _, zBx, by rw [HE2.out]; rfl, fun h => absurd h (by rw [HE2.out]; decide)⟩
    | true =>
      simp only [if_true] at HOE
      have z7' : Z.cell? ⟨gb, 7, none⟩ = some (.int .u8 (b7 : Nat)) := HBB.out.cell 7
      have u0 : Z.cell? ⟨gb, 0, none⟩ = some (.int .i64 b0) := HBB.out.cell 0
      have u1 : Z.cell? ⟨gb, 1, none⟩ = some (.string b1) := HBB.out.cell 1
      have u2 : Z.cell? ⟨gb, 2, none⟩ = some (.int .u8 (b2 : Nat)) := HBB.out.cell 2
      have u3 : Z.cell? ⟨gb, 3, none⟩ = some (.bool b3) := HBB.out.cell 3
      have u4 : Z.cell? ⟨gb, 4, none⟩ = some (.int .i64 b4) := HBB.out.cell 4
      have u5 : Z.cell? ⟨gb, 5, none⟩ = some (.int .i64 b5) := HBB.out.cell 5
      have u6 : Z.cell? ⟨gb, 6, none⟩ = some (.int .i64 b6) := HBB.out.cell 6
      have u7 : Z.cell? ⟨gb, 7, none⟩ = some (.int .u8 (b7 : Nat)) := HBB.out.cell 7
      have u8 : Z.cell? ⟨gb, 8, none⟩ = some (.bool b8) := HBB.out.cell 8
      have hgb : gb < Z.heap.size := HBB.out.lt
      have hgz : w.heap.size + 1 < Z.heap.size := KZ2.out.lt
      have hngb : gb ≠ w.heap.size + 1 := by omega
      by_cases h9 : 9 < b7
      · have HE2 := Lib.hid (show oe = 130 by rw [HOE.out, if_pos h9])
        have KN := Lib.hid (name_bad b7 Z h9)
        go_wp2_with fail
        refine KN.out.mono ?_
        rintro e Z' ⟨rfl, rfl⟩
        simp only
        clear KN z7'
        go_upto_region 8 with fail
        go_region
        all_goals (go_wp2_with fail)
        refine bodyPost_ret (results_tct rfl _ _ (w.heap.size + 1) 41 #[.int .i64 b0, .string b1, .int .u8 (b2 : Nat), .bool b3, .int .i64 b4, .int .i64 b5, .int .i64 b6, .int .u8 (b7 : Nat), .bool b8] _ rfl (bkDrew (set9 KZ2.out _ _ _ _ _ _ _ _ _ rfl)) Tryd.underlying41 rfl info_bx) rfl ?_
        rw [HD.out]
        exact ⟨below_drewN (be_set9 HB2.out (Nat.le_succ _) _ _ _ _ _ _ _ _ _) 1, _, ⟨b0, b1, b2, b3, b4, b5, b6, b7, b8⟩, by rw [HE2.out]; rfl, fun h => absurd h (by rw [HE2.out]; decide)⟩
      · have HE2 := Lib.hid (show oe = 0 by rw [HOE.out, if_neg h9])
        have KN := Lib.hid (name_ok b7 Z (by omega) (HN.out.below HB2.out HN.out.lt))
        generalize strN (Dg.nameL.getD b7 []) = nm at *
        go_wp2_with fail
        refine KN.out.mono ?_
        rintro e Z' ⟨rfl, rfl⟩
        simp only
        clear KN z7'
        go_upto_region 8 with fail
        go_region
        all_goals (go_wp2_with fail)
        refine bodyPost_ret (results_tct rfl _ _ (w.heap.size + 1) 41 #[.int .i64 b0, .string b1, .int .u8 (b2 : Nat), .bool b3, .int .i64 b4, .int .i64 b5, .int .i64 b6, .int .u8 (b7 : Nat), .bool b8] _ rfl (bkDrew (set9 KZ2.out _ _ _ _ _ _ _ _ _ rfl)) Tryd.underlying41 rfl info_bx) rfl ?_
        rw [HD.out]
        exact ⟨below_drewN (be_set9 HB2.out (Nat.le_succ _) _ _ _ _ _ _ _ _ _) 1, _, ⟨b0, b1, b2, b3, b4, b5, b6, b7, b8⟩, by rw [HE2.out]; rfl, fun _ => ⟨rfl, (HO2.out.gdSet9 KZ2.out (by decide) _ _ _ _ _ _ _ _ _).drew⟩⟩
  · rw [if_neg hde] at HOE HO
    have hne : ((de : Int) != 0) = true := by simp; omega
    have z0 : w1.cell? ⟨w.heap.size + 1, 0, none⟩ = some (.int .i64 0) := KZ1.out.cell 0
    have f0 := KZ1.out.frozen 0
    have z1 : w1.cell? ⟨w.heap.size + 1, 1, none⟩ = some (.string ⟨#[]⟩) := KZ1.out.cell 1
    have f1 := KZ1.out.frozen 1
    have z2 : w1.cell? ⟨w.heap.size + 1, 2, none⟩ = some (.int .u8 0) := KZ1.out.cell 2
    have f2 := KZ1.out.frozen 2
    have z3 : w1.cell? ⟨w.heap.size + 1, 3, none⟩ = some (.bool false) := KZ1.out.cell 3
    have f3 := KZ1.out.frozen 3
    have z4 : w1.cell? ⟨w.heap.size + 1, 4, none⟩ = some (.int .i64 0) := KZ1.out.cell 4
    have f4 := KZ1.out.frozen 4
    have z5 : w1.cell? ⟨w.heap.size + 1, 5, none⟩ = some (.int .i64 0) := KZ1.out.cell 5
    have f5 := KZ1.out.frozen 5
    have z6 : w1.cell? ⟨w.heap.size + 1, 6, none⟩ = some (.int .i64 0) := KZ1.out.cell 6
    have f6 := KZ1.out.frozen 6
    have z7 : w1.cell? ⟨w.heap.size + 1, 7, none⟩ = some (.int .u8 0) := KZ1.out.cell 7
    have f7 := KZ1.out.frozen 7
    have z8 : w1.cell? ⟨w.heap.size + 1, 8, none⟩ = some (.bool false) := KZ1.out.cell 8
    have f8 := KZ1.out.frozen 8
    go_wp2_with fail
    refine bodyPost_ret (results_tct rfl _ _ (w.heap.size + 1) 41 #[.int .i64 0, .string ⟨#[]⟩, .int .u8 0, .bool false, .int .i64 0, .int .i64 0, .int .i64 0, .int .u8 0, .bool false] _ rfl (set9 KZ1.out _ _ _ _ _ _ _ _ _ rfl) Tryd.underlying41 rfl info_bx) rfl ?_
    rw [HD.out]
    exact ⟨be_set9 HB1.out (Nat.le_succ _) _ _ _ _ _ _ _ _ _, _, zBx, by rw [HOE.out]; rfl, fun h => absurd h (by rw [HOE.out]; exact hde)⟩
end Go.Proofs.YtmhikcleekfbpaaDoor
