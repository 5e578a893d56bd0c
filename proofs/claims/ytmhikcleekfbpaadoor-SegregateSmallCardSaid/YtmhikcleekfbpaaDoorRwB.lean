/-
  The walk of the reference of chapter 14: Against.
-/
import Derived.Test.YtmhikcleekfbpaaDoorRwA
import Derived.Test.YtmhikcleekfbpaaDoorRzA
import Derived.Test.YtmhikcleekfbpaaDoorSgJ
namespace Go.Proofs.YtmhikcleekfbpaaDoor
open Go.RowKit

def agR (s : Shp) (boxes : List Bx) (x : Stw) (y : Stw) : Bool := y.box != x.box && nearR s x.slot y.slot (Dg.tab (clsF boxes x.box) (clsF boxes y.box))
def againstR (s : Shp) (boxes : List Bx) (l : List Stw) (x : Stw) : List Int := (l.filter (agR s boxes x)).map (·.box)
theorem against_all {s : Shp} (hc : Cs s) {boxes : List Bx} {l : List Stw} {x : Stw} (h : ∀ y ∈ l, clsF boxes y.box < 10) (hx : clsF boxes x.box < 10) : againstF s (goodsF boxes l) x (clsF boxes x.box) = againstR s boxes l x := by
  unfold againstF againstR goodsF gdsF
  rw [List.filter_filter, List.filter_map, List.map_map]
  have e : l.filter ((fun g => agB s x (clsF boxes x.box) g && dngB g) ∘ fun y => (⟨y, clsF boxes y.box⟩ : Gd)) = l.filter (agR s boxes x) := by
    refine List.filter_congr fun y hy => ?_
    simp only [Function.comp, agB, agR, dngB]
    have h1 := h y hy
    rw [near_eq hc, nearR_symm, Dg.tab_symm _ _ h1 hx]
    by_cases h0 : 0 < clsF boxes y.box
    · rw [decide_eq_true h0, Bool.and_true]
    · rw [decide_eq_false h0, Bool.and_false]
      have e0 : clsF boxes y.box = 0 := by omega
      rw [e0]
      rcases Dg.tab_zero _ _ hx (by decide : 0 < 10) with h2 | h2
      · rw [h2, nearR_zero, Bool.and_false]
      · exact absurd h2.2.1 (by decide)
  rw [e]
  rfl
set_option maxRecDepth 100000 in
set_option maxHeartbeats 8000000 in
theorem refAgainst_any (s : Shp) (h : Hd) (A : Option Addr) (c : Nat) (boxes : List Bx) (A2 : Option Addr) (c2 : Nat) (l : List Stw) (x : Stw) (w : World) (hsh : ShpR w (Lt w.heap.size) s h) (hf : Few s) (hcl : s.cols.length ≤ 1000000) (hcs : stowRight s boxes l = true → Cs s)
    (hb : SlT tBx w (Lt w.heap.size) A boxes) (hbl : boxes.length ≤ 1000000) (hs : SlT tStw w (Lt w.heap.size) A2 l) (hl : l.length ≤ 1000000) (ht : ∀ x ∈ l, x.slot.tier ≤ 9223372036854775807) (hsz : ∀ b ∈ boxes, b.size < 256) :
    Calls Tryd.prog 16 #[.agg (shpA s h), .slice A boxes.length c, .slice A2 l.length c2, .agg (stwL x).toArray] w (ErRet tInt 3 w (oErr s boxes l x.box) (againstR s boxes l x)) := by
  have hcls : ∀ id, clsF boxes id = (findBx boxes id).1.cls := fun _ => rfl
  have HCS : Hid (dErr s boxes l = 0 → Cs s) := Lib.hid fun h0 => hcs (dErr_ok h0).1
  have HTEN : Hid (dErr s boxes l = 0 → ∀ y ∈ l, clsF boxes y.box < 10) := Lib.hid fun h0 y hy => by
    have h1 := h0
    unfold dErr at h1
    rw [if_pos (dErr_ok h0).1] at h1
    by_cases h2 : l.any (overB9 boxes) = true
    · rw [if_pos h2] at h1; omega
    · rw [List.any_eq_true] at h2
      have h3 : ¬ overB9 boxes y = true := fun h4 => h2 ⟨y, hy, h4⟩
      unfold overB9 at h3
      rw [decide_eq_true_eq] at h3
      omega
  have HRR : Hid (againstR s boxes l x = (l.filter (agR s boxes x)).map (·.box)) := Lib.hid rfl
  have HAG : Hid (∀ y : Stw, agR s boxes x y = (y.box != x.box && nearR s x.slot y.slot (Dg.tab (clsF boxes x.box) (clsF boxes y.box)))) := Lib.hid fun _ => rfl
  have HD : Hid (∀ e W, ErRet tInt 3 w (oErr s boxes l x.box) (againstR s boxes l x) e W = (Below w.heap.size w W ∧ ∃ v, e = .returned (.tuple #[v, .int .i64 (oErr s boxes l x.box : Nat)]) ∧ OwnT tInt 3 W w.heap.size v (if oErr s boxes l x.box = 0 then againstR s boxes l x else []))) := Lib.hid fun _ _ => rfl
  have HOE : Hid (oErr s boxes l x.box = if dErr s boxes l = 0 then (if (findBx boxes x.box).2 then (if 9 < clsF boxes x.box then 130 else 0) else 6) else dErr s boxes l) := Lib.hid rfl
  have HDL : Hid (dErr s boxes l ≤ 130) := Lib.hid (by unfold dErr; split <;> (try split) <;> (try split) <;> omega)
  obtain ⟨xb, xc, xt, xh⟩ := x
  have hb0 := ba2 w (.cells (shpA s h) 32) (.cells #[.int .i64 xb, .int .i64 xc, .int .i64 xt, .int .u8 (xh : Nat)] 44)
  have HB0 := Lib.hid hb0
  have KE := Lib.hid ((Bk.new w 32 (shpA s h)).alloc (.cells #[.int .i64 xb, .int .i64 xc, .int .i64 xt, .int .u8 (xh : Nat)] 44))
  have KX := Lib.hid (Bk.nxt14 (w := w) (.cells (shpA s h) 32) 44 #[.int .i64 xb, .int .i64 xc, .int .i64 xt, .int .u8 (xh : Nat)])
  have HB := Lib.hid (hb.on hb0)
  have HS := Lib.hid (hs.on hb0)
  have KR := Lib.hid (refWrong_any s h A c boxes A2 c2 l _ (hsh.on hb0) hf hcl (hb.on hb0) hbl (hs.on hb0) hl ht hsz)
  have HSH := Lib.hid (hsh.on hb0)
  have KFI := Lib.hid (fun (V : World) (hV : Below w.heap.size w V) (id : Int) => refFindBx_any A c boxes id V (hb.on hV) hbl)
  clear hsh hb hs ht hsz hb0 hcs
  simp only at HD HOE HAG
  generalize ErRet tInt 3 w (oErr s boxes l xb) (againstR s boxes l ⟨xb, ⟨xc, xt, xh⟩⟩) = RET at *
  generalize oErr s boxes l xb = oe at *
  generalize againstR s boxes l ⟨xb, ⟨xc, xt, xh⟩⟩ = R at *
  generalize agR s boxes ⟨xb, ⟨xc, xt, xh⟩⟩ = ag at *
  generalize dErr s boxes l = de at *
  unfold stwL
  unfold shpA at KE KX KR HB0 HB HS HSH ⊢
  simp only
  go_enter Tryd.func16, Tryd.ntmps16
  go_upto_region 1 with fail
  generalize ((w.alloc _).alloc _) = W at *
  have e0 : W.cell? ⟨w.heap.size, 0, none⟩ = some (Value.slice h.A1 s.cols.length h.c1) := KE.out.cell 0
  have e1 : W.cell? ⟨w.heap.size, 1, none⟩ = some (Value.slice h.A2 s.covs.length h.c2) := KE.out.cell 1
  have e2 : W.cell? ⟨w.heap.size, 2, none⟩ = some (.int .i64 s.l0) := KE.out.cell 2
  have e3 : W.cell? ⟨w.heap.size, 3, none⟩ = some (.int .i64 s.l1) := KE.out.cell 3
  have e4 : W.cell? ⟨w.heap.size, 4, none⟩ = some (.int .i64 s.l2) := KE.out.cell 4
  have e5 : W.cell? ⟨w.heap.size, 5, none⟩ = some (.int .i64 s.l3) := KE.out.cell 5
  have e6 : W.cell? ⟨w.heap.size, 6, none⟩ = some (Value.slice h.A3 s.rows.length h.c3) := KE.out.cell 6
  have e7 : W.cell? ⟨w.heap.size, 7, none⟩ = some (Value.slice h.A4 s.frames.length h.c4) := KE.out.cell 7
  have e8 : W.cell? ⟨w.heap.size, 8, none⟩ = some (Value.slice h.A5 s.tanks.length h.c5) := KE.out.cell 8
  have e9 : W.cell? ⟨w.heap.size, 9, none⟩ = some (.int .i64 s.m0) := KE.out.cell 9
  have e10 : W.cell? ⟨w.heap.size, 10, none⟩ = some (.int .i64 s.m1) := KE.out.cell 10
  have e11 : W.cell? ⟨w.heap.size, 11, none⟩ = some (.int .i64 s.m2) := KE.out.cell 11
  have e12 : W.cell? ⟨w.heap.size, 12, none⟩ = some (.int .i64 s.m3) := KE.out.cell 12
  go_wp2_with fail
  refine KR.out.mono ?_
  rintro e w1 ⟨rfl, hb⟩
  simp only
  have HW1 := Lib.hid hb
  have HB1 := Lib.hid (HB0.out.trans (hb.mono HB0.out.size))
  clear hb KR e0 e1 e2 e3 e4 e5 e6 e7 e8 e9 e10 e11 e12
  by_cases hd0 : de = 0
  · subst hd0
    have HOE1 := Lib.hid (show oe = if (findBx boxes xb).2 then (if 9 < clsF boxes xb then 130 else 0) else 6 by rw [HOE.out]; rfl)
    have HCS1 := Lib.hid (HCS.out rfl)
    have HTEN1 := Lib.hid (HTEN.out rfl)
    have KXV := Lib.hid (KX.out.below HW1.out KX.out.lt)
    have x0 : w1.cell? ⟨w.heap.size + 1, 0, none⟩ = some (.int .i64 xb) := KXV.out.cell 0
    have KF := Lib.hid (KFI.out w1 HB1.out xb)
    have hc1 := hcls xb
    rw [hc1] at HOE1 HAG
    clear hc1
    generalize findBx boxes xb = fb at *
    obtain ⟨⟨a0, a1, a2, a3, a4, a5, a6, ax, a8⟩, ok⟩ := fb
    unfold bxL at KF
    simp only at KF HOE1 HAG
    clear HOE HCS HTEN HDL
    go_wp2_with fail
    refine KF.out.mono ?_
    rintro e Y ⟨rfl, hbY⟩
    simp only
    clear x0 KXV KF
    have hy := hbY.trans ((ba1 Y (.cells #[.int .i64 a0, .string a1, .int .u8 (a2 : Nat), .bool a3, .int .i64 a4, .int .i64 a5, .int .i64 a6, .int .u8 (ax : Nat), .bool a8] 41)).mono hbY.size)
    have HAX := Lib.hid (Bk.new Y 41 #[.int .i64 a0, .string a1, .int .u8 (a2 : Nat), .bool a3, .int .i64 a4, .int .i64 a5, .int .i64 a6, .int .u8 (ax : Nat), .bool a8])
    have HW2 := Lib.hid (HW1.out.trans (hy.mono HW1.out.size))
    have HB2 := Lib.hid (HB1.out.trans (hy.mono HB1.out.size))
    clear hy hbY
    cases ok with
    | false =>
      have HE2 := Lib.hid (show oe = 6 by rw [HOE1.out]; rfl)
      have HF := Lib.hid (HB2.out)
      go_wp2_with fail
      (try go_ret2)
      rw [HD.out]
      exact ⟨HF.out, _, by rw [HE2.out]; rfl, by rw [HE2.out, if_neg (by decide)]; exact OwnT.nil⟩
    | true =>
      go_upto_region 7 with fail
      generalize Y.heap.size = ga at *
      generalize (Y.alloc _) = Z at *
      try clear Y
      try clear w1
      have z7 : Z.cell? ⟨ga, 7, none⟩ = some (.int .u8 (ax : Nat)) := HAX.out.cell 7
      by_cases h9 : 9 < ax
      · have u1 : decide ((9 : Int) < (ax : Int)) = true := decide_eq_true (by omega)
        have HE2 := Lib.hid (show oe = 130 by rw [HOE1.out]; simp only [if_true]; rw [if_pos h9])
        have HF := Lib.hid (HB2.out)
        go_wp2_with fail
        (try go_ret2)
        rw [HD.out]
        exact ⟨HF.out, _, by rw [HE2.out]; rfl, by rw [HE2.out, if_neg (by decide)]; exact OwnT.nil⟩
      · have u1 : decide ((9 : Int) < (ax : Int)) = false := decide_eq_false (by omega)
        have HOZ := Lib.hid (show oe = 0 by rw [HOE1.out]; simp only [if_true]; rw [if_neg h9])
        clear HOE1
        go_wp2_with fail
        clear z7 u1
        go_loopw [13, 14] (fun v i wr => ∃ (k : Nat) (m : List Int), k ≤ l.length ∧ i = .int .i64 k ∧ m.length ≤ k ∧ Hid (m = ((l.take k).filter ag).map (·.box)) ∧ Hid (OwnT tInt 3 wr Z.heap.size v m) ∧ Hid (Below Z.heap.size Z wr)) (fun _ i _ => l.length - (intOf i).toNat)
        case atStart => exact ⟨0, [], Nat.zero_le _, rfl, by simp, Lib.hid rfl, Lib.hid OwnT.nil, Lib.hid (Below.refl _ _)⟩
        case round =>
          obtain ⟨k, m, hk, rfl, hm, HM, HO, HBZ⟩ := hrel
          obtain ⟨V, rfl⟩ : ∃ V, V = wr := ⟨_, rfl⟩
          have HWV := Lib.hid (HW2.out.trans (HBZ.out.mono HW2.out.size))
          have HBV := Lib.hid (HB2.out.trans (HBZ.out.mono HB2.out.size))
          by_cases hlt : k < l.length
          · obtain ⟨b, off, hA2, hbB, c0, c1, c2', c3⟩ := (HS.out.on HWV.out).stw hlt
            have hbb : b < V.heap.size := hbB
            clear hbB
            have HFT := Lib.hid (filter_takeG ag l hlt default)
            have i0 : (0 : Int) ≤ (k : Int) := by omega
            have i1 : (k : Int) < (l.length : Int) := by omega
            have HC := Lib.hid (HTEN1.out _ (getD_memD hlt default))
            have hcy := hcls (l.getD k default).box
            have HP := Lib.hid (HAG.out (l.getD k default))
            rw [hcy] at HC HP
            clear hcy
            subst hA2
            generalize l.getD k default = y at *
            have KF := Lib.hid (KFI.out V HBV.out y.box)
            obtain ⟨y0, ⟨y1, y2, y3⟩⟩ := y
            simp only at c0 c1 c2' c3 KF HC HP
            generalize findBx boxes y0 = fb at *
            obtain ⟨⟨b0, b1, b2, b3, b4, b5, b6, cx, b8⟩, ok⟩ := fb
            unfold bxL at KF
            simp only at KF HC HP
            go_step
            go_step
            go_upto_region 13 with fail
            go_wp2_with fail
            refine KF.out.mono ?_
            rintro e Y ⟨rfl, hbY⟩
            simp only
            have hy := hbY.trans ((ba1 Y (.cells #[.int .i64 b0, .string b1, .int .u8 (b2 : Nat), .bool b3, .int .i64 b4, .int .i64 b5, .int .i64 b6, .int .u8 (cx : Nat), .bool b8] 41)).mono hbY.size)
            have HBB := Lib.hid (Bk.new Y 41 #[.int .i64 b0, .string b1, .int .u8 (b2 : Nat), .bool b3, .int .i64 b4, .int .i64 b5, .int .i64 b6, .int .u8 (cx : Nat), .bool b8])
            have HN := Lib.hid (HBZ.out.trans (hy.mono HBZ.out.size))
            have HO1 := Lib.hid (HO.out.below hy)
            have HBN := Lib.hid (HBV.out.trans (hy.mono HBV.out.size))
            have HWN := Lib.hid (HWV.out.trans (hy.mono HWV.out.size))
            have d0 := (hy.cell (block_lt_of_cell c0)).trans c0
            have d1 := (hy.cell (block_lt_of_cell c1)).trans c1
            have d2 := (hy.cell (block_lt_of_cell c2')).trans c2'
            have d3 := (hy.cell (block_lt_of_cell c3)).trans c3
            clear KF hbY HO HBZ HBV HWV c0 c1 c2' c3 hy
            go_upto_region 14 with fail
            generalize Y.heap.size = gb at *
            generalize (Y.alloc _) = U at *
            try clear Y
            try clear V
            have K1 : Hid (∀ Q : World, Below U.heap.size U Q → Calls Tryd.prog 29 #[.int .u8 (ax : Nat), .int .u8 (cx : Nat)] Q (Ret Q (.int .u8 (Dg.tab ax cx : Nat)))) := Lib.hid fun Q _ => (of_any ax cx Q (by omega) HC.out).mono fun e w' h => ⟨h.1, h.2⟩
            have K2 := Lib.hid (fun (Q : World) (hQ : Below U.heap.size U Q) => refNear_any s h ⟨xc, xt, xh⟩ ⟨y1, y2, y3⟩ (Dg.tab ax cx) Q ((HSH.out.on HWN.out).on hQ) HCS1.out (Nat.lt_of_le_of_lt (Dg.tab_le ax cx (by omega) HC.out) (by decide)))
            unfold sltL shpA at K2
            simp only at K2
            generalize Dg.tab ax cx = code at *
            generalize nearR s ⟨xc, xt, xh⟩ ⟨y1, y2, y3⟩ code = nr at *
            have KEU := Lib.hid (KE.out.below HWN.out KE.out.lt)
            have KXU := Lib.hid (KX.out.below HWN.out KX.out.lt)
            have KAU := Lib.hid (HAX.out.below HN.out HAX.out.lt)
            have e0 : ∀ gp : Gr U, gp.W.cell? ⟨w.heap.size, 0, none⟩ = some (Value.slice h.A1 s.cols.length h.c1) := Gr.cell (KEU.out.cell 0)
            have e1 : ∀ gp : Gr U, gp.W.cell? ⟨w.heap.size, 1, none⟩ = some (Value.slice h.A2 s.covs.length h.c2) := Gr.cell (KEU.out.cell 1)
            have e2 : ∀ gp : Gr U, gp.W.cell? ⟨w.heap.size, 2, none⟩ = some (.int .i64 s.l0) := Gr.cell (KEU.out.cell 2)
            have e3 : ∀ gp : Gr U, gp.W.cell? ⟨w.heap.size, 3, none⟩ = some (.int .i64 s.l1) := Gr.cell (KEU.out.cell 3)
            have e4 : ∀ gp : Gr U, gp.W.cell? ⟨w.heap.size, 4, none⟩ = some (.int .i64 s.l2) := Gr.cell (KEU.out.cell 4)
            have e5 : ∀ gp : Gr U, gp.W.cell? ⟨w.heap.size, 5, none⟩ = some (.int .i64 s.l3) := Gr.cell (KEU.out.cell 5)
            have e6 : ∀ gp : Gr U, gp.W.cell? ⟨w.heap.size, 6, none⟩ = some (Value.slice h.A3 s.rows.length h.c3) := Gr.cell (KEU.out.cell 6)
            have e7 : ∀ gp : Gr U, gp.W.cell? ⟨w.heap.size, 7, none⟩ = some (Value.slice h.A4 s.frames.length h.c4) := Gr.cell (KEU.out.cell 7)
            have e8 : ∀ gp : Gr U, gp.W.cell? ⟨w.heap.size, 8, none⟩ = some (Value.slice h.A5 s.tanks.length h.c5) := Gr.cell (KEU.out.cell 8)
            have e9 : ∀ gp : Gr U, gp.W.cell? ⟨w.heap.size, 9, none⟩ = some (.int .i64 s.m0) := Gr.cell (KEU.out.cell 9)
            have e10 : ∀ gp : Gr U, gp.W.cell? ⟨w.heap.size, 10, none⟩ = some (.int .i64 s.m1) := Gr.cell (KEU.out.cell 10)
            have e11 : ∀ gp : Gr U, gp.W.cell? ⟨w.heap.size, 11, none⟩ = some (.int .i64 s.m2) := Gr.cell (KEU.out.cell 11)
            have e12 : ∀ gp : Gr U, gp.W.cell? ⟨w.heap.size, 12, none⟩ = some (.int .i64 s.m3) := Gr.cell (KEU.out.cell 12)
            have x0 : ∀ gp : Gr U, gp.W.cell? ⟨w.heap.size + 1, 0, none⟩ = some (.int .i64 xb) := Gr.cell (KXU.out.cell 0)
            have x1 : ∀ gp : Gr U, gp.W.cell? ⟨w.heap.size + 1, 1, none⟩ = some (.int .i64 xc) := Gr.cell (KXU.out.cell 1)
            have x2 : ∀ gp : Gr U, gp.W.cell? ⟨w.heap.size + 1, 2, none⟩ = some (.int .i64 xt) := Gr.cell (KXU.out.cell 2)
            have x3 : ∀ gp : Gr U, gp.W.cell? ⟨w.heap.size + 1, 3, none⟩ = some (.int .u8 (xh : Nat)) := Gr.cell (KXU.out.cell 3)
            have q0 : ∀ gp : Gr U, gp.W.cell? ⟨b, off + k * 4, none⟩ = some (.int .i64 y0) := Gr.cell d0
            have q1 : ∀ gp : Gr U, gp.W.cell? ⟨b, off + k * 4 + 1, none⟩ = some (.int .i64 y1) := Gr.cell d1
            have q2 : ∀ gp : Gr U, gp.W.cell? ⟨b, off + k * 4 + 2, none⟩ = some (.int .i64 y2) := Gr.cell d2
            have q3 : ∀ gp : Gr U, gp.W.cell? ⟨b, off + k * 4 + 3, none⟩ = some (.int .u8 (y3 : Nat)) := Gr.cell d3
            have q4 : ∀ gp : Gr U, gp.W.cell? ⟨ga, 7, none⟩ = some (.int .u8 (ax : Nat)) := Gr.cell (KAU.out.cell 7)
            have q5 : ∀ gp : Gr U, gp.W.cell? ⟨gb, 7, none⟩ = some (.int .u8 (cx : Nat)) := Gr.cell (HBB.out.cell 7)
            clear d1 d2 d3
            cases hne : (y0 != xb) with
            | false =>
              rw [hne] at HP
              have HM2 : Hid (m = ((l.take (k + 1)).filter ag).map (·.box)) := Lib.hid (by rw [HFT.out, HP.out, HM.out]; simp)
              clear HP HFT HM
              refine wp_region_gr (by kernel_rfl) (by kernel_rfl) ?_
              repeat (go_big_quiet_step ((first | (with_reducible exact Gr.call _ (fun V hV => K1.out V hV)) | (with_reducible exact Gr.call _ (fun V hV => K2.out V hV)))))
              refine wpQuiet_nil ?_
              rintro U2 ⟨⟨_, hbY⟩, rfl⟩
              have HBF := Lib.hid (HN.out.trans (hbY.mono HN.out.size))
              have HOF := Lib.hid (HO1.out.below hbY)
              clear hbY K1 K2 e0 e1 e2 e3 e4 e5 e6 e7 e8 e9 e10 e11 e12 x0 x1 x2 x3 q0 q1 q2 q3 q4 q5 d0
              go_wp2_with fail
              go_roundw
              case rel => (first | exact ⟨k + 1, m, by omega, by go_num, by first | (simp; omega) | omega, HM2, HOF, HBF⟩ | ((repeat apply Exists.intro); (first | exact ⟨⟨k + 1, m, by omega, by go_num, by first | (simp; omega) | omega, HM2, HOF, HBF⟩, rfl⟩ | exact ⟨by omega, by go_num, by first | (simp; omega) | omega, HM2, HOF, HBF⟩)))
              case measure => simp [intOf]; omega
            | true =>
              rw [hne] at HP
              refine wp_region_gr (by kernel_rfl) (by kernel_rfl) ?_
              repeat (go_big_quiet_step ((first | (with_reducible exact Gr.call _ (fun V hV => K1.out V hV)) | (with_reducible exact Gr.call _ (fun V hV => K2.out V hV)))))
              refine wpQuiet_nil ?_
              rintro U2 ⟨⟨_, hbY⟩, rfl⟩
              have HN2 := Lib.hid (HN.out.trans (hbY.mono HN.out.size))
              have HO2 := Lib.hid (HO1.out.below hbY)
              replace d0 := (hbY.cell (block_lt_of_cell d0)).trans d0
              clear hbY K1 K2 e0 e1 e2 e3 e4 e5 e6 e7 e8 e9 e10 e11 e12 x0 x1 x2 x3 q0 q1 q2 q3 q4 q5
              cases nr with
              | false =>
                have HM2 : Hid (m = ((l.take (k + 1)).filter ag).map (·.box)) := Lib.hid (by rw [HFT.out, HP.out, HM.out]; simp)
                have HBF := HN2
                have HOF := HO2
                clear HP HFT HM HN2 HO2
                go_wp2_with fail
                go_roundw
                case rel => (first | exact ⟨k + 1, m, by omega, by go_num, by first | (simp; omega) | omega, HM2, HOF, HBF⟩ | ((repeat apply Exists.intro); (first | exact ⟨⟨k + 1, m, by omega, by go_num, by first | (simp; omega) | omega, HM2, HOF, HBF⟩, rfl⟩ | exact ⟨by omega, by go_num, by first | (simp; omega) | omega, HM2, HOF, HBF⟩)))
                case measure => simp [intOf]; omega
              | true =>
                have HM2 : Hid (m ++ [y0] = ((l.take (k + 1)).filter ag).map (·.box)) := Lib.hid (by rw [HFT.out, HP.out, HM.out]; simp)
                obtain ⟨xs, ho, hfl⟩ := HO2.out
                have hb2s := HN2.out.size
                clear HP HFT HM
                go_wp2_with (at_builtin; (refine wpList_append1 el_int rfl (.tmp 76) (.tmp 82) rfl Z.heap.size _ m.length xs rfl ho #[.int .i64 y0] _ rfl rfl rfl ?c1 ?c2 ?c3 ?_))
                case c1 => unfold maxLen; omega
                case c2 => omega
                case c3 => omega
                intro v' w3 hown' hgr hd3 hbel
                have HBF := Lib.hid (HN2.out.trans hbel)
                have HOF := Lib.hid (OwnT.int1 hfl hown' hgr hd3)
                clear hown' hgr hd3 hbel hfl ho
                go_wp2
                go_roundw
                case rel => (first | exact ⟨k + 1, m ++ [y0], by omega, by go_num, by first | (simp; omega) | omega, HM2, HOF, HBF⟩ | ((repeat apply Exists.intro); (first | exact ⟨⟨k + 1, m ++ [y0], by omega, by go_num, by first | (simp; omega) | omega, HM2, HOF, HBF⟩, rfl⟩ | exact ⟨by omega, by go_num, by first | (simp; omega) | omega, HM2, HOF, HBF⟩)))
                case measure => simp [intOf]; omega
          · obtain rfl : k = l.length := by omega
            have HRE := Lib.hid (show m = R by rw [HM.out, HRR.out, List.take_length])
            have HF := HBV
            have HOF := Lib.hid (HO.out.down HB2.out.size)
            go_wp2_with fail
            (try go_ret2)
            rw [HD.out]
            exact ⟨HF.out, _, by rw [HOZ.out]; rfl, by rw [HOZ.out, if_pos rfl, ← HRE.out]; exact HOF.out⟩
  · have hde : de < 1000 := by have := HDL.out; omega
    have u0 : ((de : Int) != 0) = true := by simpa using hd0
    have HE2 := Lib.hid (show oe = de by rw [HOE.out, if_neg hd0])
    have HF := Lib.hid (HB1.out)
    go_wp2_with fail
    (try go_ret2)
    rw [HD.out]
    exact ⟨HF.out, _, by rw [HE2.out]; rfl, by rw [HE2.out, if_neg (by simpa using hd0)]; exact OwnT.nil⟩
end Go.Proofs.YtmhikcleekfbpaaDoor
