/-
  The walk of the reference of chapter 14: Clashes.
-/
import Derived.Test.YtmhikcleekfbpaaDoorRwD
import Derived.Test.YtmhikcleekfbpaaDoorRwB
import Derived.Test.YtmhikcleekfbpaaDoorSgI
import Derived.Deep.RegionLaw
namespace Go.Proofs.YtmhikcleekfbpaaDoor
open Go.RowKit

theorem flat_cl_any {w W : World} {S S' : Nat → Prop} : ∀ (ys : List Value) (m : List Cl), Flat tCl w S ys m → Flat tCl W S' ys m
  | _, [], h => h
  | _, _ :: m, ⟨cs, zs, e, h1, h3⟩ => ⟨cs, zs, e, h1, flat_cl_any zs m h3⟩
theorem el_clR : El Tryd.prog 54 59 3 24 := El.mk' Tryd.underlying54 (by kernel_rfl) (by decide)
set_option maxRecDepth 100000 in
set_option maxHeartbeats 8000000 in
theorem refClashes_any (s : Shp) (h : Hd) (A : Option Addr) (c : Nat) (boxes : List Bx) (A2 : Option Addr) (c2 : Nat) (l : List Stw) (w : World) (hsh : ShpR w (Lt w.heap.size) s h) (hf : Few s) (hcl : s.cols.length ≤ 1000000) (hcs : stowRight s boxes l = true → Cs s)
    (hb : SlT tBx w (Lt w.heap.size) A boxes) (hbl : boxes.length ≤ 1000000) (hs : SlT tStw w (Lt w.heap.size) A2 l) (hl : l.length ≤ 200) (ht : ∀ x ∈ l, x.slot.tier ≤ 9223372036854775807) (hsz : ∀ b ∈ boxes, b.size < 256) :
    Calls Tryd.prog 13 #[.agg (shpA s h), .slice A boxes.length c, .slice A2 l.length c2] w (ErRet tCl 59 w (dErr s boxes l) ((pairsG (gdsF boxes l)).filterMap (clR s))) := by
  have hcls : ∀ id, clsF boxes id = (findBx boxes id).1.cls := fun _ => rfl
  have HCS : Hid (dErr s boxes l = 0 → Cs s) := Lib.hid fun h0 => hcs (dErr_ok h0).1
  have HTEN : Hid (dErr s boxes l = 0 → ∀ y ∈ l, clsF boxes y.box < 10) := Lib.hid fun h0 y hy => cls_ten h0 y hy
  have HD : Hid (∀ e W, ErRet tCl 59 w (dErr s boxes l) ((pairsG (gdsF boxes l)).filterMap (clR s)) e W = (Below w.heap.size w W ∧ ∃ v, e = .returned (.tuple #[v, .int .i64 (dErr s boxes l : Nat)]) ∧ OwnT tCl 59 W w.heap.size v (if dErr s boxes l = 0 then (pairsG (gdsF boxes l)).filterMap (clR s) else []))) := Lib.hid fun _ _ => rfl
  have HDL : Hid (dErr s boxes l ≤ 130) := Lib.hid (by unfold dErr; split <;> (try split) <;> (try split) <;> omega)
  have HZ := Lib.hid (clUp_zero s boxes l)
  have HS1 := Lib.hid (clTo_start s boxes l)
  have HS2 := Lib.hid (clTo_end s boxes l)
  have HSU := Lib.hid (fun (i k : Nat) (hi : i < k) (hk : k < l.length) => clTo_succ s boxes hi hk)
  have HAE := Lib.hid (clUp_all s boxes l)
  have HLE := Lib.hid (fun (i k : Nat) (hi : i < l.length) => clTo_len s boxes hl i k hi)
  have HLU := Lib.hid (fun (i : Nat) (hi : i ≤ l.length) => clUp_len s boxes hl i hi)
  have hb0 := ba1 w (.cells (shpA s h) 32)
  have HB0 := Lib.hid hb0
  have KE := Lib.hid (Bk.new w 32 (shpA s h))
  have HB := Lib.hid (hb.on hb0)
  have HS := Lib.hid hs
  have KR := Lib.hid (refWrong_any s h A c boxes A2 c2 l _ (hsh.on hb0) hf hcl (hb.on hb0) hbl (hs.on hb0) (by omega) ht hsz)
  have HSH := Lib.hid hsh
  have KFI := Lib.hid (fun (V : World) (hV : Below w.heap.size w V) (id : Int) => refFindBx_any A c boxes id V (hb.on hV) hbl)
  clear hsh hb hs ht hsz hb0 hcs hf hcl
  generalize ErRet tCl 59 w (dErr s boxes l) ((pairsG (gdsF boxes l)).filterMap (clR s)) = RET at *
  generalize (pairsG (gdsF boxes l)).filterMap (clR s) = R at *
  generalize clTo s boxes l = ct at *
  generalize clUp s boxes l = cu at *
  generalize dErr s boxes l = de at *
  unfold shpA at KE KR HB0 HB HSH ⊢
  go_enter Tryd.func13, Tryd.ntmps13
  go_upto_region 1 with fail
  generalize (w.alloc _) = W at *
  have e0 : W.cell? ⟨w.heap.size, 0, none⟩ = some (Value.slice h.A1 s.cols.length h.c1) := KE.out.cell 0
  have e1 : W.cell? ⟨w.heap.size, 1, none⟩ = some (Value.slice h.A2 s.covs.length h.c2) := KE.out.cell 1
  have e2 : W.cell? ⟨w.heap.size, 2, none⟩ = some (.int .i64 s.l0) := KE.out.cell 2
  have e3 : W.cell? ⟨w.heap.size, 3, none⟩ = some (.int .i64 s.l1) := KE.out.cell 3
  have e4 : W.cell? ⟨w.heap.size, 4, none⟩ = some (.int .i64 s.l2) := KE.out.cell 4
  have e5 : W.cell? ⟨w.heap.size, 5, none⟩ = some (.int .i64 s.l3) := KE.out.cell 5
  have e6 : W.cell? ⟨w.heap.size, 6, none⟩ = some (Value.slice h.A3 s.rows.length h.c3) := KE.out.cell 6
  have e7 : W.cell? ⟨w.heap.size, 7, none⟩ = some (Value.slice h.A4 s.frames.length h.c4) := KE.out.cell 7
  have e8 : W.cell? ⟨w.heap.size, 8, none⟩ = some (Value.slice h.A5 s.tanks.length h.c5) := KE.out.cell 8
  have e9 : W.cell? ⟨w.heap.size, 9, none⟩ = some (.int .i64 s.m0) := KE.out.cell 9
  have e10 : W.cell? ⟨w.heap.size, 10, none⟩ = some (.int .i64 s.m1) := KE.out.cell 10
  have e11 : W.cell? ⟨w.heap.size, 11, none⟩ = some (.int .i64 s.m2) := KE.out.cell 11
  have e12 : W.cell? ⟨w.heap.size, 12, none⟩ = some (.int .i64 s.m3) := KE.out.cell 12
  go_wp2_with fail
  refine KR.out.mono ?_
  rintro e w1 ⟨rfl, hb⟩
  simp only
  have HB1 := Lib.hid (HB0.out.trans (hb.mono HB0.out.size))
  have KE1 := Lib.hid (KE.out.below hb KE.out.lt)
  clear hb KR KE HB0 HB e0 e1 e2 e3 e4 e5 e6 e7 e8 e9 e10 e11 e12
  by_cases hd0 : de = 0
  · subst hd0
    have HCS1 := Lib.hid (HCS.out rfl)
    have HTEN1 := Lib.hid (HTEN.out rfl)
    clear HCS HDL HTEN
    go_wp2_with fail
    go_loopw [9, 10] (fun v i wr => ∃ (j : Nat) (m : List Cl), j ≤ l.length ∧ i = .int .i64 j ∧ m.length ≤ 40000 ∧ Hid (m = cu j) ∧ Hid (OwnT tCl 59 wr w1.heap.size v m) ∧ Hid (Below w1.heap.size w1 wr)) (fun _ i _ => l.length - (intOf i).toNat)
    case atStart => exact ⟨0, [], Nat.zero_le _, rfl, by simp, Lib.hid HZ.out.symm, Lib.hid OwnT.nil, Lib.hid (Below.refl _ _)⟩
    case round =>
      obtain ⟨i, m, hi, rfl, hm, HM, HO, HBZ⟩ := hrel
      obtain ⟨V, rfl⟩ : ∃ V, V = wr := ⟨_, rfl⟩
      by_cases hlt : i < l.length
      · have HBV := Lib.hid (HB1.out.trans (HBZ.out.mono HB1.out.size))
        obtain ⟨b, off, hA2, hbB, c0, c1, c2', c3⟩ := (HS.out.on HBV.out).stw hlt
        clear hbB
        have i0 : (0 : Int) ≤ (i : Int) := by omega
        have i1 : (i : Int) < (l.length : Int) := by omega
        have HC := Lib.hid (HTEN1.out _ (getD_memD hlt default))
        have hcy := hcls (l.getD i default).box
        have HT1 := Lib.hid (fun (k : Nat) (hk : i < k) (hkl : k < l.length) => HSU.out i k hk hkl)
        rw [hcy] at HC HT1
        clear hcy
        have HST := Lib.hid (HS1.out i)
        have HEN := Lib.hid (HS2.out i)
        have HLI := Lib.hid (fun k => HLE.out i k hlt)
        have HLN := Lib.hid (HLU.out (i + 1) hlt)
        obtain ⟨x, HGI⟩ : ∃ x, Hid (l.getD i default = x) := ⟨_, Lib.hid rfl⟩
        rw [HGI.out] at c0 c1 c2' c3 HC HT1
        have KF := Lib.hid (KFI.out V HBV.out x.box)
        obtain ⟨x0, ⟨x1, x2, x3⟩⟩ := x
        simp only at c0 c1 c2' c3 KF HC HT1
        generalize findBx boxes x0 = fb at *
        obtain ⟨⟨a0, a1, a2, a3, a4, a5, a6, ax, a8⟩, ok⟩ := fb
        unfold bxL at KF
        simp only at KF HC HT1
        have HAD := Lib.hid hA2
        subst hA2
        go_step
        go_step
        go_upto_region 8 with fail
        go_wp2_with fail
        refine KF.out.mono ?_
        rintro e Y ⟨rfl, hbY⟩
        simp only
        have hy := hbY.trans ((ba1 Y (.cells #[.int .i64 a0, .string a1, .int .u8 (a2 : Nat), .bool a3, .int .i64 a4, .int .i64 a5, .int .i64 a6, .int .u8 (ax : Nat), .bool a8] 41)).mono hbY.size)
        have HAX := Lib.hid (Bk.new Y 41 #[.int .i64 a0, .string a1, .int .u8 (a2 : Nat), .bool a3, .int .i64 a4, .int .i64 a5, .int .i64 a6, .int .u8 (ax : Nat), .bool a8])
        have HN := Lib.hid (HBZ.out.trans (hy.mono HBZ.out.size))
        have HO1 := Lib.hid (HO.out.below hy)
        clear KF hbY HO HBZ HBV c0 c1 c2' c3 hy
        go_wp2_with fail
        generalize Y.heap.size = ga at *
        generalize (Y.alloc _) = Z at *
        try clear Y
        try clear V
        go_loopw [9, 13] (fun v j wr => ∃ (k : Nat) (q : List Cl), i < k ∧ k ≤ l.length ∧ j = .int .i64 k ∧ q.length ≤ 40000 ∧ Hid (q = ct i k) ∧ Hid (OwnT tCl 59 wr w1.heap.size v q) ∧ Hid (Bk wr ga 41 #[.int .i64 a0, .string a1, .int .u8 (a2 : Nat), .bool a3, .int .i64 a4, .int .i64 a5, .int .i64 a6, .int .u8 (ax : Nat), .bool a8]) ∧ Hid (Below w1.heap.size w1 wr)) (fun _ j _ => l.length - (intOf j).toNat)
        case atStart => exact ⟨i + 1, m, by omega, by omega, by go_num, hm, Lib.hid (by rw [HM.out, HST.out]), HO1, HAX, HN⟩
        case round =>
          obtain ⟨k, q, hik, hk, rfl, hq, HQ, HO, HKA, HNV⟩ := hrel
          obtain ⟨V, rfl⟩ : ∃ V, V = wr := ⟨_, rfl⟩
          have HBV := Lib.hid (HB1.out.trans (HNV.out.mono HB1.out.size))
          by_cases hlk : k < l.length
          · obtain ⟨b2, o2, hA3, hbB2, c0, c1, c2', c3⟩ := (HS.out.on HBV.out).stw hlk
            obtain ⟨b3, o3, hA4, hbB3, g0, g1, g2, g3⟩ := (HS.out.on HBV.out).stw hlt
            clear hbB2 hbB3
            have hE := HGI.out
            rw [hE] at g0 g1 g2 g3
            clear hE
            cases hA3
            cases hA4
            have k0 : (0 : Int) ≤ (k : Int) := by omega
            have k1 : (k : Int) < (l.length : Int) := by omega
            have HC2 := Lib.hid (HTEN1.out _ (getD_memD hlk default))
            have hcy := hcls (l.getD k default).box
            have HT2 := Lib.hid (HT1.out k hik hlk)
            rw [hcy] at HC2 HT2
            clear hcy
            have HLK := Lib.hid (HLI.out (k + 1))
            generalize l.getD k default = y at *
            have KF := Lib.hid (KFI.out V HBV.out y.box)
            obtain ⟨y0, ⟨y1, y2, y3⟩⟩ := y
            simp only at c0 c1 c2' c3 g0 g1 g2 g3 KF HC2 HT2
            generalize findBx boxes y0 = fb at *
            obtain ⟨⟨b0, b1, b2, b3, b4, b5, b6, cx, b8⟩, ok⟩ := fb
            unfold bxL at KF
            simp only at KF HC2 HT2
            go_step
            go_step
            go_upto_region 12 with fail
            go_wp2_with fail
            refine KF.out.mono ?_
            rintro e Y ⟨rfl, hbY⟩
            simp only
            have hy := hbY.trans ((ba1 Y (.cells #[.int .i64 b0, .string b1, .int .u8 (b2 : Nat), .bool b3, .int .i64 b4, .int .i64 b5, .int .i64 b6, .int .u8 (cx : Nat), .bool b8] 41)).mono hbY.size)
            have HBB := Lib.hid (Bk.new Y 41 #[.int .i64 b0, .string b1, .int .u8 (b2 : Nat), .bool b3, .int .i64 b4, .int .i64 b5, .int .i64 b6, .int .u8 (cx : Nat), .bool b8])
            have HN2 := Lib.hid (HNV.out.trans (hy.mono HNV.out.size))
            have HKA2 := Lib.hid (HKA.out.below hy HKA.out.lt)
            have HO2 := Lib.hid (HO.out.below hy)
            have HBN := Lib.hid (HBV.out.trans (hy.mono HBV.out.size))
            have d0 := (hy.cell (block_lt_of_cell c0)).trans c0
            have d1 := (hy.cell (block_lt_of_cell c1)).trans c1
            have d2 := (hy.cell (block_lt_of_cell c2')).trans c2'
            have d3 := (hy.cell (block_lt_of_cell c3)).trans c3
            have f0 := (hy.cell (block_lt_of_cell g0)).trans g0
            have f1 := (hy.cell (block_lt_of_cell g1)).trans g1
            have f2 := (hy.cell (block_lt_of_cell g2)).trans g2
            have f3 := (hy.cell (block_lt_of_cell g3)).trans g3
            clear KF hbY HO HKA HBV HNV c0 c1 c2' c3 g0 g1 g2 g3 hy
            go_upto_region 13 with fail
            generalize Y.heap.size = gb at *
            generalize (Y.alloc _) = U at *
            try clear Y
            try clear V
            have z7 : U.cell? ⟨ga, 7, none⟩ = some (.int .u8 (ax : Nat)) := HKA2.out.cell 7
            have y7 : U.cell? ⟨gb, 7, none⟩ = some (.int .u8 (cx : Nat)) := HBB.out.cell 7
            have KO := Lib.hid (of_any ax cx U HC.out HC2.out)
            go_wp2_with fail
            refine KO.out.mono ?_
            rintro e U2 ⟨rfl, hbY⟩
            simp only
            have HN3 := Lib.hid (HN2.out.trans (hbY.mono HN2.out.size))
            have HO3 := Lib.hid (HO2.out.below hbY)
            have HKA3 := Lib.hid (HKA2.out.below hbY HKA2.out.lt)
            have HBU := Lib.hid (HBN.out.trans (hbY.mono HBN.out.size))
            have K2 := Lib.hid (fun (Q : World) (hQ : Below U2.heap.size U2 Q) => refNear_any s h ⟨x1, x2, x3⟩ ⟨y1, y2, y3⟩ (Dg.tab ax cx) Q ((HSH.out.on HBU.out).on hQ) HCS1.out (Nat.lt_of_le_of_lt (Dg.tab_le ax cx HC.out HC2.out) (by decide)))
            have hcode : Dg.tab ax cx < 256 := Nat.lt_of_le_of_lt (Dg.tab_le ax cx HC.out HC2.out) (by decide)
            unfold sltL shpA at K2
            simp only at K2
            generalize Dg.tab ax cx = code at *
            generalize nearR s ⟨x1, x2, x3⟩ ⟨y1, y2, y3⟩ code = nr at *
            have KEU := Lib.hid (KE1.out.below HN3.out KE1.out.lt)
            have e0 : ∀ gp : Gr U2, gp.W.cell? ⟨w.heap.size, 0, none⟩ = some (Value.slice h.A1 s.cols.length h.c1) := Gr.cell (KEU.out.cell 0)
            have e1 : ∀ gp : Gr U2, gp.W.cell? ⟨w.heap.size, 1, none⟩ = some (Value.slice h.A2 s.covs.length h.c2) := Gr.cell (KEU.out.cell 1)
            have e2 : ∀ gp : Gr U2, gp.W.cell? ⟨w.heap.size, 2, none⟩ = some (.int .i64 s.l0) := Gr.cell (KEU.out.cell 2)
            have e3 : ∀ gp : Gr U2, gp.W.cell? ⟨w.heap.size, 3, none⟩ = some (.int .i64 s.l1) := Gr.cell (KEU.out.cell 3)
            have e4 : ∀ gp : Gr U2, gp.W.cell? ⟨w.heap.size, 4, none⟩ = some (.int .i64 s.l2) := Gr.cell (KEU.out.cell 4)
            have e5 : ∀ gp : Gr U2, gp.W.cell? ⟨w.heap.size, 5, none⟩ = some (.int .i64 s.l3) := Gr.cell (KEU.out.cell 5)
            have e6 : ∀ gp : Gr U2, gp.W.cell? ⟨w.heap.size, 6, none⟩ = some (Value.slice h.A3 s.rows.length h.c3) := Gr.cell (KEU.out.cell 6)
            have e7 : ∀ gp : Gr U2, gp.W.cell? ⟨w.heap.size, 7, none⟩ = some (Value.slice h.A4 s.frames.length h.c4) := Gr.cell (KEU.out.cell 7)
            have e8 : ∀ gp : Gr U2, gp.W.cell? ⟨w.heap.size, 8, none⟩ = some (Value.slice h.A5 s.tanks.length h.c5) := Gr.cell (KEU.out.cell 8)
            have e9 : ∀ gp : Gr U2, gp.W.cell? ⟨w.heap.size, 9, none⟩ = some (.int .i64 s.m0) := Gr.cell (KEU.out.cell 9)
            have e10 : ∀ gp : Gr U2, gp.W.cell? ⟨w.heap.size, 10, none⟩ = some (.int .i64 s.m1) := Gr.cell (KEU.out.cell 10)
            have e11 : ∀ gp : Gr U2, gp.W.cell? ⟨w.heap.size, 11, none⟩ = some (.int .i64 s.m2) := Gr.cell (KEU.out.cell 11)
            have e12 : ∀ gp : Gr U2, gp.W.cell? ⟨w.heap.size, 12, none⟩ = some (.int .i64 s.m3) := Gr.cell (KEU.out.cell 12)
            have q0 : ∀ gp : Gr U2, gp.W.cell? ⟨b, off + k * 4, none⟩ = some (.int .i64 y0) := Gr.cell ((hbY.cell (block_lt_of_cell d0)).trans d0)
            have q1 : ∀ gp : Gr U2, gp.W.cell? ⟨b, off + k * 4 + 1, none⟩ = some (.int .i64 y1) := Gr.cell ((hbY.cell (block_lt_of_cell d1)).trans d1)
            have q2 : ∀ gp : Gr U2, gp.W.cell? ⟨b, off + k * 4 + 2, none⟩ = some (.int .i64 y2) := Gr.cell ((hbY.cell (block_lt_of_cell d2)).trans d2)
            have q3 : ∀ gp : Gr U2, gp.W.cell? ⟨b, off + k * 4 + 3, none⟩ = some (.int .u8 (y3 : Nat)) := Gr.cell ((hbY.cell (block_lt_of_cell d3)).trans d3)
            have p0 : ∀ gp : Gr U2, gp.W.cell? ⟨b, off + i * 4, none⟩ = some (.int .i64 x0) := Gr.cell ((hbY.cell (block_lt_of_cell f0)).trans f0)
            have p1 : ∀ gp : Gr U2, gp.W.cell? ⟨b, off + i * 4 + 1, none⟩ = some (.int .i64 x1) := Gr.cell ((hbY.cell (block_lt_of_cell f1)).trans f1)
            have p2 : ∀ gp : Gr U2, gp.W.cell? ⟨b, off + i * 4 + 2, none⟩ = some (.int .i64 x2) := Gr.cell ((hbY.cell (block_lt_of_cell f2)).trans f2)
            have p3 : ∀ gp : Gr U2, gp.W.cell? ⟨b, off + i * 4 + 3, none⟩ = some (.int .u8 (x3 : Nat)) := Gr.cell ((hbY.cell (block_lt_of_cell f3)).trans f3)
            replace d0 := (hbY.cell (block_lt_of_cell d0)).trans d0
            replace f0 := (hbY.cell (block_lt_of_cell f0)).trans f0
            clear d1 d2 d3 f1 f2 f3 hbY KO z7 y7 HN2 HO2 HBN HBB HKA2
            try clear U
            go_upto_region 14 with fail
            refine wp_region_gr (by kernel_rfl) (by kernel_rfl) ?_
            repeat (go_big_quiet_step ((with_reducible exact Gr.call _ (fun V hV => K2.out V hV))))
            refine wpQuiet_nil ?_
            rintro U3 ⟨⟨_, hbY⟩, rfl⟩
            have HN4 := Lib.hid (HN3.out.trans (hbY.mono HN3.out.size))
            have HO4 := Lib.hid (HO3.out.below hbY)
            have HKA4 := Lib.hid (HKA3.out.below hbY HKA3.out.lt)
            replace d0 := (hbY.cell (block_lt_of_cell d0)).trans d0
            replace f0 := (hbY.cell (block_lt_of_cell f0)).trans f0
            clear hbY K2 e0 e1 e2 e3 e4 e5 e6 e7 e8 e9 e10 e11 e12 p0 p1 p2 p3 q0 q1 q2 q3 KEU HBU HN3 HO3 HKA3
            try clear U2
            cases nr with
            | false =>
              have HM2 : Hid (q = ct i (k + 1)) := Lib.hid (by rw [HT2.out, HQ.out]; simp)
              clear HT2 HQ d0 f0
              go_wp2_with fail
              go_roundw
              case rel => first | exact ⟨k + 1, q, by omega, by omega, by go_num, hq, HM2, HO4, HKA4, HN4⟩ | ((repeat apply Exists.intro); (first | exact ⟨⟨k + 1, q, by omega, by omega, by go_num, hq, HM2, HO4, HKA4, HN4⟩, rfl⟩ | exact ⟨(show i < k + 1 by omega), (show k + 1 ≤ l.length from hlk), by go_num, hq, HM2, HO4, HKA4, HN4⟩))
              case measure => simp [intOf]; omega
            | true =>
              have HM2 : Hid (q ++ [⟨x0, y0, code⟩] = ct i (k + 1)) := Lib.hid (by rw [HT2.out, HQ.out]; rfl)
              have hq2 : (q ++ [(⟨x0, y0, code⟩ : Cl)]).length ≤ 40000 := by rw [HM2.out]; exact HLK.out
              clear HT2 HQ
              obtain ⟨Aq, cq, hve, _, _, _⟩ := HO4.out.sl
              subst hve
              obtain ⟨ys, hy, hyf⟩ := HO4.out
              have HY := Lib.hid hy
              have HYF := Lib.hid hyf
              have hbs := HN4.out.size
              clear hy hyf HO4
              go_upto_region 15 with fail
              have hbd : Below U3.heap.size U3 (U3.alloc (.cells #[.int .i64 x0, .int .i64 y0, .int .u8 (code : Nat)] 59)).drew := (ba1 U3 _).drew
              go_region_law (refine step_append1 el_clR rfl (.tmp 76) (.tmp 89) rfl w1.heap.size (.slice Aq q.length cq) q.length ys (by simp [Act.eval]) (own_below HY.out hbd (Nat.le_refl _)) U3.heap.size #[.int .i64 x0, .int .i64 y0, .int .u8 (code : Nat)] 1 (by simp [Act.eval]) (Bk.new U3 _ _) rfl rfl (by unfold maxLen; omega) (by omega) (by simp; omega) ?_; intro v' w3 ho3 hg3 hd3 hb3; have HOF := Lib.hid (OwnT.append1 (T := tCl) (x := ⟨x0, y0, code⟩) (flat_cl_any _ _ HYF.out) (cs := clL ⟨x0, y0, code⟩) rfl ho3 hg3 hd3); have HKF := Lib.hid ((HKA4.out.below hbd HKA4.out.lt).grown hg3 (fun e => own_ne (own_below HY.out hbd (Nat.le_refl _)) (HKA4.out.below hbd HKA4.out.lt) (by decide) e.symm)); have HNF := Lib.hid ((HN4.out.trans (hbd.mono HN4.out.size)).trans hb3); clear ho3 hg3 hd3 hb3)
              all_goals
                clear hbd d0 f0 HY HYF HKA4 HN4
                go_wp2_with fail
                go_roundw
                case rel => first | exact ⟨k + 1, q ++ [⟨x0, y0, code⟩], by omega, by omega, by go_num, hq2, HM2, HOF, HKF, HNF⟩ | ((repeat apply Exists.intro); (first | exact ⟨⟨k + 1, q ++ [⟨x0, y0, code⟩], by omega, by omega, by go_num, hq2, HM2, HOF, HKF, HNF⟩, rfl⟩ | exact ⟨(show i < k + 1 by omega), (show k + 1 ≤ l.length from hlk), by go_num, hq2, HM2, HOF, HKF, HNF⟩))
                case measure => simp [intOf]; omega
          · obtain rfl : k = l.length := by omega
            have HM2 : Hid (q = cu (i + 1)) := Lib.hid (by rw [HQ.out, HEN.out])
            clear HQ HT1 HLI HBV HKA HAX hm HM
            go_wp2_with fail
            go_roundw
            case rel => first | exact ⟨i + 1, q, by omega, by go_num, hq, HM2, HO, HNV⟩ | ((repeat apply Exists.intro); (first | exact ⟨⟨i + 1, q, by omega, by go_num, hq, HM2, HO, HNV⟩, rfl⟩ | exact ⟨(show i + 1 ≤ l.length from hlt), by go_num, hq, HM2, HO, HNV⟩))
            case measure => simp [intOf]; omega
      · obtain rfl : i = l.length := by omega
        have HRE := Lib.hid (show m = R by rw [HM.out, HAE.out])
        have HF := Lib.hid (HB1.out.trans (HBZ.out.mono HB1.out.size))
        have HOF := Lib.hid (HO.out.down HB1.out.size)
        go_wp2_with fail
        (try go_ret2)
        rw [HD.out]
        exact ⟨HF.out, _, rfl, by first | (rw [if_pos rfl, ← HRE.out]; exact HOF.out) | (simp only [if_true]; rw [← HRE.out]; exact HOF.out) | (rw [← HRE.out]; exact HOF.out)⟩
  · have hde : de < 1000 := by have := HDL.out; omega
    have u0 : ((de : Int) != 0) = true := by simpa using hd0
    go_wp2_with fail
    (try go_ret2)
    rw [HD.out]
    exact ⟨HB1.out, _, rfl, by rw [if_neg hd0]; exact OwnT.nil⟩
end Go.Proofs.YtmhikcleekfbpaaDoor
