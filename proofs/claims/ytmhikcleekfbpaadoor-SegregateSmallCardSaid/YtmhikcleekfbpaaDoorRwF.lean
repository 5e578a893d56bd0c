/-
  The walk of the reference of chapter 14: Free.
-/
import Derived.Test.YtmhikcleekfbpaaDoorRwD
import Derived.Test.YtmhikcleekfbpaaDoorSgL
namespace Go.Proofs.YtmhikcleekfbpaaDoor
open Go.RowKit

set_option maxRecDepth 100000 in
set_option maxHeartbeats 8000000 in
theorem refFree_any (s : Shp) (h : Hd) (A : Option Addr) (c : Nat) (boxes : List Bx) (A2 : Option Addr) (c2 : Nat) (l : List Stw) (id : Int) (w : World) (hsh : ShpR w (Lt w.heap.size) s h) (hf : Few s) (hcl : s.cols.length ≤ 60) (htn : ∀ c, tiersN s c ≤ 12) (hcs : stowRight s boxes l = true → Cs s) (hall : (allF s (findBx boxes id).1.size).length ≤ 1000000)
    (hb : SlT tBx w (Lt w.heap.size) A boxes) (hbl : boxes.length ≤ 1000000) (hs : SlT tStw w (Lt w.heap.size) A2 l) (hl : l.length ≤ 1000000) (ht : ∀ x ∈ l, x.slot.tier ≤ 9223372036854775807) (hsz : ∀ b ∈ boxes, b.size < 256) :
    Calls Tryd.prog 18 #[.agg (shpA s h), .slice A boxes.length c, .slice A2 l.length c2, .int .i64 id] w (ErRet tSlt 37 w (oErr s boxes l id) (freeR s boxes l id)) := by
  have HSZ : Hid ((findBx boxes id).1.size < 256) := Lib.hid (by
    cases hq : findBx boxes id with
    | mk bb ok =>
      cases ok with
      | true => exact hsz bb (find_some hq).1
      | false =>
        unfold findBx at hq
        split at hq
        · cases hq; decide
        · cases hq)
  have HAL := Lib.hid hall
  have HRR : Hid (freeR s boxes l id = (allF s (findBx boxes id).1.size).filter fun x => decide ((againstR s boxes l ⟨id, x⟩).length = 0)) := Lib.hid rfl
  have HD : Hid (∀ e W, ErRet tSlt 37 w (oErr s boxes l id) (freeR s boxes l id) e W = (Below w.heap.size w W ∧ ∃ v, e = .returned (.tuple #[v, .int .i64 (oErr s boxes l id : Nat)]) ∧ OwnT tSlt 37 W w.heap.size v (if oErr s boxes l id = 0 then freeR s boxes l id else []))) := Lib.hid fun _ _ => rfl
  have hb0 := ba1 w (.cells (shpA s h) 32)
  have HB0 := Lib.hid hb0
  have KE := Lib.hid (Bk.new w 32 (shpA s h))
  have KAG := Lib.hid (fun (V : World) (hV : Below w.heap.size w V) (y : Slt) => refAgainst_any s h A c boxes A2 c2 l ⟨id, y⟩ V (hsh.on hV) hf (by omega) hcs (hb.on hV) hbl (hs.on hV) hl ht hsz)
  have KFI := Lib.hid (fun (V : World) (hV : Below w.heap.size w V) => refFindBx_any A c boxes id V (hb.on hV) hbl)
  have KAL := Lib.hid (fun (V : World) (hV : Below w.heap.size w V) => refAll_any s h (findBx boxes id).1.size V (hsh.on hV) hcl htn HSZ.out)
  clear hsh hb hs ht hsz hb0 hcs hall hf htn
  unfold stwL at KAG
  unfold shpA at KE KAG KAL HB0 ⊢
  simp only at KAG
  generalize ErRet tSlt 37 w (oErr s boxes l id) (freeR s boxes l id) = RET at *
  generalize freeR s boxes l id = R at *
  generalize oErr s boxes l id = oe at *
  go_enter Tryd.func18, Tryd.ntmps18
  go_upto_region 1 with fail
  have K0 := Lib.hid (KAG.out _ HB0.out ⟨0, 0, 0⟩)
  generalize (w.alloc _) = W at *
  have e0 : W.cell? ⟨w.heap.size, 0, none⟩ = some (Value.slice h.A1 s.cols.length h.c1) := KE.out.cell 0
  have e1 : W.cell? ⟨w.heap.size, 1, none⟩ = some (Value.slice h.A2 s.covs.length h.c2) := KE.out.cell 1
  have e2 : W.cell? ⟨w.heap.size, 2, none⟩ = some (.int .i64 s.l0) := KE.out.cell 2
  have e3 : W.cell? ⟨w.heap.size, 3, none⟩ = some (.int .i64 s.l1) := KE.out.cell 3
  have e4 : W.cell? ⟨w.heap.size, 4, none⟩ = some (.int .i64 s.l2) := KE.out.cell 4
  have e5 : W.cell? ⟨w.heap.size, 5, none⟩ = some (.int .i64 s.l3) := KE.out.cell 5
  have e6 : W.cell? ⟨w.heap.size, 6, none⟩ = some (Value.slice h.A3 s.rows.length h.c3) := KE.out.cell 6
  have e7 : W.cell? ⟨w.heap.size, 7, none⟩ = some (Value.slice h.A4 s.frames.length h.c4) := KE.out.cell 7
  have e8 : W.cell? ⟨w.heap.size, 8, none⟩ = some (Value.slice h.A5 s.tanks.length h.c5) := KE.out.cell 8
  have e9 : W.cell? ⟨w.heap.size, 9, none⟩ = some (.int .i64 s.m0) := KE.out.cell 9
  have e10 : W.cell? ⟨w.heap.size, 10, none⟩ = some (.int .i64 s.m1) := KE.out.cell 10
  have e11 : W.cell? ⟨w.heap.size, 11, none⟩ = some (.int .i64 s.m2) := KE.out.cell 11
  have e12 : W.cell? ⟨w.heap.size, 12, none⟩ = some (.int .i64 s.m3) := KE.out.cell 12
  go_wp2_with fail
  refine K0.out.mono ?_
  rintro e w1 ⟨hb, v, rfl, ho⟩
  simp only
  have HB1 := Lib.hid (HB0.out.trans (hb.mono HB0.out.size))
  have KE1 := Lib.hid (KE.out.below hb KE.out.lt)
  clear hb ho K0 KE e0 e1 e2 e3 e4 e5 e6 e7 e8 e9 e10 e11 e12
  by_cases hd0 : oe = 0
  · subst hd0
    have KF := Lib.hid (KFI.out w1 HB1.out)
    clear KFI
    generalize findBx boxes id = fb at *
    obtain ⟨⟨a0, a1, a2, a3, a4, a5, a6, ax, a8⟩, ok⟩ := fb
    unfold bxL at KF
    simp only at KF HSZ KAL HAL HRR
    go_wp2_with fail
    refine KF.out.mono ?_
    rintro e Y ⟨rfl, hbY⟩
    simp only
    have hy := hbY.trans ((ba1 Y (.cells #[.int .i64 a0, .string a1, .int .u8 (a2 : Nat), .bool a3, .int .i64 a4, .int .i64 a5, .int .i64 a6, .int .u8 (ax : Nat), .bool a8] 41)).mono hbY.size)
    have HAX := Lib.hid (Bk.new Y 41 #[.int .i64 a0, .string a1, .int .u8 (a2 : Nat), .bool a3, .int .i64 a4, .int .i64 a5, .int .i64 a6, .int .u8 (ax : Nat), .bool a8])
    have HB2 := Lib.hid (HB1.out.trans (hy.mono HB1.out.size))
    have KE2 := Lib.hid (KE1.out.below hy KE1.out.lt)
    clear hy hbY KF KE1
    go_upto_region 5 with fail
    generalize Y.heap.size = ga at *
    generalize (Y.alloc _) = Z at *
    try clear Y
    try clear w1
    have z2 : Z.cell? ⟨ga, 2, none⟩ = some (.int .u8 (a2 : Nat)) := HAX.out.cell 2
    have e0 : Z.cell? ⟨w.heap.size, 0, none⟩ = some (Value.slice h.A1 s.cols.length h.c1) := KE2.out.cell 0
    have e1 : Z.cell? ⟨w.heap.size, 1, none⟩ = some (Value.slice h.A2 s.covs.length h.c2) := KE2.out.cell 1
    have e2 : Z.cell? ⟨w.heap.size, 2, none⟩ = some (.int .i64 s.l0) := KE2.out.cell 2
    have e3 : Z.cell? ⟨w.heap.size, 3, none⟩ = some (.int .i64 s.l1) := KE2.out.cell 3
    have e4 : Z.cell? ⟨w.heap.size, 4, none⟩ = some (.int .i64 s.l2) := KE2.out.cell 4
    have e5 : Z.cell? ⟨w.heap.size, 5, none⟩ = some (.int .i64 s.l3) := KE2.out.cell 5
    have e6 : Z.cell? ⟨w.heap.size, 6, none⟩ = some (Value.slice h.A3 s.rows.length h.c3) := KE2.out.cell 6
    have e7 : Z.cell? ⟨w.heap.size, 7, none⟩ = some (Value.slice h.A4 s.frames.length h.c4) := KE2.out.cell 7
    have e8 : Z.cell? ⟨w.heap.size, 8, none⟩ = some (Value.slice h.A5 s.tanks.length h.c5) := KE2.out.cell 8
    have e9 : Z.cell? ⟨w.heap.size, 9, none⟩ = some (.int .i64 s.m0) := KE2.out.cell 9
    have e10 : Z.cell? ⟨w.heap.size, 10, none⟩ = some (.int .i64 s.m1) := KE2.out.cell 10
    have e11 : Z.cell? ⟨w.heap.size, 11, none⟩ = some (.int .i64 s.m2) := KE2.out.cell 11
    have e12 : Z.cell? ⟨w.heap.size, 12, none⟩ = some (.int .i64 s.m3) := KE2.out.cell 12
    have KA := Lib.hid (KAL.out Z HB2.out)
    have hal := HAL.out
    have hsz2 : a2 < 256 := HSZ.out
    clear KAL HAX
    generalize allF s a2 = all at *
    obtain ⟨pf, hpf⟩ : ∃ pf : Slt → Bool, pf = fun x => decide ((againstR s boxes l ⟨id, x⟩).length = 0) := ⟨_, rfl⟩
    have HPF : Hid (∀ x, pf x = decide ((againstR s boxes l ⟨id, x⟩).length = 0)) := Lib.hid fun x => by rw [hpf]
    rw [← hpf] at HRR
    clear hpf
    go_wp2_with fail
    refine KA.out.mono ?_
    rintro e V0 ⟨v, rfl, ho, hb⟩
    simp only
    obtain ⟨Aa, ca, rfl, hca, hcm, hsa⟩ := ho.sl
    have HB3 := Lib.hid (HB2.out.trans (hb.mono HB2.out.size))
    have KE3 := Lib.hid (KE2.out.below hb KE2.out.lt)
    have HSA := Lib.hid hsa
    clear hb ho hsa KA z2 hsz2 e0 e1 e2 e3 e4 e5 e6 e7 e8 e9 e10 e11 e12 KE2
    go_wp2_with fail
    go_loopw [15, 16] (fun v i wr => ∃ (k : Nat) (m : List Slt), k ≤ all.length ∧ i = .int .i64 k ∧ m.length ≤ k ∧ Hid (m = (all.take k).filter pf) ∧ Hid (OwnT tSlt 37 wr V0.heap.size v m) ∧ Hid (Below V0.heap.size V0 wr)) (fun _ i _ => all.length - (intOf i).toNat)
    case atStart => exact ⟨0, [], Nat.zero_le _, rfl, by simp, Lib.hid rfl, Lib.hid OwnT.nil, Lib.hid (Below.refl _ _)⟩
    case round =>
      obtain ⟨k, m, hk, rfl, hm, HM, HO, HBZ⟩ := hrel
      obtain ⟨V, rfl⟩ : ∃ V, V = wr := ⟨_, rfl⟩
      by_cases hlt : k < all.length
      · obtain ⟨b, off, hAa, hbB, c0, c1, c2⟩ := (HSA.out.on HBZ.out).slt hlt
        clear hbB
        have HFT := Lib.hid (filter_takeG pf all hlt default)
        have i0 : (0 : Int) ≤ (k : Int) := by omega
        have i1 : (k : Int) < (all.length : Int) := by omega
        subst hAa
        generalize all.getD k default = y at *
        obtain ⟨y1, y2, y3⟩ := y
        simp only at c0 c1 c2
        have HP := Lib.hid (HPF.out ⟨y1, y2, y3⟩)
        have HBV := Lib.hid (HB3.out.trans (HBZ.out.mono HB3.out.size))
        have K1 : Hid (∀ Q : World, Cb V Q → Calls _ _ _ Q (fun e w' => Below Q.heap.size Q w' ∧ ∃ A c, e = .returned (.tuple #[.slice A (againstR s boxes l ⟨id, ⟨y1, y2, y3⟩⟩).length c, .int .i64 ((0 : Nat) : Int)]) ∧ (againstR s boxes l ⟨id, ⟨y1, y2, y3⟩⟩).length ≤ c ∧ SlT tInt w' (Lt w'.heap.size) A (againstR s boxes l ⟨id, ⟨y1, y2, y3⟩⟩))) := Lib.hid fun Q hQ => (KAG.out Q (HBV.out.trans (Below.mono hQ HBV.out.size)) ⟨y1, y2, y3⟩).mono fun e w' h => by
          obtain ⟨hb, v, rfl, ho⟩ := h
          simp only [if_true] at ho
          obtain ⟨A, c, rfl, hc, _, hs⟩ := ho.sl
          exact ⟨hb, A, c, rfl, hc, hs⟩
        simp only at K1
        generalize againstR s boxes l ⟨id, ⟨y1, y2, y3⟩⟩ = lst at *
        have KEV := Lib.hid (KE3.out.below HBZ.out KE3.out.lt)
        go_step
        go_step
        go_upto_region 10 with fail
        obtain ⟨U, rfl⟩ : ∃ U, U = V := ⟨_, rfl⟩
        have d0 : U.cell? ⟨b, off + k * 3, none⟩ = some (.int .i64 y1) := c0
        have d1 : U.cell? ⟨b, off + k * 3 + 1, none⟩ = some (.int .i64 y2) := c1
        have d2 : U.cell? ⟨b, off + k * 3 + 2, none⟩ = some (.int .u8 (y3 : Nat)) := c2
        clear c0 c1 c2
        have e0 : U.cell? ⟨w.heap.size, 0, none⟩ = some (Value.slice h.A1 s.cols.length h.c1) := KEV.out.cell 0
        have e1 : U.cell? ⟨w.heap.size, 1, none⟩ = some (Value.slice h.A2 s.covs.length h.c2) := KEV.out.cell 1
        have e2 : U.cell? ⟨w.heap.size, 2, none⟩ = some (.int .i64 s.l0) := KEV.out.cell 2
        have e3 : U.cell? ⟨w.heap.size, 3, none⟩ = some (.int .i64 s.l1) := KEV.out.cell 3
        have e4 : U.cell? ⟨w.heap.size, 4, none⟩ = some (.int .i64 s.l2) := KEV.out.cell 4
        have e5 : U.cell? ⟨w.heap.size, 5, none⟩ = some (.int .i64 s.l3) := KEV.out.cell 5
        have e6 : U.cell? ⟨w.heap.size, 6, none⟩ = some (Value.slice h.A3 s.rows.length h.c3) := KEV.out.cell 6
        have e7 : U.cell? ⟨w.heap.size, 7, none⟩ = some (Value.slice h.A4 s.frames.length h.c4) := KEV.out.cell 7
        have e8 : U.cell? ⟨w.heap.size, 8, none⟩ = some (Value.slice h.A5 s.tanks.length h.c5) := KEV.out.cell 8
        have e9 : U.cell? ⟨w.heap.size, 9, none⟩ = some (.int .i64 s.m0) := KEV.out.cell 9
        have e10 : U.cell? ⟨w.heap.size, 10, none⟩ = some (.int .i64 s.m1) := KEV.out.cell 10
        have e11 : U.cell? ⟨w.heap.size, 11, none⟩ = some (.int .i64 s.m2) := KEV.out.cell 11
        have e12 : U.cell? ⟨w.heap.size, 12, none⟩ = some (.int .i64 s.m3) := KEV.out.cell 12
        refine wp_region_ogG [.val 0 (.agg #[Value.slice h.A1 s.cols.length h.c1, Value.slice h.A2 s.covs.length h.c2, .int .i64 s.l0, .int .i64 s.l1, .int .i64 s.l2, .int .i64 s.l3, Value.slice h.A3 s.rows.length h.c3, Value.slice h.A4 s.frames.length h.c4, Value.slice h.A5 s.tanks.length h.c5, .int .i64 s.m0, .int .i64 s.m1, .int .i64 s.m2, .int .i64 s.m3]),
            .val 1 (.slice A boxes.length c),
            .val 2 (.slice A2 l.length c2),
            .val 3 (.int .i64 id),
            .val 4 (.slice (some ⟨b, off, none⟩) all.length ca),
            .val 5 (.int .i64 (k : Nat)),
            .val 6 (.pointer (some ⟨b, off + k * 3, none⟩)),
            .val 7 (.agg #[.int .i64 y1, .int .i64 y2, .int .u8 (y3 : Nat)]),
            .val 8 (.agg #[.int .i64 id, .int .i64 y1, .int .i64 y2, .int .u8 (y3 : Nat)]),
            .tpT tInt 9 lst 0,
            .tpT tInt 10 lst 0,
            .slT tInt 11 lst,
            .val 12 (.int .i64 0),
            .slT tInt 13 lst,
            .val 14 (.int .i64 0)]
          [[], [], [], [], [], [], [4, 5], [6], [3, 7], [0, 1, 2, 8], [9], [10], [10], [11], [12]] [13, 14] (Cb U) (by kernel_rfl) (by kernel_rfl) (Cb.drew U) ⟨?_, ?_, ?_, ?_, ?_, ?_, ?_, ?_, ?_, ?_, ?_, ?_, ?_, ?_, ?_, trivial⟩ ?_
        case refine_1 =>
          refine StepG.of rfl ?_
          refine StepL.up fun x V hV hu K Q hK => ?_
          have fe0 := hV.cell e0
          have fe1 := hV.cell e1
          have fe2 := hV.cell e2
          have fe3 := hV.cell e3
          have fe4 := hV.cell e4
          have fe5 := hV.cell e5
          have fe6 := hV.cell e6
          have fe7 := hV.cell e7
          have fe8 := hV.cell e8
          have fe9 := hV.cell e9
          have fe10 := hV.cell e10
          have fe11 := hV.cell e11
          have fe12 := hV.cell e12
          clear hu
          rw [owp_eq]
          go_big_op
          exact hK _ _ (Below.refl _ _) rfl
        case refine_2 =>
          refine StepG.of rfl ?_
          refine StepL.up fun x V hV hu K Q hK => ?_
          clear hu
          simp only [putL, List.set_cons_zero, List.set_cons_succ] at hK ⊢
          rw [owp_eq]
          go_big_op
          exact hK _ _ (Below.refl _ _) rfl
        case refine_3 =>
          refine StepG.of rfl ?_
          refine StepL.up fun x V hV hu K Q hK => ?_
          clear hu
          simp only [putL, List.set_cons_zero, List.set_cons_succ] at hK ⊢
          rw [owp_eq]
          go_big_op
          exact hK _ _ (Below.refl _ _) rfl
        case refine_4 =>
          refine StepG.of rfl ?_
          refine StepL.up fun x V hV hu K Q hK => ?_
          clear hu
          simp only [putL, List.set_cons_zero, List.set_cons_succ] at hK ⊢
          rw [owp_eq]
          go_big_op
          exact hK _ _ (Below.refl _ _) rfl
        case refine_5 =>
          refine StepG.of rfl ?_
          refine StepL.up fun x V hV hu K Q hK => ?_
          clear hu
          simp only [putL, List.set_cons_zero, List.set_cons_succ] at hK ⊢
          rw [owp_eq]
          go_big_op
          exact hK _ _ (Below.refl _ _) rfl
        case refine_6 =>
          refine StepG.of rfl ?_
          refine StepL.up fun x V hV hu K Q hK => ?_
          clear hu
          simp only [putL, List.set_cons_zero, List.set_cons_succ] at hK ⊢
          rw [owp_eq]
          go_big_op
          exact hK _ _ (Below.refl _ _) rfl
        case refine_7 =>
          refine StepG.of rfl ?_
          refine StepL.up fun x V hV hu K Q hK => ?_
          have u4 : x 4 = _ := hu 4 (by decide)
          have u5 : x 5 = _ := hu 5 (by decide)
          clear hu
          simp only [putL, List.set_cons_zero, List.set_cons_succ] at hK ⊢
          rw [owp_eq]
          go_big_op
          exact hK _ _ (Below.refl _ _) rfl
        case refine_8 =>
          refine StepG.of rfl ?_
          refine StepL.up fun x V hV hu K Q hK => ?_
          have u6 : x 6 = _ := hu 6 (by decide)
          have fd0 := hV.cell d0
          have fd1 := hV.cell d1
          have fd2 := hV.cell d2
          clear hu
          simp only [putL, List.set_cons_zero, List.set_cons_succ] at hK ⊢
          rw [owp_eq]
          go_big_op
          exact hK _ _ (Below.refl _ _) rfl
        case refine_9 =>
          refine StepG.of rfl ?_
          refine StepL.up fun x V hV hu K Q hK => ?_
          have u3 : x 3 = _ := hu 3 (by decide)
          have u7 : x 7 = _ := hu 7 (by decide)
          clear hu
          simp only [putL, List.set_cons_zero, List.set_cons_succ] at hK ⊢
          rw [owp_eq]
          go_big_op
          exact hK _ _ (Below.refl _ _) rfl
        case refine_10 =>
          refine StepG.of rfl ?_
          refine StepL.up fun x V hV hu K Q hK => ?_
          have u0 : x 0 = _ := hu 0 (by decide)
          have u1 : x 1 = _ := hu 1 (by decide)
          have u2 : x 2 = _ := hu 2 (by decide)
          have u8 : x 8 = _ := hu 8 (by decide)
          clear hu
          simp only [putL, List.set_cons_zero, List.set_cons_succ] at hK ⊢
          rw [owp_eq]
          go_big_op
          refine (K1.out V hV).mono ?_
          rintro e V' ⟨hb, A, c, rfl, hc, hs⟩
          exact hK _ _ hb ⟨A, c, rfl, hc, hs⟩
        case refine_11 =>
          refine StepG.of rfl ?_
          refine StepL.up fun x V hV hu K Q hK => ?_
          obtain ⟨A, c, u9, hc, hs⟩ := hu 9 (by decide)
          clear hu
          simp only [putL, List.set_cons_zero, List.set_cons_succ] at hK ⊢
          rw [owp_eq]
          go_big_op
          exact hK _ _ (Below.refl _ _) ⟨A, c, by first | (rw [upd_same]; done) | (rw [upd_same]; rfl), hc, hs⟩
        case refine_12 =>
          refine StepG.of rfl ?_
          refine StepL.up fun x V hV hu K Q hK => ?_
          obtain ⟨A, c, u10, hc, hs⟩ := hu 10 (by decide)
          clear hu
          simp only [putL, List.set_cons_zero, List.set_cons_succ] at hK ⊢
          rw [owp_eq]
          go_big_op
          exact hK _ _ (Below.refl _ _) ⟨A, c, by first | (rw [upd_same]; done) | (rw [upd_same]; rfl), hc, hs⟩
        case refine_13 =>
          refine StepG.of rfl ?_
          refine StepL.up fun x V hV hu K Q hK => ?_
          obtain ⟨A, c, u10, hc, hs⟩ := hu 10 (by decide)
          clear hu
          simp only [putL, List.set_cons_zero, List.set_cons_succ] at hK ⊢
          rw [owp_eq]
          go_big_op
          exact hK _ _ (Below.refl _ _) (by first | rfl | (rw [upd_same]; done) | (rw [upd_same]; rfl))
        case refine_14 =>
          refine StepG.of rfl ?_
          refine StepL.up fun x V hV hu K Q hK => ?_
          obtain ⟨A, c, u11, hc, hs⟩ := hu 11 (by decide)
          clear hu
          simp only [putL, List.set_cons_zero, List.set_cons_succ] at hK ⊢
          rw [owp_eq]
          go_big_op
          exact hK _ _ (Below.refl _ _) ⟨A, c, by first | (rw [upd_same]; done) | (rw [upd_same]; rfl), hc, hs⟩
        case refine_15 =>
          refine StepG.of rfl ?_
          refine StepL.up fun x V hV hu K Q hK => ?_
          have u12 : x 12 = _ := hu 12 (by decide)
          clear hu
          simp only [putL, List.set_cons_zero, List.set_cons_succ] at hK ⊢
          rw [owp_eq]
          go_big_op
          exact hK _ _ (Below.refl _ _) rfl
        case refine_16 =>
        intro x Y hV hA
        obtain ⟨A13, c13, h13, hc13, hs13⟩ := hA 13 (by decide) (by decide)
        have h14 : x 14 = _ := hA 14 (by decide) (by decide)
        have hVY : Below U.heap.size U Y := hV
        simp only [layL, putL, List.set_cons_zero, List.set_cons_succ, h13, h14]
        have HBY := Lib.hid (HBZ.out.trans (hVY.mono HBZ.out.size))
        have HO2 := Lib.hid (HO.out.below hVY)
        replace d0 := (hVY.cell (block_lt_of_cell d0)).trans d0
        replace d1 := (hVY.cell (block_lt_of_cell d1)).trans d1
        replace d2 := (hVY.cell (block_lt_of_cell d2)).trans d2
        clear h13 h14 hc13 hs13 hV hA hVY HBZ HBV HO K1 KEV e0 e1 e2 e3 e4 e5 e6 e7 e8 e9 e10 e11 e12
        try clear U
        by_cases h0 : lst.length = 0
        · have h0d : decide ((lst.length : Int) = 0) = true := decide_eq_true (by omega)
          have h0b : ((lst.length : Int) == 0) = true := by simpa using h0
          have HM2 : Hid (m ++ [⟨y1, y2, y3⟩] = (all.take (k + 1)).filter pf) := Lib.hid (by rw [HFT.out, HP.out, HM.out, decide_eq_true h0]; rfl)
          obtain ⟨xs, ho, hfl⟩ := HO2.out
          have hb5s := HBY.out.size
          clear HP HFT HM h0
          go_wp2_with (at_builtin; (refine wpList_append1 el_slt rfl (.tmp 64) (.tmp 69) rfl V0.heap.size _ m.length xs rfl ho #[.int .i64 y1, .int .i64 y2, .int .u8 (y3 : Nat)] _ rfl rfl rfl ?c1 ?c2 ?c3 ?_))
          case c1 => unfold maxLen; omega
          case c2 => omega
          case c3 => omega
          intro v' w3 hown' hgr hd3 hbel
          have HBF := Lib.hid (HBY.out.trans hbel)
          have HOF := Lib.hid (OwnT.append1 (T := tSlt) (x := ⟨y1, y2, y3⟩) hfl (cs := sltL ⟨y1, y2, y3⟩) rfl hown' hgr hd3)
          clear hown' hgr hd3 hbel hfl ho
          go_wp2
          go_roundw
          case rel => (first | exact ⟨k + 1, m ++ [⟨y1, y2, y3⟩], by omega, by go_num, by first | (simp; omega) | omega, HM2, HOF, HBF⟩ | ((repeat apply Exists.intro); (first | exact ⟨⟨k + 1, m ++ [⟨y1, y2, y3⟩], by omega, by go_num, by first | (simp; omega) | omega, HM2, HOF, HBF⟩, rfl⟩ | exact ⟨by omega, by go_num, by first | (simp; omega) | omega, HM2, HOF, HBF⟩)))
          case measure => simp [intOf]; omega
        · have h0d : decide ((lst.length : Int) = 0) = false := decide_eq_false (by omega)
          have h0b : ((lst.length : Int) == 0) = false := by simpa using h0
          have HM2 : Hid (m = (all.take (k + 1)).filter pf) := Lib.hid (by rw [HFT.out, HP.out, HM.out, decide_eq_false h0]; simp)
          have HBF := HBY
          have HOF := HO2
          clear HP HFT HM HBY HO2 h0
          go_wp2_with fail
          go_roundw
          case rel => (first | exact ⟨k + 1, m, by omega, by go_num, by first | (simp; omega) | omega, HM2, HOF, HBF⟩ | ((repeat apply Exists.intro); (first | exact ⟨⟨k + 1, m, by omega, by go_num, by first | (simp; omega) | omega, HM2, HOF, HBF⟩, rfl⟩ | exact ⟨by omega, by go_num, by first | (simp; omega) | omega, HM2, HOF, HBF⟩)))
          case measure => simp [intOf]; omega
      · obtain rfl : k = all.length := by omega
        have HRE := Lib.hid (show m = R by rw [HM.out, HRR.out, List.take_length])
        have HF := Lib.hid (HB3.out.trans (HBZ.out.mono HB3.out.size))
        have HOF := Lib.hid (HO.out.down HB3.out.size)
        go_wp2_with fail
        (try go_ret2)
        rw [HD.out]
        exact ⟨HF.out, _, rfl, by first | (rw [if_pos rfl, ← HRE.out]; exact HOF.out) | (simp only [if_true]; rw [← HRE.out]; exact HOF.out) | (rw [← HRE.out]; exact HOF.out)⟩
  · have u0 : ((oe : Int) != 0) = true := by simpa using hd0
    go_wp2_with fail
    (try go_ret2)
    rw [HD.out]
    exact ⟨HB1.out, _, rfl, by rw [if_neg hd0]; exact OwnT.nil⟩
end Go.Proofs.YtmhikcleekfbpaaDoor
