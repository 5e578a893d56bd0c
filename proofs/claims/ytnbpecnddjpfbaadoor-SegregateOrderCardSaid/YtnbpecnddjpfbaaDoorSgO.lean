/-
  The walk of the statement SegregateOrder.
-/
import Derived.Test.YtnbpecnddjpfbaaDoorSgM
namespace Go.Proofs.YtnbpecnddjpfbaaDoor
open Go.RowKit

/-- The pointer that operation i has laid: its block, of some content. -/
def As.blkE (i : Nat) (t : TypeId) (p : Array Value → Prop) (B : Nat) : As := ⟨[i], fun x w => ∃ g cs, x i = .pointer (some ⟨g, 0, none⟩) ∧ B ≤ g ∧ p cs ∧ Bk w g t cs,
  fun h ⟨g, cs, e, r⟩ => ⟨g, cs, (h i (by simp)).symm.trans e, r⟩, fun hb ⟨g, cs, e, l, hp, k⟩ => ⟨g, cs, e, l, hp, k.below hb k.lt⟩⟩
set_option maxRecDepth 100000 in
set_option maxHeartbeats 8000000 in
theorem segregateOrder_any (A : Option Addr) (c : Nat) (pl : List (Nat × Nat × Nat × Bool)) (covers : Nat) (zi zk : Int) (w : World)
    (hs : SlT tPl w (Lt w.heap.size) A pl) (hl : ∀ p ∈ pl, p.1 < 256 ∧ p.2.1 < 256 ∧ p.2.2.1 < 256) (hc : pl.length ≤ c) (hcm : c ≤ maxLen) (ht : TabOK w) (hn : NamesOK w) :
    Calls Tryd.prog 6 #[.slice A pl.length c, .int .u32 covers, .int .i64 zi, .int .i64 zk] w (TrueRet w) := by
  have HPL := Lib.hid hs
  clear hs
  go_enter Tryd.func6, Tryd.ntmps6
  go_wp2_with fail
  refine (awake14_true w ht hn).mono ?_
  rintro e w1 ⟨rfl, hb1⟩
  simp only
  have HB1 := Lib.hid hb1
  have KB := Lib.hid (built_s (covers := covers) (HPL.out.on hb1) hl hc hcm)
  clear hb1 HPL hl hc hcm ht hn
  go_wp2_with fail
  refine KB.out.mono ?_
  rintro e w2 ⟨s, h, gs, rfl, hBu, -, -, hrd, hb2⟩
  simp only
  have hb3 := ba1 w2 (.cells (shpA s h) 32)
  have KE := Lib.hid (Bk.new w2 32 (shpA s h))
  have HS := Lib.hid (hrd.on hb3)
  have HB := Lib.hid (HB1.out.trans ((hb2.trans (hb3.mono hb2.size)).mono HB1.out.size))
  have HBU := Lib.hid hBu
  clear hrd hb2 hb3 HB1 KB hBu
  unfold shpA at *
  go_upto_region 4 with fail
  generalize w2.heap.size = g at *
  generalize (w2.alloc _) = W at *
  try clear w2
  try clear w1
  have hl40 := HBU.out.all14 40
  have hl20 := HBU.out.all14 20
  have hp40 := HBU.out.allpos
  have K20 : Hid (∀ U : World, Cb W U → Calls Tryd.prog 18 #[.agg #[Value.slice h.A1 s.cols.length h.c1, Value.slice h.A2 s.covs.length h.c2, .int .i64 s.l0, .int .i64 s.l1, .int .i64 s.l2, .int .i64 s.l3, Value.slice h.A3 s.rows.length h.c3, Value.slice h.A4 s.frames.length h.c4, Value.slice h.A5 s.tanks.length h.c5, .int .i64 s.m0, .int .i64 s.m1, .int .i64 s.m2, .int .i64 s.m3], .int .u8 20] U (fun e w' => ∃ v, e = .returned v ∧ OwnS tSlt 37 w' W.heap.size (Lt W.heap.size) v (allF s 20) ∧ Below U.heap.size U w')) := Lib.hid fun U hU => by
    refine (all_any s h 20 U (HS.out.on hU) HBU.out.short (fun c => by have := HBU.out.tiers14 c; omega) (by omega)).mono ?_
    rintro e w' ⟨v, rfl, ho, hb⟩
    exact ⟨v, rfl, own_slts14 hU.size ho hb, hb⟩
  have K40 : Hid (∀ U : World, Cb W U → Calls Tryd.prog 18 #[.agg #[Value.slice h.A1 s.cols.length h.c1, Value.slice h.A2 s.covs.length h.c2, .int .i64 s.l0, .int .i64 s.l1, .int .i64 s.l2, .int .i64 s.l3, Value.slice h.A3 s.rows.length h.c3, Value.slice h.A4 s.frames.length h.c4, Value.slice h.A5 s.tanks.length h.c5, .int .i64 s.m0, .int .i64 s.m1, .int .i64 s.m2, .int .i64 s.m3], .int .u8 40] U (fun e w' => ∃ v, e = .returned v ∧ OwnS tSlt 37 w' W.heap.size (Lt W.heap.size) v (allF s 40) ∧ Below U.heap.size U w')) := Lib.hid fun U hU => by
    refine (all_any s h 40 U (HS.out.on hU) HBU.out.short (fun c => by have := HBU.out.tiers14 c; omega) (by omega)).mono ?_
    rintro e w' ⟨v, rfl, ho, hb⟩
    exact ⟨v, rfl, own_slts14 hU.size ho hb, hb⟩
  have KN : Hid (∀ (U : World) (a b : Slt) (code : Nat), Below W.heap.size W U → code < 256 → Calls Tryd.prog 25 #[.agg #[Value.slice h.A1 s.cols.length h.c1, Value.slice h.A2 s.covs.length h.c2, .int .i64 s.l0, .int .i64 s.l1, .int .i64 s.l2, .int .i64 s.l3, Value.slice h.A3 s.rows.length h.c3, Value.slice h.A4 s.frames.length h.c4, Value.slice h.A5 s.tanks.length h.c5, .int .i64 s.m0, .int .i64 s.m1, .int .i64 s.m2, .int .i64 s.m3], .agg (sltL a).toArray, .agg (sltL b).toArray, .int .u8 (code : Nat)] U (Ret U (.bool (nearR s a b code)))) := Lib.hid fun U a b code hU hcode => by
    have := near_any s h a b code U (HS.out.on hU) HBU.out.short HBU.out.rows hcode
    rw [near_eq HBU.out.cs] at this
    exact this
  have e0 : W.cell? ⟨g, 0, none⟩ = some (Value.slice h.A1 s.cols.length h.c1) := KE.out.cell 0
  have e1 : W.cell? ⟨g, 1, none⟩ = some (Value.slice h.A2 s.covs.length h.c2) := KE.out.cell 1
  have e2 : W.cell? ⟨g, 2, none⟩ = some (.int .i64 s.l0) := KE.out.cell 2
  have e3 : W.cell? ⟨g, 3, none⟩ = some (.int .i64 s.l1) := KE.out.cell 3
  have e4 : W.cell? ⟨g, 4, none⟩ = some (.int .i64 s.l2) := KE.out.cell 4
  have e5 : W.cell? ⟨g, 5, none⟩ = some (.int .i64 s.l3) := KE.out.cell 5
  have e6 : W.cell? ⟨g, 6, none⟩ = some (Value.slice h.A3 s.rows.length h.c3) := KE.out.cell 6
  have e7 : W.cell? ⟨g, 7, none⟩ = some (Value.slice h.A4 s.frames.length h.c4) := KE.out.cell 7
  have e8 : W.cell? ⟨g, 8, none⟩ = some (Value.slice h.A5 s.tanks.length h.c5) := KE.out.cell 8
  have e9 : W.cell? ⟨g, 9, none⟩ = some (.int .i64 s.m0) := KE.out.cell 9
  have e10 : W.cell? ⟨g, 10, none⟩ = some (.int .i64 s.m1) := KE.out.cell 10
  have e11 : W.cell? ⟨g, 11, none⟩ = some (.int .i64 s.m2) := KE.out.cell 11
  have e12 : W.cell? ⟨g, 12, none⟩ = some (.int .i64 s.m3) := KE.out.cell 12
  refine wp_region_og [.val 0 (.agg #[Value.slice h.A1 s.cols.length h.c1, Value.slice h.A2 s.covs.length h.c2, .int .i64 s.l0, .int .i64 s.l1, .int .i64 s.l2, .int .i64 s.l3, Value.slice h.A3 s.rows.length h.c3, Value.slice h.A4 s.frames.length h.c4, Value.slice h.A5 s.tanks.length h.c5, .int .i64 s.m0, .int .i64 s.m1, .int .i64 s.m2, .int .i64 s.m3]),
    .own tSlt 37 W.heap.size (Lt W.heap.size) 1 (allF s 40),
    .val 2 (.agg #[Value.slice h.A1 s.cols.length h.c1, Value.slice h.A2 s.covs.length h.c2, .int .i64 s.l0, .int .i64 s.l1, .int .i64 s.l2, .int .i64 s.l3, Value.slice h.A3 s.rows.length h.c3, Value.slice h.A4 s.frames.length h.c4, Value.slice h.A5 s.tanks.length h.c5, .int .i64 s.m0, .int .i64 s.m1, .int .i64 s.m2, .int .i64 s.m3]),
    .own tSlt 37 W.heap.size (Lt W.heap.size) 3 (allF s 20),
    .own tSlt 37 W.heap.size (Lt W.heap.size) 4 (allF s 40 ++ allF s 20),
    .own tSlt 37 W.heap.size (Lt W.heap.size) 5 (allF s 40 ++ allF s 20)]
    [[], [0], [], [2], [1, 3], [4]] [5] (Cb W) (by kernel_rfl) (by kernel_rfl) (Cb.drew W) ⟨?_, ?_, ?_, ?_, ?_, ?_, trivial⟩ ?_
  case refine_1 =>
    refine StepL.up fun x V hV hu K Q hK => ?_
    have fe0 := hV.cell e0
    have fe1 := hV.cell e1
    have fe2 := hV.cell e2
    have fe3 := hV.cell e3
    have fe4 := hV.cell e4
    have fe5 := hV.cell e5
    have fe6 := hV.cell e6
    have fe7 := hV.cell e7
    have fe8 := hV.cell e8
    have fe9 := hV.cell e9
    have fe10 := hV.cell e10
    have fe11 := hV.cell e11
    have fe12 := hV.cell e12
    clear hu
    rw [owp_eq]
    go_big_op
    exact hK _ _ (Below.refl _ _) rfl
  case refine_2 =>
    refine StepL.up fun x V hV hu K Q hK => ?_
    have u0 : x 0 = _ := hu 0 (by decide)
    clear hu
    simp only [putL, List.set_cons_zero, List.set_cons_succ] at hK ⊢
    rw [owp_eq]
    go_big_op
    refine (K40.out V hV).mono ?_
    rintro e V' ⟨v, rfl, ho, hb⟩
    exact hK _ _ hb ho
  case refine_3 =>
    refine StepL.up fun x V hV hu K Q hK => ?_
    have fe0 := hV.cell e0
    have fe1 := hV.cell e1
    have fe2 := hV.cell e2
    have fe3 := hV.cell e3
    have fe4 := hV.cell e4
    have fe5 := hV.cell e5
    have fe6 := hV.cell e6
    have fe7 := hV.cell e7
    have fe8 := hV.cell e8
    have fe9 := hV.cell e9
    have fe10 := hV.cell e10
    have fe11 := hV.cell e11
    have fe12 := hV.cell e12
    clear hu
    simp only [putL, List.set_cons_zero, List.set_cons_succ] at hK ⊢
    rw [owp_eq]
    go_big_op
    exact hK _ _ (Below.refl _ _) rfl
  case refine_4 =>
    refine StepL.up fun x V hV hu K Q hK => ?_
    have u2 : x 2 = _ := hu 2 (by decide)
    clear hu
    simp only [putL, List.set_cons_zero, List.set_cons_succ] at hK ⊢
    rw [owp_eq]
    go_big_op
    refine (K20.out V hV).mono ?_
    rintro e V' ⟨v, rfl, ho, hb⟩
    exact hK _ _ hb ho
  case refine_5 =>
    refine StepL.wr [] (by kernel_rfl) fun x V hV hu K Q hK => ?_
    have HO : OwnS tSlt 37 V W.heap.size (Lt W.heap.size) (x 1) _ := hu 1 (by decide)
    have HP : OwnS tSlt 37 V W.heap.size (Lt W.heap.size) (x 3) _ := hu 3 (by decide)
    obtain ⟨AP, cP, uP, _, _, hP⟩ := HP.sl'
    have HSRC : Src tSlt V (Lt W.heap.size) AP (allF s 20).length (allF s 20) := src_slt14 hP
    clear hu HP
    simp only [putL, List.set_cons_zero, List.set_cons_succ] at hK ⊢
    refine wp_append_og el_slt (.tmp 22) (.tmp 24) rfl W.heap.size (Lt W.heap.size) _ _ rfl HO _ _ _ _ rfl uP HSRC (by unfold maxLen; omega) (by omega) (Below.size hV) fun v' w' h1 h2 h3 => ?_
    refine hK v' _ (hV.app h3) h1 fun k hk' => ?_
    cases hk'
  case refine_6 =>
    refine StepL.up fun x V hV hu K Q hK => ?_
    have h9 : OwnS tSlt 37 V W.heap.size (Lt W.heap.size) (x 4) _ := hu 4 (by decide)
    clear hu
    simp only [putL, List.set_cons_zero, List.set_cons_succ] at hK ⊢
    rw [owp_eq]
    go_big_op
    exact hK _ _ (Below.refl _ _) h9
  case refine_7 =>
    refine fun x Y hC hx => ?_
    have HR : OwnS tSlt 37 Y W.heap.size (Lt W.heap.size) (x 5) _ := hx 5 (by decide) (by decide)
    clear hx K20 K40 e0 e1 e2 e3 e4 e5 e6 e7 e8 e9 e10 e11 e12
    simp only [layL, putL, List.set_cons_zero, List.set_cons_succ]
    obtain ⟨AL, cL, h5, hcL, hmL, hsL⟩ := HR.sl'
    rw [h5]
    have HWY := Lib.hid (show Below W.heap.size W Y from hC)
    have HSL := Lib.hid hsL
    have hLn : (allF s 40 ++ allF s 20).length ≤ 240 := by rw [List.length_append]; omega
    have hLp : 0 < (allF s 40 ++ allF s 20).length := by rw [List.length_append]; omega
    have HIN : Hid (∀ x ∈ allF s 40 ++ allF s 20, colIn s x.col = true) := Lib.hid fun x hx => by
      rcases List.mem_append.1 hx with hx | hx
      · exact Bu.inC hx
      · exact Bu.inC hx
    clear h5 hsL hC HR hl40 hl20 hp40 hcL hmL
    generalize allF s 40 ++ allF s 20 = L at *
    have HK1 := Lib.hid (pickF_lt zi hLp)
    have HK2 := Lib.hid (pickF_lt zk hLp)
    have KP1 := Lib.hid (fun U => pickK_any zi L.length U hLp (by omega))
    have KP2 := Lib.hid (fun U => pickK_any zk L.length U hLp (by omega))
    have hk1 := HK1.out
    have hk2 := HK2.out
    generalize pickF zi L.length = k1 at *
    generalize pickF zk L.length = k2 at *
    obtain ⟨b, off, rfl, hbB, c0, c1, c2⟩ := HSL.out.slt hk1
    obtain ⟨b', off', hAe, _, d0, d1, d2⟩ := HSL.out.slt hk2
    injection hAe with hAe
    injection hAe with q1 q2
    subst q1 q2
    have HX := Lib.hid (getD_memD hk1 default)
    have HY := Lib.hid (getD_memD hk2 default)
    have i0 : (0 : Int) ≤ (k1 : Int) := by omega
    have i1 : (k1 : Int) < (L.length : Int) := by omega
    have j0 : (0 : Int) ≤ (k2 : Int) := by omega
    have j1 : (k2 : Int) < (L.length : Int) := by omega
    have hLb : ((L.length : Int) == 0) = false := by simpa using Nat.pos_iff_ne_zero.1 hLp
    generalize L.getD k1 default = x at *
    generalize L.getD k2 default = y at *
    obtain ⟨x0, x1, x2⟩ := x
    obtain ⟨y0, y1, y2⟩ := y
    simp only at c0 c1 c2 d0 d1 d2
    clear HSL HK1 HK2 hbB
    go_upto_region 7 with fail
    refine wp_region_ogG [.val 0 (.slice (some ⟨b, off, none⟩) L.length cL),
      .val 1 (.int .i64 zi),
      .val 2 (.slice (some ⟨b, off, none⟩) L.length cL),
      .val 3 (.int .i64 L.length),
      .val 4 (.int .i64 (k1 : Nat)),
      .val 5 (.pointer (some ⟨b, off + k1 * 3, none⟩)),
      .val 6 (.agg #[.int .i64 x0, .int .i64 x1, .int .u8 (x2 : Nat)]),
      .val 7 (.slice (some ⟨b, off, none⟩) L.length cL),
      .val 8 (.int .i64 zk),
      .val 9 (.slice (some ⟨b, off, none⟩) L.length cL),
      .val 10 (.int .i64 L.length),
      .val 11 (.int .i64 (k2 : Nat)),
      .val 12 (.pointer (some ⟨b, off + k2 * 3, none⟩)),
      .val 13 (.agg #[.int .i64 y0, .int .i64 y1, .int .u8 (y2 : Nat)]),
      .blkE 14 37 (fun cs => cs.size = 3) Y.heap.size,
      .blkE 15 37 (fun cs => cs.size = 3) Y.heap.size,
      .blkE 14 37 (fun cs => ∃ z ∈ L, cs = (sltL z).toArray) Y.heap.size,
      .blkE 15 37 (fun cs => ∃ z ∈ L, cs = (sltL z).toArray) Y.heap.size]
      [[], [], [], [2], [1, 3], [0, 4], [5], [], [], [], [9], [8, 10], [7, 11], [12], [], [], [6, 14], [13, 15]] [16, 17] (Cb Y) (by kernel_rfl) (by kernel_rfl) (Cb.drew Y) ⟨?_, ?_, ?_, ?_, ?_, ?_, ?_, ?_, ?_, ?_, ?_, ?_, ?_, ?_, ?_, ?_, ?_, ?_, trivial⟩ ?_
    case refine_1 =>
      refine StepG.of rfl ?_
      refine StepL.up fun x V hV hu K Q hK => ?_
      clear hu
      rw [owp_eq]
      go_big_op
      exact hK _ _ (Below.refl _ _) rfl
    case refine_2 =>
      refine StepG.of rfl ?_
      refine StepL.up fun x V hV hu K Q hK => ?_
      clear hu
      simp only [putL, List.set_cons_zero, List.set_cons_succ] at hK ⊢
      rw [owp_eq]
      go_big_op
      exact hK _ _ (Below.refl _ _) rfl
    case refine_3 =>
      refine StepG.of rfl ?_
      refine StepL.up fun x V hV hu K Q hK => ?_
      clear hu
      simp only [putL, List.set_cons_zero, List.set_cons_succ] at hK ⊢
      rw [owp_eq]
      go_big_op
      exact hK _ _ (Below.refl _ _) rfl
    case refine_4 =>
      refine StepG.of rfl ?_
      refine StepL.up fun x V hV hu K Q hK => ?_
      have u2 : x 2 = _ := hu 2 (by decide)
      clear hu
      simp only [putL, List.set_cons_zero, List.set_cons_succ] at hK ⊢
      rw [owp_eq]
      go_big_op
      exact hK _ _ (Below.refl _ _) rfl
    case refine_5 =>
      refine StepG.of rfl ?_
      refine StepL.up fun x V hV hu K Q hK => ?_
      have u1 : x 1 = _ := hu 1 (by decide)
      have u3 : x 3 = _ := hu 3 (by decide)
      clear hu
      simp only [putL, List.set_cons_zero, List.set_cons_succ] at hK ⊢
      rw [owp_eq]
      go_big_op
      refine (KP1.out V).mono ?_
      rintro e V' ⟨rfl, rfl⟩
      exact hK _ _ (Below.refl _ _) rfl
    case refine_6 =>
      refine StepG.of rfl ?_
      refine StepL.up fun x V hV hu K Q hK => ?_
      have u0 : x 0 = _ := hu 0 (by decide)
      have u4 : x 4 = _ := hu 4 (by decide)
      clear hu
      simp only [putL, List.set_cons_zero, List.set_cons_succ] at hK ⊢
      rw [owp_eq]
      go_big_op
      exact hK _ _ (Below.refl _ _) rfl
    case refine_7 =>
      refine StepG.of rfl ?_
      refine StepL.up fun x V hV hu K Q hK => ?_
      have u5 : x 5 = _ := hu 5 (by decide)
      have fc0 := hV.cell c0
      have fc1 := hV.cell c1
      have fc2 := hV.cell c2
      clear hu
      simp only [putL, List.set_cons_zero, List.set_cons_succ] at hK ⊢
      rw [owp_eq]
      go_big_op
      exact hK _ _ (Below.refl _ _) rfl
    case refine_8 =>
      refine StepG.of rfl ?_
      refine StepL.up fun x V hV hu K Q hK => ?_
      clear hu
      simp only [putL, List.set_cons_zero, List.set_cons_succ] at hK ⊢
      rw [owp_eq]
      go_big_op
      exact hK _ _ (Below.refl _ _) rfl
    case refine_9 =>
      refine StepG.of rfl ?_
      refine StepL.up fun x V hV hu K Q hK => ?_
      clear hu
      simp only [putL, List.set_cons_zero, List.set_cons_succ] at hK ⊢
      rw [owp_eq]
      go_big_op
      exact hK _ _ (Below.refl _ _) rfl
    case refine_10 =>
      refine StepG.of rfl ?_
      refine StepL.up fun x V hV hu K Q hK => ?_
      clear hu
      simp only [putL, List.set_cons_zero, List.set_cons_succ] at hK ⊢
      rw [owp_eq]
      go_big_op
      exact hK _ _ (Below.refl _ _) rfl
    case refine_11 =>
      refine StepG.of rfl ?_
      refine StepL.up fun x V hV hu K Q hK => ?_
      have u9 : x 9 = _ := hu 9 (by decide)
      clear hu
      simp only [putL, List.set_cons_zero, List.set_cons_succ] at hK ⊢
      rw [owp_eq]
      go_big_op
      exact hK _ _ (Below.refl _ _) rfl
    case refine_12 =>
      refine StepG.of rfl ?_
      refine StepL.up fun x V hV hu K Q hK => ?_
      have u8 : x 8 = _ := hu 8 (by decide)
      have u10 : x 10 = _ := hu 10 (by decide)
      clear hu
      simp only [putL, List.set_cons_zero, List.set_cons_succ] at hK ⊢
      rw [owp_eq]
      go_big_op
      refine (KP2.out V).mono ?_
      rintro e V' ⟨rfl, rfl⟩
      exact hK _ _ (Below.refl _ _) rfl
    case refine_13 =>
      refine StepG.of rfl ?_
      refine StepL.up fun x V hV hu K Q hK => ?_
      have u7 : x 7 = _ := hu 7 (by decide)
      have u11 : x 11 = _ := hu 11 (by decide)
      clear hu
      simp only [putL, List.set_cons_zero, List.set_cons_succ] at hK ⊢
      rw [owp_eq]
      go_big_op
      exact hK _ _ (Below.refl _ _) rfl
    case refine_14 =>
      refine StepG.of rfl ?_
      refine StepL.up fun x V hV hu K Q hK => ?_
      have u12 : x 12 = _ := hu 12 (by decide)
      have fd0 := hV.cell d0
      have fd1 := hV.cell d1
      have fd2 := hV.cell d2
      clear hu
      simp only [putL, List.set_cons_zero, List.set_cons_succ] at hK ⊢
      rw [owp_eq]
      go_big_op
      exact hK _ _ (Below.refl _ _) rfl
    case refine_15 =>
      refine StepG.of rfl ?_
      refine StepL.up fun x V hV hu K Q hK => ?_
      clear hu
      simp only [putL, List.set_cons_zero, List.set_cons_succ] at hK ⊢
      rw [owp_eq]
      go_big_op
      exact hK _ _ (ba1 V _) ⟨_, _, rfl, Below.size hV, rfl, Bk.new V _ _⟩
    case refine_16 =>
      refine StepG.of rfl ?_
      refine StepL.up fun x V hV hu K Q hK => ?_
      clear hu
      simp only [putL, List.set_cons_zero, List.set_cons_succ] at hK ⊢
      rw [owp_eq]
      go_big_op
      exact hK _ _ (ba1 V _) ⟨_, _, rfl, Below.size hV, rfl, Bk.new V _ _⟩
    case refine_17 =>
      refine StepG.of rfl ?_
      refine StepL.wr [7, 11, 12, 13, 15] (by kernel_rfl) fun x V hV hu K Q hK => ?_
      obtain ⟨g, cs, u14, hg, hp, hk⟩ := hu 14 (by decide)
      have u6 : x 6 = _ := hu 6 (by decide)
      clear hu
      simp only [putL, List.set_cons_zero, List.set_cons_succ] at hK ⊢
      refine wp_store_og 37 (.tmp 11) (.tmp 35) rfl g #[.int .i64 x0, .int .i64 x1, .int .u8 (x2 : Nat)] u14 u6 37 cs hk (by kernel_rfl) (by rw [hp]; rfl) (by kernel_rfl) fun V' h1 h2 => ?_
      refine hK undef _ (hV.store h2 hg) ⟨g, _, u14, hg, ⟨⟨x0, x1, x2⟩, HX.out, rfl⟩, h1⟩ fun k hk' => ?_
      simp only [List.mem_cons, List.not_mem_nil, or_false] at hk'
      rcases hk' with rfl | rfl | rfl | rfl | rfl
      · exact fun h => h
      · exact fun h => h
      · exact fun h => h
      · exact fun h => h
      · rintro ⟨g', cs', e', l', p', k'⟩
        by_cases hgg : g' = g
        · subst hgg
          exact ⟨g', _, e', l', rfl, h1⟩
        · exact ⟨g', cs', e', l', p', k'.grown h2 (by intro e; injection e with e; exact hgg e)⟩
    case refine_18 =>
      refine StepG.of rfl ?_
      refine StepL.wr [16] (by kernel_rfl) fun x V hV hu K Q hK => ?_
      obtain ⟨g, cs, u15, hg, hp, hk⟩ := hu 15 (by decide)
      have u13 : x 13 = _ := hu 13 (by decide)
      clear hu
      simp only [putL, List.set_cons_zero, List.set_cons_succ] at hK ⊢
      refine wp_store_og 37 (.tmp 12) (.tmp 42) rfl g #[.int .i64 y0, .int .i64 y1, .int .u8 (y2 : Nat)] u15 u13 37 cs hk (by kernel_rfl) (by rw [hp]; rfl) (by kernel_rfl) fun V' h1 h2 => ?_
      refine hK undef _ (hV.store h2 hg) ⟨g, _, u15, hg, ⟨⟨y0, y1, y2⟩, HY.out, rfl⟩, h1⟩ fun k hk' => ?_
      simp only [List.mem_cons, List.not_mem_nil, or_false] at hk'
      subst hk'
      · rintro ⟨g', cs', e', l', p', k'⟩
        by_cases hgg : g' = g
        · subst hgg
          exact ⟨g', _, e', l', ⟨⟨y0, y1, y2⟩, HY.out, rfl⟩, h1⟩
        · exact ⟨g', cs', e', l', p', k'.grown h2 (by intro e; injection e with e; exact hgg e)⟩
    case refine_19 =>
    intro xs Z hC hA
    obtain ⟨ga, _, h14, _, ⟨a, haL, rfl⟩, hka⟩ := hA 16 (by decide) (by decide)
    obtain ⟨gb, _, h15, _, ⟨b2, hbL, rfl⟩, hkb⟩ := hA 17 (by decide) (by decide)
    have HYZ := Lib.hid (show Below Y.heap.size Y Z from hC)
    have HA := Lib.hid (HIN.out a haL)
    simp only [layL, putL, List.set_cons_zero, List.set_cons_succ]
    rw [h14, h15]
    have HZW := Lib.hid (HWY.out.trans (HYZ.out.mono HWY.out.size))
    have KA := Lib.hid hka
    have KB := Lib.hid hkb
    have KG := Lib.hid (KE.out.below HZW.out KE.out.lt)
    have HWS := Lib.hid (was_zero s a b2)
    have HWP := Lib.hid (fun k => was_succ s a b2 k)
    have HMO := Lib.hid (fun k => was_mono s a b2 k)
    have HTP := Lib.hid (fun k (hk : 4 ≤ k) => was_top s a b2 k hk)
    have KAB := Lib.hid (fun (U : World) (hU : Below Z.heap.size Z U) (code : Nat) (hc : code < 256) => KN.out U a b2 code (HZW.out.trans (hU.mono HZW.out.size)) hc)
    have KBA := Lib.hid (fun (U : World) (hU : Below Z.heap.size Z U) (code : Nat) (hc : code < 256) => nearR_symm s b2 a code ▸ KN.out U b2 a code (HZW.out.trans (hU.mono HZW.out.size)) hc)
    have KAA := Lib.hid (fun (U : World) (hU : Below Z.heap.size Z U) (code : Nat) (hc : code < 256) => nearR_self HA.out code ▸ KN.out U a a code (HZW.out.trans (hU.mono HZW.out.size)) hc)
    have HEND := Lib.hid (HB.out.trans (HZW.out.mono HB.out.size))
    clear hC hA h14 h15 hka hkb KN KP1 KP2 HX HY HIN c0 c1 c2 d0 d1 d2 haL hbL HA HYZ HWY HZW HS HB HBU KE
    generalize was s a b2 = wf at *
    generalize nearR s a b2 = nf at *
    obtain ⟨a0, a1, a2⟩ := a
    obtain ⟨b0, b1, b2⟩ := b2
    unfold sltL at KA KB KAB KBA KAA
    simp only at KA KB KAB KBA KAA
    go_wp2_with fail
    go_loopw [13, 14] (fun v i wr => ∃ k : Nat, k ≤ 6 ∧ i = .int .u8 (k : Nat) ∧ v = .bool (wf k) ∧ Hid (Below Z.heap.size Z wr)) (fun _ i _ => 6 - (intOf i).toNat)
    case atStart => exact ⟨0, by omega, rfl, by rw [HWS.out], Lib.hid (Below.refl _ _)⟩
    case round =>
      obtain ⟨k, hk, rfl, rfl, HBZ⟩ := hrel
      obtain ⟨U, rfl⟩ : ∃ V, V = wr := ⟨_, rfl⟩
      by_cases hk6 : k = 6
      · subst hk6
        have HE := Lib.hid (HEND.out.trans (HBZ.out.mono HEND.out.size))
        go_wp2_with fail
        go_ret
        exact ⟨rfl, HE.out⟩
      by_cases hj0 : k = 0
      · subst hj0
        have N1 := KAB.out U HBZ.out 0 (by decide)
        have N2 := fun (X : World) (hX : Below Z.heap.size Z X) => KBA.out X hX 0 (by decide)
        have N3 := fun (X : World) (hX : Below Z.heap.size Z X) => KAA.out X hX 0 (by decide)
        have NN1 : Hid (Calls Tryd.prog 25 #[.agg #[Value.slice h.A1 s.cols.length h.c1, Value.slice h.A2 s.covs.length h.c2, .int .i64 s.l0, .int .i64 s.l1, .int .i64 s.l2, .int .i64 s.l3, Value.slice h.A3 s.rows.length h.c3, Value.slice h.A4 s.frames.length h.c4, Value.slice h.A5 s.tanks.length h.c5, .int .i64 s.m0, .int .i64 s.m1, .int .i64 s.m2, .int .i64 s.m3], .agg #[.int .i64 a0, .int .i64 a1, .int .u8 (a2 : Nat)], .agg #[.int .i64 b0, .int .i64 b1, .int .u8 (b2 : Nat)], .int .u8 0] U (Ret U (.bool (nf 0)))) := Lib.hid N1
        have NN2 : Hid (∀ X : World, Below Z.heap.size Z X → Calls Tryd.prog 25 #[.agg #[Value.slice h.A1 s.cols.length h.c1, Value.slice h.A2 s.covs.length h.c2, .int .i64 s.l0, .int .i64 s.l1, .int .i64 s.l2, .int .i64 s.l3, Value.slice h.A3 s.rows.length h.c3, Value.slice h.A4 s.frames.length h.c4, Value.slice h.A5 s.tanks.length h.c5, .int .i64 s.m0, .int .i64 s.m1, .int .i64 s.m2, .int .i64 s.m3], .agg #[.int .i64 b0, .int .i64 b1, .int .u8 (b2 : Nat)], .agg #[.int .i64 a0, .int .i64 a1, .int .u8 (a2 : Nat)], .int .u8 0] X (Ret X (.bool (nf 0)))) := Lib.hid N2
        have NN3 : Hid (∀ X : World, Below Z.heap.size Z X → Calls Tryd.prog 25 #[.agg #[Value.slice h.A1 s.cols.length h.c1, Value.slice h.A2 s.covs.length h.c2, .int .i64 s.l0, .int .i64 s.l1, .int .i64 s.l2, .int .i64 s.l3, Value.slice h.A3 s.rows.length h.c3, Value.slice h.A4 s.frames.length h.c4, Value.slice h.A5 s.tanks.length h.c5, .int .i64 s.m0, .int .i64 s.m1, .int .i64 s.m2, .int .i64 s.m3], .agg #[.int .i64 a0, .int .i64 a1, .int .u8 (a2 : Nat)], .agg #[.int .i64 a0, .int .i64 a1, .int .u8 (a2 : Nat)], .int .u8 0] X (Ret X (.bool false))) := Lib.hid N3
        clear N1 N2 N3
        have HW1 := Lib.hid (HWP.out 0)
        have HMJ := Lib.hid (HMO.out 0)
        have HZ0 := Lib.hid HWS.out
        have HWN : Hid (wf 1 = nf 0) := Lib.hid HW1.out
        generalize nf 0 = q at *
        generalize wf 0 = p at *
        clear HW1
        cases p with
        | false =>
          cases q with
          | false =>
            as_aux_lemma =>
              go_step
              go_step
              have SC := KG.out.below HBZ.out KG.out.lt
              have SA := KA.out.below HBZ.out KA.out.lt
              have SB := KB.out.below HBZ.out KB.out.lt
              have e0 : U.cell? ⟨g, 0, none⟩ = some (Value.slice h.A1 s.cols.length h.c1) := SC.cell 0
              have e1 : U.cell? ⟨g, 1, none⟩ = some (Value.slice h.A2 s.covs.length h.c2) := SC.cell 1
              have e2 : U.cell? ⟨g, 2, none⟩ = some (.int .i64 s.l0) := SC.cell 2
              have e3 : U.cell? ⟨g, 3, none⟩ = some (.int .i64 s.l1) := SC.cell 3
              have e4 : U.cell? ⟨g, 4, none⟩ = some (.int .i64 s.l2) := SC.cell 4
              have e5 : U.cell? ⟨g, 5, none⟩ = some (.int .i64 s.l3) := SC.cell 5
              have e6 : U.cell? ⟨g, 6, none⟩ = some (Value.slice h.A3 s.rows.length h.c3) := SC.cell 6
              have e7 : U.cell? ⟨g, 7, none⟩ = some (Value.slice h.A4 s.frames.length h.c4) := SC.cell 7
              have e8 : U.cell? ⟨g, 8, none⟩ = some (Value.slice h.A5 s.tanks.length h.c5) := SC.cell 8
              have e9 : U.cell? ⟨g, 9, none⟩ = some (.int .i64 s.m0) := SC.cell 9
              have e10 : U.cell? ⟨g, 10, none⟩ = some (.int .i64 s.m1) := SC.cell 10
              have e11 : U.cell? ⟨g, 11, none⟩ = some (.int .i64 s.m2) := SC.cell 11
              have e12 : U.cell? ⟨g, 12, none⟩ = some (.int .i64 s.m3) := SC.cell 12
              have x0 : U.cell? ⟨ga, 0, none⟩ = some (.int .i64 a0) := SA.cell 0
              have x1 : U.cell? ⟨ga, 1, none⟩ = some (.int .i64 a1) := SA.cell 1
              have x2 : U.cell? ⟨ga, 2, none⟩ = some (.int .u8 (a2 : Nat)) := SA.cell 2
              have y0 : U.cell? ⟨gb, 0, none⟩ = some (.int .i64 b0) := SB.cell 0
              have y1 : U.cell? ⟨gb, 1, none⟩ = some (.int .i64 b1) := SB.cell 1
              have y2 : U.cell? ⟨gb, 2, none⟩ = some (.int .u8 (b2 : Nat)) := SB.cell 2
              clear SC SA SB
              go_wp2_with fail
              refine NN1.out.mono ?_
              rintro e U1 ⟨rfl, hb⟩
              simp only
              have HB1 := Lib.hid (HBZ.out.trans (hb.mono HBZ.out.size))
              clear hb NN1
              clear e0 e1 e2 e3 e4 e5 e6 e7 e8 e9 e10 e11 e12 x0 x1 x2 y0 y1 y2
              have SC := KG.out.below HB1.out KG.out.lt
              have SA := KA.out.below HB1.out KA.out.lt
              have SB := KB.out.below HB1.out KB.out.lt
              have e0 : U1.cell? ⟨g, 0, none⟩ = some (Value.slice h.A1 s.cols.length h.c1) := SC.cell 0
              have e1 : U1.cell? ⟨g, 1, none⟩ = some (Value.slice h.A2 s.covs.length h.c2) := SC.cell 1
              have e2 : U1.cell? ⟨g, 2, none⟩ = some (.int .i64 s.l0) := SC.cell 2
              have e3 : U1.cell? ⟨g, 3, none⟩ = some (.int .i64 s.l1) := SC.cell 3
              have e4 : U1.cell? ⟨g, 4, none⟩ = some (.int .i64 s.l2) := SC.cell 4
              have e5 : U1.cell? ⟨g, 5, none⟩ = some (.int .i64 s.l3) := SC.cell 5
              have e6 : U1.cell? ⟨g, 6, none⟩ = some (Value.slice h.A3 s.rows.length h.c3) := SC.cell 6
              have e7 : U1.cell? ⟨g, 7, none⟩ = some (Value.slice h.A4 s.frames.length h.c4) := SC.cell 7
              have e8 : U1.cell? ⟨g, 8, none⟩ = some (Value.slice h.A5 s.tanks.length h.c5) := SC.cell 8
              have e9 : U1.cell? ⟨g, 9, none⟩ = some (.int .i64 s.m0) := SC.cell 9
              have e10 : U1.cell? ⟨g, 10, none⟩ = some (.int .i64 s.m1) := SC.cell 10
              have e11 : U1.cell? ⟨g, 11, none⟩ = some (.int .i64 s.m2) := SC.cell 11
              have e12 : U1.cell? ⟨g, 12, none⟩ = some (.int .i64 s.m3) := SC.cell 12
              have x0 : U1.cell? ⟨ga, 0, none⟩ = some (.int .i64 a0) := SA.cell 0
              have x1 : U1.cell? ⟨ga, 1, none⟩ = some (.int .i64 a1) := SA.cell 1
              have x2 : U1.cell? ⟨ga, 2, none⟩ = some (.int .u8 (a2 : Nat)) := SA.cell 2
              have y0 : U1.cell? ⟨gb, 0, none⟩ = some (.int .i64 b0) := SB.cell 0
              have y1 : U1.cell? ⟨gb, 1, none⟩ = some (.int .i64 b1) := SB.cell 1
              have y2 : U1.cell? ⟨gb, 2, none⟩ = some (.int .u8 (b2 : Nat)) := SB.cell 2
              clear SC SA SB
              go_wp2_with fail
              refine (NN2.out U1 HB1.out).mono ?_
              rintro e U2 ⟨rfl, hb⟩
              simp only
              have HB2 := Lib.hid (HB1.out.trans (hb.mono HB1.out.size))
              clear hb NN2
              clear e0 e1 e2 e3 e4 e5 e6 e7 e8 e9 e10 e11 e12 x0 x1 x2 y0 y1 y2
              have SC := KG.out.below HB2.out KG.out.lt
              have SA := KA.out.below HB2.out KA.out.lt
              have SB := KB.out.below HB2.out KB.out.lt
              have e0 : U2.cell? ⟨g, 0, none⟩ = some (Value.slice h.A1 s.cols.length h.c1) := SC.cell 0
              have e1 : U2.cell? ⟨g, 1, none⟩ = some (Value.slice h.A2 s.covs.length h.c2) := SC.cell 1
              have e2 : U2.cell? ⟨g, 2, none⟩ = some (.int .i64 s.l0) := SC.cell 2
              have e3 : U2.cell? ⟨g, 3, none⟩ = some (.int .i64 s.l1) := SC.cell 3
              have e4 : U2.cell? ⟨g, 4, none⟩ = some (.int .i64 s.l2) := SC.cell 4
              have e5 : U2.cell? ⟨g, 5, none⟩ = some (.int .i64 s.l3) := SC.cell 5
              have e6 : U2.cell? ⟨g, 6, none⟩ = some (Value.slice h.A3 s.rows.length h.c3) := SC.cell 6
              have e7 : U2.cell? ⟨g, 7, none⟩ = some (Value.slice h.A4 s.frames.length h.c4) := SC.cell 7
              have e8 : U2.cell? ⟨g, 8, none⟩ = some (Value.slice h.A5 s.tanks.length h.c5) := SC.cell 8
              have e9 : U2.cell? ⟨g, 9, none⟩ = some (.int .i64 s.m0) := SC.cell 9
              have e10 : U2.cell? ⟨g, 10, none⟩ = some (.int .i64 s.m1) := SC.cell 10
              have e11 : U2.cell? ⟨g, 11, none⟩ = some (.int .i64 s.m2) := SC.cell 11
              have e12 : U2.cell? ⟨g, 12, none⟩ = some (.int .i64 s.m3) := SC.cell 12
              have x0 : U2.cell? ⟨ga, 0, none⟩ = some (.int .i64 a0) := SA.cell 0
              have x1 : U2.cell? ⟨ga, 1, none⟩ = some (.int .i64 a1) := SA.cell 1
              have x2 : U2.cell? ⟨ga, 2, none⟩ = some (.int .u8 (a2 : Nat)) := SA.cell 2
              have y0 : U2.cell? ⟨gb, 0, none⟩ = some (.int .i64 b0) := SB.cell 0
              have y1 : U2.cell? ⟨gb, 1, none⟩ = some (.int .i64 b1) := SB.cell 1
              have y2 : U2.cell? ⟨gb, 2, none⟩ = some (.int .u8 (b2 : Nat)) := SB.cell 2
              clear SC SA SB
              go_wp2_with fail
              refine (NN3.out U2 HB2.out).mono ?_
              rintro e U3 ⟨rfl, hb⟩
              simp only
              have HB3 := Lib.hid (HB2.out.trans (hb.mono HB2.out.size))
              clear hb NN3
              clear e0 e1 e2 e3 e4 e5 e6 e7 e8 e9 e10 e11 e12 x0 x1 x2 y0 y1 y2
              go_wp2_with fail
              go_roundw
              case rel => (first | exact ⟨1, by omega, by go_num, by rw [HWN.out], HB3⟩ | ((repeat apply Exists.intro); (first | exact ⟨⟨1, by omega, by go_num, by rw [HWN.out], HB3⟩, rfl⟩ | exact ⟨(show 1 ≤ 6 by omega), by go_num, by rw [HWN.out], HB3⟩)))
              case measure => simp [intOf]
          | true =>
            exact absurd (HMJ.out.2 rfl) (by decide)
        | true =>
          cases q with
          | false =>
            exact absurd HZ0.out (by decide)
          | true =>
            exact absurd HZ0.out (by decide)
      by_cases hj1 : k = 1
      · subst hj1
        have N1 := KAB.out U HBZ.out 1 (by decide)
        have N2 := fun (X : World) (hX : Below Z.heap.size Z X) => KBA.out X hX 1 (by decide)
        have N3 := fun (X : World) (hX : Below Z.heap.size Z X) => KAA.out X hX 1 (by decide)
        have NN1 : Hid (Calls Tryd.prog 25 #[.agg #[Value.slice h.A1 s.cols.length h.c1, Value.slice h.A2 s.covs.length h.c2, .int .i64 s.l0, .int .i64 s.l1, .int .i64 s.l2, .int .i64 s.l3, Value.slice h.A3 s.rows.length h.c3, Value.slice h.A4 s.frames.length h.c4, Value.slice h.A5 s.tanks.length h.c5, .int .i64 s.m0, .int .i64 s.m1, .int .i64 s.m2, .int .i64 s.m3], .agg #[.int .i64 a0, .int .i64 a1, .int .u8 (a2 : Nat)], .agg #[.int .i64 b0, .int .i64 b1, .int .u8 (b2 : Nat)], .int .u8 1] U (Ret U (.bool (nf 1)))) := Lib.hid N1
        have NN2 : Hid (∀ X : World, Below Z.heap.size Z X → Calls Tryd.prog 25 #[.agg #[Value.slice h.A1 s.cols.length h.c1, Value.slice h.A2 s.covs.length h.c2, .int .i64 s.l0, .int .i64 s.l1, .int .i64 s.l2, .int .i64 s.l3, Value.slice h.A3 s.rows.length h.c3, Value.slice h.A4 s.frames.length h.c4, Value.slice h.A5 s.tanks.length h.c5, .int .i64 s.m0, .int .i64 s.m1, .int .i64 s.m2, .int .i64 s.m3], .agg #[.int .i64 b0, .int .i64 b1, .int .u8 (b2 : Nat)], .agg #[.int .i64 a0, .int .i64 a1, .int .u8 (a2 : Nat)], .int .u8 1] X (Ret X (.bool (nf 1)))) := Lib.hid N2
        have NN3 : Hid (∀ X : World, Below Z.heap.size Z X → Calls Tryd.prog 25 #[.agg #[Value.slice h.A1 s.cols.length h.c1, Value.slice h.A2 s.covs.length h.c2, .int .i64 s.l0, .int .i64 s.l1, .int .i64 s.l2, .int .i64 s.l3, Value.slice h.A3 s.rows.length h.c3, Value.slice h.A4 s.frames.length h.c4, Value.slice h.A5 s.tanks.length h.c5, .int .i64 s.m0, .int .i64 s.m1, .int .i64 s.m2, .int .i64 s.m3], .agg #[.int .i64 a0, .int .i64 a1, .int .u8 (a2 : Nat)], .agg #[.int .i64 a0, .int .i64 a1, .int .u8 (a2 : Nat)], .int .u8 1] X (Ret X (.bool false))) := Lib.hid N3
        clear N1 N2 N3
        have HW1 := Lib.hid (HWP.out 1)
        have HMJ := Lib.hid (HMO.out 1)
        have HWN : Hid (wf 2 = nf 1) := Lib.hid HW1.out
        generalize nf 1 = q at *
        generalize wf 1 = p at *
        clear HW1
        cases p with
        | false =>
          cases q with
          | false =>
            as_aux_lemma =>
              go_step
              go_step
              have SC := KG.out.below HBZ.out KG.out.lt
              have SA := KA.out.below HBZ.out KA.out.lt
              have SB := KB.out.below HBZ.out KB.out.lt
              have e0 : U.cell? ⟨g, 0, none⟩ = some (Value.slice h.A1 s.cols.length h.c1) := SC.cell 0
              have e1 : U.cell? ⟨g, 1, none⟩ = some (Value.slice h.A2 s.covs.length h.c2) := SC.cell 1
              have e2 : U.cell? ⟨g, 2, none⟩ = some (.int .i64 s.l0) := SC.cell 2
              have e3 : U.cell? ⟨g, 3, none⟩ = some (.int .i64 s.l1) := SC.cell 3
              have e4 : U.cell? ⟨g, 4, none⟩ = some (.int .i64 s.l2) := SC.cell 4
              have e5 : U.cell? ⟨g, 5, none⟩ = some (.int .i64 s.l3) := SC.cell 5
              have e6 : U.cell? ⟨g, 6, none⟩ = some (Value.slice h.A3 s.rows.length h.c3) := SC.cell 6
              have e7 : U.cell? ⟨g, 7, none⟩ = some (Value.slice h.A4 s.frames.length h.c4) := SC.cell 7
              have e8 : U.cell? ⟨g, 8, none⟩ = some (Value.slice h.A5 s.tanks.length h.c5) := SC.cell 8
              have e9 : U.cell? ⟨g, 9, none⟩ = some (.int .i64 s.m0) := SC.cell 9
              have e10 : U.cell? ⟨g, 10, none⟩ = some (.int .i64 s.m1) := SC.cell 10
              have e11 : U.cell? ⟨g, 11, none⟩ = some (.int .i64 s.m2) := SC.cell 11
              have e12 : U.cell? ⟨g, 12, none⟩ = some (.int .i64 s.m3) := SC.cell 12
              have x0 : U.cell? ⟨ga, 0, none⟩ = some (.int .i64 a0) := SA.cell 0
              have x1 : U.cell? ⟨ga, 1, none⟩ = some (.int .i64 a1) := SA.cell 1
              have x2 : U.cell? ⟨ga, 2, none⟩ = some (.int .u8 (a2 : Nat)) := SA.cell 2
              have y0 : U.cell? ⟨gb, 0, none⟩ = some (.int .i64 b0) := SB.cell 0
              have y1 : U.cell? ⟨gb, 1, none⟩ = some (.int .i64 b1) := SB.cell 1
              have y2 : U.cell? ⟨gb, 2, none⟩ = some (.int .u8 (b2 : Nat)) := SB.cell 2
              clear SC SA SB
              go_wp2_with fail
              refine NN1.out.mono ?_
              rintro e U1 ⟨rfl, hb⟩
              simp only
              have HB1 := Lib.hid (HBZ.out.trans (hb.mono HBZ.out.size))
              clear hb NN1
              clear e0 e1 e2 e3 e4 e5 e6 e7 e8 e9 e10 e11 e12 x0 x1 x2 y0 y1 y2
              have SC := KG.out.below HB1.out KG.out.lt
              have SA := KA.out.below HB1.out KA.out.lt
              have SB := KB.out.below HB1.out KB.out.lt
              have e0 : U1.cell? ⟨g, 0, none⟩ = some (Value.slice h.A1 s.cols.length h.c1) := SC.cell 0
              have e1 : U1.cell? ⟨g, 1, none⟩ = some (Value.slice h.A2 s.covs.length h.c2) := SC.cell 1
              have e2 : U1.cell? ⟨g, 2, none⟩ = some (.int .i64 s.l0) := SC.cell 2
              have e3 : U1.cell? ⟨g, 3, none⟩ = some (.int .i64 s.l1) := SC.cell 3
              have e4 : U1.cell? ⟨g, 4, none⟩ = some (.int .i64 s.l2) := SC.cell 4
              have e5 : U1.cell? ⟨g, 5, none⟩ = some (.int .i64 s.l3) := SC.cell 5
              have e6 : U1.cell? ⟨g, 6, none⟩ = some (Value.slice h.A3 s.rows.length h.c3) := SC.cell 6
              have e7 : U1.cell? ⟨g, 7, none⟩ = some (Value.slice h.A4 s.frames.length h.c4) := SC.cell 7
              have e8 : U1.cell? ⟨g, 8, none⟩ = some (Value.slice h.A5 s.tanks.length h.c5) := SC.cell 8
              have e9 : U1.cell? ⟨g, 9, none⟩ = some (.int .i64 s.m0) := SC.cell 9
              have e10 : U1.cell? ⟨g, 10, none⟩ = some (.int .i64 s.m1) := SC.cell 10
              have e11 : U1.cell? ⟨g, 11, none⟩ = some (.int .i64 s.m2) := SC.cell 11
              have e12 : U1.cell? ⟨g, 12, none⟩ = some (.int .i64 s.m3) := SC.cell 12
              have x0 : U1.cell? ⟨ga, 0, none⟩ = some (.int .i64 a0) := SA.cell 0
              have x1 : U1.cell? ⟨ga, 1, none⟩ = some (.int .i64 a1) := SA.cell 1
              have x2 : U1.cell? ⟨ga, 2, none⟩ = some (.int .u8 (a2 : Nat)) := SA.cell 2
              have y0 : U1.cell? ⟨gb, 0, none⟩ = some (.int .i64 b0) := SB.cell 0
              have y1 : U1.cell? ⟨gb, 1, none⟩ = some (.int .i64 b1) := SB.cell 1
              have y2 : U1.cell? ⟨gb, 2, none⟩ = some (.int .u8 (b2 : Nat)) := SB.cell 2
              clear SC SA SB
              go_wp2_with fail
              refine (NN2.out U1 HB1.out).mono ?_
              rintro e U2 ⟨rfl, hb⟩
              simp only
              have HB2 := Lib.hid (HB1.out.trans (hb.mono HB1.out.size))
              clear hb NN2
              clear e0 e1 e2 e3 e4 e5 e6 e7 e8 e9 e10 e11 e12 x0 x1 x2 y0 y1 y2
              have SC := KG.out.below HB2.out KG.out.lt
              have SA := KA.out.below HB2.out KA.out.lt
              have SB := KB.out.below HB2.out KB.out.lt
              have e0 : U2.cell? ⟨g, 0, none⟩ = some (Value.slice h.A1 s.cols.length h.c1) := SC.cell 0
              have e1 : U2.cell? ⟨g, 1, none⟩ = some (Value.slice h.A2 s.covs.length h.c2) := SC.cell 1
              have e2 : U2.cell? ⟨g, 2, none⟩ = some (.int .i64 s.l0) := SC.cell 2
              have e3 : U2.cell? ⟨g, 3, none⟩ = some (.int .i64 s.l1) := SC.cell 3
              have e4 : U2.cell? ⟨g, 4, none⟩ = some (.int .i64 s.l2) := SC.cell 4
              have e5 : U2.cell? ⟨g, 5, none⟩ = some (.int .i64 s.l3) := SC.cell 5
              have e6 : U2.cell? ⟨g, 6, none⟩ = some (Value.slice h.A3 s.rows.length h.c3) := SC.cell 6
              have e7 : U2.cell? ⟨g, 7, none⟩ = some (Value.slice h.A4 s.frames.length h.c4) := SC.cell 7
              have e8 : U2.cell? ⟨g, 8, none⟩ = some (Value.slice h.A5 s.tanks.length h.c5) := SC.cell 8
              have e9 : U2.cell? ⟨g, 9, none⟩ = some (.int .i64 s.m0) := SC.cell 9
              have e10 : U2.cell? ⟨g, 10, none⟩ = some (.int .i64 s.m1) := SC.cell 10
              have e11 : U2.cell? ⟨g, 11, none⟩ = some (.int .i64 s.m2) := SC.cell 11
              have e12 : U2.cell? ⟨g, 12, none⟩ = some (.int .i64 s.m3) := SC.cell 12
              have x0 : U2.cell? ⟨ga, 0, none⟩ = some (.int .i64 a0) := SA.cell 0
              have x1 : U2.cell? ⟨ga, 1, none⟩ = some (.int .i64 a1) := SA.cell 1
              have x2 : U2.cell? ⟨ga, 2, none⟩ = some (.int .u8 (a2 : Nat)) := SA.cell 2
              have y0 : U2.cell? ⟨gb, 0, none⟩ = some (.int .i64 b0) := SB.cell 0
              have y1 : U2.cell? ⟨gb, 1, none⟩ = some (.int .i64 b1) := SB.cell 1
              have y2 : U2.cell? ⟨gb, 2, none⟩ = some (.int .u8 (b2 : Nat)) := SB.cell 2
              clear SC SA SB
              go_wp2_with fail
              refine (NN3.out U2 HB2.out).mono ?_
              rintro e U3 ⟨rfl, hb⟩
              simp only
              have HB3 := Lib.hid (HB2.out.trans (hb.mono HB2.out.size))
              clear hb NN3
              clear e0 e1 e2 e3 e4 e5 e6 e7 e8 e9 e10 e11 e12 x0 x1 x2 y0 y1 y2
              go_wp2_with fail
              go_roundw
              case rel => (first | exact ⟨2, by omega, by go_num, by rw [HWN.out], HB3⟩ | ((repeat apply Exists.intro); (first | exact ⟨⟨2, by omega, by go_num, by rw [HWN.out], HB3⟩, rfl⟩ | exact ⟨(show 2 ≤ 6 by omega), by go_num, by rw [HWN.out], HB3⟩)))
              case measure => simp [intOf]
          | true =>
            as_aux_lemma =>
              go_step
              go_step
              have SC := KG.out.below HBZ.out KG.out.lt
              have SA := KA.out.below HBZ.out KA.out.lt
              have SB := KB.out.below HBZ.out KB.out.lt
              have e0 : U.cell? ⟨g, 0, none⟩ = some (Value.slice h.A1 s.cols.length h.c1) := SC.cell 0
              have e1 : U.cell? ⟨g, 1, none⟩ = some (Value.slice h.A2 s.covs.length h.c2) := SC.cell 1
              have e2 : U.cell? ⟨g, 2, none⟩ = some (.int .i64 s.l0) := SC.cell 2
              have e3 : U.cell? ⟨g, 3, none⟩ = some (.int .i64 s.l1) := SC.cell 3
              have e4 : U.cell? ⟨g, 4, none⟩ = some (.int .i64 s.l2) := SC.cell 4
              have e5 : U.cell? ⟨g, 5, none⟩ = some (.int .i64 s.l3) := SC.cell 5
              have e6 : U.cell? ⟨g, 6, none⟩ = some (Value.slice h.A3 s.rows.length h.c3) := SC.cell 6
              have e7 : U.cell? ⟨g, 7, none⟩ = some (Value.slice h.A4 s.frames.length h.c4) := SC.cell 7
              have e8 : U.cell? ⟨g, 8, none⟩ = some (Value.slice h.A5 s.tanks.length h.c5) := SC.cell 8
              have e9 : U.cell? ⟨g, 9, none⟩ = some (.int .i64 s.m0) := SC.cell 9
              have e10 : U.cell? ⟨g, 10, none⟩ = some (.int .i64 s.m1) := SC.cell 10
              have e11 : U.cell? ⟨g, 11, none⟩ = some (.int .i64 s.m2) := SC.cell 11
              have e12 : U.cell? ⟨g, 12, none⟩ = some (.int .i64 s.m3) := SC.cell 12
              have x0 : U.cell? ⟨ga, 0, none⟩ = some (.int .i64 a0) := SA.cell 0
              have x1 : U.cell? ⟨ga, 1, none⟩ = some (.int .i64 a1) := SA.cell 1
              have x2 : U.cell? ⟨ga, 2, none⟩ = some (.int .u8 (a2 : Nat)) := SA.cell 2
              have y0 : U.cell? ⟨gb, 0, none⟩ = some (.int .i64 b0) := SB.cell 0
              have y1 : U.cell? ⟨gb, 1, none⟩ = some (.int .i64 b1) := SB.cell 1
              have y2 : U.cell? ⟨gb, 2, none⟩ = some (.int .u8 (b2 : Nat)) := SB.cell 2
              clear SC SA SB
              go_wp2_with fail
              refine NN1.out.mono ?_
              rintro e U1 ⟨rfl, hb⟩
              simp only
              have HB1 := Lib.hid (HBZ.out.trans (hb.mono HBZ.out.size))
              clear hb NN1
              clear e0 e1 e2 e3 e4 e5 e6 e7 e8 e9 e10 e11 e12 x0 x1 x2 y0 y1 y2
              have SC := KG.out.below HB1.out KG.out.lt
              have SA := KA.out.below HB1.out KA.out.lt
              have SB := KB.out.below HB1.out KB.out.lt
              have e0 : U1.cell? ⟨g, 0, none⟩ = some (Value.slice h.A1 s.cols.length h.c1) := SC.cell 0
              have e1 : U1.cell? ⟨g, 1, none⟩ = some (Value.slice h.A2 s.covs.length h.c2) := SC.cell 1
              have e2 : U1.cell? ⟨g, 2, none⟩ = some (.int .i64 s.l0) := SC.cell 2
              have e3 : U1.cell? ⟨g, 3, none⟩ = some (.int .i64 s.l1) := SC.cell 3
              have e4 : U1.cell? ⟨g, 4, none⟩ = some (.int .i64 s.l2) := SC.cell 4
              have e5 : U1.cell? ⟨g, 5, none⟩ = some (.int .i64 s.l3) := SC.cell 5
              have e6 : U1.cell? ⟨g, 6, none⟩ = some (Value.slice h.A3 s.rows.length h.c3) := SC.cell 6
              have e7 : U1.cell? ⟨g, 7, none⟩ = some (Value.slice h.A4 s.frames.length h.c4) := SC.cell 7
              have e8 : U1.cell? ⟨g, 8, none⟩ = some (Value.slice h.A5 s.tanks.length h.c5) := SC.cell 8
              have e9 : U1.cell? ⟨g, 9, none⟩ = some (.int .i64 s.m0) := SC.cell 9
              have e10 : U1.cell? ⟨g, 10, none⟩ = some (.int .i64 s.m1) := SC.cell 10
              have e11 : U1.cell? ⟨g, 11, none⟩ = some (.int .i64 s.m2) := SC.cell 11
              have e12 : U1.cell? ⟨g, 12, none⟩ = some (.int .i64 s.m3) := SC.cell 12
              have x0 : U1.cell? ⟨ga, 0, none⟩ = some (.int .i64 a0) := SA.cell 0
              have x1 : U1.cell? ⟨ga, 1, none⟩ = some (.int .i64 a1) := SA.cell 1
              have x2 : U1.cell? ⟨ga, 2, none⟩ = some (.int .u8 (a2 : Nat)) := SA.cell 2
              have y0 : U1.cell? ⟨gb, 0, none⟩ = some (.int .i64 b0) := SB.cell 0
              have y1 : U1.cell? ⟨gb, 1, none⟩ = some (.int .i64 b1) := SB.cell 1
              have y2 : U1.cell? ⟨gb, 2, none⟩ = some (.int .u8 (b2 : Nat)) := SB.cell 2
              clear SC SA SB
              go_wp2_with fail
              refine (NN2.out U1 HB1.out).mono ?_
              rintro e U2 ⟨rfl, hb⟩
              simp only
              have HB2 := Lib.hid (HB1.out.trans (hb.mono HB1.out.size))
              clear hb NN2
              clear e0 e1 e2 e3 e4 e5 e6 e7 e8 e9 e10 e11 e12 x0 x1 x2 y0 y1 y2
              have SC := KG.out.below HB2.out KG.out.lt
              have SA := KA.out.below HB2.out KA.out.lt
              have SB := KB.out.below HB2.out KB.out.lt
              have e0 : U2.cell? ⟨g, 0, none⟩ = some (Value.slice h.A1 s.cols.length h.c1) := SC.cell 0
              have e1 : U2.cell? ⟨g, 1, none⟩ = some (Value.slice h.A2 s.covs.length h.c2) := SC.cell 1
              have e2 : U2.cell? ⟨g, 2, none⟩ = some (.int .i64 s.l0) := SC.cell 2
              have e3 : U2.cell? ⟨g, 3, none⟩ = some (.int .i64 s.l1) := SC.cell 3
              have e4 : U2.cell? ⟨g, 4, none⟩ = some (.int .i64 s.l2) := SC.cell 4
              have e5 : U2.cell? ⟨g, 5, none⟩ = some (.int .i64 s.l3) := SC.cell 5
              have e6 : U2.cell? ⟨g, 6, none⟩ = some (Value.slice h.A3 s.rows.length h.c3) := SC.cell 6
              have e7 : U2.cell? ⟨g, 7, none⟩ = some (Value.slice h.A4 s.frames.length h.c4) := SC.cell 7
              have e8 : U2.cell? ⟨g, 8, none⟩ = some (Value.slice h.A5 s.tanks.length h.c5) := SC.cell 8
              have e9 : U2.cell? ⟨g, 9, none⟩ = some (.int .i64 s.m0) := SC.cell 9
              have e10 : U2.cell? ⟨g, 10, none⟩ = some (.int .i64 s.m1) := SC.cell 10
              have e11 : U2.cell? ⟨g, 11, none⟩ = some (.int .i64 s.m2) := SC.cell 11
              have e12 : U2.cell? ⟨g, 12, none⟩ = some (.int .i64 s.m3) := SC.cell 12
              have x0 : U2.cell? ⟨ga, 0, none⟩ = some (.int .i64 a0) := SA.cell 0
              have x1 : U2.cell? ⟨ga, 1, none⟩ = some (.int .i64 a1) := SA.cell 1
              have x2 : U2.cell? ⟨ga, 2, none⟩ = some (.int .u8 (a2 : Nat)) := SA.cell 2
              have y0 : U2.cell? ⟨gb, 0, none⟩ = some (.int .i64 b0) := SB.cell 0
              have y1 : U2.cell? ⟨gb, 1, none⟩ = some (.int .i64 b1) := SB.cell 1
              have y2 : U2.cell? ⟨gb, 2, none⟩ = some (.int .u8 (b2 : Nat)) := SB.cell 2
              clear SC SA SB
              go_wp2_with fail
              refine (NN3.out U2 HB2.out).mono ?_
              rintro e U3 ⟨rfl, hb⟩
              simp only
              have HB3 := Lib.hid (HB2.out.trans (hb.mono HB2.out.size))
              clear hb NN3
              clear e0 e1 e2 e3 e4 e5 e6 e7 e8 e9 e10 e11 e12 x0 x1 x2 y0 y1 y2
              go_wp2_with fail
              go_roundw
              case rel => (first | exact ⟨2, by omega, by go_num, by rw [HWN.out], HB3⟩ | ((repeat apply Exists.intro); (first | exact ⟨⟨2, by omega, by go_num, by rw [HWN.out], HB3⟩, rfl⟩ | exact ⟨(show 2 ≤ 6 by omega), by go_num, by rw [HWN.out], HB3⟩)))
              case measure => simp [intOf]
        | true =>
          cases q with
          | false =>
            exact absurd (HMJ.out.1 rfl) (by decide)
          | true =>
            as_aux_lemma =>
              go_step
              go_step
              have SC := KG.out.below HBZ.out KG.out.lt
              have SA := KA.out.below HBZ.out KA.out.lt
              have SB := KB.out.below HBZ.out KB.out.lt
              have e0 : U.cell? ⟨g, 0, none⟩ = some (Value.slice h.A1 s.cols.length h.c1) := SC.cell 0
              have e1 : U.cell? ⟨g, 1, none⟩ = some (Value.slice h.A2 s.covs.length h.c2) := SC.cell 1
              have e2 : U.cell? ⟨g, 2, none⟩ = some (.int .i64 s.l0) := SC.cell 2
              have e3 : U.cell? ⟨g, 3, none⟩ = some (.int .i64 s.l1) := SC.cell 3
              have e4 : U.cell? ⟨g, 4, none⟩ = some (.int .i64 s.l2) := SC.cell 4
              have e5 : U.cell? ⟨g, 5, none⟩ = some (.int .i64 s.l3) := SC.cell 5
              have e6 : U.cell? ⟨g, 6, none⟩ = some (Value.slice h.A3 s.rows.length h.c3) := SC.cell 6
              have e7 : U.cell? ⟨g, 7, none⟩ = some (Value.slice h.A4 s.frames.length h.c4) := SC.cell 7
              have e8 : U.cell? ⟨g, 8, none⟩ = some (Value.slice h.A5 s.tanks.length h.c5) := SC.cell 8
              have e9 : U.cell? ⟨g, 9, none⟩ = some (.int .i64 s.m0) := SC.cell 9
              have e10 : U.cell? ⟨g, 10, none⟩ = some (.int .i64 s.m1) := SC.cell 10
              have e11 : U.cell? ⟨g, 11, none⟩ = some (.int .i64 s.m2) := SC.cell 11
              have e12 : U.cell? ⟨g, 12, none⟩ = some (.int .i64 s.m3) := SC.cell 12
              have x0 : U.cell? ⟨ga, 0, none⟩ = some (.int .i64 a0) := SA.cell 0
              have x1 : U.cell? ⟨ga, 1, none⟩ = some (.int .i64 a1) := SA.cell 1
              have x2 : U.cell? ⟨ga, 2, none⟩ = some (.int .u8 (a2 : Nat)) := SA.cell 2
              have y0 : U.cell? ⟨gb, 0, none⟩ = some (.int .i64 b0) := SB.cell 0
              have y1 : U.cell? ⟨gb, 1, none⟩ = some (.int .i64 b1) := SB.cell 1
              have y2 : U.cell? ⟨gb, 2, none⟩ = some (.int .u8 (b2 : Nat)) := SB.cell 2
              clear SC SA SB
              go_wp2_with fail
              refine NN1.out.mono ?_
              rintro e U1 ⟨rfl, hb⟩
              simp only
              have HB1 := Lib.hid (HBZ.out.trans (hb.mono HBZ.out.size))
              clear hb NN1
              clear e0 e1 e2 e3 e4 e5 e6 e7 e8 e9 e10 e11 e12 x0 x1 x2 y0 y1 y2
              have SC := KG.out.below HB1.out KG.out.lt
              have SA := KA.out.below HB1.out KA.out.lt
              have SB := KB.out.below HB1.out KB.out.lt
              have e0 : U1.cell? ⟨g, 0, none⟩ = some (Value.slice h.A1 s.cols.length h.c1) := SC.cell 0
              have e1 : U1.cell? ⟨g, 1, none⟩ = some (Value.slice h.A2 s.covs.length h.c2) := SC.cell 1
              have e2 : U1.cell? ⟨g, 2, none⟩ = some (.int .i64 s.l0) := SC.cell 2
              have e3 : U1.cell? ⟨g, 3, none⟩ = some (.int .i64 s.l1) := SC.cell 3
              have e4 : U1.cell? ⟨g, 4, none⟩ = some (.int .i64 s.l2) := SC.cell 4
              have e5 : U1.cell? ⟨g, 5, none⟩ = some (.int .i64 s.l3) := SC.cell 5
              have e6 : U1.cell? ⟨g, 6, none⟩ = some (Value.slice h.A3 s.rows.length h.c3) := SC.cell 6
              have e7 : U1.cell? ⟨g, 7, none⟩ = some (Value.slice h.A4 s.frames.length h.c4) := SC.cell 7
              have e8 : U1.cell? ⟨g, 8, none⟩ = some (Value.slice h.A5 s.tanks.length h.c5) := SC.cell 8
              have e9 : U1.cell? ⟨g, 9, none⟩ = some (.int .i64 s.m0) := SC.cell 9
              have e10 : U1.cell? ⟨g, 10, none⟩ = some (.int .i64 s.m1) := SC.cell 10
              have e11 : U1.cell? ⟨g, 11, none⟩ = some (.int .i64 s.m2) := SC.cell 11
              have e12 : U1.cell? ⟨g, 12, none⟩ = some (.int .i64 s.m3) := SC.cell 12
              have x0 : U1.cell? ⟨ga, 0, none⟩ = some (.int .i64 a0) := SA.cell 0
              have x1 : U1.cell? ⟨ga, 1, none⟩ = some (.int .i64 a1) := SA.cell 1
              have x2 : U1.cell? ⟨ga, 2, none⟩ = some (.int .u8 (a2 : Nat)) := SA.cell 2
              have y0 : U1.cell? ⟨gb, 0, none⟩ = some (.int .i64 b0) := SB.cell 0
              have y1 : U1.cell? ⟨gb, 1, none⟩ = some (.int .i64 b1) := SB.cell 1
              have y2 : U1.cell? ⟨gb, 2, none⟩ = some (.int .u8 (b2 : Nat)) := SB.cell 2
              clear SC SA SB
              go_wp2_with fail
              refine (NN2.out U1 HB1.out).mono ?_
              rintro e U2 ⟨rfl, hb⟩
              simp only
              have HB2 := Lib.hid (HB1.out.trans (hb.mono HB1.out.size))
              clear hb NN2
              clear e0 e1 e2 e3 e4 e5 e6 e7 e8 e9 e10 e11 e12 x0 x1 x2 y0 y1 y2
              have SC := KG.out.below HB2.out KG.out.lt
              have SA := KA.out.below HB2.out KA.out.lt
              have SB := KB.out.below HB2.out KB.out.lt
              have e0 : U2.cell? ⟨g, 0, none⟩ = some (Value.slice h.A1 s.cols.length h.c1) := SC.cell 0
              have e1 : U2.cell? ⟨g, 1, none⟩ = some (Value.slice h.A2 s.covs.length h.c2) := SC.cell 1
              have e2 : U2.cell? ⟨g, 2, none⟩ = some (.int .i64 s.l0) := SC.cell 2
              have e3 : U2.cell? ⟨g, 3, none⟩ = some (.int .i64 s.l1) := SC.cell 3
              have e4 : U2.cell? ⟨g, 4, none⟩ = some (.int .i64 s.l2) := SC.cell 4
              have e5 : U2.cell? ⟨g, 5, none⟩ = some (.int .i64 s.l3) := SC.cell 5
              have e6 : U2.cell? ⟨g, 6, none⟩ = some (Value.slice h.A3 s.rows.length h.c3) := SC.cell 6
              have e7 : U2.cell? ⟨g, 7, none⟩ = some (Value.slice h.A4 s.frames.length h.c4) := SC.cell 7
              have e8 : U2.cell? ⟨g, 8, none⟩ = some (Value.slice h.A5 s.tanks.length h.c5) := SC.cell 8
              have e9 : U2.cell? ⟨g, 9, none⟩ = some (.int .i64 s.m0) := SC.cell 9
              have e10 : U2.cell? ⟨g, 10, none⟩ = some (.int .i64 s.m1) := SC.cell 10
              have e11 : U2.cell? ⟨g, 11, none⟩ = some (.int .i64 s.m2) := SC.cell 11
              have e12 : U2.cell? ⟨g, 12, none⟩ = some (.int .i64 s.m3) := SC.cell 12
              have x0 : U2.cell? ⟨ga, 0, none⟩ = some (.int .i64 a0) := SA.cell 0
              have x1 : U2.cell? ⟨ga, 1, none⟩ = some (.int .i64 a1) := SA.cell 1
              have x2 : U2.cell? ⟨ga, 2, none⟩ = some (.int .u8 (a2 : Nat)) := SA.cell 2
              have y0 : U2.cell? ⟨gb, 0, none⟩ = some (.int .i64 b0) := SB.cell 0
              have y1 : U2.cell? ⟨gb, 1, none⟩ = some (.int .i64 b1) := SB.cell 1
              have y2 : U2.cell? ⟨gb, 2, none⟩ = some (.int .u8 (b2 : Nat)) := SB.cell 2
              clear SC SA SB
              go_wp2_with fail
              refine (NN3.out U2 HB2.out).mono ?_
              rintro e U3 ⟨rfl, hb⟩
              simp only
              have HB3 := Lib.hid (HB2.out.trans (hb.mono HB2.out.size))
              clear hb NN3
              clear e0 e1 e2 e3 e4 e5 e6 e7 e8 e9 e10 e11 e12 x0 x1 x2 y0 y1 y2
              go_wp2_with fail
              go_roundw
              case rel => (first | exact ⟨2, by omega, by go_num, by rw [HWN.out], HB3⟩ | ((repeat apply Exists.intro); (first | exact ⟨⟨2, by omega, by go_num, by rw [HWN.out], HB3⟩, rfl⟩ | exact ⟨(show 2 ≤ 6 by omega), by go_num, by rw [HWN.out], HB3⟩)))
              case measure => simp [intOf]
      by_cases hj2 : k = 2
      · subst hj2
        have N1 := KAB.out U HBZ.out 2 (by decide)
        have N2 := fun (X : World) (hX : Below Z.heap.size Z X) => KBA.out X hX 2 (by decide)
        have N3 := fun (X : World) (hX : Below Z.heap.size Z X) => KAA.out X hX 2 (by decide)
        have NN1 : Hid (Calls Tryd.prog 25 #[.agg #[Value.slice h.A1 s.cols.length h.c1, Value.slice h.A2 s.covs.length h.c2, .int .i64 s.l0, .int .i64 s.l1, .int .i64 s.l2, .int .i64 s.l3, Value.slice h.A3 s.rows.length h.c3, Value.slice h.A4 s.frames.length h.c4, Value.slice h.A5 s.tanks.length h.c5, .int .i64 s.m0, .int .i64 s.m1, .int .i64 s.m2, .int .i64 s.m3], .agg #[.int .i64 a0, .int .i64 a1, .int .u8 (a2 : Nat)], .agg #[.int .i64 b0, .int .i64 b1, .int .u8 (b2 : Nat)], .int .u8 2] U (Ret U (.bool (nf 2)))) := Lib.hid N1
        have NN2 : Hid (∀ X : World, Below Z.heap.size Z X → Calls Tryd.prog 25 #[.agg #[Value.slice h.A1 s.cols.length h.c1, Value.slice h.A2 s.covs.length h.c2, .int .i64 s.l0, .int .i64 s.l1, .int .i64 s.l2, .int .i64 s.l3, Value.slice h.A3 s.rows.length h.c3, Value.slice h.A4 s.frames.length h.c4, Value.slice h.A5 s.tanks.length h.c5, .int .i64 s.m0, .int .i64 s.m1, .int .i64 s.m2, .int .i64 s.m3], .agg #[.int .i64 b0, .int .i64 b1, .int .u8 (b2 : Nat)], .agg #[.int .i64 a0, .int .i64 a1, .int .u8 (a2 : Nat)], .int .u8 2] X (Ret X (.bool (nf 2)))) := Lib.hid N2
        have NN3 : Hid (∀ X : World, Below Z.heap.size Z X → Calls Tryd.prog 25 #[.agg #[Value.slice h.A1 s.cols.length h.c1, Value.slice h.A2 s.covs.length h.c2, .int .i64 s.l0, .int .i64 s.l1, .int .i64 s.l2, .int .i64 s.l3, Value.slice h.A3 s.rows.length h.c3, Value.slice h.A4 s.frames.length h.c4, Value.slice h.A5 s.tanks.length h.c5, .int .i64 s.m0, .int .i64 s.m1, .int .i64 s.m2, .int .i64 s.m3], .agg #[.int .i64 a0, .int .i64 a1, .int .u8 (a2 : Nat)], .agg #[.int .i64 a0, .int .i64 a1, .int .u8 (a2 : Nat)], .int .u8 2] X (Ret X (.bool true))) := Lib.hid N3
        clear N1 N2 N3
        have HW1 := Lib.hid (HWP.out 2)
        have HMJ := Lib.hid (HMO.out 2)
        have HWN : Hid (wf 3 = nf 2) := Lib.hid HW1.out
        generalize nf 2 = q at *
        generalize wf 2 = p at *
        clear HW1
        cases p with
        | false =>
          cases q with
          | false =>
            as_aux_lemma =>
              go_step
              go_step
              have SC := KG.out.below HBZ.out KG.out.lt
              have SA := KA.out.below HBZ.out KA.out.lt
              have SB := KB.out.below HBZ.out KB.out.lt
              have e0 : U.cell? ⟨g, 0, none⟩ = some (Value.slice h.A1 s.cols.length h.c1) := SC.cell 0
              have e1 : U.cell? ⟨g, 1, none⟩ = some (Value.slice h.A2 s.covs.length h.c2) := SC.cell 1
              have e2 : U.cell? ⟨g, 2, none⟩ = some (.int .i64 s.l0) := SC.cell 2
              have e3 : U.cell? ⟨g, 3, none⟩ = some (.int .i64 s.l1) := SC.cell 3
              have e4 : U.cell? ⟨g, 4, none⟩ = some (.int .i64 s.l2) := SC.cell 4
              have e5 : U.cell? ⟨g, 5, none⟩ = some (.int .i64 s.l3) := SC.cell 5
              have e6 : U.cell? ⟨g, 6, none⟩ = some (Value.slice h.A3 s.rows.length h.c3) := SC.cell 6
              have e7 : U.cell? ⟨g, 7, none⟩ = some (Value.slice h.A4 s.frames.length h.c4) := SC.cell 7
              have e8 : U.cell? ⟨g, 8, none⟩ = some (Value.slice h.A5 s.tanks.length h.c5) := SC.cell 8
              have e9 : U.cell? ⟨g, 9, none⟩ = some (.int .i64 s.m0) := SC.cell 9
              have e10 : U.cell? ⟨g, 10, none⟩ = some (.int .i64 s.m1) := SC.cell 10
              have e11 : U.cell? ⟨g, 11, none⟩ = some (.int .i64 s.m2) := SC.cell 11
              have e12 : U.cell? ⟨g, 12, none⟩ = some (.int .i64 s.m3) := SC.cell 12
              have x0 : U.cell? ⟨ga, 0, none⟩ = some (.int .i64 a0) := SA.cell 0
              have x1 : U.cell? ⟨ga, 1, none⟩ = some (.int .i64 a1) := SA.cell 1
              have x2 : U.cell? ⟨ga, 2, none⟩ = some (.int .u8 (a2 : Nat)) := SA.cell 2
              have y0 : U.cell? ⟨gb, 0, none⟩ = some (.int .i64 b0) := SB.cell 0
              have y1 : U.cell? ⟨gb, 1, none⟩ = some (.int .i64 b1) := SB.cell 1
              have y2 : U.cell? ⟨gb, 2, none⟩ = some (.int .u8 (b2 : Nat)) := SB.cell 2
              clear SC SA SB
              go_wp2_with fail
              refine NN1.out.mono ?_
              rintro e U1 ⟨rfl, hb⟩
              simp only
              have HB1 := Lib.hid (HBZ.out.trans (hb.mono HBZ.out.size))
              clear hb NN1
              clear e0 e1 e2 e3 e4 e5 e6 e7 e8 e9 e10 e11 e12 x0 x1 x2 y0 y1 y2
              have SC := KG.out.below HB1.out KG.out.lt
              have SA := KA.out.below HB1.out KA.out.lt
              have SB := KB.out.below HB1.out KB.out.lt
              have e0 : U1.cell? ⟨g, 0, none⟩ = some (Value.slice h.A1 s.cols.length h.c1) := SC.cell 0
              have e1 : U1.cell? ⟨g, 1, none⟩ = some (Value.slice h.A2 s.covs.length h.c2) := SC.cell 1
              have e2 : U1.cell? ⟨g, 2, none⟩ = some (.int .i64 s.l0) := SC.cell 2
              have e3 : U1.cell? ⟨g, 3, none⟩ = some (.int .i64 s.l1) := SC.cell 3
              have e4 : U1.cell? ⟨g, 4, none⟩ = some (.int .i64 s.l2) := SC.cell 4
              have e5 : U1.cell? ⟨g, 5, none⟩ = some (.int .i64 s.l3) := SC.cell 5
              have e6 : U1.cell? ⟨g, 6, none⟩ = some (Value.slice h.A3 s.rows.length h.c3) := SC.cell 6
              have e7 : U1.cell? ⟨g, 7, none⟩ = some (Value.slice h.A4 s.frames.length h.c4) := SC.cell 7
              have e8 : U1.cell? ⟨g, 8, none⟩ = some (Value.slice h.A5 s.tanks.length h.c5) := SC.cell 8
              have e9 : U1.cell? ⟨g, 9, none⟩ = some (.int .i64 s.m0) := SC.cell 9
              have e10 : U1.cell? ⟨g, 10, none⟩ = some (.int .i64 s.m1) := SC.cell 10
              have e11 : U1.cell? ⟨g, 11, none⟩ = some (.int .i64 s.m2) := SC.cell 11
              have e12 : U1.cell? ⟨g, 12, none⟩ = some (.int .i64 s.m3) := SC.cell 12
              have x0 : U1.cell? ⟨ga, 0, none⟩ = some (.int .i64 a0) := SA.cell 0
              have x1 : U1.cell? ⟨ga, 1, none⟩ = some (.int .i64 a1) := SA.cell 1
              have x2 : U1.cell? ⟨ga, 2, none⟩ = some (.int .u8 (a2 : Nat)) := SA.cell 2
              have y0 : U1.cell? ⟨gb, 0, none⟩ = some (.int .i64 b0) := SB.cell 0
              have y1 : U1.cell? ⟨gb, 1, none⟩ = some (.int .i64 b1) := SB.cell 1
              have y2 : U1.cell? ⟨gb, 2, none⟩ = some (.int .u8 (b2 : Nat)) := SB.cell 2
              clear SC SA SB
              go_wp2_with fail
              refine (NN2.out U1 HB1.out).mono ?_
              rintro e U2 ⟨rfl, hb⟩
              simp only
              have HB2 := Lib.hid (HB1.out.trans (hb.mono HB1.out.size))
              clear hb NN2
              clear e0 e1 e2 e3 e4 e5 e6 e7 e8 e9 e10 e11 e12 x0 x1 x2 y0 y1 y2
              have SC := KG.out.below HB2.out KG.out.lt
              have SA := KA.out.below HB2.out KA.out.lt
              have SB := KB.out.below HB2.out KB.out.lt
              have e0 : U2.cell? ⟨g, 0, none⟩ = some (Value.slice h.A1 s.cols.length h.c1) := SC.cell 0
              have e1 : U2.cell? ⟨g, 1, none⟩ = some (Value.slice h.A2 s.covs.length h.c2) := SC.cell 1
              have e2 : U2.cell? ⟨g, 2, none⟩ = some (.int .i64 s.l0) := SC.cell 2
              have e3 : U2.cell? ⟨g, 3, none⟩ = some (.int .i64 s.l1) := SC.cell 3
              have e4 : U2.cell? ⟨g, 4, none⟩ = some (.int .i64 s.l2) := SC.cell 4
              have e5 : U2.cell? ⟨g, 5, none⟩ = some (.int .i64 s.l3) := SC.cell 5
              have e6 : U2.cell? ⟨g, 6, none⟩ = some (Value.slice h.A3 s.rows.length h.c3) := SC.cell 6
              have e7 : U2.cell? ⟨g, 7, none⟩ = some (Value.slice h.A4 s.frames.length h.c4) := SC.cell 7
              have e8 : U2.cell? ⟨g, 8, none⟩ = some (Value.slice h.A5 s.tanks.length h.c5) := SC.cell 8
              have e9 : U2.cell? ⟨g, 9, none⟩ = some (.int .i64 s.m0) := SC.cell 9
              have e10 : U2.cell? ⟨g, 10, none⟩ = some (.int .i64 s.m1) := SC.cell 10
              have e11 : U2.cell? ⟨g, 11, none⟩ = some (.int .i64 s.m2) := SC.cell 11
              have e12 : U2.cell? ⟨g, 12, none⟩ = some (.int .i64 s.m3) := SC.cell 12
              have x0 : U2.cell? ⟨ga, 0, none⟩ = some (.int .i64 a0) := SA.cell 0
              have x1 : U2.cell? ⟨ga, 1, none⟩ = some (.int .i64 a1) := SA.cell 1
              have x2 : U2.cell? ⟨ga, 2, none⟩ = some (.int .u8 (a2 : Nat)) := SA.cell 2
              have y0 : U2.cell? ⟨gb, 0, none⟩ = some (.int .i64 b0) := SB.cell 0
              have y1 : U2.cell? ⟨gb, 1, none⟩ = some (.int .i64 b1) := SB.cell 1
              have y2 : U2.cell? ⟨gb, 2, none⟩ = some (.int .u8 (b2 : Nat)) := SB.cell 2
              clear SC SA SB
              go_wp2_with fail
              refine (NN3.out U2 HB2.out).mono ?_
              rintro e U3 ⟨rfl, hb⟩
              simp only
              have HB3 := Lib.hid (HB2.out.trans (hb.mono HB2.out.size))
              clear hb NN3
              clear e0 e1 e2 e3 e4 e5 e6 e7 e8 e9 e10 e11 e12 x0 x1 x2 y0 y1 y2
              go_wp2_with fail
              go_roundw
              case rel => (first | exact ⟨3, by omega, by go_num, by rw [HWN.out], HB3⟩ | ((repeat apply Exists.intro); (first | exact ⟨⟨3, by omega, by go_num, by rw [HWN.out], HB3⟩, rfl⟩ | exact ⟨(show 3 ≤ 6 by omega), by go_num, by rw [HWN.out], HB3⟩)))
              case measure => simp [intOf]
          | true =>
            as_aux_lemma =>
              go_step
              go_step
              have SC := KG.out.below HBZ.out KG.out.lt
              have SA := KA.out.below HBZ.out KA.out.lt
              have SB := KB.out.below HBZ.out KB.out.lt
              have e0 : U.cell? ⟨g, 0, none⟩ = some (Value.slice h.A1 s.cols.length h.c1) := SC.cell 0
              have e1 : U.cell? ⟨g, 1, none⟩ = some (Value.slice h.A2 s.covs.length h.c2) := SC.cell 1
              have e2 : U.cell? ⟨g, 2, none⟩ = some (.int .i64 s.l0) := SC.cell 2
              have e3 : U.cell? ⟨g, 3, none⟩ = some (.int .i64 s.l1) := SC.cell 3
              have e4 : U.cell? ⟨g, 4, none⟩ = some (.int .i64 s.l2) := SC.cell 4
              have e5 : U.cell? ⟨g, 5, none⟩ = some (.int .i64 s.l3) := SC.cell 5
              have e6 : U.cell? ⟨g, 6, none⟩ = some (Value.slice h.A3 s.rows.length h.c3) := SC.cell 6
              have e7 : U.cell? ⟨g, 7, none⟩ = some (Value.slice h.A4 s.frames.length h.c4) := SC.cell 7
              have e8 : U.cell? ⟨g, 8, none⟩ = some (Value.slice h.A5 s.tanks.length h.c5) := SC.cell 8
              have e9 : U.cell? ⟨g, 9, none⟩ = some (.int .i64 s.m0) := SC.cell 9
              have e10 : U.cell? ⟨g, 10, none⟩ = some (.int .i64 s.m1) := SC.cell 10
              have e11 : U.cell? ⟨g, 11, none⟩ = some (.int .i64 s.m2) := SC.cell 11
              have e12 : U.cell? ⟨g, 12, none⟩ = some (.int .i64 s.m3) := SC.cell 12
              have x0 : U.cell? ⟨ga, 0, none⟩ = some (.int .i64 a0) := SA.cell 0
              have x1 : U.cell? ⟨ga, 1, none⟩ = some (.int .i64 a1) := SA.cell 1
              have x2 : U.cell? ⟨ga, 2, none⟩ = some (.int .u8 (a2 : Nat)) := SA.cell 2
              have y0 : U.cell? ⟨gb, 0, none⟩ = some (.int .i64 b0) := SB.cell 0
              have y1 : U.cell? ⟨gb, 1, none⟩ = some (.int .i64 b1) := SB.cell 1
              have y2 : U.cell? ⟨gb, 2, none⟩ = some (.int .u8 (b2 : Nat)) := SB.cell 2
              clear SC SA SB
              go_wp2_with fail
              refine NN1.out.mono ?_
              rintro e U1 ⟨rfl, hb⟩
              simp only
              have HB1 := Lib.hid (HBZ.out.trans (hb.mono HBZ.out.size))
              clear hb NN1
              clear e0 e1 e2 e3 e4 e5 e6 e7 e8 e9 e10 e11 e12 x0 x1 x2 y0 y1 y2
              have SC := KG.out.below HB1.out KG.out.lt
              have SA := KA.out.below HB1.out KA.out.lt
              have SB := KB.out.below HB1.out KB.out.lt
              have e0 : U1.cell? ⟨g, 0, none⟩ = some (Value.slice h.A1 s.cols.length h.c1) := SC.cell 0
              have e1 : U1.cell? ⟨g, 1, none⟩ = some (Value.slice h.A2 s.covs.length h.c2) := SC.cell 1
              have e2 : U1.cell? ⟨g, 2, none⟩ = some (.int .i64 s.l0) := SC.cell 2
              have e3 : U1.cell? ⟨g, 3, none⟩ = some (.int .i64 s.l1) := SC.cell 3
              have e4 : U1.cell? ⟨g, 4, none⟩ = some (.int .i64 s.l2) := SC.cell 4
              have e5 : U1.cell? ⟨g, 5, none⟩ = some (.int .i64 s.l3) := SC.cell 5
              have e6 : U1.cell? ⟨g, 6, none⟩ = some (Value.slice h.A3 s.rows.length h.c3) := SC.cell 6
              have e7 : U1.cell? ⟨g, 7, none⟩ = some (Value.slice h.A4 s.frames.length h.c4) := SC.cell 7
              have e8 : U1.cell? ⟨g, 8, none⟩ = some (Value.slice h.A5 s.tanks.length h.c5) := SC.cell 8
              have e9 : U1.cell? ⟨g, 9, none⟩ = some (.int .i64 s.m0) := SC.cell 9
              have e10 : U1.cell? ⟨g, 10, none⟩ = some (.int .i64 s.m1) := SC.cell 10
              have e11 : U1.cell? ⟨g, 11, none⟩ = some (.int .i64 s.m2) := SC.cell 11
              have e12 : U1.cell? ⟨g, 12, none⟩ = some (.int .i64 s.m3) := SC.cell 12
              have x0 : U1.cell? ⟨ga, 0, none⟩ = some (.int .i64 a0) := SA.cell 0
              have x1 : U1.cell? ⟨ga, 1, none⟩ = some (.int .i64 a1) := SA.cell 1
              have x2 : U1.cell? ⟨ga, 2, none⟩ = some (.int .u8 (a2 : Nat)) := SA.cell 2
              have y0 : U1.cell? ⟨gb, 0, none⟩ = some (.int .i64 b0) := SB.cell 0
              have y1 : U1.cell? ⟨gb, 1, none⟩ = some (.int .i64 b1) := SB.cell 1
              have y2 : U1.cell? ⟨gb, 2, none⟩ = some (.int .u8 (b2 : Nat)) := SB.cell 2
              clear SC SA SB
              go_wp2_with fail
              refine (NN2.out U1 HB1.out).mono ?_
              rintro e U2 ⟨rfl, hb⟩
              simp only
              have HB2 := Lib.hid (HB1.out.trans (hb.mono HB1.out.size))
              clear hb NN2
              clear e0 e1 e2 e3 e4 e5 e6 e7 e8 e9 e10 e11 e12 x0 x1 x2 y0 y1 y2
              have SC := KG.out.below HB2.out KG.out.lt
              have SA := KA.out.below HB2.out KA.out.lt
              have SB := KB.out.below HB2.out KB.out.lt
              have e0 : U2.cell? ⟨g, 0, none⟩ = some (Value.slice h.A1 s.cols.length h.c1) := SC.cell 0
              have e1 : U2.cell? ⟨g, 1, none⟩ = some (Value.slice h.A2 s.covs.length h.c2) := SC.cell 1
              have e2 : U2.cell? ⟨g, 2, none⟩ = some (.int .i64 s.l0) := SC.cell 2
              have e3 : U2.cell? ⟨g, 3, none⟩ = some (.int .i64 s.l1) := SC.cell 3
              have e4 : U2.cell? ⟨g, 4, none⟩ = some (.int .i64 s.l2) := SC.cell 4
              have e5 : U2.cell? ⟨g, 5, none⟩ = some (.int .i64 s.l3) := SC.cell 5
              have e6 : U2.cell? ⟨g, 6, none⟩ = some (Value.slice h.A3 s.rows.length h.c3) := SC.cell 6
              have e7 : U2.cell? ⟨g, 7, none⟩ = some (Value.slice h.A4 s.frames.length h.c4) := SC.cell 7
              have e8 : U2.cell? ⟨g, 8, none⟩ = some (Value.slice h.A5 s.tanks.length h.c5) := SC.cell 8
              have e9 : U2.cell? ⟨g, 9, none⟩ = some (.int .i64 s.m0) := SC.cell 9
              have e10 : U2.cell? ⟨g, 10, none⟩ = some (.int .i64 s.m1) := SC.cell 10
              have e11 : U2.cell? ⟨g, 11, none⟩ = some (.int .i64 s.m2) := SC.cell 11
              have e12 : U2.cell? ⟨g, 12, none⟩ = some (.int .i64 s.m3) := SC.cell 12
              have x0 : U2.cell? ⟨ga, 0, none⟩ = some (.int .i64 a0) := SA.cell 0
              have x1 : U2.cell? ⟨ga, 1, none⟩ = some (.int .i64 a1) := SA.cell 1
              have x2 : U2.cell? ⟨ga, 2, none⟩ = some (.int .u8 (a2 : Nat)) := SA.cell 2
              have y0 : U2.cell? ⟨gb, 0, none⟩ = some (.int .i64 b0) := SB.cell 0
              have y1 : U2.cell? ⟨gb, 1, none⟩ = some (.int .i64 b1) := SB.cell 1
              have y2 : U2.cell? ⟨gb, 2, none⟩ = some (.int .u8 (b2 : Nat)) := SB.cell 2
              clear SC SA SB
              go_wp2_with fail
              refine (NN3.out U2 HB2.out).mono ?_
              rintro e U3 ⟨rfl, hb⟩
              simp only
              have HB3 := Lib.hid (HB2.out.trans (hb.mono HB2.out.size))
              clear hb NN3
              clear e0 e1 e2 e3 e4 e5 e6 e7 e8 e9 e10 e11 e12 x0 x1 x2 y0 y1 y2
              go_wp2_with fail
              go_roundw
              case rel => (first | exact ⟨3, by omega, by go_num, by rw [HWN.out], HB3⟩ | ((repeat apply Exists.intro); (first | exact ⟨⟨3, by omega, by go_num, by rw [HWN.out], HB3⟩, rfl⟩ | exact ⟨(show 3 ≤ 6 by omega), by go_num, by rw [HWN.out], HB3⟩)))
              case measure => simp [intOf]
        | true =>
          cases q with
          | false =>
            exact absurd (HMJ.out.1 rfl) (by decide)
          | true =>
            as_aux_lemma =>
              go_step
              go_step
              have SC := KG.out.below HBZ.out KG.out.lt
              have SA := KA.out.below HBZ.out KA.out.lt
              have SB := KB.out.below HBZ.out KB.out.lt
              have e0 : U.cell? ⟨g, 0, none⟩ = some (Value.slice h.A1 s.cols.length h.c1) := SC.cell 0
              have e1 : U.cell? ⟨g, 1, none⟩ = some (Value.slice h.A2 s.covs.length h.c2) := SC.cell 1
              have e2 : U.cell? ⟨g, 2, none⟩ = some (.int .i64 s.l0) := SC.cell 2
              have e3 : U.cell? ⟨g, 3, none⟩ = some (.int .i64 s.l1) := SC.cell 3
              have e4 : U.cell? ⟨g, 4, none⟩ = some (.int .i64 s.l2) := SC.cell 4
              have e5 : U.cell? ⟨g, 5, none⟩ = some (.int .i64 s.l3) := SC.cell 5
              have e6 : U.cell? ⟨g, 6, none⟩ = some (Value.slice h.A3 s.rows.length h.c3) := SC.cell 6
              have e7 : U.cell? ⟨g, 7, none⟩ = some (Value.slice h.A4 s.frames.length h.c4) := SC.cell 7
              have e8 : U.cell? ⟨g, 8, none⟩ = some (Value.slice h.A5 s.tanks.length h.c5) := SC.cell 8
              have e9 : U.cell? ⟨g, 9, none⟩ = some (.int .i64 s.m0) := SC.cell 9
              have e10 : U.cell? ⟨g, 10, none⟩ = some (.int .i64 s.m1) := SC.cell 10
              have e11 : U.cell? ⟨g, 11, none⟩ = some (.int .i64 s.m2) := SC.cell 11
              have e12 : U.cell? ⟨g, 12, none⟩ = some (.int .i64 s.m3) := SC.cell 12
              have x0 : U.cell? ⟨ga, 0, none⟩ = some (.int .i64 a0) := SA.cell 0
              have x1 : U.cell? ⟨ga, 1, none⟩ = some (.int .i64 a1) := SA.cell 1
              have x2 : U.cell? ⟨ga, 2, none⟩ = some (.int .u8 (a2 : Nat)) := SA.cell 2
              have y0 : U.cell? ⟨gb, 0, none⟩ = some (.int .i64 b0) := SB.cell 0
              have y1 : U.cell? ⟨gb, 1, none⟩ = some (.int .i64 b1) := SB.cell 1
              have y2 : U.cell? ⟨gb, 2, none⟩ = some (.int .u8 (b2 : Nat)) := SB.cell 2
              clear SC SA SB
              go_wp2_with fail
              refine NN1.out.mono ?_
              rintro e U1 ⟨rfl, hb⟩
              simp only
              have HB1 := Lib.hid (HBZ.out.trans (hb.mono HBZ.out.size))
              clear hb NN1
              clear e0 e1 e2 e3 e4 e5 e6 e7 e8 e9 e10 e11 e12 x0 x1 x2 y0 y1 y2
              have SC := KG.out.below HB1.out KG.out.lt
              have SA := KA.out.below HB1.out KA.out.lt
              have SB := KB.out.below HB1.out KB.out.lt
              have e0 : U1.cell? ⟨g, 0, none⟩ = some (Value.slice h.A1 s.cols.length h.c1) := SC.cell 0
              have e1 : U1.cell? ⟨g, 1, none⟩ = some (Value.slice h.A2 s.covs.length h.c2) := SC.cell 1
              have e2 : U1.cell? ⟨g, 2, none⟩ = some (.int .i64 s.l0) := SC.cell 2
              have e3 : U1.cell? ⟨g, 3, none⟩ = some (.int .i64 s.l1) := SC.cell 3
              have e4 : U1.cell? ⟨g, 4, none⟩ = some (.int .i64 s.l2) := SC.cell 4
              have e5 : U1.cell? ⟨g, 5, none⟩ = some (.int .i64 s.l3) := SC.cell 5
              have e6 : U1.cell? ⟨g, 6, none⟩ = some (Value.slice h.A3 s.rows.length h.c3) := SC.cell 6
              have e7 : U1.cell? ⟨g, 7, none⟩ = some (Value.slice h.A4 s.frames.length h.c4) := SC.cell 7
              have e8 : U1.cell? ⟨g, 8, none⟩ = some (Value.slice h.A5 s.tanks.length h.c5) := SC.cell 8
              have e9 : U1.cell? ⟨g, 9, none⟩ = some (.int .i64 s.m0) := SC.cell 9
              have e10 : U1.cell? ⟨g, 10, none⟩ = some (.int .i64 s.m1) := SC.cell 10
              have e11 : U1.cell? ⟨g, 11, none⟩ = some (.int .i64 s.m2) := SC.cell 11
              have e12 : U1.cell? ⟨g, 12, none⟩ = some (.int .i64 s.m3) := SC.cell 12
              have x0 : U1.cell? ⟨ga, 0, none⟩ = some (.int .i64 a0) := SA.cell 0
              have x1 : U1.cell? ⟨ga, 1, none⟩ = some (.int .i64 a1) := SA.cell 1
              have x2 : U1.cell? ⟨ga, 2, none⟩ = some (.int .u8 (a2 : Nat)) := SA.cell 2
              have y0 : U1.cell? ⟨gb, 0, none⟩ = some (.int .i64 b0) := SB.cell 0
              have y1 : U1.cell? ⟨gb, 1, none⟩ = some (.int .i64 b1) := SB.cell 1
              have y2 : U1.cell? ⟨gb, 2, none⟩ = some (.int .u8 (b2 : Nat)) := SB.cell 2
              clear SC SA SB
              go_wp2_with fail
              refine (NN2.out U1 HB1.out).mono ?_
              rintro e U2 ⟨rfl, hb⟩
              simp only
              have HB2 := Lib.hid (HB1.out.trans (hb.mono HB1.out.size))
              clear hb NN2
              clear e0 e1 e2 e3 e4 e5 e6 e7 e8 e9 e10 e11 e12 x0 x1 x2 y0 y1 y2
              have SC := KG.out.below HB2.out KG.out.lt
              have SA := KA.out.below HB2.out KA.out.lt
              have SB := KB.out.below HB2.out KB.out.lt
              have e0 : U2.cell? ⟨g, 0, none⟩ = some (Value.slice h.A1 s.cols.length h.c1) := SC.cell 0
              have e1 : U2.cell? ⟨g, 1, none⟩ = some (Value.slice h.A2 s.covs.length h.c2) := SC.cell 1
              have e2 : U2.cell? ⟨g, 2, none⟩ = some (.int .i64 s.l0) := SC.cell 2
              have e3 : U2.cell? ⟨g, 3, none⟩ = some (.int .i64 s.l1) := SC.cell 3
              have e4 : U2.cell? ⟨g, 4, none⟩ = some (.int .i64 s.l2) := SC.cell 4
              have e5 : U2.cell? ⟨g, 5, none⟩ = some (.int .i64 s.l3) := SC.cell 5
              have e6 : U2.cell? ⟨g, 6, none⟩ = some (Value.slice h.A3 s.rows.length h.c3) := SC.cell 6
              have e7 : U2.cell? ⟨g, 7, none⟩ = some (Value.slice h.A4 s.frames.length h.c4) := SC.cell 7
              have e8 : U2.cell? ⟨g, 8, none⟩ = some (Value.slice h.A5 s.tanks.length h.c5) := SC.cell 8
              have e9 : U2.cell? ⟨g, 9, none⟩ = some (.int .i64 s.m0) := SC.cell 9
              have e10 : U2.cell? ⟨g, 10, none⟩ = some (.int .i64 s.m1) := SC.cell 10
              have e11 : U2.cell? ⟨g, 11, none⟩ = some (.int .i64 s.m2) := SC.cell 11
              have e12 : U2.cell? ⟨g, 12, none⟩ = some (.int .i64 s.m3) := SC.cell 12
              have x0 : U2.cell? ⟨ga, 0, none⟩ = some (.int .i64 a0) := SA.cell 0
              have x1 : U2.cell? ⟨ga, 1, none⟩ = some (.int .i64 a1) := SA.cell 1
              have x2 : U2.cell? ⟨ga, 2, none⟩ = some (.int .u8 (a2 : Nat)) := SA.cell 2
              have y0 : U2.cell? ⟨gb, 0, none⟩ = some (.int .i64 b0) := SB.cell 0
              have y1 : U2.cell? ⟨gb, 1, none⟩ = some (.int .i64 b1) := SB.cell 1
              have y2 : U2.cell? ⟨gb, 2, none⟩ = some (.int .u8 (b2 : Nat)) := SB.cell 2
              clear SC SA SB
              go_wp2_with fail
              refine (NN3.out U2 HB2.out).mono ?_
              rintro e U3 ⟨rfl, hb⟩
              simp only
              have HB3 := Lib.hid (HB2.out.trans (hb.mono HB2.out.size))
              clear hb NN3
              clear e0 e1 e2 e3 e4 e5 e6 e7 e8 e9 e10 e11 e12 x0 x1 x2 y0 y1 y2
              go_wp2_with fail
              go_roundw
              case rel => (first | exact ⟨3, by omega, by go_num, by rw [HWN.out], HB3⟩ | ((repeat apply Exists.intro); (first | exact ⟨⟨3, by omega, by go_num, by rw [HWN.out], HB3⟩, rfl⟩ | exact ⟨(show 3 ≤ 6 by omega), by go_num, by rw [HWN.out], HB3⟩)))
              case measure => simp [intOf]
      by_cases hj3 : k = 3
      · subst hj3
        have N1 := KAB.out U HBZ.out 3 (by decide)
        have N2 := fun (X : World) (hX : Below Z.heap.size Z X) => KBA.out X hX 3 (by decide)
        have N3 := fun (X : World) (hX : Below Z.heap.size Z X) => KAA.out X hX 3 (by decide)
        have NN1 : Hid (Calls Tryd.prog 25 #[.agg #[Value.slice h.A1 s.cols.length h.c1, Value.slice h.A2 s.covs.length h.c2, .int .i64 s.l0, .int .i64 s.l1, .int .i64 s.l2, .int .i64 s.l3, Value.slice h.A3 s.rows.length h.c3, Value.slice h.A4 s.frames.length h.c4, Value.slice h.A5 s.tanks.length h.c5, .int .i64 s.m0, .int .i64 s.m1, .int .i64 s.m2, .int .i64 s.m3], .agg #[.int .i64 a0, .int .i64 a1, .int .u8 (a2 : Nat)], .agg #[.int .i64 b0, .int .i64 b1, .int .u8 (b2 : Nat)], .int .u8 3] U (Ret U (.bool (nf 3)))) := Lib.hid N1
        have NN2 : Hid (∀ X : World, Below Z.heap.size Z X → Calls Tryd.prog 25 #[.agg #[Value.slice h.A1 s.cols.length h.c1, Value.slice h.A2 s.covs.length h.c2, .int .i64 s.l0, .int .i64 s.l1, .int .i64 s.l2, .int .i64 s.l3, Value.slice h.A3 s.rows.length h.c3, Value.slice h.A4 s.frames.length h.c4, Value.slice h.A5 s.tanks.length h.c5, .int .i64 s.m0, .int .i64 s.m1, .int .i64 s.m2, .int .i64 s.m3], .agg #[.int .i64 b0, .int .i64 b1, .int .u8 (b2 : Nat)], .agg #[.int .i64 a0, .int .i64 a1, .int .u8 (a2 : Nat)], .int .u8 3] X (Ret X (.bool (nf 3)))) := Lib.hid N2
        have NN3 : Hid (∀ X : World, Below Z.heap.size Z X → Calls Tryd.prog 25 #[.agg #[Value.slice h.A1 s.cols.length h.c1, Value.slice h.A2 s.covs.length h.c2, .int .i64 s.l0, .int .i64 s.l1, .int .i64 s.l2, .int .i64 s.l3, Value.slice h.A3 s.rows.length h.c3, Value.slice h.A4 s.frames.length h.c4, Value.slice h.A5 s.tanks.length h.c5, .int .i64 s.m0, .int .i64 s.m1, .int .i64 s.m2, .int .i64 s.m3], .agg #[.int .i64 a0, .int .i64 a1, .int .u8 (a2 : Nat)], .agg #[.int .i64 a0, .int .i64 a1, .int .u8 (a2 : Nat)], .int .u8 3] X (Ret X (.bool true))) := Lib.hid N3
        clear N1 N2 N3
        have HW1 := Lib.hid (HWP.out 3)
        have HMJ := Lib.hid (HMO.out 3)
        have HWN : Hid (wf 4 = nf 3) := Lib.hid HW1.out
        generalize nf 3 = q at *
        generalize wf 3 = p at *
        clear HW1
        cases p with
        | false =>
          cases q with
          | false =>
            as_aux_lemma =>
              go_step
              go_step
              have SC := KG.out.below HBZ.out KG.out.lt
              have SA := KA.out.below HBZ.out KA.out.lt
              have SB := KB.out.below HBZ.out KB.out.lt
              have e0 : U.cell? ⟨g, 0, none⟩ = some (Value.slice h.A1 s.cols.length h.c1) := SC.cell 0
              have e1 : U.cell? ⟨g, 1, none⟩ = some (Value.slice h.A2 s.covs.length h.c2) := SC.cell 1
              have e2 : U.cell? ⟨g, 2, none⟩ = some (.int .i64 s.l0) := SC.cell 2
              have e3 : U.cell? ⟨g, 3, none⟩ = some (.int .i64 s.l1) := SC.cell 3
              have e4 : U.cell? ⟨g, 4, none⟩ = some (.int .i64 s.l2) := SC.cell 4
              have e5 : U.cell? ⟨g, 5, none⟩ = some (.int .i64 s.l3) := SC.cell 5
              have e6 : U.cell? ⟨g, 6, none⟩ = some (Value.slice h.A3 s.rows.length h.c3) := SC.cell 6
              have e7 : U.cell? ⟨g, 7, none⟩ = some (Value.slice h.A4 s.frames.length h.c4) := SC.cell 7
              have e8 : U.cell? ⟨g, 8, none⟩ = some (Value.slice h.A5 s.tanks.length h.c5) := SC.cell 8
              have e9 : U.cell? ⟨g, 9, none⟩ = some (.int .i64 s.m0) := SC.cell 9
              have e10 : U.cell? ⟨g, 10, none⟩ = some (.int .i64 s.m1) := SC.cell 10
              have e11 : U.cell? ⟨g, 11, none⟩ = some (.int .i64 s.m2) := SC.cell 11
              have e12 : U.cell? ⟨g, 12, none⟩ = some (.int .i64 s.m3) := SC.cell 12
              have x0 : U.cell? ⟨ga, 0, none⟩ = some (.int .i64 a0) := SA.cell 0
              have x1 : U.cell? ⟨ga, 1, none⟩ = some (.int .i64 a1) := SA.cell 1
              have x2 : U.cell? ⟨ga, 2, none⟩ = some (.int .u8 (a2 : Nat)) := SA.cell 2
              have y0 : U.cell? ⟨gb, 0, none⟩ = some (.int .i64 b0) := SB.cell 0
              have y1 : U.cell? ⟨gb, 1, none⟩ = some (.int .i64 b1) := SB.cell 1
              have y2 : U.cell? ⟨gb, 2, none⟩ = some (.int .u8 (b2 : Nat)) := SB.cell 2
              clear SC SA SB
              go_wp2_with fail
              refine NN1.out.mono ?_
              rintro e U1 ⟨rfl, hb⟩
              simp only
              have HB1 := Lib.hid (HBZ.out.trans (hb.mono HBZ.out.size))
              clear hb NN1
              clear e0 e1 e2 e3 e4 e5 e6 e7 e8 e9 e10 e11 e12 x0 x1 x2 y0 y1 y2
              have SC := KG.out.below HB1.out KG.out.lt
              have SA := KA.out.below HB1.out KA.out.lt
              have SB := KB.out.below HB1.out KB.out.lt
              have e0 : U1.cell? ⟨g, 0, none⟩ = some (Value.slice h.A1 s.cols.length h.c1) := SC.cell 0
              have e1 : U1.cell? ⟨g, 1, none⟩ = some (Value.slice h.A2 s.covs.length h.c2) := SC.cell 1
              have e2 : U1.cell? ⟨g, 2, none⟩ = some (.int .i64 s.l0) := SC.cell 2
              have e3 : U1.cell? ⟨g, 3, none⟩ = some (.int .i64 s.l1) := SC.cell 3
              have e4 : U1.cell? ⟨g, 4, none⟩ = some (.int .i64 s.l2) := SC.cell 4
              have e5 : U1.cell? ⟨g, 5, none⟩ = some (.int .i64 s.l3) := SC.cell 5
              have e6 : U1.cell? ⟨g, 6, none⟩ = some (Value.slice h.A3 s.rows.length h.c3) := SC.cell 6
              have e7 : U1.cell? ⟨g, 7, none⟩ = some (Value.slice h.A4 s.frames.length h.c4) := SC.cell 7
              have e8 : U1.cell? ⟨g, 8, none⟩ = some (Value.slice h.A5 s.tanks.length h.c5) := SC.cell 8
              have e9 : U1.cell? ⟨g, 9, none⟩ = some (.int .i64 s.m0) := SC.cell 9
              have e10 : U1.cell? ⟨g, 10, none⟩ = some (.int .i64 s.m1) := SC.cell 10
              have e11 : U1.cell? ⟨g, 11, none⟩ = some (.int .i64 s.m2) := SC.cell 11
              have e12 : U1.cell? ⟨g, 12, none⟩ = some (.int .i64 s.m3) := SC.cell 12
              have x0 : U1.cell? ⟨ga, 0, none⟩ = some (.int .i64 a0) := SA.cell 0
              have x1 : U1.cell? ⟨ga, 1, none⟩ = some (.int .i64 a1) := SA.cell 1
              have x2 : U1.cell? ⟨ga, 2, none⟩ = some (.int .u8 (a2 : Nat)) := SA.cell 2
              have y0 : U1.cell? ⟨gb, 0, none⟩ = some (.int .i64 b0) := SB.cell 0
              have y1 : U1.cell? ⟨gb, 1, none⟩ = some (.int .i64 b1) := SB.cell 1
              have y2 : U1.cell? ⟨gb, 2, none⟩ = some (.int .u8 (b2 : Nat)) := SB.cell 2
              clear SC SA SB
              go_wp2_with fail
              refine (NN2.out U1 HB1.out).mono ?_
              rintro e U2 ⟨rfl, hb⟩
              simp only
              have HB2 := Lib.hid (HB1.out.trans (hb.mono HB1.out.size))
              clear hb NN2
              clear e0 e1 e2 e3 e4 e5 e6 e7 e8 e9 e10 e11 e12 x0 x1 x2 y0 y1 y2
              have SC := KG.out.below HB2.out KG.out.lt
              have SA := KA.out.below HB2.out KA.out.lt
              have SB := KB.out.below HB2.out KB.out.lt
              have e0 : U2.cell? ⟨g, 0, none⟩ = some (Value.slice h.A1 s.cols.length h.c1) := SC.cell 0
              have e1 : U2.cell? ⟨g, 1, none⟩ = some (Value.slice h.A2 s.covs.length h.c2) := SC.cell 1
              have e2 : U2.cell? ⟨g, 2, none⟩ = some (.int .i64 s.l0) := SC.cell 2
              have e3 : U2.cell? ⟨g, 3, none⟩ = some (.int .i64 s.l1) := SC.cell 3
              have e4 : U2.cell? ⟨g, 4, none⟩ = some (.int .i64 s.l2) := SC.cell 4
              have e5 : U2.cell? ⟨g, 5, none⟩ = some (.int .i64 s.l3) := SC.cell 5
              have e6 : U2.cell? ⟨g, 6, none⟩ = some (Value.slice h.A3 s.rows.length h.c3) := SC.cell 6
              have e7 : U2.cell? ⟨g, 7, none⟩ = some (Value.slice h.A4 s.frames.length h.c4) := SC.cell 7
              have e8 : U2.cell? ⟨g, 8, none⟩ = some (Value.slice h.A5 s.tanks.length h.c5) := SC.cell 8
              have e9 : U2.cell? ⟨g, 9, none⟩ = some (.int .i64 s.m0) := SC.cell 9
              have e10 : U2.cell? ⟨g, 10, none⟩ = some (.int .i64 s.m1) := SC.cell 10
              have e11 : U2.cell? ⟨g, 11, none⟩ = some (.int .i64 s.m2) := SC.cell 11
              have e12 : U2.cell? ⟨g, 12, none⟩ = some (.int .i64 s.m3) := SC.cell 12
              have x0 : U2.cell? ⟨ga, 0, none⟩ = some (.int .i64 a0) := SA.cell 0
              have x1 : U2.cell? ⟨ga, 1, none⟩ = some (.int .i64 a1) := SA.cell 1
              have x2 : U2.cell? ⟨ga, 2, none⟩ = some (.int .u8 (a2 : Nat)) := SA.cell 2
              have y0 : U2.cell? ⟨gb, 0, none⟩ = some (.int .i64 b0) := SB.cell 0
              have y1 : U2.cell? ⟨gb, 1, none⟩ = some (.int .i64 b1) := SB.cell 1
              have y2 : U2.cell? ⟨gb, 2, none⟩ = some (.int .u8 (b2 : Nat)) := SB.cell 2
              clear SC SA SB
              go_wp2_with fail
              refine (NN3.out U2 HB2.out).mono ?_
              rintro e U3 ⟨rfl, hb⟩
              simp only
              have HB3 := Lib.hid (HB2.out.trans (hb.mono HB2.out.size))
              clear hb NN3
              clear e0 e1 e2 e3 e4 e5 e6 e7 e8 e9 e10 e11 e12 x0 x1 x2 y0 y1 y2
              go_wp2_with fail
              go_roundw
              case rel => (first | exact ⟨4, by omega, by go_num, by rw [HWN.out], HB3⟩ | ((repeat apply Exists.intro); (first | exact ⟨⟨4, by omega, by go_num, by rw [HWN.out], HB3⟩, rfl⟩ | exact ⟨(show 4 ≤ 6 by omega), by go_num, by rw [HWN.out], HB3⟩)))
              case measure => simp [intOf]
          | true =>
            as_aux_lemma =>
              go_step
              go_step
              have SC := KG.out.below HBZ.out KG.out.lt
              have SA := KA.out.below HBZ.out KA.out.lt
              have SB := KB.out.below HBZ.out KB.out.lt
              have e0 : U.cell? ⟨g, 0, none⟩ = some (Value.slice h.A1 s.cols.length h.c1) := SC.cell 0
              have e1 : U.cell? ⟨g, 1, none⟩ = some (Value.slice h.A2 s.covs.length h.c2) := SC.cell 1
              have e2 : U.cell? ⟨g, 2, none⟩ = some (.int .i64 s.l0) := SC.cell 2
              have e3 : U.cell? ⟨g, 3, none⟩ = some (.int .i64 s.l1) := SC.cell 3
              have e4 : U.cell? ⟨g, 4, none⟩ = some (.int .i64 s.l2) := SC.cell 4
              have e5 : U.cell? ⟨g, 5, none⟩ = some (.int .i64 s.l3) := SC.cell 5
              have e6 : U.cell? ⟨g, 6, none⟩ = some (Value.slice h.A3 s.rows.length h.c3) := SC.cell 6
              have e7 : U.cell? ⟨g, 7, none⟩ = some (Value.slice h.A4 s.frames.length h.c4) := SC.cell 7
              have e8 : U.cell? ⟨g, 8, none⟩ = some (Value.slice h.A5 s.tanks.length h.c5) := SC.cell 8
              have e9 : U.cell? ⟨g, 9, none⟩ = some (.int .i64 s.m0) := SC.cell 9
              have e10 : U.cell? ⟨g, 10, none⟩ = some (.int .i64 s.m1) := SC.cell 10
              have e11 : U.cell? ⟨g, 11, none⟩ = some (.int .i64 s.m2) := SC.cell 11
              have e12 : U.cell? ⟨g, 12, none⟩ = some (.int .i64 s.m3) := SC.cell 12
              have x0 : U.cell? ⟨ga, 0, none⟩ = some (.int .i64 a0) := SA.cell 0
              have x1 : U.cell? ⟨ga, 1, none⟩ = some (.int .i64 a1) := SA.cell 1
              have x2 : U.cell? ⟨ga, 2, none⟩ = some (.int .u8 (a2 : Nat)) := SA.cell 2
              have y0 : U.cell? ⟨gb, 0, none⟩ = some (.int .i64 b0) := SB.cell 0
              have y1 : U.cell? ⟨gb, 1, none⟩ = some (.int .i64 b1) := SB.cell 1
              have y2 : U.cell? ⟨gb, 2, none⟩ = some (.int .u8 (b2 : Nat)) := SB.cell 2
              clear SC SA SB
              go_wp2_with fail
              refine NN1.out.mono ?_
              rintro e U1 ⟨rfl, hb⟩
              simp only
              have HB1 := Lib.hid (HBZ.out.trans (hb.mono HBZ.out.size))
              clear hb NN1
              clear e0 e1 e2 e3 e4 e5 e6 e7 e8 e9 e10 e11 e12 x0 x1 x2 y0 y1 y2
              have SC := KG.out.below HB1.out KG.out.lt
              have SA := KA.out.below HB1.out KA.out.lt
              have SB := KB.out.below HB1.out KB.out.lt
              have e0 : U1.cell? ⟨g, 0, none⟩ = some (Value.slice h.A1 s.cols.length h.c1) := SC.cell 0
              have e1 : U1.cell? ⟨g, 1, none⟩ = some (Value.slice h.A2 s.covs.length h.c2) := SC.cell 1
              have e2 : U1.cell? ⟨g, 2, none⟩ = some (.int .i64 s.l0) := SC.cell 2
              have e3 : U1.cell? ⟨g, 3, none⟩ = some (.int .i64 s.l1) := SC.cell 3
              have e4 : U1.cell? ⟨g, 4, none⟩ = some (.int .i64 s.l2) := SC.cell 4
              have e5 : U1.cell? ⟨g, 5, none⟩ = some (.int .i64 s.l3) := SC.cell 5
              have e6 : U1.cell? ⟨g, 6, none⟩ = some (Value.slice h.A3 s.rows.length h.c3) := SC.cell 6
              have e7 : U1.cell? ⟨g, 7, none⟩ = some (Value.slice h.A4 s.frames.length h.c4) := SC.cell 7
              have e8 : U1.cell? ⟨g, 8, none⟩ = some (Value.slice h.A5 s.tanks.length h.c5) := SC.cell 8
              have e9 : U1.cell? ⟨g, 9, none⟩ = some (.int .i64 s.m0) := SC.cell 9
              have e10 : U1.cell? ⟨g, 10, none⟩ = some (.int .i64 s.m1) := SC.cell 10
              have e11 : U1.cell? ⟨g, 11, none⟩ = some (.int .i64 s.m2) := SC.cell 11
              have e12 : U1.cell? ⟨g, 12, none⟩ = some (.int .i64 s.m3) := SC.cell 12
              have x0 : U1.cell? ⟨ga, 0, none⟩ = some (.int .i64 a0) := SA.cell 0
              have x1 : U1.cell? ⟨ga, 1, none⟩ = some (.int .i64 a1) := SA.cell 1
              have x2 : U1.cell? ⟨ga, 2, none⟩ = some (.int .u8 (a2 : Nat)) := SA.cell 2
              have y0 : U1.cell? ⟨gb, 0, none⟩ = some (.int .i64 b0) := SB.cell 0
              have y1 : U1.cell? ⟨gb, 1, none⟩ = some (.int .i64 b1) := SB.cell 1
              have y2 : U1.cell? ⟨gb, 2, none⟩ = some (.int .u8 (b2 : Nat)) := SB.cell 2
              clear SC SA SB
              go_wp2_with fail
              refine (NN2.out U1 HB1.out).mono ?_
              rintro e U2 ⟨rfl, hb⟩
              simp only
              have HB2 := Lib.hid (HB1.out.trans (hb.mono HB1.out.size))
              clear hb NN2
              clear e0 e1 e2 e3 e4 e5 e6 e7 e8 e9 e10 e11 e12 x0 x1 x2 y0 y1 y2
              have SC := KG.out.below HB2.out KG.out.lt
              have SA := KA.out.below HB2.out KA.out.lt
              have SB := KB.out.below HB2.out KB.out.lt
              have e0 : U2.cell? ⟨g, 0, none⟩ = some (Value.slice h.A1 s.cols.length h.c1) := SC.cell 0
              have e1 : U2.cell? ⟨g, 1, none⟩ = some (Value.slice h.A2 s.covs.length h.c2) := SC.cell 1
              have e2 : U2.cell? ⟨g, 2, none⟩ = some (.int .i64 s.l0) := SC.cell 2
              have e3 : U2.cell? ⟨g, 3, none⟩ = some (.int .i64 s.l1) := SC.cell 3
              have e4 : U2.cell? ⟨g, 4, none⟩ = some (.int .i64 s.l2) := SC.cell 4
              have e5 : U2.cell? ⟨g, 5, none⟩ = some (.int .i64 s.l3) := SC.cell 5
              have e6 : U2.cell? ⟨g, 6, none⟩ = some (Value.slice h.A3 s.rows.length h.c3) := SC.cell 6
              have e7 : U2.cell? ⟨g, 7, none⟩ = some (Value.slice h.A4 s.frames.length h.c4) := SC.cell 7
              have e8 : U2.cell? ⟨g, 8, none⟩ = some (Value.slice h.A5 s.tanks.length h.c5) := SC.cell 8
              have e9 : U2.cell? ⟨g, 9, none⟩ = some (.int .i64 s.m0) := SC.cell 9
              have e10 : U2.cell? ⟨g, 10, none⟩ = some (.int .i64 s.m1) := SC.cell 10
              have e11 : U2.cell? ⟨g, 11, none⟩ = some (.int .i64 s.m2) := SC.cell 11
              have e12 : U2.cell? ⟨g, 12, none⟩ = some (.int .i64 s.m3) := SC.cell 12
              have x0 : U2.cell? ⟨ga, 0, none⟩ = some (.int .i64 a0) := SA.cell 0
              have x1 : U2.cell? ⟨ga, 1, none⟩ = some (.int .i64 a1) := SA.cell 1
              have x2 : U2.cell? ⟨ga, 2, none⟩ = some (.int .u8 (a2 : Nat)) := SA.cell 2
              have y0 : U2.cell? ⟨gb, 0, none⟩ = some (.int .i64 b0) := SB.cell 0
              have y1 : U2.cell? ⟨gb, 1, none⟩ = some (.int .i64 b1) := SB.cell 1
              have y2 : U2.cell? ⟨gb, 2, none⟩ = some (.int .u8 (b2 : Nat)) := SB.cell 2
              clear SC SA SB
              go_wp2_with fail
              refine (NN3.out U2 HB2.out).mono ?_
              rintro e U3 ⟨rfl, hb⟩
              simp only
              have HB3 := Lib.hid (HB2.out.trans (hb.mono HB2.out.size))
              clear hb NN3
              clear e0 e1 e2 e3 e4 e5 e6 e7 e8 e9 e10 e11 e12 x0 x1 x2 y0 y1 y2
              go_wp2_with fail
              go_roundw
              case rel => (first | exact ⟨4, by omega, by go_num, by rw [HWN.out], HB3⟩ | ((repeat apply Exists.intro); (first | exact ⟨⟨4, by omega, by go_num, by rw [HWN.out], HB3⟩, rfl⟩ | exact ⟨(show 4 ≤ 6 by omega), by go_num, by rw [HWN.out], HB3⟩)))
              case measure => simp [intOf]
        | true =>
          cases q with
          | false =>
            exact absurd (HMJ.out.1 rfl) (by decide)
          | true =>
            as_aux_lemma =>
              go_step
              go_step
              have SC := KG.out.below HBZ.out KG.out.lt
              have SA := KA.out.below HBZ.out KA.out.lt
              have SB := KB.out.below HBZ.out KB.out.lt
              have e0 : U.cell? ⟨g, 0, none⟩ = some (Value.slice h.A1 s.cols.length h.c1) := SC.cell 0
              have e1 : U.cell? ⟨g, 1, none⟩ = some (Value.slice h.A2 s.covs.length h.c2) := SC.cell 1
              have e2 : U.cell? ⟨g, 2, none⟩ = some (.int .i64 s.l0) := SC.cell 2
              have e3 : U.cell? ⟨g, 3, none⟩ = some (.int .i64 s.l1) := SC.cell 3
              have e4 : U.cell? ⟨g, 4, none⟩ = some (.int .i64 s.l2) := SC.cell 4
              have e5 : U.cell? ⟨g, 5, none⟩ = some (.int .i64 s.l3) := SC.cell 5
              have e6 : U.cell? ⟨g, 6, none⟩ = some (Value.slice h.A3 s.rows.length h.c3) := SC.cell 6
              have e7 : U.cell? ⟨g, 7, none⟩ = some (Value.slice h.A4 s.frames.length h.c4) := SC.cell 7
              have e8 : U.cell? ⟨g, 8, none⟩ = some (Value.slice h.A5 s.tanks.length h.c5) := SC.cell 8
              have e9 : U.cell? ⟨g, 9, none⟩ = some (.int .i64 s.m0) := SC.cell 9
              have e10 : U.cell? ⟨g, 10, none⟩ = some (.int .i64 s.m1) := SC.cell 10
              have e11 : U.cell? ⟨g, 11, none⟩ = some (.int .i64 s.m2) := SC.cell 11
              have e12 : U.cell? ⟨g, 12, none⟩ = some (.int .i64 s.m3) := SC.cell 12
              have x0 : U.cell? ⟨ga, 0, none⟩ = some (.int .i64 a0) := SA.cell 0
              have x1 : U.cell? ⟨ga, 1, none⟩ = some (.int .i64 a1) := SA.cell 1
              have x2 : U.cell? ⟨ga, 2, none⟩ = some (.int .u8 (a2 : Nat)) := SA.cell 2
              have y0 : U.cell? ⟨gb, 0, none⟩ = some (.int .i64 b0) := SB.cell 0
              have y1 : U.cell? ⟨gb, 1, none⟩ = some (.int .i64 b1) := SB.cell 1
              have y2 : U.cell? ⟨gb, 2, none⟩ = some (.int .u8 (b2 : Nat)) := SB.cell 2
              clear SC SA SB
              go_wp2_with fail
              refine NN1.out.mono ?_
              rintro e U1 ⟨rfl, hb⟩
              simp only
              have HB1 := Lib.hid (HBZ.out.trans (hb.mono HBZ.out.size))
              clear hb NN1
              clear e0 e1 e2 e3 e4 e5 e6 e7 e8 e9 e10 e11 e12 x0 x1 x2 y0 y1 y2
              have SC := KG.out.below HB1.out KG.out.lt
              have SA := KA.out.below HB1.out KA.out.lt
              have SB := KB.out.below HB1.out KB.out.lt
              have e0 : U1.cell? ⟨g, 0, none⟩ = some (Value.slice h.A1 s.cols.length h.c1) := SC.cell 0
              have e1 : U1.cell? ⟨g, 1, none⟩ = some (Value.slice h.A2 s.covs.length h.c2) := SC.cell 1
              have e2 : U1.cell? ⟨g, 2, none⟩ = some (.int .i64 s.l0) := SC.cell 2
              have e3 : U1.cell? ⟨g, 3, none⟩ = some (.int .i64 s.l1) := SC.cell 3
              have e4 : U1.cell? ⟨g, 4, none⟩ = some (.int .i64 s.l2) := SC.cell 4
              have e5 : U1.cell? ⟨g, 5, none⟩ = some (.int .i64 s.l3) := SC.cell 5
              have e6 : U1.cell? ⟨g, 6, none⟩ = some (Value.slice h.A3 s.rows.length h.c3) := SC.cell 6
              have e7 : U1.cell? ⟨g, 7, none⟩ = some (Value.slice h.A4 s.frames.length h.c4) := SC.cell 7
              have e8 : U1.cell? ⟨g, 8, none⟩ = some (Value.slice h.A5 s.tanks.length h.c5) := SC.cell 8
              have e9 : U1.cell? ⟨g, 9, none⟩ = some (.int .i64 s.m0) := SC.cell 9
              have e10 : U1.cell? ⟨g, 10, none⟩ = some (.int .i64 s.m1) := SC.cell 10
              have e11 : U1.cell? ⟨g, 11, none⟩ = some (.int .i64 s.m2) := SC.cell 11
              have e12 : U1.cell? ⟨g, 12, none⟩ = some (.int .i64 s.m3) := SC.cell 12
              have x0 : U1.cell? ⟨ga, 0, none⟩ = some (.int .i64 a0) := SA.cell 0
              have x1 : U1.cell? ⟨ga, 1, none⟩ = some (.int .i64 a1) := SA.cell 1
              have x2 : U1.cell? ⟨ga, 2, none⟩ = some (.int .u8 (a2 : Nat)) := SA.cell 2
              have y0 : U1.cell? ⟨gb, 0, none⟩ = some (.int .i64 b0) := SB.cell 0
              have y1 : U1.cell? ⟨gb, 1, none⟩ = some (.int .i64 b1) := SB.cell 1
              have y2 : U1.cell? ⟨gb, 2, none⟩ = some (.int .u8 (b2 : Nat)) := SB.cell 2
              clear SC SA SB
              go_wp2_with fail
              refine (NN2.out U1 HB1.out).mono ?_
              rintro e U2 ⟨rfl, hb⟩
              simp only
              have HB2 := Lib.hid (HB1.out.trans (hb.mono HB1.out.size))
              clear hb NN2
              clear e0 e1 e2 e3 e4 e5 e6 e7 e8 e9 e10 e11 e12 x0 x1 x2 y0 y1 y2
              have SC := KG.out.below HB2.out KG.out.lt
              have SA := KA.out.below HB2.out KA.out.lt
              have SB := KB.out.below HB2.out KB.out.lt
              have e0 : U2.cell? ⟨g, 0, none⟩ = some (Value.slice h.A1 s.cols.length h.c1) := SC.cell 0
              have e1 : U2.cell? ⟨g, 1, none⟩ = some (Value.slice h.A2 s.covs.length h.c2) := SC.cell 1
              have e2 : U2.cell? ⟨g, 2, none⟩ = some (.int .i64 s.l0) := SC.cell 2
              have e3 : U2.cell? ⟨g, 3, none⟩ = some (.int .i64 s.l1) := SC.cell 3
              have e4 : U2.cell? ⟨g, 4, none⟩ = some (.int .i64 s.l2) := SC.cell 4
              have e5 : U2.cell? ⟨g, 5, none⟩ = some (.int .i64 s.l3) := SC.cell 5
              have e6 : U2.cell? ⟨g, 6, none⟩ = some (Value.slice h.A3 s.rows.length h.c3) := SC.cell 6
              have e7 : U2.cell? ⟨g, 7, none⟩ = some (Value.slice h.A4 s.frames.length h.c4) := SC.cell 7
              have e8 : U2.cell? ⟨g, 8, none⟩ = some (Value.slice h.A5 s.tanks.length h.c5) := SC.cell 8
              have e9 : U2.cell? ⟨g, 9, none⟩ = some (.int .i64 s.m0) := SC.cell 9
              have e10 : U2.cell? ⟨g, 10, none⟩ = some (.int .i64 s.m1) := SC.cell 10
              have e11 : U2.cell? ⟨g, 11, none⟩ = some (.int .i64 s.m2) := SC.cell 11
              have e12 : U2.cell? ⟨g, 12, none⟩ = some (.int .i64 s.m3) := SC.cell 12
              have x0 : U2.cell? ⟨ga, 0, none⟩ = some (.int .i64 a0) := SA.cell 0
              have x1 : U2.cell? ⟨ga, 1, none⟩ = some (.int .i64 a1) := SA.cell 1
              have x2 : U2.cell? ⟨ga, 2, none⟩ = some (.int .u8 (a2 : Nat)) := SA.cell 2
              have y0 : U2.cell? ⟨gb, 0, none⟩ = some (.int .i64 b0) := SB.cell 0
              have y1 : U2.cell? ⟨gb, 1, none⟩ = some (.int .i64 b1) := SB.cell 1
              have y2 : U2.cell? ⟨gb, 2, none⟩ = some (.int .u8 (b2 : Nat)) := SB.cell 2
              clear SC SA SB
              go_wp2_with fail
              refine (NN3.out U2 HB2.out).mono ?_
              rintro e U3 ⟨rfl, hb⟩
              simp only
              have HB3 := Lib.hid (HB2.out.trans (hb.mono HB2.out.size))
              clear hb NN3
              clear e0 e1 e2 e3 e4 e5 e6 e7 e8 e9 e10 e11 e12 x0 x1 x2 y0 y1 y2
              go_wp2_with fail
              go_roundw
              case rel => (first | exact ⟨4, by omega, by go_num, by rw [HWN.out], HB3⟩ | ((repeat apply Exists.intro); (first | exact ⟨⟨4, by omega, by go_num, by rw [HWN.out], HB3⟩, rfl⟩ | exact ⟨(show 4 ≤ 6 by omega), by go_num, by rw [HWN.out], HB3⟩)))
              case measure => simp [intOf]
      by_cases hj4 : k = 4
      · subst hj4
        have N1 := KAB.out U HBZ.out 4 (by decide)
        have N2 := fun (X : World) (hX : Below Z.heap.size Z X) => KBA.out X hX 4 (by decide)
        have N3 := fun (X : World) (hX : Below Z.heap.size Z X) => KAA.out X hX 4 (by decide)
        have NN1 : Hid (Calls Tryd.prog 25 #[.agg #[Value.slice h.A1 s.cols.length h.c1, Value.slice h.A2 s.covs.length h.c2, .int .i64 s.l0, .int .i64 s.l1, .int .i64 s.l2, .int .i64 s.l3, Value.slice h.A3 s.rows.length h.c3, Value.slice h.A4 s.frames.length h.c4, Value.slice h.A5 s.tanks.length h.c5, .int .i64 s.m0, .int .i64 s.m1, .int .i64 s.m2, .int .i64 s.m3], .agg #[.int .i64 a0, .int .i64 a1, .int .u8 (a2 : Nat)], .agg #[.int .i64 b0, .int .i64 b1, .int .u8 (b2 : Nat)], .int .u8 4] U (Ret U (.bool (nf 4)))) := Lib.hid N1
        have NN2 : Hid (∀ X : World, Below Z.heap.size Z X → Calls Tryd.prog 25 #[.agg #[Value.slice h.A1 s.cols.length h.c1, Value.slice h.A2 s.covs.length h.c2, .int .i64 s.l0, .int .i64 s.l1, .int .i64 s.l2, .int .i64 s.l3, Value.slice h.A3 s.rows.length h.c3, Value.slice h.A4 s.frames.length h.c4, Value.slice h.A5 s.tanks.length h.c5, .int .i64 s.m0, .int .i64 s.m1, .int .i64 s.m2, .int .i64 s.m3], .agg #[.int .i64 b0, .int .i64 b1, .int .u8 (b2 : Nat)], .agg #[.int .i64 a0, .int .i64 a1, .int .u8 (a2 : Nat)], .int .u8 4] X (Ret X (.bool (nf 4)))) := Lib.hid N2
        have NN3 : Hid (∀ X : World, Below Z.heap.size Z X → Calls Tryd.prog 25 #[.agg #[Value.slice h.A1 s.cols.length h.c1, Value.slice h.A2 s.covs.length h.c2, .int .i64 s.l0, .int .i64 s.l1, .int .i64 s.l2, .int .i64 s.l3, Value.slice h.A3 s.rows.length h.c3, Value.slice h.A4 s.frames.length h.c4, Value.slice h.A5 s.tanks.length h.c5, .int .i64 s.m0, .int .i64 s.m1, .int .i64 s.m2, .int .i64 s.m3], .agg #[.int .i64 a0, .int .i64 a1, .int .u8 (a2 : Nat)], .agg #[.int .i64 a0, .int .i64 a1, .int .u8 (a2 : Nat)], .int .u8 4] X (Ret X (.bool true))) := Lib.hid N3
        clear N1 N2 N3
        have HW1 := Lib.hid (HWP.out 4)
        have HMJ := Lib.hid (HMO.out 4)
        have HTJ := Lib.hid (HTP.out 4 (by decide))
        have HWN : Hid (wf 5 = nf 4) := Lib.hid HW1.out
        generalize nf 4 = q at *
        generalize wf 4 = p at *
        clear HW1
        cases p with
        | false =>
          cases q with
          | false =>
            as_aux_lemma =>
              go_step
              go_step
              have SC := KG.out.below HBZ.out KG.out.lt
              have SA := KA.out.below HBZ.out KA.out.lt
              have SB := KB.out.below HBZ.out KB.out.lt
              have e0 : U.cell? ⟨g, 0, none⟩ = some (Value.slice h.A1 s.cols.length h.c1) := SC.cell 0
              have e1 : U.cell? ⟨g, 1, none⟩ = some (Value.slice h.A2 s.covs.length h.c2) := SC.cell 1
              have e2 : U.cell? ⟨g, 2, none⟩ = some (.int .i64 s.l0) := SC.cell 2
              have e3 : U.cell? ⟨g, 3, none⟩ = some (.int .i64 s.l1) := SC.cell 3
              have e4 : U.cell? ⟨g, 4, none⟩ = some (.int .i64 s.l2) := SC.cell 4
              have e5 : U.cell? ⟨g, 5, none⟩ = some (.int .i64 s.l3) := SC.cell 5
              have e6 : U.cell? ⟨g, 6, none⟩ = some (Value.slice h.A3 s.rows.length h.c3) := SC.cell 6
              have e7 : U.cell? ⟨g, 7, none⟩ = some (Value.slice h.A4 s.frames.length h.c4) := SC.cell 7
              have e8 : U.cell? ⟨g, 8, none⟩ = some (Value.slice h.A5 s.tanks.length h.c5) := SC.cell 8
              have e9 : U.cell? ⟨g, 9, none⟩ = some (.int .i64 s.m0) := SC.cell 9
              have e10 : U.cell? ⟨g, 10, none⟩ = some (.int .i64 s.m1) := SC.cell 10
              have e11 : U.cell? ⟨g, 11, none⟩ = some (.int .i64 s.m2) := SC.cell 11
              have e12 : U.cell? ⟨g, 12, none⟩ = some (.int .i64 s.m3) := SC.cell 12
              have x0 : U.cell? ⟨ga, 0, none⟩ = some (.int .i64 a0) := SA.cell 0
              have x1 : U.cell? ⟨ga, 1, none⟩ = some (.int .i64 a1) := SA.cell 1
              have x2 : U.cell? ⟨ga, 2, none⟩ = some (.int .u8 (a2 : Nat)) := SA.cell 2
              have y0 : U.cell? ⟨gb, 0, none⟩ = some (.int .i64 b0) := SB.cell 0
              have y1 : U.cell? ⟨gb, 1, none⟩ = some (.int .i64 b1) := SB.cell 1
              have y2 : U.cell? ⟨gb, 2, none⟩ = some (.int .u8 (b2 : Nat)) := SB.cell 2
              clear SC SA SB
              go_wp2_with fail
              refine NN1.out.mono ?_
              rintro e U1 ⟨rfl, hb⟩
              simp only
              have HB1 := Lib.hid (HBZ.out.trans (hb.mono HBZ.out.size))
              clear hb NN1
              clear e0 e1 e2 e3 e4 e5 e6 e7 e8 e9 e10 e11 e12 x0 x1 x2 y0 y1 y2
              have SC := KG.out.below HB1.out KG.out.lt
              have SA := KA.out.below HB1.out KA.out.lt
              have SB := KB.out.below HB1.out KB.out.lt
              have e0 : U1.cell? ⟨g, 0, none⟩ = some (Value.slice h.A1 s.cols.length h.c1) := SC.cell 0
              have e1 : U1.cell? ⟨g, 1, none⟩ = some (Value.slice h.A2 s.covs.length h.c2) := SC.cell 1
              have e2 : U1.cell? ⟨g, 2, none⟩ = some (.int .i64 s.l0) := SC.cell 2
              have e3 : U1.cell? ⟨g, 3, none⟩ = some (.int .i64 s.l1) := SC.cell 3
              have e4 : U1.cell? ⟨g, 4, none⟩ = some (.int .i64 s.l2) := SC.cell 4
              have e5 : U1.cell? ⟨g, 5, none⟩ = some (.int .i64 s.l3) := SC.cell 5
              have e6 : U1.cell? ⟨g, 6, none⟩ = some (Value.slice h.A3 s.rows.length h.c3) := SC.cell 6
              have e7 : U1.cell? ⟨g, 7, none⟩ = some (Value.slice h.A4 s.frames.length h.c4) := SC.cell 7
              have e8 : U1.cell? ⟨g, 8, none⟩ = some (Value.slice h.A5 s.tanks.length h.c5) := SC.cell 8
              have e9 : U1.cell? ⟨g, 9, none⟩ = some (.int .i64 s.m0) := SC.cell 9
              have e10 : U1.cell? ⟨g, 10, none⟩ = some (.int .i64 s.m1) := SC.cell 10
              have e11 : U1.cell? ⟨g, 11, none⟩ = some (.int .i64 s.m2) := SC.cell 11
              have e12 : U1.cell? ⟨g, 12, none⟩ = some (.int .i64 s.m3) := SC.cell 12
              have x0 : U1.cell? ⟨ga, 0, none⟩ = some (.int .i64 a0) := SA.cell 0
              have x1 : U1.cell? ⟨ga, 1, none⟩ = some (.int .i64 a1) := SA.cell 1
              have x2 : U1.cell? ⟨ga, 2, none⟩ = some (.int .u8 (a2 : Nat)) := SA.cell 2
              have y0 : U1.cell? ⟨gb, 0, none⟩ = some (.int .i64 b0) := SB.cell 0
              have y1 : U1.cell? ⟨gb, 1, none⟩ = some (.int .i64 b1) := SB.cell 1
              have y2 : U1.cell? ⟨gb, 2, none⟩ = some (.int .u8 (b2 : Nat)) := SB.cell 2
              clear SC SA SB
              go_wp2_with fail
              refine (NN2.out U1 HB1.out).mono ?_
              rintro e U2 ⟨rfl, hb⟩
              simp only
              have HB2 := Lib.hid (HB1.out.trans (hb.mono HB1.out.size))
              clear hb NN2
              clear e0 e1 e2 e3 e4 e5 e6 e7 e8 e9 e10 e11 e12 x0 x1 x2 y0 y1 y2
              have SC := KG.out.below HB2.out KG.out.lt
              have SA := KA.out.below HB2.out KA.out.lt
              have SB := KB.out.below HB2.out KB.out.lt
              have e0 : U2.cell? ⟨g, 0, none⟩ = some (Value.slice h.A1 s.cols.length h.c1) := SC.cell 0
              have e1 : U2.cell? ⟨g, 1, none⟩ = some (Value.slice h.A2 s.covs.length h.c2) := SC.cell 1
              have e2 : U2.cell? ⟨g, 2, none⟩ = some (.int .i64 s.l0) := SC.cell 2
              have e3 : U2.cell? ⟨g, 3, none⟩ = some (.int .i64 s.l1) := SC.cell 3
              have e4 : U2.cell? ⟨g, 4, none⟩ = some (.int .i64 s.l2) := SC.cell 4
              have e5 : U2.cell? ⟨g, 5, none⟩ = some (.int .i64 s.l3) := SC.cell 5
              have e6 : U2.cell? ⟨g, 6, none⟩ = some (Value.slice h.A3 s.rows.length h.c3) := SC.cell 6
              have e7 : U2.cell? ⟨g, 7, none⟩ = some (Value.slice h.A4 s.frames.length h.c4) := SC.cell 7
              have e8 : U2.cell? ⟨g, 8, none⟩ = some (Value.slice h.A5 s.tanks.length h.c5) := SC.cell 8
              have e9 : U2.cell? ⟨g, 9, none⟩ = some (.int .i64 s.m0) := SC.cell 9
              have e10 : U2.cell? ⟨g, 10, none⟩ = some (.int .i64 s.m1) := SC.cell 10
              have e11 : U2.cell? ⟨g, 11, none⟩ = some (.int .i64 s.m2) := SC.cell 11
              have e12 : U2.cell? ⟨g, 12, none⟩ = some (.int .i64 s.m3) := SC.cell 12
              have x0 : U2.cell? ⟨ga, 0, none⟩ = some (.int .i64 a0) := SA.cell 0
              have x1 : U2.cell? ⟨ga, 1, none⟩ = some (.int .i64 a1) := SA.cell 1
              have x2 : U2.cell? ⟨ga, 2, none⟩ = some (.int .u8 (a2 : Nat)) := SA.cell 2
              have y0 : U2.cell? ⟨gb, 0, none⟩ = some (.int .i64 b0) := SB.cell 0
              have y1 : U2.cell? ⟨gb, 1, none⟩ = some (.int .i64 b1) := SB.cell 1
              have y2 : U2.cell? ⟨gb, 2, none⟩ = some (.int .u8 (b2 : Nat)) := SB.cell 2
              clear SC SA SB
              go_wp2_with fail
              refine (NN3.out U2 HB2.out).mono ?_
              rintro e U3 ⟨rfl, hb⟩
              simp only
              have HB3 := Lib.hid (HB2.out.trans (hb.mono HB2.out.size))
              clear hb NN3
              clear e0 e1 e2 e3 e4 e5 e6 e7 e8 e9 e10 e11 e12 x0 x1 x2 y0 y1 y2
              go_wp2_with fail
              go_roundw
              case rel => (first | exact ⟨5, by omega, by go_num, by rw [HWN.out], HB3⟩ | ((repeat apply Exists.intro); (first | exact ⟨⟨5, by omega, by go_num, by rw [HWN.out], HB3⟩, rfl⟩ | exact ⟨(show 5 ≤ 6 by omega), by go_num, by rw [HWN.out], HB3⟩)))
              case measure => simp [intOf]
          | true =>
            exact absurd HTJ.out (by decide)
        | true =>
          cases q with
          | false =>
            exact absurd (HMJ.out.1 rfl) (by decide)
          | true =>
            as_aux_lemma =>
              go_step
              go_step
              have SC := KG.out.below HBZ.out KG.out.lt
              have SA := KA.out.below HBZ.out KA.out.lt
              have SB := KB.out.below HBZ.out KB.out.lt
              have e0 : U.cell? ⟨g, 0, none⟩ = some (Value.slice h.A1 s.cols.length h.c1) := SC.cell 0
              have e1 : U.cell? ⟨g, 1, none⟩ = some (Value.slice h.A2 s.covs.length h.c2) := SC.cell 1
              have e2 : U.cell? ⟨g, 2, none⟩ = some (.int .i64 s.l0) := SC.cell 2
              have e3 : U.cell? ⟨g, 3, none⟩ = some (.int .i64 s.l1) := SC.cell 3
              have e4 : U.cell? ⟨g, 4, none⟩ = some (.int .i64 s.l2) := SC.cell 4
              have e5 : U.cell? ⟨g, 5, none⟩ = some (.int .i64 s.l3) := SC.cell 5
              have e6 : U.cell? ⟨g, 6, none⟩ = some (Value.slice h.A3 s.rows.length h.c3) := SC.cell 6
              have e7 : U.cell? ⟨g, 7, none⟩ = some (Value.slice h.A4 s.frames.length h.c4) := SC.cell 7
              have e8 : U.cell? ⟨g, 8, none⟩ = some (Value.slice h.A5 s.tanks.length h.c5) := SC.cell 8
              have e9 : U.cell? ⟨g, 9, none⟩ = some (.int .i64 s.m0) := SC.cell 9
              have e10 : U.cell? ⟨g, 10, none⟩ = some (.int .i64 s.m1) := SC.cell 10
              have e11 : U.cell? ⟨g, 11, none⟩ = some (.int .i64 s.m2) := SC.cell 11
              have e12 : U.cell? ⟨g, 12, none⟩ = some (.int .i64 s.m3) := SC.cell 12
              have x0 : U.cell? ⟨ga, 0, none⟩ = some (.int .i64 a0) := SA.cell 0
              have x1 : U.cell? ⟨ga, 1, none⟩ = some (.int .i64 a1) := SA.cell 1
              have x2 : U.cell? ⟨ga, 2, none⟩ = some (.int .u8 (a2 : Nat)) := SA.cell 2
              have y0 : U.cell? ⟨gb, 0, none⟩ = some (.int .i64 b0) := SB.cell 0
              have y1 : U.cell? ⟨gb, 1, none⟩ = some (.int .i64 b1) := SB.cell 1
              have y2 : U.cell? ⟨gb, 2, none⟩ = some (.int .u8 (b2 : Nat)) := SB.cell 2
              clear SC SA SB
              go_wp2_with fail
              refine NN1.out.mono ?_
              rintro e U1 ⟨rfl, hb⟩
              simp only
              have HB1 := Lib.hid (HBZ.out.trans (hb.mono HBZ.out.size))
              clear hb NN1
              clear e0 e1 e2 e3 e4 e5 e6 e7 e8 e9 e10 e11 e12 x0 x1 x2 y0 y1 y2
              have SC := KG.out.below HB1.out KG.out.lt
              have SA := KA.out.below HB1.out KA.out.lt
              have SB := KB.out.below HB1.out KB.out.lt
              have e0 : U1.cell? ⟨g, 0, none⟩ = some (Value.slice h.A1 s.cols.length h.c1) := SC.cell 0
              have e1 : U1.cell? ⟨g, 1, none⟩ = some (Value.slice h.A2 s.covs.length h.c2) := SC.cell 1
              have e2 : U1.cell? ⟨g, 2, none⟩ = some (.int .i64 s.l0) := SC.cell 2
              have e3 : U1.cell? ⟨g, 3, none⟩ = some (.int .i64 s.l1) := SC.cell 3
              have e4 : U1.cell? ⟨g, 4, none⟩ = some (.int .i64 s.l2) := SC.cell 4
              have e5 : U1.cell? ⟨g, 5, none⟩ = some (.int .i64 s.l3) := SC.cell 5
              have e6 : U1.cell? ⟨g, 6, none⟩ = some (Value.slice h.A3 s.rows.length h.c3) := SC.cell 6
              have e7 : U1.cell? ⟨g, 7, none⟩ = some (Value.slice h.A4 s.frames.length h.c4) := SC.cell 7
              have e8 : U1.cell? ⟨g, 8, none⟩ = some (Value.slice h.A5 s.tanks.length h.c5) := SC.cell 8
              have e9 : U1.cell? ⟨g, 9, none⟩ = some (.int .i64 s.m0) := SC.cell 9
              have e10 : U1.cell? ⟨g, 10, none⟩ = some (.int .i64 s.m1) := SC.cell 10
              have e11 : U1.cell? ⟨g, 11, none⟩ = some (.int .i64 s.m2) := SC.cell 11
              have e12 : U1.cell? ⟨g, 12, none⟩ = some (.int .i64 s.m3) := SC.cell 12
              have x0 : U1.cell? ⟨ga, 0, none⟩ = some (.int .i64 a0) := SA.cell 0
              have x1 : U1.cell? ⟨ga, 1, none⟩ = some (.int .i64 a1) := SA.cell 1
              have x2 : U1.cell? ⟨ga, 2, none⟩ = some (.int .u8 (a2 : Nat)) := SA.cell 2
              have y0 : U1.cell? ⟨gb, 0, none⟩ = some (.int .i64 b0) := SB.cell 0
              have y1 : U1.cell? ⟨gb, 1, none⟩ = some (.int .i64 b1) := SB.cell 1
              have y2 : U1.cell? ⟨gb, 2, none⟩ = some (.int .u8 (b2 : Nat)) := SB.cell 2
              clear SC SA SB
              go_wp2_with fail
              refine (NN2.out U1 HB1.out).mono ?_
              rintro e U2 ⟨rfl, hb⟩
              simp only
              have HB2 := Lib.hid (HB1.out.trans (hb.mono HB1.out.size))
              clear hb NN2
              clear e0 e1 e2 e3 e4 e5 e6 e7 e8 e9 e10 e11 e12 x0 x1 x2 y0 y1 y2
              have SC := KG.out.below HB2.out KG.out.lt
              have SA := KA.out.below HB2.out KA.out.lt
              have SB := KB.out.below HB2.out KB.out.lt
              have e0 : U2.cell? ⟨g, 0, none⟩ = some (Value.slice h.A1 s.cols.length h.c1) := SC.cell 0
              have e1 : U2.cell? ⟨g, 1, none⟩ = some (Value.slice h.A2 s.covs.length h.c2) := SC.cell 1
              have e2 : U2.cell? ⟨g, 2, none⟩ = some (.int .i64 s.l0) := SC.cell 2
              have e3 : U2.cell? ⟨g, 3, none⟩ = some (.int .i64 s.l1) := SC.cell 3
              have e4 : U2.cell? ⟨g, 4, none⟩ = some (.int .i64 s.l2) := SC.cell 4
              have e5 : U2.cell? ⟨g, 5, none⟩ = some (.int .i64 s.l3) := SC.cell 5
              have e6 : U2.cell? ⟨g, 6, none⟩ = some (Value.slice h.A3 s.rows.length h.c3) := SC.cell 6
              have e7 : U2.cell? ⟨g, 7, none⟩ = some (Value.slice h.A4 s.frames.length h.c4) := SC.cell 7
              have e8 : U2.cell? ⟨g, 8, none⟩ = some (Value.slice h.A5 s.tanks.length h.c5) := SC.cell 8
              have e9 : U2.cell? ⟨g, 9, none⟩ = some (.int .i64 s.m0) := SC.cell 9
              have e10 : U2.cell? ⟨g, 10, none⟩ = some (.int .i64 s.m1) := SC.cell 10
              have e11 : U2.cell? ⟨g, 11, none⟩ = some (.int .i64 s.m2) := SC.cell 11
              have e12 : U2.cell? ⟨g, 12, none⟩ = some (.int .i64 s.m3) := SC.cell 12
              have x0 : U2.cell? ⟨ga, 0, none⟩ = some (.int .i64 a0) := SA.cell 0
              have x1 : U2.cell? ⟨ga, 1, none⟩ = some (.int .i64 a1) := SA.cell 1
              have x2 : U2.cell? ⟨ga, 2, none⟩ = some (.int .u8 (a2 : Nat)) := SA.cell 2
              have y0 : U2.cell? ⟨gb, 0, none⟩ = some (.int .i64 b0) := SB.cell 0
              have y1 : U2.cell? ⟨gb, 1, none⟩ = some (.int .i64 b1) := SB.cell 1
              have y2 : U2.cell? ⟨gb, 2, none⟩ = some (.int .u8 (b2 : Nat)) := SB.cell 2
              clear SC SA SB
              go_wp2_with fail
              refine (NN3.out U2 HB2.out).mono ?_
              rintro e U3 ⟨rfl, hb⟩
              simp only
              have HB3 := Lib.hid (HB2.out.trans (hb.mono HB2.out.size))
              clear hb NN3
              clear e0 e1 e2 e3 e4 e5 e6 e7 e8 e9 e10 e11 e12 x0 x1 x2 y0 y1 y2
              go_wp2_with fail
              go_roundw
              case rel => (first | exact ⟨5, by omega, by go_num, by rw [HWN.out], HB3⟩ | ((repeat apply Exists.intro); (first | exact ⟨⟨5, by omega, by go_num, by rw [HWN.out], HB3⟩, rfl⟩ | exact ⟨(show 5 ≤ 6 by omega), by go_num, by rw [HWN.out], HB3⟩)))
              case measure => simp [intOf]
      by_cases hj5 : k = 5
      · subst hj5
        have N1 := KAB.out U HBZ.out 5 (by decide)
        have N2 := fun (X : World) (hX : Below Z.heap.size Z X) => KBA.out X hX 5 (by decide)
        have N3 := fun (X : World) (hX : Below Z.heap.size Z X) => KAA.out X hX 5 (by decide)
        have NN1 : Hid (Calls Tryd.prog 25 #[.agg #[Value.slice h.A1 s.cols.length h.c1, Value.slice h.A2 s.covs.length h.c2, .int .i64 s.l0, .int .i64 s.l1, .int .i64 s.l2, .int .i64 s.l3, Value.slice h.A3 s.rows.length h.c3, Value.slice h.A4 s.frames.length h.c4, Value.slice h.A5 s.tanks.length h.c5, .int .i64 s.m0, .int .i64 s.m1, .int .i64 s.m2, .int .i64 s.m3], .agg #[.int .i64 a0, .int .i64 a1, .int .u8 (a2 : Nat)], .agg #[.int .i64 b0, .int .i64 b1, .int .u8 (b2 : Nat)], .int .u8 5] U (Ret U (.bool (nf 5)))) := Lib.hid N1
        have NN2 : Hid (∀ X : World, Below Z.heap.size Z X → Calls Tryd.prog 25 #[.agg #[Value.slice h.A1 s.cols.length h.c1, Value.slice h.A2 s.covs.length h.c2, .int .i64 s.l0, .int .i64 s.l1, .int .i64 s.l2, .int .i64 s.l3, Value.slice h.A3 s.rows.length h.c3, Value.slice h.A4 s.frames.length h.c4, Value.slice h.A5 s.tanks.length h.c5, .int .i64 s.m0, .int .i64 s.m1, .int .i64 s.m2, .int .i64 s.m3], .agg #[.int .i64 b0, .int .i64 b1, .int .u8 (b2 : Nat)], .agg #[.int .i64 a0, .int .i64 a1, .int .u8 (a2 : Nat)], .int .u8 5] X (Ret X (.bool (nf 5)))) := Lib.hid N2
        have NN3 : Hid (∀ X : World, Below Z.heap.size Z X → Calls Tryd.prog 25 #[.agg #[Value.slice h.A1 s.cols.length h.c1, Value.slice h.A2 s.covs.length h.c2, .int .i64 s.l0, .int .i64 s.l1, .int .i64 s.l2, .int .i64 s.l3, Value.slice h.A3 s.rows.length h.c3, Value.slice h.A4 s.frames.length h.c4, Value.slice h.A5 s.tanks.length h.c5, .int .i64 s.m0, .int .i64 s.m1, .int .i64 s.m2, .int .i64 s.m3], .agg #[.int .i64 a0, .int .i64 a1, .int .u8 (a2 : Nat)], .agg #[.int .i64 a0, .int .i64 a1, .int .u8 (a2 : Nat)], .int .u8 5] X (Ret X (.bool true))) := Lib.hid N3
        clear N1 N2 N3
        have HW1 := Lib.hid (HWP.out 5)
        have HMJ := Lib.hid (HMO.out 5)
        have HTJ := Lib.hid (HTP.out 5 (by decide))
        have HWN : Hid (wf 6 = nf 5) := Lib.hid HW1.out
        generalize nf 5 = q at *
        generalize wf 5 = p at *
        clear HW1
        cases p with
        | false =>
          cases q with
          | false =>
            as_aux_lemma =>
              go_step
              go_step
              have SC := KG.out.below HBZ.out KG.out.lt
              have SA := KA.out.below HBZ.out KA.out.lt
              have SB := KB.out.below HBZ.out KB.out.lt
              have e0 : U.cell? ⟨g, 0, none⟩ = some (Value.slice h.A1 s.cols.length h.c1) := SC.cell 0
              have e1 : U.cell? ⟨g, 1, none⟩ = some (Value.slice h.A2 s.covs.length h.c2) := SC.cell 1
              have e2 : U.cell? ⟨g, 2, none⟩ = some (.int .i64 s.l0) := SC.cell 2
              have e3 : U.cell? ⟨g, 3, none⟩ = some (.int .i64 s.l1) := SC.cell 3
              have e4 : U.cell? ⟨g, 4, none⟩ = some (.int .i64 s.l2) := SC.cell 4
              have e5 : U.cell? ⟨g, 5, none⟩ = some (.int .i64 s.l3) := SC.cell 5
              have e6 : U.cell? ⟨g, 6, none⟩ = some (Value.slice h.A3 s.rows.length h.c3) := SC.cell 6
              have e7 : U.cell? ⟨g, 7, none⟩ = some (Value.slice h.A4 s.frames.length h.c4) := SC.cell 7
              have e8 : U.cell? ⟨g, 8, none⟩ = some (Value.slice h.A5 s.tanks.length h.c5) := SC.cell 8
              have e9 : U.cell? ⟨g, 9, none⟩ = some (.int .i64 s.m0) := SC.cell 9
              have e10 : U.cell? ⟨g, 10, none⟩ = some (.int .i64 s.m1) := SC.cell 10
              have e11 : U.cell? ⟨g, 11, none⟩ = some (.int .i64 s.m2) := SC.cell 11
              have e12 : U.cell? ⟨g, 12, none⟩ = some (.int .i64 s.m3) := SC.cell 12
              have x0 : U.cell? ⟨ga, 0, none⟩ = some (.int .i64 a0) := SA.cell 0
              have x1 : U.cell? ⟨ga, 1, none⟩ = some (.int .i64 a1) := SA.cell 1
              have x2 : U.cell? ⟨ga, 2, none⟩ = some (.int .u8 (a2 : Nat)) := SA.cell 2
              have y0 : U.cell? ⟨gb, 0, none⟩ = some (.int .i64 b0) := SB.cell 0
              have y1 : U.cell? ⟨gb, 1, none⟩ = some (.int .i64 b1) := SB.cell 1
              have y2 : U.cell? ⟨gb, 2, none⟩ = some (.int .u8 (b2 : Nat)) := SB.cell 2
              clear SC SA SB
              go_wp2_with fail
              refine NN1.out.mono ?_
              rintro e U1 ⟨rfl, hb⟩
              simp only
              have HB1 := Lib.hid (HBZ.out.trans (hb.mono HBZ.out.size))
              clear hb NN1
              clear e0 e1 e2 e3 e4 e5 e6 e7 e8 e9 e10 e11 e12 x0 x1 x2 y0 y1 y2
              have SC := KG.out.below HB1.out KG.out.lt
              have SA := KA.out.below HB1.out KA.out.lt
              have SB := KB.out.below HB1.out KB.out.lt
              have e0 : U1.cell? ⟨g, 0, none⟩ = some (Value.slice h.A1 s.cols.length h.c1) := SC.cell 0
              have e1 : U1.cell? ⟨g, 1, none⟩ = some (Value.slice h.A2 s.covs.length h.c2) := SC.cell 1
              have e2 : U1.cell? ⟨g, 2, none⟩ = some (.int .i64 s.l0) := SC.cell 2
              have e3 : U1.cell? ⟨g, 3, none⟩ = some (.int .i64 s.l1) := SC.cell 3
              have e4 : U1.cell? ⟨g, 4, none⟩ = some (.int .i64 s.l2) := SC.cell 4
              have e5 : U1.cell? ⟨g, 5, none⟩ = some (.int .i64 s.l3) := SC.cell 5
              have e6 : U1.cell? ⟨g, 6, none⟩ = some (Value.slice h.A3 s.rows.length h.c3) := SC.cell 6
              have e7 : U1.cell? ⟨g, 7, none⟩ = some (Value.slice h.A4 s.frames.length h.c4) := SC.cell 7
              have e8 : U1.cell? ⟨g, 8, none⟩ = some (Value.slice h.A5 s.tanks.length h.c5) := SC.cell 8
              have e9 : U1.cell? ⟨g, 9, none⟩ = some (.int .i64 s.m0) := SC.cell 9
              have e10 : U1.cell? ⟨g, 10, none⟩ = some (.int .i64 s.m1) := SC.cell 10
              have e11 : U1.cell? ⟨g, 11, none⟩ = some (.int .i64 s.m2) := SC.cell 11
              have e12 : U1.cell? ⟨g, 12, none⟩ = some (.int .i64 s.m3) := SC.cell 12
              have x0 : U1.cell? ⟨ga, 0, none⟩ = some (.int .i64 a0) := SA.cell 0
              have x1 : U1.cell? ⟨ga, 1, none⟩ = some (.int .i64 a1) := SA.cell 1
              have x2 : U1.cell? ⟨ga, 2, none⟩ = some (.int .u8 (a2 : Nat)) := SA.cell 2
              have y0 : U1.cell? ⟨gb, 0, none⟩ = some (.int .i64 b0) := SB.cell 0
              have y1 : U1.cell? ⟨gb, 1, none⟩ = some (.int .i64 b1) := SB.cell 1
              have y2 : U1.cell? ⟨gb, 2, none⟩ = some (.int .u8 (b2 : Nat)) := SB.cell 2
              clear SC SA SB
              go_wp2_with fail
              refine (NN2.out U1 HB1.out).mono ?_
              rintro e U2 ⟨rfl, hb⟩
              simp only
              have HB2 := Lib.hid (HB1.out.trans (hb.mono HB1.out.size))
              clear hb NN2
              clear e0 e1 e2 e3 e4 e5 e6 e7 e8 e9 e10 e11 e12 x0 x1 x2 y0 y1 y2
              have SC := KG.out.below HB2.out KG.out.lt
              have SA := KA.out.below HB2.out KA.out.lt
              have SB := KB.out.below HB2.out KB.out.lt
              have e0 : U2.cell? ⟨g, 0, none⟩ = some (Value.slice h.A1 s.cols.length h.c1) := SC.cell 0
              have e1 : U2.cell? ⟨g, 1, none⟩ = some (Value.slice h.A2 s.covs.length h.c2) := SC.cell 1
              have e2 : U2.cell? ⟨g, 2, none⟩ = some (.int .i64 s.l0) := SC.cell 2
              have e3 : U2.cell? ⟨g, 3, none⟩ = some (.int .i64 s.l1) := SC.cell 3
              have e4 : U2.cell? ⟨g, 4, none⟩ = some (.int .i64 s.l2) := SC.cell 4
              have e5 : U2.cell? ⟨g, 5, none⟩ = some (.int .i64 s.l3) := SC.cell 5
              have e6 : U2.cell? ⟨g, 6, none⟩ = some (Value.slice h.A3 s.rows.length h.c3) := SC.cell 6
              have e7 : U2.cell? ⟨g, 7, none⟩ = some (Value.slice h.A4 s.frames.length h.c4) := SC.cell 7
              have e8 : U2.cell? ⟨g, 8, none⟩ = some (Value.slice h.A5 s.tanks.length h.c5) := SC.cell 8
              have e9 : U2.cell? ⟨g, 9, none⟩ = some (.int .i64 s.m0) := SC.cell 9
              have e10 : U2.cell? ⟨g, 10, none⟩ = some (.int .i64 s.m1) := SC.cell 10
              have e11 : U2.cell? ⟨g, 11, none⟩ = some (.int .i64 s.m2) := SC.cell 11
              have e12 : U2.cell? ⟨g, 12, none⟩ = some (.int .i64 s.m3) := SC.cell 12
              have x0 : U2.cell? ⟨ga, 0, none⟩ = some (.int .i64 a0) := SA.cell 0
              have x1 : U2.cell? ⟨ga, 1, none⟩ = some (.int .i64 a1) := SA.cell 1
              have x2 : U2.cell? ⟨ga, 2, none⟩ = some (.int .u8 (a2 : Nat)) := SA.cell 2
              have y0 : U2.cell? ⟨gb, 0, none⟩ = some (.int .i64 b0) := SB.cell 0
              have y1 : U2.cell? ⟨gb, 1, none⟩ = some (.int .i64 b1) := SB.cell 1
              have y2 : U2.cell? ⟨gb, 2, none⟩ = some (.int .u8 (b2 : Nat)) := SB.cell 2
              clear SC SA SB
              go_wp2_with fail
              refine (NN3.out U2 HB2.out).mono ?_
              rintro e U3 ⟨rfl, hb⟩
              simp only
              have HB3 := Lib.hid (HB2.out.trans (hb.mono HB2.out.size))
              clear hb NN3
              clear e0 e1 e2 e3 e4 e5 e6 e7 e8 e9 e10 e11 e12 x0 x1 x2 y0 y1 y2
              go_wp2_with fail
              go_roundw
              case rel => (first | exact ⟨6, by omega, by go_num, by rw [HWN.out], HB3⟩ | ((repeat apply Exists.intro); (first | exact ⟨⟨6, by omega, by go_num, by rw [HWN.out], HB3⟩, rfl⟩ | exact ⟨(show 6 ≤ 6 by omega), by go_num, by rw [HWN.out], HB3⟩)))
              case measure => simp [intOf]
          | true =>
            exact absurd HTJ.out (by decide)
        | true =>
          cases q with
          | false =>
            exact absurd (HMJ.out.1 rfl) (by decide)
          | true =>
            as_aux_lemma =>
              go_step
              go_step
              have SC := KG.out.below HBZ.out KG.out.lt
              have SA := KA.out.below HBZ.out KA.out.lt
              have SB := KB.out.below HBZ.out KB.out.lt
              have e0 : U.cell? ⟨g, 0, none⟩ = some (Value.slice h.A1 s.cols.length h.c1) := SC.cell 0
              have e1 : U.cell? ⟨g, 1, none⟩ = some (Value.slice h.A2 s.covs.length h.c2) := SC.cell 1
              have e2 : U.cell? ⟨g, 2, none⟩ = some (.int .i64 s.l0) := SC.cell 2
              have e3 : U.cell? ⟨g, 3, none⟩ = some (.int .i64 s.l1) := SC.cell 3
              have e4 : U.cell? ⟨g, 4, none⟩ = some (.int .i64 s.l2) := SC.cell 4
              have e5 : U.cell? ⟨g, 5, none⟩ = some (.int .i64 s.l3) := SC.cell 5
              have e6 : U.cell? ⟨g, 6, none⟩ = some (Value.slice h.A3 s.rows.length h.c3) := SC.cell 6
              have e7 : U.cell? ⟨g, 7, none⟩ = some (Value.slice h.A4 s.frames.length h.c4) := SC.cell 7
              have e8 : U.cell? ⟨g, 8, none⟩ = some (Value.slice h.A5 s.tanks.length h.c5) := SC.cell 8
              have e9 : U.cell? ⟨g, 9, none⟩ = some (.int .i64 s.m0) := SC.cell 9
              have e10 : U.cell? ⟨g, 10, none⟩ = some (.int .i64 s.m1) := SC.cell 10
              have e11 : U.cell? ⟨g, 11, none⟩ = some (.int .i64 s.m2) := SC.cell 11
              have e12 : U.cell? ⟨g, 12, none⟩ = some (.int .i64 s.m3) := SC.cell 12
              have x0 : U.cell? ⟨ga, 0, none⟩ = some (.int .i64 a0) := SA.cell 0
              have x1 : U.cell? ⟨ga, 1, none⟩ = some (.int .i64 a1) := SA.cell 1
              have x2 : U.cell? ⟨ga, 2, none⟩ = some (.int .u8 (a2 : Nat)) := SA.cell 2
              have y0 : U.cell? ⟨gb, 0, none⟩ = some (.int .i64 b0) := SB.cell 0
              have y1 : U.cell? ⟨gb, 1, none⟩ = some (.int .i64 b1) := SB.cell 1
              have y2 : U.cell? ⟨gb, 2, none⟩ = some (.int .u8 (b2 : Nat)) := SB.cell 2
              clear SC SA SB
              go_wp2_with fail
              refine NN1.out.mono ?_
              rintro e U1 ⟨rfl, hb⟩
              simp only
              have HB1 := Lib.hid (HBZ.out.trans (hb.mono HBZ.out.size))
              clear hb NN1
              clear e0 e1 e2 e3 e4 e5 e6 e7 e8 e9 e10 e11 e12 x0 x1 x2 y0 y1 y2
              have SC := KG.out.below HB1.out KG.out.lt
              have SA := KA.out.below HB1.out KA.out.lt
              have SB := KB.out.below HB1.out KB.out.lt
              have e0 : U1.cell? ⟨g, 0, none⟩ = some (Value.slice h.A1 s.cols.length h.c1) := SC.cell 0
              have e1 : U1.cell? ⟨g, 1, none⟩ = some (Value.slice h.A2 s.covs.length h.c2) := SC.cell 1
              have e2 : U1.cell? ⟨g, 2, none⟩ = some (.int .i64 s.l0) := SC.cell 2
              have e3 : U1.cell? ⟨g, 3, none⟩ = some (.int .i64 s.l1) := SC.cell 3
              have e4 : U1.cell? ⟨g, 4, none⟩ = some (.int .i64 s.l2) := SC.cell 4
              have e5 : U1.cell? ⟨g, 5, none⟩ = some (.int .i64 s.l3) := SC.cell 5
              have e6 : U1.cell? ⟨g, 6, none⟩ = some (Value.slice h.A3 s.rows.length h.c3) := SC.cell 6
              have e7 : U1.cell? ⟨g, 7, none⟩ = some (Value.slice h.A4 s.frames.length h.c4) := SC.cell 7
              have e8 : U1.cell? ⟨g, 8, none⟩ = some (Value.slice h.A5 s.tanks.length h.c5) := SC.cell 8
              have e9 : U1.cell? ⟨g, 9, none⟩ = some (.int .i64 s.m0) := SC.cell 9
              have e10 : U1.cell? ⟨g, 10, none⟩ = some (.int .i64 s.m1) := SC.cell 10
              have e11 : U1.cell? ⟨g, 11, none⟩ = some (.int .i64 s.m2) := SC.cell 11
              have e12 : U1.cell? ⟨g, 12, none⟩ = some (.int .i64 s.m3) := SC.cell 12
              have x0 : U1.cell? ⟨ga, 0, none⟩ = some (.int .i64 a0) := SA.cell 0
              have x1 : U1.cell? ⟨ga, 1, none⟩ = some (.int .i64 a1) := SA.cell 1
              have x2 : U1.cell? ⟨ga, 2, none⟩ = some (.int .u8 (a2 : Nat)) := SA.cell 2
              have y0 : U1.cell? ⟨gb, 0, none⟩ = some (.int .i64 b0) := SB.cell 0
              have y1 : U1.cell? ⟨gb, 1, none⟩ = some (.int .i64 b1) := SB.cell 1
              have y2 : U1.cell? ⟨gb, 2, none⟩ = some (.int .u8 (b2 : Nat)) := SB.cell 2
              clear SC SA SB
              go_wp2_with fail
              refine (NN2.out U1 HB1.out).mono ?_
              rintro e U2 ⟨rfl, hb⟩
              simp only
              have HB2 := Lib.hid (HB1.out.trans (hb.mono HB1.out.size))
              clear hb NN2
              clear e0 e1 e2 e3 e4 e5 e6 e7 e8 e9 e10 e11 e12 x0 x1 x2 y0 y1 y2
              have SC := KG.out.below HB2.out KG.out.lt
              have SA := KA.out.below HB2.out KA.out.lt
              have SB := KB.out.below HB2.out KB.out.lt
              have e0 : U2.cell? ⟨g, 0, none⟩ = some (Value.slice h.A1 s.cols.length h.c1) := SC.cell 0
              have e1 : U2.cell? ⟨g, 1, none⟩ = some (Value.slice h.A2 s.covs.length h.c2) := SC.cell 1
              have e2 : U2.cell? ⟨g, 2, none⟩ = some (.int .i64 s.l0) := SC.cell 2
              have e3 : U2.cell? ⟨g, 3, none⟩ = some (.int .i64 s.l1) := SC.cell 3
              have e4 : U2.cell? ⟨g, 4, none⟩ = some (.int .i64 s.l2) := SC.cell 4
              have e5 : U2.cell? ⟨g, 5, none⟩ = some (.int .i64 s.l3) := SC.cell 5
              have e6 : U2.cell? ⟨g, 6, none⟩ = some (Value.slice h.A3 s.rows.length h.c3) := SC.cell 6
              have e7 : U2.cell? ⟨g, 7, none⟩ = some (Value.slice h.A4 s.frames.length h.c4) := SC.cell 7
              have e8 : U2.cell? ⟨g, 8, none⟩ = some (Value.slice h.A5 s.tanks.length h.c5) := SC.cell 8
              have e9 : U2.cell? ⟨g, 9, none⟩ = some (.int .i64 s.m0) := SC.cell 9
              have e10 : U2.cell? ⟨g, 10, none⟩ = some (.int .i64 s.m1) := SC.cell 10
              have e11 : U2.cell? ⟨g, 11, none⟩ = some (.int .i64 s.m2) := SC.cell 11
              have e12 : U2.cell? ⟨g, 12, none⟩ = some (.int .i64 s.m3) := SC.cell 12
              have x0 : U2.cell? ⟨ga, 0, none⟩ = some (.int .i64 a0) := SA.cell 0
              have x1 : U2.cell? ⟨ga, 1, none⟩ = some (.int .i64 a1) := SA.cell 1
              have x2 : U2.cell? ⟨ga, 2, none⟩ = some (.int .u8 (a2 : Nat)) := SA.cell 2
              have y0 : U2.cell? ⟨gb, 0, none⟩ = some (.int .i64 b0) := SB.cell 0
              have y1 : U2.cell? ⟨gb, 1, none⟩ = some (.int .i64 b1) := SB.cell 1
              have y2 : U2.cell? ⟨gb, 2, none⟩ = some (.int .u8 (b2 : Nat)) := SB.cell 2
              clear SC SA SB
              go_wp2_with fail
              refine (NN3.out U2 HB2.out).mono ?_
              rintro e U3 ⟨rfl, hb⟩
              simp only
              have HB3 := Lib.hid (HB2.out.trans (hb.mono HB2.out.size))
              clear hb NN3
              clear e0 e1 e2 e3 e4 e5 e6 e7 e8 e9 e10 e11 e12 x0 x1 x2 y0 y1 y2
              go_wp2_with fail
              go_roundw
              case rel => (first | exact ⟨6, by omega, by go_num, by rw [HWN.out], HB3⟩ | ((repeat apply Exists.intro); (first | exact ⟨⟨6, by omega, by go_num, by rw [HWN.out], HB3⟩, rfl⟩ | exact ⟨(show 6 ≤ 6 by omega), by go_num, by rw [HWN.out], HB3⟩)))
              case measure => simp [intOf]
      omega
end Go.Proofs.YtnbpecnddjpfbaaDoor
