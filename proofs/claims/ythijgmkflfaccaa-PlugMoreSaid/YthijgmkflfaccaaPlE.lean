/-
  The walks of plug.Spare, At.
-/
import Derived.Test.YthijgmkflfaccaaPlD
import Derived.Test.YthijgmkflfaccaaQg
namespace Go.Proofs.Ythijgmkflfaccaa
open Go.RowKit

set_option maxRecDepth 100000 in
set_option maxHeartbeats 2000000 in
theorem spare11 (x : Slt) (y : Stw) (gx : Nat) (w : World) (hx : Bk w gx 47 (sltL x).toArray) :
    Calls Try.prog 38 #[.agg (stwL y).toArray, .pointer (some ⟨gx, 0, none⟩)] w (Ret w (.bool (meetB x y.slot))) := by
  obtain ⟨x0, x1, x2⟩ := x
  obtain ⟨y0, y1, y2, y3⟩ := y
  have hb0 := ba1 w (.cells #[.int .i64 y0, .int .i64 y1, .int .i64 y2, .int .u8 (y3 : Nat)] 49)
  have KM := Lib.hid (meet_any ⟨x0, x1, x2⟩ ⟨y1, y2, y3⟩)
  unfold stwL sltL at *
  simp only at *
  have hgl := hx.lt
  have c0 : w.cell? ⟨gx, 0, none⟩ = some (.int .i64 x0) := hx.cell 0
  have c1 : w.cell? ⟨gx, 1, none⟩ = some (.int .i64 x1) := hx.cell 1
  have c2 : w.cell? ⟨gx, 2, none⟩ = some (.int .u8 (x2 : Nat)) := hx.cell 2
  generalize meetB ⟨x0, x1, x2⟩ ⟨y1, y2, y3⟩ = r at *
  have HB0 := Lib.hid hb0
  clear hb0 hx
  go_enter Try.func38, Try.ntmps38
  go_wp2_with fail
  refine (KM.out _).mono ?_
  rintro e w3 ⟨rfl, hb3⟩
  simp only
  clear KM
  go_wp2_with fail
  go_ret
  exact ⟨rfl, HB0.out.trans (hb3.mono HB0.out.size)⟩
/-- The map of pairs that operation i has laid. -/
def As.pairs (i : Nat) (L : List (Int × Int)) : As := ⟨[i], fun x w => ∃ b n, x i = .map (some b) ∧ Pairs w b n L, fun h ⟨b, n, e, r⟩ => ⟨b, n, (h i (by simp)).symm.trans e, r⟩, fun hb ⟨b, n, e, r⟩ => ⟨b, n, e, r.on hb⟩⟩
/-- A slice that operation i has laid. -/
def As.slT {α : Type} (T : Ty α) (i : Nat) (l : List α) : As := ⟨[i], fun x w => ∃ A c, x i = .slice A l.length c ∧ l.length ≤ c ∧ SlT T w (Lt w.heap.size) A l, fun h ⟨A, c, e, r⟩ => ⟨A, c, (h i (by simp)).symm.trans e, r⟩, fun hb ⟨A, c, e, h1, h2⟩ => ⟨A, c, e, h1, h2.on hb⟩⟩
set_option maxRecDepth 100000 in
set_option maxHeartbeats 8000000 in
theorem pAt_any (s : Shp) (h : Hd) (x : Slt) (w : World) (hsh : ShpR w (Lt w.heap.size) s h) (hf : Few s) (hi : Ints s) (hx : I64 x.col ∧ I64 x.tier) :
    Calls Try.prog 11 #[.agg (shpA s h), .agg (sltL x).toArray] w (Ret w (.bool (atF s x))) := by
  have hb0 := ba2 w (.cells (shpA s h) 37) (.cells (sltL x).toArray 47)
  have HB0 := Lib.hid hb0
  have hk1 := (Bk.new w 37 (shpA s h)).alloc (.cells (sltL x).toArray 47)
  have hk2 := Bk.at_ (w := w.alloc (.cells (shpA s h) 37)) (g := w.heap.size + 1) 47 (sltL x).toArray (by simp)
  have KR := Lib.hid (fun (V : World) (hV : Cb ((w.alloc (.cells (shpA s h) 37)).alloc (.cells (sltL x).toArray 47)) V) => slotRight_any s h x 20 V ((hsh.on hb0).on hV))
  have KR4 := Lib.hid (fun (V : World) (hV : Cb ((w.alloc (.cells (shpA s h) 37)).alloc (.cells (sltL x).toArray 47)) V) => slotRight_any s h x 40 V ((hsh.on hb0).on hV))
  have KP := Lib.hid (fun (V : World) (hV : Cb ((w.alloc (.cells (shpA s h) 37)).alloc (.cells (sltL x).toArray 47)) V) => plugs_any s h V ((hsh.on hb0).on hV) hf hi)
  have HR : Hid (atF s x = ((slotRight s x 20 || slotRight s x 40) && (pairsF s).contains (x.col, x.tier))) := Lib.hid rfl
  have HI := Lib.hid hx
  clear hsh hb0 hx
  obtain ⟨x0, x1, x2⟩ := x
  simp only at HR HI
  generalize hq : (pairsF s).contains (x0, x1) = q at *
  have HQ := Lib.hid hq
  clear hq
  generalize atF s ⟨x0, x1, x2⟩ = r at *
  generalize slotRight s ⟨x0, x1, x2⟩ 20 = r20 at *
  generalize slotRight s ⟨x0, x1, x2⟩ 40 = r40 at *
  unfold shpA sltL at *
  simp only at *
  go_enter Try.func11, Try.ntmps11
  go_upto_region 1 with fail
  generalize ((w.alloc _).alloc _) = W at *
  have y0 : W.cell? ⟨w.heap.size + 1, 0, none⟩ = some (.int .i64 x0) := hk2.cell 0
  have y1 : W.cell? ⟨w.heap.size + 1, 1, none⟩ = some (.int .i64 x1) := hk2.cell 1
  have y2 : W.cell? ⟨w.heap.size + 1, 2, none⟩ = some (.int .u8 (x2 : Nat)) := hk2.cell 2
  have e0 : W.cell? ⟨w.heap.size, 0, none⟩ = some (.slice h.A1 s.cols.length h.c1) := hk1.cell 0
  have e1 : W.cell? ⟨w.heap.size, 1, none⟩ = some (.slice h.A2 s.covs.length h.c2) := hk1.cell 1
  have e2 : W.cell? ⟨w.heap.size, 2, none⟩ = some (.int .i64 s.l0) := hk1.cell 2
  have e3 : W.cell? ⟨w.heap.size, 3, none⟩ = some (.int .i64 s.l1) := hk1.cell 3
  have e4 : W.cell? ⟨w.heap.size, 4, none⟩ = some (.int .i64 s.l2) := hk1.cell 4
  have e5 : W.cell? ⟨w.heap.size, 5, none⟩ = some (.int .i64 s.l3) := hk1.cell 5
  have e6 : W.cell? ⟨w.heap.size, 6, none⟩ = some (.slice h.A3 s.rows.length h.c3) := hk1.cell 6
  have e7 : W.cell? ⟨w.heap.size, 7, none⟩ = some (.slice h.A4 s.frames.length h.c4) := hk1.cell 7
  have e8 : W.cell? ⟨w.heap.size, 8, none⟩ = some (.slice h.A5 s.tanks.length h.c5) := hk1.cell 8
  have e9 : W.cell? ⟨w.heap.size, 9, none⟩ = some (.int .i64 s.m0) := hk1.cell 9
  have e10 : W.cell? ⟨w.heap.size, 10, none⟩ = some (.int .i64 s.m1) := hk1.cell 10
  have e11 : W.cell? ⟨w.heap.size, 11, none⟩ = some (.int .i64 s.m2) := hk1.cell 11
  have e12 : W.cell? ⟨w.heap.size, 12, none⟩ = some (.int .i64 s.m3) := hk1.cell 12
  clear hk1 hk2
  cases r20 with
  | true =>
    refine wp_region_ogG [.val 0 (.agg #[.slice h.A1 s.cols.length h.c1, .slice h.A2 s.covs.length h.c2, .int .i64 s.l0, .int .i64 s.l1, .int .i64 s.l2, .int .i64 s.l3, .slice h.A3 s.rows.length h.c3, .slice h.A4 s.frames.length h.c4, .slice h.A5 s.tanks.length h.c5, .int .i64 s.m0, .int .i64 s.m1, .int .i64 s.m2, .int .i64 s.m3]),
      .val 1 (.agg #[.int .i64 x0, .int .i64 x1, .int .u8 (x2 : Nat)]),
      .val 2 (.bool true),
      .val 3 (.bool true),
      .val 4 undef,
      .val 5 undef,
      .val 6 undef,
      .val 7 (.bool true),
      .val 8 (.bool true),
      .val 9 (.agg #[.slice h.A1 s.cols.length h.c1, .slice h.A2 s.covs.length h.c2, .int .i64 s.l0, .int .i64 s.l1, .int .i64 s.l2, .int .i64 s.l3, .slice h.A3 s.rows.length h.c3, .slice h.A4 s.frames.length h.c4, .slice h.A5 s.tanks.length h.c5, .int .i64 s.m0, .int .i64 s.m1, .int .i64 s.m2, .int .i64 s.m3]),
      .pairs 10 (pairsF s),
      .val 11 (.pointer (some ⟨w.heap.size + 1, 0, none⟩)),
      .val 12 (.int .i64 x0),
      .val 13 (.pointer (some ⟨w.heap.size + 1, 1, none⟩)),
      .val 14 (.int .i64 x1),
      .val 15 (.agg #[.int .i64 x0, .int .i64 x1]),
      .val 16 (.int .i64 (if q then 1 else 0)),
      .val 17 (.bool q),
      .val 18 (.bool q),
      .val 19 (.bool q)]
      [[], [], [0, 1], [2], [3], [3], [3], [3, 6], [7], [8], [8, 9], [8], [8, 11], [8], [8, 13], [8, 12, 14], [8, 10, 15], [8, 16], [8, 17], [18]] [19] (Cb W) (by kernel_rfl) (by kernel_rfl) (Cb.drew W) ⟨?_, ?_, ?_, ?_, ?_, ?_, ?_, ?_, ?_, ?_, ?_, ?_, ?_, ?_, ?_, ?_, ?_, ?_, ?_, ?_, trivial⟩ ?_
    case refine_1 =>
      refine StepG.of rfl ?_
      refine StepL.up fun x V hV hu K Q hK => ?_
      have fe0 := hV.cell e0
      have fe1 := hV.cell e1
      have fe2 := hV.cell e2
      have fe3 := hV.cell e3
      have fe4 := hV.cell e4
      have fe5 := hV.cell e5
      have fe6 := hV.cell e6
      have fe7 := hV.cell e7
      have fe8 := hV.cell e8
      have fe9 := hV.cell e9
      have fe10 := hV.cell e10
      have fe11 := hV.cell e11
      have fe12 := hV.cell e12
      clear hu
      rw [owp_eq]
      go_big_op
      exact hK _ _ (Below.refl _ _) rfl
    case refine_2 =>
      refine StepG.of rfl ?_
      refine StepL.up fun x V hV hu K Q hK => ?_
      have fy0 := hV.cell y0
      have fy1 := hV.cell y1
      have fy2 := hV.cell y2
      clear hu
      simp only [putL, List.set_cons_zero, List.set_cons_succ] at hK ⊢
      rw [owp_eq]
      go_big_op
      exact hK _ _ (Below.refl _ _) rfl
    case refine_3 =>
      refine StepG.of rfl ?_
      refine StepL.up fun x V hV hu K Q hK => ?_
      have u0 : x 0 = _ := hu 0 (by decide)
      have u1 : x 1 = _ := hu 1 (by decide)
      clear hu
      simp only [putL, List.set_cons_zero, List.set_cons_succ] at hK ⊢
      rw [owp_eq]
      go_big_op
      refine (KR.out V hV).mono ?_
      rintro e V' ⟨rfl, hb⟩
      exact hK _ _ hb rfl
    case refine_4 =>
      refine StepG.of rfl ?_
      refine StepL.up fun x V hV hu K Q hK => ?_
      have u2 : x 2 = _ := hu 2 (by decide)
      clear hu
      simp only [putL, List.set_cons_zero, List.set_cons_succ] at hK ⊢
      rw [owp_eq]
      go_big_op
      exact hK _ _ (Below.refl _ _) rfl
    case refine_5 =>
      exact StepG.no 3 false 8 (.bool true) rfl rfl (fun x => by simp only [putL, List.set_cons_zero, List.set_cons_succ]; rfl) rfl (fun x w h => h) (by simp) (fun x w => upd_same ..)
    case refine_6 =>
      exact StepG.no 3 false 8 (.bool true) rfl rfl (fun x => by simp only [putL, List.set_cons_zero, List.set_cons_succ]; rfl) rfl (fun x w h => h) (by simp) (fun x w => upd_same ..)
    case refine_7 =>
      exact StepG.no 3 false 8 (.bool true) rfl rfl (fun x => by simp only [putL, List.set_cons_zero, List.set_cons_succ]; rfl) rfl (fun x w h => h) (by simp) (fun x w => upd_same ..)
    case refine_8 =>
      refine StepG.of rfl ?_
      refine StepL.up fun x V hV hu K Q hK => ?_
      have u3 : x 3 = _ := hu 3 (by decide)
      have u6 : x 6 = _ := hu 6 (by decide)
      clear hu
      simp only [putL, List.set_cons_zero, List.set_cons_succ] at hK ⊢
      rw [owp_eq]
      go_big_op
      exact hK _ _ (Below.refl _ _) rfl
    case refine_9 =>
      refine StepG.of rfl ?_
      refine StepL.up fun x V hV hu K Q hK => ?_
      have u7 : x 7 = _ := hu 7 (by decide)
      clear hu
      simp only [putL, List.set_cons_zero, List.set_cons_succ] at hK ⊢
      rw [owp_eq]
      go_big_op
      exact hK _ _ (Below.refl _ _) rfl
    case refine_10 =>
      refine StepG.yes 8 true 13 rfl rfl (fun x => by simp only [putL, List.set_cons_zero, List.set_cons_succ]; rfl) rfl (fun x w h => h) ?_
      refine StepL.up fun x V hV hu K Q hK => ?_
      have u8 : x 8 = _ := hu 8 (by decide)
      have fe0 := hV.cell e0
      have fe1 := hV.cell e1
      have fe2 := hV.cell e2
      have fe3 := hV.cell e3
      have fe4 := hV.cell e4
      have fe5 := hV.cell e5
      have fe6 := hV.cell e6
      have fe7 := hV.cell e7
      have fe8 := hV.cell e8
      have fe9 := hV.cell e9
      have fe10 := hV.cell e10
      have fe11 := hV.cell e11
      have fe12 := hV.cell e12
      clear hu
      simp only [putL, List.set_cons_zero, List.set_cons_succ] at hK ⊢
      rw [owp_eq]
      go_big_op
      exact hK _ _ (Below.refl _ _) rfl
    case refine_11 =>
      refine StepG.yes 8 true 13 rfl rfl (fun x => by simp only [putL, List.set_cons_zero, List.set_cons_succ]; rfl) rfl (fun x w h => h) ?_
      refine StepL.up fun x V hV hu K Q hK => ?_
      have u8 : x 8 = _ := hu 8 (by decide)
      have u9 : x 9 = _ := hu 9 (by decide)
      clear hu
      simp only [putL, List.set_cons_zero, List.set_cons_succ] at hK ⊢
      rw [owp_eq]
      go_big_op
      refine (KP.out V hV).mono ?_
      rintro e V' ⟨bm, n, rfl, hm, hb⟩
      exact hK _ _ hb ⟨_, _, rfl, hm⟩
    case refine_12 =>
      refine StepG.yes 8 true 13 rfl rfl (fun x => by simp only [putL, List.set_cons_zero, List.set_cons_succ]; rfl) rfl (fun x w h => h) ?_
      refine StepL.up fun x V hV hu K Q hK => ?_
      have u8 : x 8 = _ := hu 8 (by decide)
      clear hu
      simp only [putL, List.set_cons_zero, List.set_cons_succ] at hK ⊢
      rw [owp_eq]
      go_big_op
      exact hK _ _ (Below.refl _ _) rfl
    case refine_13 =>
      refine StepG.yes 8 true 13 rfl rfl (fun x => by simp only [putL, List.set_cons_zero, List.set_cons_succ]; rfl) rfl (fun x w h => h) ?_
      refine StepL.up fun x V hV hu K Q hK => ?_
      have u8 : x 8 = _ := hu 8 (by decide)
      have u11 : x 11 = _ := hu 11 (by decide)
      have fy0 := hV.cell y0
      clear hu
      simp only [putL, List.set_cons_zero, List.set_cons_succ] at hK ⊢
      rw [owp_eq]
      go_big_op
      exact hK _ _ (Below.refl _ _) rfl
    case refine_14 =>
      refine StepG.yes 8 true 13 rfl rfl (fun x => by simp only [putL, List.set_cons_zero, List.set_cons_succ]; rfl) rfl (fun x w h => h) ?_
      refine StepL.up fun x V hV hu K Q hK => ?_
      have u8 : x 8 = _ := hu 8 (by decide)
      clear hu
      simp only [putL, List.set_cons_zero, List.set_cons_succ] at hK ⊢
      rw [owp_eq]
      go_big_op
      exact hK _ _ (Below.refl _ _) rfl
    case refine_15 =>
      refine StepG.yes 8 true 13 rfl rfl (fun x => by simp only [putL, List.set_cons_zero, List.set_cons_succ]; rfl) rfl (fun x w h => h) ?_
      refine StepL.up fun x V hV hu K Q hK => ?_
      have u8 : x 8 = _ := hu 8 (by decide)
      have u13 : x 13 = _ := hu 13 (by decide)
      have fy1 := hV.cell y1
      clear hu
      simp only [putL, List.set_cons_zero, List.set_cons_succ] at hK ⊢
      rw [owp_eq]
      go_big_op
      exact hK _ _ (Below.refl _ _) rfl
    case refine_16 =>
      refine StepG.yes 8 true 13 rfl rfl (fun x => by simp only [putL, List.set_cons_zero, List.set_cons_succ]; rfl) rfl (fun x w h => h) ?_
      refine StepL.up fun x V hV hu K Q hK => ?_
      have u8 : x 8 = _ := hu 8 (by decide)
      have u12 : x 12 = _ := hu 12 (by decide)
      have u14 : x 14 = _ := hu 14 (by decide)
      clear hu
      simp only [putL, List.set_cons_zero, List.set_cons_succ] at hK ⊢
      rw [owp_eq]
      go_big_op
      exact hK _ _ (Below.refl _ _) rfl
    case refine_17 =>
      refine StepG.yes 8 true 13 rfl rfl (fun x => by simp only [putL, List.set_cons_zero, List.set_cons_succ]; rfl) rfl (fun x w h => h) ?_
      refine StepL.up fun x V hV hu K Q hK => ?_
      obtain ⟨bm, n, u10, hm⟩ := hu 10 (by decide)
      have u15 : x 15 = _ := hu 15 (by decide)
      clear hu
      have hlk := pairs_look hm x0 x1 HI.out.1 HI.out.2
      rw [HQ.out] at hlk
      simp only [putL, List.set_cons_zero, List.set_cons_succ] at hK ⊢
      rw [owp_eq]
      go_big_op
      exact hK _ _ (Below.refl _ _) rfl
    case refine_18 =>
      refine StepG.yes 8 true 13 rfl rfl (fun x => by simp only [putL, List.set_cons_zero, List.set_cons_succ]; rfl) rfl (fun x w h => h) ?_
      refine StepL.up fun x V hV hu K Q hK => ?_
      have u16 : x 16 = _ := hu 16 (by decide)
      clear hu
      simp only [putL, List.set_cons_zero, List.set_cons_succ] at hK ⊢
      rw [owp_eq]
      cases q <;> (go_big_op; exact hK _ _ (Below.refl _ _) rfl)
    case refine_19 =>
      refine StepG.of rfl ?_
      refine StepL.up fun x V hV hu K Q hK => ?_
      have u8 : x 8 = _ := hu 8 (by decide)
      have u17 : x 17 = _ := hu 17 (by decide)
      clear hu
      simp only [putL, List.set_cons_zero, List.set_cons_succ] at hK ⊢
      rw [owp_eq]
      go_big_op
      exact hK _ _ (Below.refl _ _) rfl
    case refine_20 =>
      refine StepG.of rfl ?_
      refine StepL.up fun x V hV hu K Q hK => ?_
      have u18 : x 18 = _ := hu 18 (by decide)
      clear hu
      simp only [putL, List.set_cons_zero, List.set_cons_succ] at hK ⊢
      rw [owp_eq]
      go_big_op
      exact hK _ _ (Below.refl _ _) rfl
    case refine_21 =>
      intro x Y hV hA
      have h19 : x 19 = _ := hA 19 rfl (by decide)
      have HVY := Lib.hid hV
      clear hA hV
      simp only [layL, putL, List.set_cons_zero, List.set_cons_succ]
      rw [h19]
      go_wp2_with fail
      go_ret
      exact ⟨by rw [HR.out]; rfl, HB0.out.trans (Below.mono HVY.out HB0.out.size)⟩
  | false =>
    cases r40 with
    | true =>
      refine wp_region_ogG [.val 0 (.agg #[.slice h.A1 s.cols.length h.c1, .slice h.A2 s.covs.length h.c2, .int .i64 s.l0, .int .i64 s.l1, .int .i64 s.l2, .int .i64 s.l3, .slice h.A3 s.rows.length h.c3, .slice h.A4 s.frames.length h.c4, .slice h.A5 s.tanks.length h.c5, .int .i64 s.m0, .int .i64 s.m1, .int .i64 s.m2, .int .i64 s.m3]),
        .val 1 (.agg #[.int .i64 x0, .int .i64 x1, .int .u8 (x2 : Nat)]),
        .val 2 (.bool false),
        .val 3 (.bool false),
        .val 4 (.agg #[.slice h.A1 s.cols.length h.c1, .slice h.A2 s.covs.length h.c2, .int .i64 s.l0, .int .i64 s.l1, .int .i64 s.l2, .int .i64 s.l3, .slice h.A3 s.rows.length h.c3, .slice h.A4 s.frames.length h.c4, .slice h.A5 s.tanks.length h.c5, .int .i64 s.m0, .int .i64 s.m1, .int .i64 s.m2, .int .i64 s.m3]),
        .val 5 (.agg #[.int .i64 x0, .int .i64 x1, .int .u8 (x2 : Nat)]),
        .val 6 (.bool true),
        .val 7 (.bool true),
        .val 8 (.bool true),
        .val 9 (.agg #[.slice h.A1 s.cols.length h.c1, .slice h.A2 s.covs.length h.c2, .int .i64 s.l0, .int .i64 s.l1, .int .i64 s.l2, .int .i64 s.l3, .slice h.A3 s.rows.length h.c3, .slice h.A4 s.frames.length h.c4, .slice h.A5 s.tanks.length h.c5, .int .i64 s.m0, .int .i64 s.m1, .int .i64 s.m2, .int .i64 s.m3]),
        .pairs 10 (pairsF s),
        .val 11 (.pointer (some ⟨w.heap.size + 1, 0, none⟩)),
        .val 12 (.int .i64 x0),
        .val 13 (.pointer (some ⟨w.heap.size + 1, 1, none⟩)),
        .val 14 (.int .i64 x1),
        .val 15 (.agg #[.int .i64 x0, .int .i64 x1]),
        .val 16 (.int .i64 (if q then 1 else 0)),
        .val 17 (.bool q),
        .val 18 (.bool q),
        .val 19 (.bool q)]
        [[], [], [0, 1], [2], [3], [3], [3, 4, 5], [3, 6], [7], [8], [8, 9], [8], [8, 11], [8], [8, 13], [8, 12, 14], [8, 10, 15], [8, 16], [8, 17], [18]] [19] (Cb W) (by kernel_rfl) (by kernel_rfl) (Cb.drew W) ⟨?_, ?_, ?_, ?_, ?_, ?_, ?_, ?_, ?_, ?_, ?_, ?_, ?_, ?_, ?_, ?_, ?_, ?_, ?_, ?_, trivial⟩ ?_
      case refine_1 =>
        refine StepG.of rfl ?_
        refine StepL.up fun x V hV hu K Q hK => ?_
        have fe0 := hV.cell e0
        have fe1 := hV.cell e1
        have fe2 := hV.cell e2
        have fe3 := hV.cell e3
        have fe4 := hV.cell e4
        have fe5 := hV.cell e5
        have fe6 := hV.cell e6
        have fe7 := hV.cell e7
        have fe8 := hV.cell e8
        have fe9 := hV.cell e9
        have fe10 := hV.cell e10
        have fe11 := hV.cell e11
        have fe12 := hV.cell e12
        clear hu
        rw [owp_eq]
        go_big_op
        exact hK _ _ (Below.refl _ _) rfl
      case refine_2 =>
        refine StepG.of rfl ?_
        refine StepL.up fun x V hV hu K Q hK => ?_
        have fy0 := hV.cell y0
        have fy1 := hV.cell y1
        have fy2 := hV.cell y2
        clear hu
        simp only [putL, List.set_cons_zero, List.set_cons_succ] at hK ⊢
        rw [owp_eq]
        go_big_op
        exact hK _ _ (Below.refl _ _) rfl
      case refine_3 =>
        refine StepG.of rfl ?_
        refine StepL.up fun x V hV hu K Q hK => ?_
        have u0 : x 0 = _ := hu 0 (by decide)
        have u1 : x 1 = _ := hu 1 (by decide)
        clear hu
        simp only [putL, List.set_cons_zero, List.set_cons_succ] at hK ⊢
        rw [owp_eq]
        go_big_op
        refine (KR.out V hV).mono ?_
        rintro e V' ⟨rfl, hb⟩
        exact hK _ _ hb rfl
      case refine_4 =>
        refine StepG.of rfl ?_
        refine StepL.up fun x V hV hu K Q hK => ?_
        have u2 : x 2 = _ := hu 2 (by decide)
        clear hu
        simp only [putL, List.set_cons_zero, List.set_cons_succ] at hK ⊢
        rw [owp_eq]
        go_big_op
        exact hK _ _ (Below.refl _ _) rfl
      case refine_5 =>
        refine StepG.yes 3 false 8 rfl rfl (fun x => by simp only [putL, List.set_cons_zero, List.set_cons_succ]; rfl) rfl (fun x w h => h) ?_
        refine StepL.up fun x V hV hu K Q hK => ?_
        have u3 : x 3 = _ := hu 3 (by decide)
        have fe0 := hV.cell e0
        have fe1 := hV.cell e1
        have fe2 := hV.cell e2
        have fe3 := hV.cell e3
        have fe4 := hV.cell e4
        have fe5 := hV.cell e5
        have fe6 := hV.cell e6
        have fe7 := hV.cell e7
        have fe8 := hV.cell e8
        have fe9 := hV.cell e9
        have fe10 := hV.cell e10
        have fe11 := hV.cell e11
        have fe12 := hV.cell e12
        clear hu
        simp only [putL, List.set_cons_zero, List.set_cons_succ] at hK ⊢
        rw [owp_eq]
        go_big_op
        exact hK _ _ (Below.refl _ _) rfl
      case refine_6 =>
        refine StepG.yes 3 false 8 rfl rfl (fun x => by simp only [putL, List.set_cons_zero, List.set_cons_succ]; rfl) rfl (fun x w h => h) ?_
        refine StepL.up fun x V hV hu K Q hK => ?_
        have u3 : x 3 = _ := hu 3 (by decide)
        have fy0 := hV.cell y0
        have fy1 := hV.cell y1
        have fy2 := hV.cell y2
        clear hu
        simp only [putL, List.set_cons_zero, List.set_cons_succ] at hK ⊢
        rw [owp_eq]
        go_big_op
        exact hK _ _ (Below.refl _ _) rfl
      case refine_7 =>
        refine StepG.yes 3 false 8 rfl rfl (fun x => by simp only [putL, List.set_cons_zero, List.set_cons_succ]; rfl) rfl (fun x w h => h) ?_
        refine StepL.up fun x V hV hu K Q hK => ?_
        have u3 : x 3 = _ := hu 3 (by decide)
        have u4 : x 4 = _ := hu 4 (by decide)
        have u5 : x 5 = _ := hu 5 (by decide)
        clear hu
        simp only [putL, List.set_cons_zero, List.set_cons_succ] at hK ⊢
        rw [owp_eq]
        go_big_op
        refine (KR4.out V hV).mono ?_
        rintro e V' ⟨rfl, hb⟩
        exact hK _ _ hb rfl
      case refine_8 =>
        refine StepG.of rfl ?_
        refine StepL.up fun x V hV hu K Q hK => ?_
        have u3 : x 3 = _ := hu 3 (by decide)
        have u6 : x 6 = _ := hu 6 (by decide)
        clear hu
        simp only [putL, List.set_cons_zero, List.set_cons_succ] at hK ⊢
        rw [owp_eq]
        go_big_op
        exact hK _ _ (Below.refl _ _) rfl
      case refine_9 =>
        refine StepG.of rfl ?_
        refine StepL.up fun x V hV hu K Q hK => ?_
        have u7 : x 7 = _ := hu 7 (by decide)
        clear hu
        simp only [putL, List.set_cons_zero, List.set_cons_succ] at hK ⊢
        rw [owp_eq]
        go_big_op
        exact hK _ _ (Below.refl _ _) rfl
      case refine_10 =>
        refine StepG.yes 8 true 13 rfl rfl (fun x => by simp only [putL, List.set_cons_zero, List.set_cons_succ]; rfl) rfl (fun x w h => h) ?_
        refine StepL.up fun x V hV hu K Q hK => ?_
        have u8 : x 8 = _ := hu 8 (by decide)
        have fe0 := hV.cell e0
        have fe1 := hV.cell e1
        have fe2 := hV.cell e2
        have fe3 := hV.cell e3
        have fe4 := hV.cell e4
        have fe5 := hV.cell e5
        have fe6 := hV.cell e6
        have fe7 := hV.cell e7
        have fe8 := hV.cell e8
        have fe9 := hV.cell e9
        have fe10 := hV.cell e10
        have fe11 := hV.cell e11
        have fe12 := hV.cell e12
        clear hu
        simp only [putL, List.set_cons_zero, List.set_cons_succ] at hK ⊢
        rw [owp_eq]
        go_big_op
        exact hK _ _ (Below.refl _ _) rfl
      case refine_11 =>
        refine StepG.yes 8 true 13 rfl rfl (fun x => by simp only [putL, List.set_cons_zero, List.set_cons_succ]; rfl) rfl (fun x w h => h) ?_
        refine StepL.up fun x V hV hu K Q hK => ?_
        have u8 : x 8 = _ := hu 8 (by decide)
        have u9 : x 9 = _ := hu 9 (by decide)
        clear hu
        simp only [putL, List.set_cons_zero, List.set_cons_succ] at hK ⊢
        rw [owp_eq]
        go_big_op
        refine (KP.out V hV).mono ?_
        rintro e V' ⟨bm, n, rfl, hm, hb⟩
        exact hK _ _ hb ⟨_, _, rfl, hm⟩
      case refine_12 =>
        refine StepG.yes 8 true 13 rfl rfl (fun x => by simp only [putL, List.set_cons_zero, List.set_cons_succ]; rfl) rfl (fun x w h => h) ?_
        refine StepL.up fun x V hV hu K Q hK => ?_
        have u8 : x 8 = _ := hu 8 (by decide)
        clear hu
        simp only [putL, List.set_cons_zero, List.set_cons_succ] at hK ⊢
        rw [owp_eq]
        go_big_op
        exact hK _ _ (Below.refl _ _) rfl
      case refine_13 =>
        refine StepG.yes 8 true 13 rfl rfl (fun x => by simp only [putL, List.set_cons_zero, List.set_cons_succ]; rfl) rfl (fun x w h => h) ?_
        refine StepL.up fun x V hV hu K Q hK => ?_
        have u8 : x 8 = _ := hu 8 (by decide)
        have u11 : x 11 = _ := hu 11 (by decide)
        have fy0 := hV.cell y0
        clear hu
        simp only [putL, List.set_cons_zero, List.set_cons_succ] at hK ⊢
        rw [owp_eq]
        go_big_op
        exact hK _ _ (Below.refl _ _) rfl
      case refine_14 =>
        refine StepG.yes 8 true 13 rfl rfl (fun x => by simp only [putL, List.set_cons_zero, List.set_cons_succ]; rfl) rfl (fun x w h => h) ?_
        refine StepL.up fun x V hV hu K Q hK => ?_
        have u8 : x 8 = _ := hu 8 (by decide)
        clear hu
        simp only [putL, List.set_cons_zero, List.set_cons_succ] at hK ⊢
        rw [owp_eq]
        go_big_op
        exact hK _ _ (Below.refl _ _) rfl
      case refine_15 =>
        refine StepG.yes 8 true 13 rfl rfl (fun x => by simp only [putL, List.set_cons_zero, List.set_cons_succ]; rfl) rfl (fun x w h => h) ?_
        refine StepL.up fun x V hV hu K Q hK => ?_
        have u8 : x 8 = _ := hu 8 (by decide)
        have u13 : x 13 = _ := hu 13 (by decide)
        have fy1 := hV.cell y1
        clear hu
        simp only [putL, List.set_cons_zero, List.set_cons_succ] at hK ⊢
        rw [owp_eq]
        go_big_op
        exact hK _ _ (Below.refl _ _) rfl
      case refine_16 =>
        refine StepG.yes 8 true 13 rfl rfl (fun x => by simp only [putL, List.set_cons_zero, List.set_cons_succ]; rfl) rfl (fun x w h => h) ?_
        refine StepL.up fun x V hV hu K Q hK => ?_
        have u8 : x 8 = _ := hu 8 (by decide)
        have u12 : x 12 = _ := hu 12 (by decide)
        have u14 : x 14 = _ := hu 14 (by decide)
        clear hu
        simp only [putL, List.set_cons_zero, List.set_cons_succ] at hK ⊢
        rw [owp_eq]
        go_big_op
        exact hK _ _ (Below.refl _ _) rfl
      case refine_17 =>
        refine StepG.yes 8 true 13 rfl rfl (fun x => by simp only [putL, List.set_cons_zero, List.set_cons_succ]; rfl) rfl (fun x w h => h) ?_
        refine StepL.up fun x V hV hu K Q hK => ?_
        obtain ⟨bm, n, u10, hm⟩ := hu 10 (by decide)
        have u15 : x 15 = _ := hu 15 (by decide)
        clear hu
        have hlk := pairs_look hm x0 x1 HI.out.1 HI.out.2
        rw [HQ.out] at hlk
        simp only [putL, List.set_cons_zero, List.set_cons_succ] at hK ⊢
        rw [owp_eq]
        go_big_op
        exact hK _ _ (Below.refl _ _) rfl
      case refine_18 =>
        refine StepG.yes 8 true 13 rfl rfl (fun x => by simp only [putL, List.set_cons_zero, List.set_cons_succ]; rfl) rfl (fun x w h => h) ?_
        refine StepL.up fun x V hV hu K Q hK => ?_
        have u16 : x 16 = _ := hu 16 (by decide)
        clear hu
        simp only [putL, List.set_cons_zero, List.set_cons_succ] at hK ⊢
        rw [owp_eq]
        cases q <;> (go_big_op; exact hK _ _ (Below.refl _ _) rfl)
      case refine_19 =>
        refine StepG.of rfl ?_
        refine StepL.up fun x V hV hu K Q hK => ?_
        have u8 : x 8 = _ := hu 8 (by decide)
        have u17 : x 17 = _ := hu 17 (by decide)
        clear hu
        simp only [putL, List.set_cons_zero, List.set_cons_succ] at hK ⊢
        rw [owp_eq]
        go_big_op
        exact hK _ _ (Below.refl _ _) rfl
      case refine_20 =>
        refine StepG.of rfl ?_
        refine StepL.up fun x V hV hu K Q hK => ?_
        have u18 : x 18 = _ := hu 18 (by decide)
        clear hu
        simp only [putL, List.set_cons_zero, List.set_cons_succ] at hK ⊢
        rw [owp_eq]
        go_big_op
        exact hK _ _ (Below.refl _ _) rfl
      case refine_21 =>
        intro x Y hV hA
        have h19 : x 19 = _ := hA 19 rfl (by decide)
        have HVY := Lib.hid hV
        clear hA hV
        simp only [layL, putL, List.set_cons_zero, List.set_cons_succ]
        rw [h19]
        go_wp2_with fail
        go_ret
        exact ⟨by rw [HR.out]; rfl, HB0.out.trans (Below.mono HVY.out HB0.out.size)⟩
    | false =>
      refine wp_region_ogG [.val 0 (.agg #[.slice h.A1 s.cols.length h.c1, .slice h.A2 s.covs.length h.c2, .int .i64 s.l0, .int .i64 s.l1, .int .i64 s.l2, .int .i64 s.l3, .slice h.A3 s.rows.length h.c3, .slice h.A4 s.frames.length h.c4, .slice h.A5 s.tanks.length h.c5, .int .i64 s.m0, .int .i64 s.m1, .int .i64 s.m2, .int .i64 s.m3]),
        .val 1 (.agg #[.int .i64 x0, .int .i64 x1, .int .u8 (x2 : Nat)]),
        .val 2 (.bool false),
        .val 3 (.bool false),
        .val 4 (.agg #[.slice h.A1 s.cols.length h.c1, .slice h.A2 s.covs.length h.c2, .int .i64 s.l0, .int .i64 s.l1, .int .i64 s.l2, .int .i64 s.l3, .slice h.A3 s.rows.length h.c3, .slice h.A4 s.frames.length h.c4, .slice h.A5 s.tanks.length h.c5, .int .i64 s.m0, .int .i64 s.m1, .int .i64 s.m2, .int .i64 s.m3]),
        .val 5 (.agg #[.int .i64 x0, .int .i64 x1, .int .u8 (x2 : Nat)]),
        .val 6 (.bool false),
        .val 7 (.bool false),
        .val 8 (.bool false),
        .val 9 undef,
        .val 10 undef,
        .val 11 undef,
        .val 12 undef,
        .val 13 undef,
        .val 14 undef,
        .val 15 undef,
        .val 16 undef,
        .val 17 undef,
        .val 18 (.bool false),
        .val 19 (.bool false)]
        [[], [], [0, 1], [2], [3], [3], [3, 4, 5], [3, 6], [7], [8], [8], [8], [8], [8], [8], [8], [8], [8], [8, 17], [18]] [19] (Cb W) (by kernel_rfl) (by kernel_rfl) (Cb.drew W) ⟨?_, ?_, ?_, ?_, ?_, ?_, ?_, ?_, ?_, ?_, ?_, ?_, ?_, ?_, ?_, ?_, ?_, ?_, ?_, ?_, trivial⟩ ?_
      case refine_1 =>
        refine StepG.of rfl ?_
        refine StepL.up fun x V hV hu K Q hK => ?_
        have fe0 := hV.cell e0
        have fe1 := hV.cell e1
        have fe2 := hV.cell e2
        have fe3 := hV.cell e3
        have fe4 := hV.cell e4
        have fe5 := hV.cell e5
        have fe6 := hV.cell e6
        have fe7 := hV.cell e7
        have fe8 := hV.cell e8
        have fe9 := hV.cell e9
        have fe10 := hV.cell e10
        have fe11 := hV.cell e11
        have fe12 := hV.cell e12
        clear hu
        rw [owp_eq]
        go_big_op
        exact hK _ _ (Below.refl _ _) rfl
      case refine_2 =>
        refine StepG.of rfl ?_
        refine StepL.up fun x V hV hu K Q hK => ?_
        have fy0 := hV.cell y0
        have fy1 := hV.cell y1
        have fy2 := hV.cell y2
        clear hu
        simp only [putL, List.set_cons_zero, List.set_cons_succ] at hK ⊢
        rw [owp_eq]
        go_big_op
        exact hK _ _ (Below.refl _ _) rfl
      case refine_3 =>
        refine StepG.of rfl ?_
        refine StepL.up fun x V hV hu K Q hK => ?_
        have u0 : x 0 = _ := hu 0 (by decide)
        have u1 : x 1 = _ := hu 1 (by decide)
        clear hu
        simp only [putL, List.set_cons_zero, List.set_cons_succ] at hK ⊢
        rw [owp_eq]
        go_big_op
        refine (KR.out V hV).mono ?_
        rintro e V' ⟨rfl, hb⟩
        exact hK _ _ hb rfl
      case refine_4 =>
        refine StepG.of rfl ?_
        refine StepL.up fun x V hV hu K Q hK => ?_
        have u2 : x 2 = _ := hu 2 (by decide)
        clear hu
        simp only [putL, List.set_cons_zero, List.set_cons_succ] at hK ⊢
        rw [owp_eq]
        go_big_op
        exact hK _ _ (Below.refl _ _) rfl
      case refine_5 =>
        refine StepG.yes 3 false 8 rfl rfl (fun x => by simp only [putL, List.set_cons_zero, List.set_cons_succ]; rfl) rfl (fun x w h => h) ?_
        refine StepL.up fun x V hV hu K Q hK => ?_
        have u3 : x 3 = _ := hu 3 (by decide)
        have fe0 := hV.cell e0
        have fe1 := hV.cell e1
        have fe2 := hV.cell e2
        have fe3 := hV.cell e3
        have fe4 := hV.cell e4
        have fe5 := hV.cell e5
        have fe6 := hV.cell e6
        have fe7 := hV.cell e7
        have fe8 := hV.cell e8
        have fe9 := hV.cell e9
        have fe10 := hV.cell e10
        have fe11 := hV.cell e11
        have fe12 := hV.cell e12
        clear hu
        simp only [putL, List.set_cons_zero, List.set_cons_succ] at hK ⊢
        rw [owp_eq]
        go_big_op
        exact hK _ _ (Below.refl _ _) rfl
      case refine_6 =>
        refine StepG.yes 3 false 8 rfl rfl (fun x => by simp only [putL, List.set_cons_zero, List.set_cons_succ]; rfl) rfl (fun x w h => h) ?_
        refine StepL.up fun x V hV hu K Q hK => ?_
        have u3 : x 3 = _ := hu 3 (by decide)
        have fy0 := hV.cell y0
        have fy1 := hV.cell y1
        have fy2 := hV.cell y2
        clear hu
        simp only [putL, List.set_cons_zero, List.set_cons_succ] at hK ⊢
        rw [owp_eq]
        go_big_op
        exact hK _ _ (Below.refl _ _) rfl
      case refine_7 =>
        refine StepG.yes 3 false 8 rfl rfl (fun x => by simp only [putL, List.set_cons_zero, List.set_cons_succ]; rfl) rfl (fun x w h => h) ?_
        refine StepL.up fun x V hV hu K Q hK => ?_
        have u3 : x 3 = _ := hu 3 (by decide)
        have u4 : x 4 = _ := hu 4 (by decide)
        have u5 : x 5 = _ := hu 5 (by decide)
        clear hu
        simp only [putL, List.set_cons_zero, List.set_cons_succ] at hK ⊢
        rw [owp_eq]
        go_big_op
        refine (KR4.out V hV).mono ?_
        rintro e V' ⟨rfl, hb⟩
        exact hK _ _ hb rfl
      case refine_8 =>
        refine StepG.of rfl ?_
        refine StepL.up fun x V hV hu K Q hK => ?_
        have u3 : x 3 = _ := hu 3 (by decide)
        have u6 : x 6 = _ := hu 6 (by decide)
        clear hu
        simp only [putL, List.set_cons_zero, List.set_cons_succ] at hK ⊢
        rw [owp_eq]
        go_big_op
        exact hK _ _ (Below.refl _ _) rfl
      case refine_9 =>
        refine StepG.of rfl ?_
        refine StepL.up fun x V hV hu K Q hK => ?_
        have u7 : x 7 = _ := hu 7 (by decide)
        clear hu
        simp only [putL, List.set_cons_zero, List.set_cons_succ] at hK ⊢
        rw [owp_eq]
        go_big_op
        exact hK _ _ (Below.refl _ _) rfl
      case refine_10 =>
        exact StepG.no 8 true 13 (.bool false) rfl rfl (fun x => by simp only [putL, List.set_cons_zero, List.set_cons_succ]; rfl) rfl (fun x w h => h) (by simp) (fun x w => upd_same ..)
      case refine_11 =>
        exact StepG.no 8 true 13 (.bool false) rfl rfl (fun x => by simp only [putL, List.set_cons_zero, List.set_cons_succ]; rfl) rfl (fun x w h => h) (by simp) (fun x w => upd_same ..)
      case refine_12 =>
        exact StepG.no 8 true 13 (.bool false) rfl rfl (fun x => by simp only [putL, List.set_cons_zero, List.set_cons_succ]; rfl) rfl (fun x w h => h) (by simp) (fun x w => upd_same ..)
      case refine_13 =>
        exact StepG.no 8 true 13 (.bool false) rfl rfl (fun x => by simp only [putL, List.set_cons_zero, List.set_cons_succ]; rfl) rfl (fun x w h => h) (by simp) (fun x w => upd_same ..)
      case refine_14 =>
        exact StepG.no 8 true 13 (.bool false) rfl rfl (fun x => by simp only [putL, List.set_cons_zero, List.set_cons_succ]; rfl) rfl (fun x w h => h) (by simp) (fun x w => upd_same ..)
      case refine_15 =>
        exact StepG.no 8 true 13 (.bool false) rfl rfl (fun x => by simp only [putL, List.set_cons_zero, List.set_cons_succ]; rfl) rfl (fun x w h => h) (by simp) (fun x w => upd_same ..)
      case refine_16 =>
        exact StepG.no 8 true 13 (.bool false) rfl rfl (fun x => by simp only [putL, List.set_cons_zero, List.set_cons_succ]; rfl) rfl (fun x w h => h) (by simp) (fun x w => upd_same ..)
      case refine_17 =>
        exact StepG.no 8 true 13 (.bool false) rfl rfl (fun x => by simp only [putL, List.set_cons_zero, List.set_cons_succ]; rfl) rfl (fun x w h => h) (by simp) (fun x w => upd_same ..)
      case refine_18 =>
        exact StepG.no 8 true 13 (.bool false) rfl rfl (fun x => by simp only [putL, List.set_cons_zero, List.set_cons_succ]; rfl) rfl (fun x w h => h) (by simp) (fun x w => upd_same ..)
      case refine_19 =>
        refine StepG.of rfl ?_
        refine StepL.up fun x V hV hu K Q hK => ?_
        have u8 : x 8 = _ := hu 8 (by decide)
        have u17 : x 17 = _ := hu 17 (by decide)
        clear hu
        simp only [putL, List.set_cons_zero, List.set_cons_succ] at hK ⊢
        rw [owp_eq]
        go_big_op
        exact hK _ _ (Below.refl _ _) rfl
      case refine_20 =>
        refine StepG.of rfl ?_
        refine StepL.up fun x V hV hu K Q hK => ?_
        have u18 : x 18 = _ := hu 18 (by decide)
        clear hu
        simp only [putL, List.set_cons_zero, List.set_cons_succ] at hK ⊢
        rw [owp_eq]
        go_big_op
        exact hK _ _ (Below.refl _ _) rfl
      case refine_21 =>
        intro x Y hV hA
        have h19 : x 19 = _ := hA 19 rfl (by decide)
        have HVY := Lib.hid hV
        clear hA hV
        simp only [layL, putL, List.set_cons_zero, List.set_cons_succ]
        rw [h19]
        go_wp2_with fail
        go_ret
        exact ⟨by rw [HR.out]; rfl, HB0.out.trans (Below.mono HVY.out HB0.out.size)⟩
end Go.Proofs.Ythijgmkflfaccaa
