/-
  The slots of both sizes, one list behind the other (for SlotBack).
-/
import Derived.Test.YtdhhiaheonlldaaDoorSbM
import Derived.Test.YtdhhiaheonlldaaDoorSbQ
namespace Go.Proofs.YtdhhiaheonlldaaDoor
open Go.RowKit

theorem flat_slts {w w' : World} {S S' : Nat → Prop} : ∀ {xs : List Value} {l : List Slt}, Flat tSlt w S xs l → Flat tSlt w' S' xs l
  | _, [], h => h
  | _, _ :: _, ⟨cs, ys, e, h1, h2⟩ => ⟨cs, ys, e, h1, flat_slts h2⟩
theorem src_slt {w : World} {S : Nat → Prop} {A : Option Addr} {l : List Slt} (h : SlT tSlt w (Lt w.heap.size) A l) : Src tSlt w S A l.length l := by
  obtain ⟨ys, h1, h2⟩ := h.src rfl fun b hb => hb
  exact ⟨ys, flat_slts h1, h2⟩
theorem own_slts {w w' : World} {B : Nat} {v : Value} {l : List Slt} (hB : B ≤ w.heap.size) (h : OwnT tSlt 45 w' w.heap.size v l) (hb : Below w.heap.size w w') : OwnS tSlt 45 w' B (Lt B) v l := by
  obtain ⟨xs, ho, hf⟩ := h
  refine ⟨xs, own_mono ho hB, flat_slts hf, fun b hb' => ⟨Nat.lt_of_lt_of_le hb' (Nat.le_trans hB hb.size), fun e => ?_⟩⟩
  have h1 := (ho.lt b e.symm).1
  have h2 : b < B := hb'
  omega
set_option maxRecDepth 100000 in
set_option maxHeartbeats 4000000 in
theorem every_any (s : Shp) (h : Hd) (w : World) (hs : ShpR w (Lt w.heap.size) s h) (hl : s.cols.length ≤ 1000000) (hT : ∀ c, tiersN s c ≤ 1000000) (h20 : (allF s 20).length ≤ 1000000) (h40 : (allF s 40).length ≤ 1000000) :
    Calls Tryd.prog 5 #[.agg (shpA s h)] w (OwnSlt w (everyF s)) := by
  have HS := Lib.hid hs
  clear hs
  unfold shpA
  go_enter Tryd.func5, Tryd.ntmps5
  go_upto_region 1 with fail
  have KE := Lib.hid (Bk.new w 34 (shpA s h))
  have HB := Lib.hid (ba1 w (.cells (shpA s h) 34))
  unfold shpA at KE HB
  generalize hW : w.alloc (.cells _ 34) = W at *
  clear hW
  have K20 : Hid (∀ U : World, Cb W U → Calls Tryd.prog 10 #[.agg #[.slice h.A1 s.cols.length h.c1, .slice h.A2 s.covs.length h.c2, .int .i64 s.l0, .int .i64 s.l1, .int .i64 s.l2, .int .i64 s.l3, .slice h.A3 s.rows.length h.c3, .slice h.A4 s.frames.length h.c4, .slice h.A5 s.tanks.length h.c5, .int .i64 s.m0, .int .i64 s.m1, .int .i64 s.m2, .int .i64 s.m3], .int .u8 20] U (fun e w' => ∃ v, e = .returned v ∧ OwnS tSlt 45 w' W.heap.size (Lt W.heap.size) v (allF s 20) ∧ Below U.heap.size U w')) := Lib.hid fun U hU => by
    refine (all_any s h 20 U (HS.out.on (HB.out.trans (hU.mono HB.out.size))) hl hT h20).mono ?_
    rintro e w' ⟨v, rfl, ho, hb⟩
    exact ⟨v, rfl, own_slts hU.size ho hb, hb⟩
  have K40 : Hid (∀ U : World, Cb W U → Calls Tryd.prog 10 #[.agg #[.slice h.A1 s.cols.length h.c1, .slice h.A2 s.covs.length h.c2, .int .i64 s.l0, .int .i64 s.l1, .int .i64 s.l2, .int .i64 s.l3, .slice h.A3 s.rows.length h.c3, .slice h.A4 s.frames.length h.c4, .slice h.A5 s.tanks.length h.c5, .int .i64 s.m0, .int .i64 s.m1, .int .i64 s.m2, .int .i64 s.m3], .int .u8 40] U (fun e w' => ∃ v, e = .returned v ∧ OwnS tSlt 45 w' W.heap.size (Lt W.heap.size) v (allF s 40) ∧ Below U.heap.size U w')) := Lib.hid fun U hU => by
    refine (all_any s h 40 U (HS.out.on (HB.out.trans (hU.mono HB.out.size))) hl hT h40).mono ?_
    rintro e w' ⟨v, rfl, ho, hb⟩
    exact ⟨v, rfl, own_slts hU.size ho hb, hb⟩
  have e0 : W.cell? ⟨w.heap.size, 0, none⟩ = some (Value.slice h.A1 s.cols.length h.c1) := KE.out.cell 0
  have e1 : W.cell? ⟨w.heap.size, 1, none⟩ = some (Value.slice h.A2 s.covs.length h.c2) := KE.out.cell 1
  have e2 : W.cell? ⟨w.heap.size, 2, none⟩ = some (.int .i64 s.l0) := KE.out.cell 2
  have e3 : W.cell? ⟨w.heap.size, 3, none⟩ = some (.int .i64 s.l1) := KE.out.cell 3
  have e4 : W.cell? ⟨w.heap.size, 4, none⟩ = some (.int .i64 s.l2) := KE.out.cell 4
  have e5 : W.cell? ⟨w.heap.size, 5, none⟩ = some (.int .i64 s.l3) := KE.out.cell 5
  have e6 : W.cell? ⟨w.heap.size, 6, none⟩ = some (.slice h.A3 s.rows.length h.c3) := KE.out.cell 6
  have e7 : W.cell? ⟨w.heap.size, 7, none⟩ = some (.slice h.A4 s.frames.length h.c4) := KE.out.cell 7
  have e8 : W.cell? ⟨w.heap.size, 8, none⟩ = some (.slice h.A5 s.tanks.length h.c5) := KE.out.cell 8
  have e9 : W.cell? ⟨w.heap.size, 9, none⟩ = some (.int .i64 s.m0) := KE.out.cell 9
  have e10 : W.cell? ⟨w.heap.size, 10, none⟩ = some (.int .i64 s.m1) := KE.out.cell 10
  have e11 : W.cell? ⟨w.heap.size, 11, none⟩ = some (.int .i64 s.m2) := KE.out.cell 11
  have e12 : W.cell? ⟨w.heap.size, 12, none⟩ = some (.int .i64 s.m3) := KE.out.cell 12
  refine wp_region_og [.val 0 (.agg #[.slice h.A1 s.cols.length h.c1, .slice h.A2 s.covs.length h.c2, .int .i64 s.l0, .int .i64 s.l1, .int .i64 s.l2, .int .i64 s.l3, .slice h.A3 s.rows.length h.c3, .slice h.A4 s.frames.length h.c4, .slice h.A5 s.tanks.length h.c5, .int .i64 s.m0, .int .i64 s.m1, .int .i64 s.m2, .int .i64 s.m3]),
    .own tSlt 45 W.heap.size (Lt W.heap.size) 1 (allF s 20),
    .val 2 (.agg #[.slice h.A1 s.cols.length h.c1, .slice h.A2 s.covs.length h.c2, .int .i64 s.l0, .int .i64 s.l1, .int .i64 s.l2, .int .i64 s.l3, .slice h.A3 s.rows.length h.c3, .slice h.A4 s.frames.length h.c4, .slice h.A5 s.tanks.length h.c5, .int .i64 s.m0, .int .i64 s.m1, .int .i64 s.m2, .int .i64 s.m3]),
    .own tSlt 45 W.heap.size (Lt W.heap.size) 3 (allF s 40),
    .own tSlt 45 W.heap.size (Lt W.heap.size) 4 (everyF s),
    .own tSlt 45 W.heap.size (Lt W.heap.size) 5 (everyF s)]
    [[], [0], [], [2], [1, 3], [4]] [5] (Cb W) (by kernel_rfl) (by kernel_rfl) (Cb.drew W) ⟨?_, ?_, ?_, ?_, ?_, ?_, trivial⟩ ?_
  case refine_1 =>
    refine StepL.up fun x V hV hu K Q hK => ?_
    have fe0 := hV.cell e0
    have fe1 := hV.cell e1
    have fe2 := hV.cell e2
    have fe3 := hV.cell e3
    have fe4 := hV.cell e4
    have fe5 := hV.cell e5
    have fe6 := hV.cell e6
    have fe7 := hV.cell e7
    have fe8 := hV.cell e8
    have fe9 := hV.cell e9
    have fe10 := hV.cell e10
    have fe11 := hV.cell e11
    have fe12 := hV.cell e12
    clear hu
    rw [owp_eq]
    go_big_op
    exact hK _ _ (Below.refl _ _) rfl
  case refine_2 =>
    refine StepL.up fun x V hV hu K Q hK => ?_
    have u0 : x 0 = _ := hu 0 (by decide)
    clear hu
    simp only [putL, List.set_cons_zero, List.set_cons_succ] at hK ⊢
    rw [owp_eq]
    go_big_op
    refine (K20.out V hV).mono ?_
    rintro e V' ⟨v, rfl, ho, hb⟩
    exact hK _ _ hb ho
  case refine_3 =>
    refine StepL.up fun x V hV hu K Q hK => ?_
    have fe0 := hV.cell e0
    have fe1 := hV.cell e1
    have fe2 := hV.cell e2
    have fe3 := hV.cell e3
    have fe4 := hV.cell e4
    have fe5 := hV.cell e5
    have fe6 := hV.cell e6
    have fe7 := hV.cell e7
    have fe8 := hV.cell e8
    have fe9 := hV.cell e9
    have fe10 := hV.cell e10
    have fe11 := hV.cell e11
    have fe12 := hV.cell e12
    clear hu
    simp only [putL, List.set_cons_zero, List.set_cons_succ] at hK ⊢
    rw [owp_eq]
    go_big_op
    exact hK _ _ (Below.refl _ _) rfl
  case refine_4 =>
    refine StepL.up fun x V hV hu K Q hK => ?_
    have u2 : x 2 = _ := hu 2 (by decide)
    clear hu
    simp only [putL, List.set_cons_zero, List.set_cons_succ] at hK ⊢
    rw [owp_eq]
    go_big_op
    refine (K40.out V hV).mono ?_
    rintro e V' ⟨v, rfl, ho, hb⟩
    exact hK _ _ hb ho
  case refine_5 =>
    refine StepL.wr [] (by kernel_rfl) fun x V hV hu K Q hK => ?_
    have HO : OwnS tSlt 45 V W.heap.size (Lt W.heap.size) (x 1) _ := hu 1 (by decide)
    have HP : OwnS tSlt 45 V W.heap.size (Lt W.heap.size) (x 3) _ := hu 3 (by decide)
    obtain ⟨AP, cP, uP, _, _, hP⟩ := HP.sl'
    have HSRC : Src tSlt V (Lt W.heap.size) AP (allF s 40).length (allF s 40) := src_slt hP
    clear hu HP
    simp only [putL, List.set_cons_zero, List.set_cons_succ] at hK ⊢
    refine wp_append_og el_slt (.tmp 4) (.tmp 6) rfl W.heap.size (Lt W.heap.size) _ _ rfl HO _ _ _ _ rfl uP HSRC (by unfold maxLen; omega) (by omega) (Below.size hV) fun v' w' h1 h2 h3 => ?_
    refine hK v' _ (hV.app h3) h1 fun k hk' => ?_
    cases hk'
  case refine_6 =>
    refine StepL.up fun x V hV hu K Q hK => ?_
    have h9 : OwnS tSlt 45 V W.heap.size (Lt W.heap.size) (x 4) _ := hu 4 (by decide)
    clear hu
    simp only [putL, List.set_cons_zero, List.set_cons_succ] at hK ⊢
    rw [owp_eq]
    go_big_op
    exact hK _ _ (Below.refl _ _) h9
  case refine_7 =>
    refine fun x w' hC hx => ?_
    have HR : OwnS tSlt 45 w' W.heap.size (Lt W.heap.size) (x 5) _ := hx 5 (by decide) (by decide)
    clear hx
    simp only [layL, putL, List.set_cons_zero, List.set_cons_succ]
    go_wp2_with fail
    go_ret
    refine ⟨_, rfl, ?_, HB.out.trans (hC.mono HB.out.size)⟩
    obtain ⟨xs, ho, hf, _⟩ := HR
    exact ⟨xs, own_mono ho HB.out.size, flat_slts hf⟩
end Go.Proofs.YtdhhiaheonlldaaDoor
