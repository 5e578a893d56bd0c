/-
  The walk of twistlocklaw10.with.
-/
import Derived.Test.YtncfakkajknhaaaStRp
namespace Go.Proofs.Ytncfakkajknhaaa
open Go.RowKit

/-- What with leaves. -/
def WithRet (w : World) (bs : List Bx) (st : List Stw) (b : Bx) (x : Slt) (e : Ending) (w' : World) : Prop :=
  ∃ A c A2 c2, e = .returned (.tuple #[.slice A (bs.length + 1) c, .slice A2 (st.length + 1) c2]) ∧ SlT tBx w' (Lt w'.heap.size) A (bs ++ [b]) ∧ SlT tStw w' (Lt w'.heap.size) A2 (st ++ [⟨b.id, x⟩]) ∧ st.length + 1 ≤ c2 ∧ Below w.heap.size w w'
set_option maxRecDepth 100000 in
set_option maxHeartbeats 8000000 in
theorem with_any (A1 : Option Addr) (q1 : Nat) (bs : List Bx) (A3 : Option Addr) (q3 : Nat) (st : List Stw) (b : Bx) (x : Slt) (w : World) (hb : SlT tBx w (Lt w.heap.size) A1 bs) (hbl : bs.length ≤ 1000) (hs : SlT tStw w (Lt w.heap.size) A3 st) (hl : st.length ≤ 1000) :
    Calls Try.prog 17 #[.slice A1 bs.length q1, .slice A3 st.length q3, .agg (bxL b).toArray, .agg (sltL x).toArray] w (WithRet w bs st b x) := by
  obtain ⟨b0, b1, b2, b3, b4, b5, b6, b7, b8⟩ := b
  obtain ⟨xc, xt, xh⟩ := x
  have hbs := ba2 w (.cells (bxL ⟨b0, b1, b2, b3, b4, b5, b6, b7, b8⟩).toArray 43) (.cells (sltL ⟨xc, xt, xh⟩).toArray 47)
  have kB := (Bk.new w 43 (bxL ⟨b0, b1, b2, b3, b4, b5, b6, b7, b8⟩).toArray).alloc (.cells (sltL ⟨xc, xt, xh⟩).toArray 47)
  have kX : Bk ((w.alloc (.cells (bxL ⟨b0, b1, b2, b3, b4, b5, b6, b7, b8⟩).toArray 43)).alloc (.cells (sltL ⟨xc, xt, xh⟩).toArray 47)) (w.heap.size + 1) 47 (sltL ⟨xc, xt, xh⟩).toArray := Bk.at_ _ _ (by simp)
  have HB := Lib.hid (hb.on hbs)
  have HS := Lib.hid (hs.on hbs)
  have HKB := Lib.hid kB
  have HKX := Lib.hid kX
  have HBE := Lib.hid hbs
  clear hb hs hbs kB kX
  unfold bxL sltL at HB HS HKB HKX HBE
  unfold bxL sltL
  simp only at HB HS HKB HKX HBE
  simp only
  go_enter Try.func17, Try.ntmps17
  go_upto_region 1 with fail
  obtain ⟨gb, hgb⟩ : ∃ gb, gb = w.heap.size := ⟨_, rfl⟩
  rw [← hgb] at HKB HKX ⊢
  have HGB := Lib.hid hgb
  clear hgb
  generalize (World.alloc _ _) = W at *
  have y0 : W.cell? ⟨gb, 0, none⟩ = some (.int .i64 b0) := HKB.out.cell 0
  have y1 : W.cell? ⟨gb, 1, none⟩ = some (.string b1) := HKB.out.cell 1
  have y2 : W.cell? ⟨gb, 2, none⟩ = some (.int .u8 (b2 : Nat)) := HKB.out.cell 2
  have y3 : W.cell? ⟨gb, 3, none⟩ = some (.bool b3) := HKB.out.cell 3
  have y4 : W.cell? ⟨gb, 4, none⟩ = some (.int .i64 b4) := HKB.out.cell 4
  have y5 : W.cell? ⟨gb, 5, none⟩ = some (.int .i64 b5) := HKB.out.cell 5
  have y6 : W.cell? ⟨gb, 6, none⟩ = some (.int .i64 b6) := HKB.out.cell 6
  have y7 : W.cell? ⟨gb, 7, none⟩ = some (.int .u8 (b7 : Nat)) := HKB.out.cell 7
  have y8 : W.cell? ⟨gb, 8, none⟩ = some (.bool b8) := HKB.out.cell 8
  have x0 : W.cell? ⟨gb + 1, 0, none⟩ = some (.int .i64 xc) := HKX.out.cell 0
  have x1 : W.cell? ⟨gb + 1, 1, none⟩ = some (.int .i64 xt) := HKX.out.cell 1
  have x2 : W.cell? ⟨gb + 1, 2, none⟩ = some (.int .u8 (xh : Nat)) := HKX.out.cell 2
  have HSB : Hid (∀ V : World, Cb W V → Src tBx V (Lt W.heap.size) A1 bs.length bs) := Lib.hid fun V hV => (HB.out.below hV).src rfl (fun b hb => Nat.lt_of_lt_of_le hb (Below.size hV))
  have HSS : Hid (∀ V : World, Cb W V → Src tStw V (Lt W.heap.size) A3 st.length st) := Lib.hid fun V hV => (HS.out.below hV).src rfl (fun b hb => Nat.lt_of_lt_of_le hb (Below.size hV))
  refine wp_region_og [.sl 0 0 43 #[] W.heap.size,
    .val 1 (.slice A1 bs.length q1),
    .own tBx 43 W.heap.size (Lt W.heap.size) 2 bs,
    .val 3 (.agg #[.int .i64 b0, .string b1, .int .u8 (b2 : Nat), .bool b3, .int .i64 b4, .int .i64 b5, .int .i64 b6, .int .u8 (b7 : Nat), .bool b8]),
    .sl 4 1 43 #[.int .i64 b0, .string b1, .int .u8 (b2 : Nat), .bool b3, .int .i64 b4, .int .i64 b5, .int .i64 b6, .int .u8 (b7 : Nat), .bool b8] W.heap.size,
    .own tBx 43 W.heap.size (Lt W.heap.size) 5 (bs ++ [(⟨b0, b1, b2, b3, b4, b5, b6, b7, b8⟩ : Bx)]),
    .sl 6 0 61 #[] W.heap.size,
    .val 7 (.slice A3 st.length q3),
    .own tStw 61 W.heap.size (Lt W.heap.size) 8 st,
    .val 9 (.pointer (some ⟨gb, 0, none⟩)),
    .val 10 (.int .i64 b0),
    .val 11 (.agg #[.int .i64 xc, .int .i64 xt, .int .u8 (xh : Nat)]),
    .val 12 (.agg #[.int .i64 b0, .int .i64 xc, .int .i64 xt, .int .u8 (xh : Nat)]),
    .sl 13 1 61 #[.int .i64 b0, .int .i64 xc, .int .i64 xt, .int .u8 (xh : Nat)] W.heap.size,
    .own tStw 61 W.heap.size (Lt W.heap.size) 14 (st ++ [(⟨b0, ⟨xc, xt, xh⟩⟩ : Stw)]),
    .own tBx 43 W.heap.size (Lt W.heap.size) 15 (bs ++ [(⟨b0, b1, b2, b3, b4, b5, b6, b7, b8⟩ : Bx)]),
    .own tStw 61 W.heap.size (Lt W.heap.size) 16 (st ++ [(⟨b0, ⟨xc, xt, xh⟩⟩ : Stw)])]
    [[], [], [0, 1], [], [3], [2, 4], [], [], [6, 7], [], [9], [], [10, 11], [12], [8, 13], [5], [14]] [15, 16] (Cb W) (by kernel_rfl) (by kernel_rfl) (Cb.drew W) ⟨?_, ?_, ?_, ?_, ?_, ?_, ?_, ?_, ?_, ?_, ?_, ?_, ?_, ?_, ?_, ?_, ?_, trivial⟩ ?_
  case refine_1 =>
    refine StepL.up fun x V hV hu K Q hK => ?_
    clear hu
    rw [owp_eq]
    go_big_op
    exact hK _ _ (ba1 V _) ⟨_, rfl, Below.size hV, Bk.new V _ _⟩
  case refine_2 =>
    refine StepL.up fun x V hV hu K Q hK => ?_
    clear hu
    simp only [putL, List.set_cons_zero, List.set_cons_succ] at hK ⊢
    rw [owp_eq]
    go_big_op
    exact hK _ _ (Below.refl _ _) rfl
  case refine_3 =>
    refine StepL.wr [3, 4, 6, 7, 9, 10, 11, 12, 13] (by kernel_rfl) fun x V hV hu K Q hK => ?_
    obtain ⟨gd, ud, hgd, hkd⟩ := hu 0 (by decide)
    have HO := own_of_empty (T := tBx) hkd hgd
    have uj : x 1 = _ := hu 1 (by decide)
    have HSRC := HSB.out V hV
    clear hu
    simp only [putL, List.set_cons_zero, List.set_cons_succ] at hK ⊢
    refine wp_append_og el_bx (.tmp 10) (.tmp 11) rfl W.heap.size (Lt W.heap.size) _ _ ud HO _ _ _ _ rfl uj HSRC (by unfold maxLen; simp; omega) (by simp; omega) (Below.size hV) fun v' w' h1 h2 h3 => ?_
    refine hK v' _ (hV.app h3) h1 fun k hk' => ?_
    simp only [List.mem_cons, List.not_mem_nil, or_false] at hk'
    rcases hk' with rfl | rfl | rfl | rfl | rfl | rfl | rfl | rfl | rfl
    · exact fun h => h
    · rintro ⟨g', e', l', k'⟩; exact ⟨g', e', l', k'.stay h2 (fun q => (Bk.size_ne hkd k' (by simp)) (Option.some.inj q))⟩
    · rintro ⟨g', e', l', k'⟩; exact ⟨g', e', l', k'.stay h2 (HO.ne k' (by decide))⟩
    · exact fun h => h
    · exact fun h => h
    · exact fun h => h
    · exact fun h => h
    · exact fun h => h
    · rintro ⟨g', e', l', k'⟩; exact ⟨g', e', l', k'.stay h2 (HO.ne k' (by decide))⟩
  case refine_4 =>
    refine StepL.up fun x V hV hu K Q hK => ?_
    have fy0 := hV.cell y0
    have fy1 := hV.cell y1
    have fy2 := hV.cell y2
    have fy3 := hV.cell y3
    have fy4 := hV.cell y4
    have fy5 := hV.cell y5
    have fy6 := hV.cell y6
    have fy7 := hV.cell y7
    have fy8 := hV.cell y8
    clear hu
    simp only [putL, List.set_cons_zero, List.set_cons_succ] at hK ⊢
    rw [owp_eq]
    go_big_op
    exact hK _ _ (Below.refl _ _) rfl
  case refine_5 =>
    refine StepL.up fun x V hV hu K Q hK => ?_
    have u3 : x 3 = _ := hu 3 (by decide)
    clear hu
    simp only [putL, List.set_cons_zero, List.set_cons_succ] at hK ⊢
    rw [owp_eq]
    go_big_op
    exact hK _ _ (ba1 V _) ⟨_, rfl, Below.size hV, Bk.new V _ _⟩
  case refine_6 =>
    refine StepL.wr [6, 7, 9, 10, 11, 12, 13] (by kernel_rfl) fun x V hV hu K Q hK => ?_
    have HO : OwnS tBx 43 V W.heap.size (Lt W.heap.size) (x 2) _ := hu 2 (by decide)
    obtain ⟨gj, uj, hgj, hkj⟩ := hu 4 (by decide)
    have HSRC := Src.blk (T := tBx) (S := Lt W.heap.size) (ms := [(⟨b0, b1, b2, b3, b4, b5, b6, b7, b8⟩ : Bx)]) hkj (Flat.single rfl) rfl
    clear hu
    simp only [putL, List.set_cons_zero, List.set_cons_succ] at hK ⊢
    refine wp_append_og el_bx (.tmp 12) (.tmp 14) rfl W.heap.size (Lt W.heap.size) _ _ rfl HO _ _ _ [(⟨b0, b1, b2, b3, b4, b5, b6, b7, b8⟩ : Bx)] rfl uj HSRC (by unfold maxLen; simp; omega) (by simp; omega) (Below.size hV) fun v' w' h1 h2 h3 => ?_
    refine hK v' _ (hV.app h3) h1 fun k hk' => ?_
    simp only [List.mem_cons, List.not_mem_nil, or_false] at hk'
    rcases hk' with rfl | rfl | rfl | rfl | rfl | rfl | rfl
    · rintro ⟨g', e', l', k'⟩; exact ⟨g', e', l', k'.stay h2 (HO.ne k' (by decide))⟩
    · exact fun h => h
    · exact fun h => h
    · exact fun h => h
    · exact fun h => h
    · exact fun h => h
    · rintro ⟨g', e', l', k'⟩; exact ⟨g', e', l', k'.stay h2 (HO.ne k' (by decide))⟩
  case refine_7 =>
    refine StepL.up fun x V hV hu K Q hK => ?_
    clear hu
    simp only [putL, List.set_cons_zero, List.set_cons_succ] at hK ⊢
    rw [owp_eq]
    go_big_op
    exact hK _ _ (ba1 V _) ⟨_, rfl, Below.size hV, Bk.new V _ _⟩
  case refine_8 =>
    refine StepL.up fun x V hV hu K Q hK => ?_
    clear hu
    simp only [putL, List.set_cons_zero, List.set_cons_succ] at hK ⊢
    rw [owp_eq]
    go_big_op
    exact hK _ _ (Below.refl _ _) rfl
  case refine_9 =>
    refine StepL.wr [5, 9, 10, 11, 12, 13] (by kernel_rfl) fun x V hV hu K Q hK => ?_
    obtain ⟨gd, ud, hgd, hkd⟩ := hu 6 (by decide)
    have HO := own_of_empty (T := tStw) hkd hgd
    have uj : x 7 = _ := hu 7 (by decide)
    have HSRC := HSS.out V hV
    clear hu
    simp only [putL, List.set_cons_zero, List.set_cons_succ] at hK ⊢
    refine wp_append_og el_stw (.tmp 16) (.tmp 17) rfl W.heap.size (Lt W.heap.size) _ _ ud HO _ _ _ _ rfl uj HSRC (by unfold maxLen; simp; omega) (by simp; omega) (Below.size hV) fun v' w' h1 h2 h3 => ?_
    refine hK v' _ (hV.app h3) h1 fun k hk' => ?_
    simp only [List.mem_cons, List.not_mem_nil, or_false] at hk'
    rcases hk' with rfl | rfl | rfl | rfl | rfl | rfl
    · exact fun h => OwnS.stay h HO (by decide) h2
    · exact fun h => h
    · exact fun h => h
    · exact fun h => h
    · exact fun h => h
    · rintro ⟨g', e', l', k'⟩; exact ⟨g', e', l', k'.stay h2 (fun q => (Bk.size_ne hkd k' (by simp)) (Option.some.inj q))⟩
  case refine_10 =>
    refine StepL.up fun x V hV hu K Q hK => ?_
    clear hu
    simp only [putL, List.set_cons_zero, List.set_cons_succ] at hK ⊢
    rw [owp_eq]
    go_big_op
    exact hK _ _ (Below.refl _ _) rfl
  case refine_11 =>
    refine StepL.up fun x V hV hu K Q hK => ?_
    have u9 : x 9 = _ := hu 9 (by decide)
    have fy0 := hV.cell y0
    clear hu
    simp only [putL, List.set_cons_zero, List.set_cons_succ] at hK ⊢
    rw [owp_eq]
    go_big_op
    exact hK _ _ (Below.refl _ _) rfl
  case refine_12 =>
    refine StepL.up fun x V hV hu K Q hK => ?_
    have fx0 := hV.cell x0
    have fx1 := hV.cell x1
    have fx2 := hV.cell x2
    clear hu
    simp only [putL, List.set_cons_zero, List.set_cons_succ] at hK ⊢
    rw [owp_eq]
    go_big_op
    exact hK _ _ (Below.refl _ _) rfl
  case refine_13 =>
    refine StepL.up fun x V hV hu K Q hK => ?_
    have u10 : x 10 = _ := hu 10 (by decide)
    have u11 : x 11 = _ := hu 11 (by decide)
    clear hu
    simp only [putL, List.set_cons_zero, List.set_cons_succ] at hK ⊢
    rw [owp_eq]
    go_big_op
    exact hK _ _ (Below.refl _ _) rfl
  case refine_14 =>
    refine StepL.up fun x V hV hu K Q hK => ?_
    have u12 : x 12 = _ := hu 12 (by decide)
    clear hu
    simp only [putL, List.set_cons_zero, List.set_cons_succ] at hK ⊢
    rw [owp_eq]
    go_big_op
    exact hK _ _ (ba1 V _) ⟨_, rfl, Below.size hV, Bk.new V _ _⟩
  case refine_15 =>
    refine StepL.wr [5] (by kernel_rfl) fun x V hV hu K Q hK => ?_
    have HO : OwnS tStw 61 V W.heap.size (Lt W.heap.size) (x 8) _ := hu 8 (by decide)
    obtain ⟨gj, uj, hgj, hkj⟩ := hu 13 (by decide)
    have HSRC := Src.blk (T := tStw) (S := Lt W.heap.size) (ms := [(⟨b0, ⟨xc, xt, xh⟩⟩ : Stw)]) hkj (Flat.single rfl) rfl
    clear hu
    simp only [putL, List.set_cons_zero, List.set_cons_succ] at hK ⊢
    refine wp_append_og el_stw (.tmp 18) (.tmp 23) rfl W.heap.size (Lt W.heap.size) _ _ rfl HO _ _ _ [(⟨b0, ⟨xc, xt, xh⟩⟩ : Stw)] rfl uj HSRC (by unfold maxLen; simp; omega) (by simp; omega) (Below.size hV) fun v' w' h1 h2 h3 => ?_
    refine hK v' _ (hV.app h3) h1 fun k hk' => ?_
    simp only [List.mem_cons, List.not_mem_nil, or_false] at hk'
    subst hk'
    · exact fun h => OwnS.stay h HO (by decide) h2
  case refine_16 =>
    refine StepL.up fun x V hV hu K Q hK => ?_
    have h9 : OwnS tBx 43 V W.heap.size (Lt W.heap.size) (x 5) _ := hu 5 (by decide)
    clear hu
    simp only [putL, List.set_cons_zero, List.set_cons_succ] at hK ⊢
    rw [owp_eq]
    go_big_op
    exact hK _ _ (Below.refl _ _) h9
  case refine_17 =>
    refine StepL.up fun x V hV hu K Q hK => ?_
    have h9 : OwnS tStw 61 V W.heap.size (Lt W.heap.size) (x 14) _ := hu 14 (by decide)
    clear hu
    simp only [putL, List.set_cons_zero, List.set_cons_succ] at hK ⊢
    rw [owp_eq]
    go_big_op
    exact hK _ _ (Below.refl _ _) h9
  case refine_18 =>
    intro x V hV hA
    have h15 : OwnS tBx 43 V W.heap.size (Lt W.heap.size) (x 15) (bs ++ [(⟨b0, b1, b2, b3, b4, b5, b6, b7, b8⟩ : Bx)]) := hA 15 rfl (by decide)
    have h16 : OwnS tStw 61 V W.heap.size (Lt W.heap.size) (x 16) (st ++ [(⟨b0, ⟨xc, xt, xh⟩⟩ : Stw)]) := hA 16 rfl (by decide)
    simp only [layL, putL, List.set_cons_zero, List.set_cons_succ]
    obtain ⟨A5, c5, e5, _, _, hs5⟩ := h15.sl'
    obtain ⟨A6, c6, e6, h6, _, hs6⟩ := h16.sl'
    rw [e5, e6]
    have HF : Hid (WithRet w bs st (⟨b0, b1, b2, b3, b4, b5, b6, b7, b8⟩ : Bx) ⟨xc, xt, xh⟩ (.returned (.tuple #[.slice A5 (bs ++ [(⟨b0, b1, b2, b3, b4, b5, b6, b7, b8⟩ : Bx)]).length c5, .slice A6 (st ++ [(⟨b0, ⟨xc, xt, xh⟩⟩ : Stw)]).length c6])) V) := Lib.hid ⟨A5, c5, A6, c6, by simp, hs5, hs6, by simpa using h6, HBE.out.trans (Below.mono hV HBE.out.size)⟩
    clear hA h15 h16 e5 e6 hs5 hs6 h6 hV HSB HSS y0 y1 y2 y3 y4 y5 y6 y7 y8 x0 x1 x2
    generalize (bs ++ [(⟨b0, b1, b2, b3, b4, b5, b6, b7, b8⟩ : Bx)]).length = n1 at *
    generalize (st ++ [(⟨b0, ⟨xc, xt, xh⟩⟩ : Stw)]).length = n2 at *
    go_wp2_with fail
    go_ret2
    exact HF.out
end Go.Proofs.Ytncfakkajknhaaa
