/-
  The examples of the chapter of plugs hold.
-/
import Derived.Test.YtmkplemdnglhmaaPlS
namespace Go.Proofs.Ytmkplemdnglhmaa
open Go.RowKit

theorem ex12_a : stowRight s12 b12 l12 = true ∧ pfF s12 b12 l12 = [3] ∧ supF s12 = 3 ∧ demF b12 = 2 := by decide +kernel
theorem ex12_b : spareF s12 l12 20 = [⟨0, 0, 1⟩, ⟨0, 0, 2⟩] ∧ spareF s12 l12 40 = [⟨0, 0, 0⟩] ∧ atF s12 ⟨2, 1, 0⟩ = true ∧ atF s12 ⟨2, 2, 0⟩ = false ∧ (coldF b12 l12).length = 3 := by decide +kernel
theorem ex12_few : Few s12 := ⟨by decide, by decide, by decide, by decide⟩
theorem ex12_ints : Ints s12 := ⟨by unfold I64; decide⟩
theorem ex12_x : ∀ x ∈ l12, I64 x.slot.col ∧ I64 x.slot.tier := by unfold I64; decide
theorem ex12_T (c : Nat) : tiersN s12 c ≤ 1000000 := by
  unfold tiersN
  match c with
  | 0 => decide
  | 1 => decide
  | 2 => decide
  | 3 => decide
  | 4 => decide
  | c + 5 => rw [List.getD_eq_getElem?_getD, List.getElem?_eq_none (by show (5 : Nat) ≤ c + 5; omega)]; decide
/-- The data of the examples. -/
structure PA (w V : World) (g b rr cc p q gb gl : Nat) : Prop where
  bk : Bk V g 32 (shpA s12 (h12 b cc))
  so : Ex12 w V b rr cc p q
  bx : Bk V gb 37 b12A
  sx : Bk V gl 42 l12A
theorem PA.on {w V V' : World} {g b rr cc p q gb gl : Nat} (r : PA w V g b rr cc p q gb gl) (hb : Below V.heap.size V V') : PA w V' g b rr cc p q gb gl :=
  ⟨r.bk.below hb r.bk.lt, r.so.on hb, r.bx.below hb r.bx.lt, r.sx.below hb r.sx.lt⟩
theorem flat_bxs {w : World} {S : Nat → Prop} : ∀ l : List Bx, Flat tBx w S (l.flatMap bxL) l
  | [] => rfl
  | x :: l => ⟨_, _, by rw [List.flatMap_cons], rfl, flat_bxs l⟩
theorem flat_stws {w : World} {S : Nat → Prop} : ∀ l : List Stw, Flat tStw w S (l.flatMap stwL) l
  | [] => rfl
  | x :: l => ⟨_, _, by rw [List.flatMap_cons], rfl, flat_stws l⟩
theorem PA.bxs {w V : World} {g b rr cc p q gb gl : Nat} (r : PA w V g b rr cc p q gb gl) : SlT tBx V (Lt V.heap.size) (some ⟨gb, 0, none⟩) b12 := sl_flat r.bx (flat_bxs b12) r.bx.lt
theorem PA.sts {w V : World} {g b rr cc p q gb gl : Nat} (r : PA w V g b rr cc p q gb gl) : SlT tStw V (Lt V.heap.size) (some ⟨gl, 0, none⟩) l12 := sl_flat r.sx (flat_stws l12) r.sx.lt
theorem sl_intsP {V : World} {p : Nat} {l : List Int} {t : TypeId} {cs : Array Value} (h : Bk V p t cs) (hc : cs.toList = i64s l) : SlT tInt V (Lt V.heap.size) (some ⟨p, 0, none⟩) l := by
  refine sl_flat h ?_ h.lt
  rw [hc]
  have : ∀ l : List Int, Flat tInt V (Lt V.heap.size) (i64s l) l := fun l => by
    induction l with
    | nil => rfl
    | cons x l ih => exact ⟨[.int .i64 x], i64s l, rfl, rfl, ih⟩
  exact this l
theorem flat_slts {w : World} {S : Nat → Prop} : ∀ l : List Slt, Flat tSlt w S (l.flatMap sltL) l
  | [] => rfl
  | x :: l => ⟨_, _, by rw [List.flatMap_cons], rfl, flat_slts l⟩
theorem sl_slts {V : World} {p : Nat} {l : List Slt} {t : TypeId} {cs : Array Value} (h : Bk V p t cs) (hc : cs.toList = l.flatMap sltL) : SlT tSlt V (Lt V.heap.size) (some ⟨p, 0, none⟩) l := sl_flat h (by rw [hc]; exact flat_slts l) h.lt
set_option maxRecDepth 100000 in
set_option maxHeartbeats 8000000 in
theorem awake12_true (w : World) : Calls Try.prog 13 #[] w (TrueRet w) := by
  go_enter Try.func13, Try.ntmps13
  go_wp2_with fail
  refine (example12_any w).mono ?_
  rintro e w1 ⟨b, rr, cc, p, q, gb, gl, rfl, so1, kb1, kl1, -, -⟩
  simp only
  have HA : Hid (PA w (w1.alloc (.cells (shpA s12 (h12 b cc)) 32)) w1.heap.size b rr cc p q gb gl) := Lib.hid ⟨Bk.new w1 _ _, so1.on (ba1 w1 _), kb1.alloc _, kl1.alloc _⟩
  clear so1 kb1 kl1
  have K1 : Hid (∀ (V : World) (g : Nat), PA w V g b rr cc p q gb gl → Calls Try.prog 31 #[.agg (shpA s12 (h12 b cc)), .slice (some ⟨gb, 0, none⟩) 4 4, .slice (some ⟨gl, 0, none⟩) 4 4] V (fun e w' => Below V.heap.size V w' ∧ ∃ A c, e = .returned (.tuple #[.slice A 1 c, .int .i64 0]) ∧ SlT tInt w' (Lt w'.heap.size) A [3])) := Lib.hid fun V g h1 => by
    refine (pCheck_any s12 (h12 b cc) (some ⟨gb, 0, none⟩) 4 b12 (some ⟨gl, 0, none⟩) 4 l12 V h1.so.rd ex12_few ex12_ints (by decide) h1.bxs (by decide) h1.sts (by decide) (by decide) ex12_x).mono ?_
    rintro e w' ⟨hb, v, rfl, ho⟩
    rw [ex12_a.1, ex12_a.2.1] at ho
    simp only [if_true] at ho
    obtain ⟨A, c, rfl, _, _, hs⟩ := ho.sl
    exact ⟨hb, A, c, by rw [ex12_a.1]; rfl, hs⟩
  have KS : ∀ (size : Nat) (L : List Slt), spareF s12 l12 size = L → (allF s12 size).length ≤ 1000000 → Hid (∀ (V : World) (g : Nat), PA w V g b rr cc p q gb gl → Calls Try.prog 43 #[.agg (shpA s12 (h12 b cc)), .slice (some ⟨gl, 0, none⟩) 4 4, .int .u8 (size : Nat)] V (fun e w' => ∃ A c, e = .returned (.slice A L.length c) ∧ L.length ≤ c ∧ SlT tSlt w' (Lt w'.heap.size) A L ∧ Below V.heap.size V w')) := fun size L hL hN => Lib.hid fun V g h1 => by
    refine (pSpare_any s12 (h12 b cc) (some ⟨gl, 0, none⟩) 4 l12 size V h1.so.rd ex12_few ex12_ints (by decide) ex12_T hN h1.sts (by decide)).mono ?_
    rintro e w' ⟨v, rfl, ho, hb⟩
    rw [hL] at ho
    obtain ⟨A, c, rfl, hc, _, hs⟩ := ho.sl
    exact ⟨A, c, rfl, hc, hs, hb⟩
  have K2 := KS 20 _ ex12_b.1 (by decide +kernel)
  have K3 := KS 40 _ ex12_b.2.1 (by decide +kernel)
  have K4 : Hid (∀ (V : World) (g : Nat), PA w V g b rr cc p q gb gl → Calls Try.prog 38 #[.agg (shpA s12 (h12 b cc))] V (Ret V (.int .i64 3))) := Lib.hid fun V g h1 => by
    have := pSupply_any s12 (h12 b cc) V h1.so.rd ex12_few ex12_ints
    rw [ex12_a.2.2.1] at this
    exact this
  have K5 : Hid (∀ (V : World) (g : Nat), PA w V g b rr cc p q gb gl → Calls Try.prog 40 #[.slice (some ⟨gb, 0, none⟩) 4 4] V (Ret V (.int .i64 2))) := Lib.hid fun V g h1 => by
    have := pDemand_any (some ⟨gb, 0, none⟩) 4 b12 V h1.bxs (by decide)
    rw [ex12_a.2.2.2] at this
    exact this
  have K6 : Hid (∀ (V : World) (g : Nat), PA w V g b rr cc p q gb gl → Calls Try.prog 36 #[.agg (shpA s12 (h12 b cc)), .agg #[.int .i64 2, .int .i64 1, .int .u8 0]] V (Ret V (.bool true))) := Lib.hid fun V g h1 => by
    have := pAt_any s12 (h12 b cc) ⟨2, 1, 0⟩ V h1.so.rd ex12_few ex12_ints (by unfold I64; decide)
    rw [ex12_b.2.2.1] at this
    exact this
  have K7 : Hid (∀ (V : World) (g : Nat), PA w V g b rr cc p q gb gl → Calls Try.prog 36 #[.agg (shpA s12 (h12 b cc)), .agg #[.int .i64 2, .int .i64 2, .int .u8 0]] V (Ret V (.bool false))) := Lib.hid fun V g h1 => by
    have := pAt_any s12 (h12 b cc) ⟨2, 2, 0⟩ V h1.so.rd ex12_few ex12_ints (by unfold I64; decide)
    rw [ex12_b.2.2.2.1] at this
    exact this
  have K8 : Hid (∀ (V : World) (g : Nat), PA w V g b rr cc p q gb gl → Calls Try.prog 46 #[.slice (some ⟨gb, 0, none⟩) 4 4, .slice (some ⟨gl, 0, none⟩) 4 4] V (fun e w' => ∃ A c, e = .returned (.slice A 3 c) ∧ Below V.heap.size V w')) := Lib.hid fun V g h1 => by
    refine (pCold_any (some ⟨gb, 0, none⟩) 4 b12 (some ⟨gl, 0, none⟩) 4 l12 V h1.bxs (by decide) h1.sts (by decide)).mono ?_
    rintro e w' ⟨v, rfl, ho, hb⟩
    obtain ⟨A, c, rfl, hc, _, hs⟩ := ho.sl
    exact ⟨A, c, by rw [ex12_b.2.2.2.2], hb⟩
  clear KS
  rw [x12_s] at HA K1 K2 K3 K4 K6 K7 ⊢
  dsimp only [X12, List.length_cons, List.length_nil, Nat.zero_add, Nat.reduceAdd] at HA K1 K2 K3 K4 K6 K7 ⊢
  go_upto_region 2 with fail
  generalize w1.heap.size = g at *
  generalize (w1.alloc _) = V at *
  clear w1
  have e0 : V.cell? ⟨g, 0, none⟩ = some (.slice (some ⟨b, 0, none⟩) 5 5) := HA.out.bk.cell 0
  have e1 : V.cell? ⟨g, 1, none⟩ = some (.slice (some ⟨cc, 0, none⟩) 1 1) := HA.out.bk.cell 1
  have e2 : V.cell? ⟨g, 2, none⟩ = some (.int .i64 0) := HA.out.bk.cell 2
  have e3 : V.cell? ⟨g, 3, none⟩ = some (.int .i64 0) := HA.out.bk.cell 3
  have e4 : V.cell? ⟨g, 4, none⟩ = some (.int .i64 0) := HA.out.bk.cell 4
  have e5 : V.cell? ⟨g, 5, none⟩ = some (.int .i64 0) := HA.out.bk.cell 5
  have e6 : V.cell? ⟨g, 6, none⟩ = some (.slice none 0 0) := HA.out.bk.cell 6
  have e7 : V.cell? ⟨g, 7, none⟩ = some (.slice none 0 0) := HA.out.bk.cell 7
  have e8 : V.cell? ⟨g, 8, none⟩ = some (.slice none 0 0) := HA.out.bk.cell 8
  have e9 : V.cell? ⟨g, 9, none⟩ = some (.int .i64 0) := HA.out.bk.cell 9
  have e10 : V.cell? ⟨g, 10, none⟩ = some (.int .i64 0) := HA.out.bk.cell 10
  have e11 : V.cell? ⟨g, 11, none⟩ = some (.int .i64 0) := HA.out.bk.cell 11
  have e12 : V.cell? ⟨g, 12, none⟩ = some (.int .i64 0) := HA.out.bk.cell 12
  go_wp2_with fail
  refine (K1.out _ _ HA.out).mono ?_
  rintro e w2 ⟨hb, A4, c4, rfl, hs4⟩
  simp only
  clear K1 e0 e1 e2 e3 e4 e5 e6 e7 e8 e9 e10 e11 e12
  replace HA := Lib.hid (HA.out.on hb)
  have HS4 := Lib.hid hs4
  clear hs4 hb
  try clear V
  go_upto_region 3 with fail
  obtain ⟨V, rfl⟩ : ∃ V, V = w2 := ⟨_, rfl⟩
  have e0 : V.cell? ⟨g, 0, none⟩ = some (.slice (some ⟨b, 0, none⟩) 5 5) := HA.out.bk.cell 0
  have e1 : V.cell? ⟨g, 1, none⟩ = some (.slice (some ⟨cc, 0, none⟩) 1 1) := HA.out.bk.cell 1
  have e2 : V.cell? ⟨g, 2, none⟩ = some (.int .i64 0) := HA.out.bk.cell 2
  have e3 : V.cell? ⟨g, 3, none⟩ = some (.int .i64 0) := HA.out.bk.cell 3
  have e4 : V.cell? ⟨g, 4, none⟩ = some (.int .i64 0) := HA.out.bk.cell 4
  have e5 : V.cell? ⟨g, 5, none⟩ = some (.int .i64 0) := HA.out.bk.cell 5
  have e6 : V.cell? ⟨g, 6, none⟩ = some (.slice none 0 0) := HA.out.bk.cell 6
  have e7 : V.cell? ⟨g, 7, none⟩ = some (.slice none 0 0) := HA.out.bk.cell 7
  have e8 : V.cell? ⟨g, 8, none⟩ = some (.slice none 0 0) := HA.out.bk.cell 8
  have e9 : V.cell? ⟨g, 9, none⟩ = some (.int .i64 0) := HA.out.bk.cell 9
  have e10 : V.cell? ⟨g, 10, none⟩ = some (.int .i64 0) := HA.out.bk.cell 10
  have e11 : V.cell? ⟨g, 11, none⟩ = some (.int .i64 0) := HA.out.bk.cell 11
  have e12 : V.cell? ⟨g, 12, none⟩ = some (.int .i64 0) := HA.out.bk.cell 12
  refine wp_region_ogG [.val 0 (.agg #[.slice (some ⟨b, 0, none⟩) 5 5, .slice (some ⟨cc, 0, none⟩) 1 1, .int .i64 0, .int .i64 0, .int .i64 0, .int .i64 0, .slice none 0 0, .slice none 0 0, .slice none 0 0, .int .i64 0, .int .i64 0, .int .i64 0, .int .i64 0]),
    .val 1 (.slice (some ⟨gl, 0, none⟩) 4 4),
    .slT tSlt 2 [⟨0, 0, 1⟩, ⟨0, 0, 2⟩],
    .val 3 (.agg #[.slice (some ⟨b, 0, none⟩) 5 5, .slice (some ⟨cc, 0, none⟩) 1 1, .int .i64 0, .int .i64 0, .int .i64 0, .int .i64 0, .slice none 0 0, .slice none 0 0, .slice none 0 0, .int .i64 0, .int .i64 0, .int .i64 0, .int .i64 0]),
    .val 4 (.slice (some ⟨gl, 0, none⟩) 4 4),
    .slT tSlt 5 [⟨0, 0, 0⟩],
    .slT tSlt 6 [⟨0, 0, 1⟩, ⟨0, 0, 2⟩],
    .slT tSlt 7 [⟨0, 0, 0⟩]]
    [[], [], [0, 1], [], [], [3, 4], [2], [5]] [6, 7] (Cb V) (by kernel_rfl) (by kernel_rfl) (Cb.drew V) ⟨?_, ?_, ?_, ?_, ?_, ?_, ?_, ?_, trivial⟩ ?_
  case refine_1 =>
    refine StepG.of rfl ?_
    refine StepL.up fun x V hV hu K Q hK => ?_
    have fe0 := hV.cell e0
    have fe1 := hV.cell e1
    have fe2 := hV.cell e2
    have fe3 := hV.cell e3
    have fe4 := hV.cell e4
    have fe5 := hV.cell e5
    have fe6 := hV.cell e6
    have fe7 := hV.cell e7
    have fe8 := hV.cell e8
    have fe9 := hV.cell e9
    have fe10 := hV.cell e10
    have fe11 := hV.cell e11
    have fe12 := hV.cell e12
    clear hu
    rw [owp_eq]
    go_big_op
    exact hK _ _ (Below.refl _ _) rfl
  case refine_2 =>
    refine StepG.of rfl ?_
    refine StepL.up fun x V hV hu K Q hK => ?_
    clear hu
    simp only [putL, List.set_cons_zero, List.set_cons_succ] at hK ⊢
    rw [owp_eq]
    go_big_op
    exact hK _ _ (Below.refl _ _) rfl
  case refine_3 =>
    refine StepG.of rfl ?_
    refine StepL.up fun x V hV hu K Q hK => ?_
    have u0 : x 0 = _ := hu 0 (by decide)
    have u1 : x 1 = _ := hu 1 (by decide)
    clear hu
    simp only [putL, List.set_cons_zero, List.set_cons_succ] at hK ⊢
    rw [owp_eq]
    go_big_op
    refine (K2.out V _ (HA.out.on hV)).mono ?_
    rintro e V' ⟨A, c, rfl, hc, hs, hb⟩
    exact hK _ _ hb ⟨A, c, rfl, hc, hs⟩
  case refine_4 =>
    refine StepG.of rfl ?_
    refine StepL.up fun x V hV hu K Q hK => ?_
    have fe0 := hV.cell e0
    have fe1 := hV.cell e1
    have fe2 := hV.cell e2
    have fe3 := hV.cell e3
    have fe4 := hV.cell e4
    have fe5 := hV.cell e5
    have fe6 := hV.cell e6
    have fe7 := hV.cell e7
    have fe8 := hV.cell e8
    have fe9 := hV.cell e9
    have fe10 := hV.cell e10
    have fe11 := hV.cell e11
    have fe12 := hV.cell e12
    clear hu
    simp only [putL, List.set_cons_zero, List.set_cons_succ] at hK ⊢
    rw [owp_eq]
    go_big_op
    exact hK _ _ (Below.refl _ _) rfl
  case refine_5 =>
    refine StepG.of rfl ?_
    refine StepL.up fun x V hV hu K Q hK => ?_
    clear hu
    simp only [putL, List.set_cons_zero, List.set_cons_succ] at hK ⊢
    rw [owp_eq]
    go_big_op
    exact hK _ _ (Below.refl _ _) rfl
  case refine_6 =>
    refine StepG.of rfl ?_
    refine StepL.up fun x V hV hu K Q hK => ?_
    have u3 : x 3 = _ := hu 3 (by decide)
    have u4 : x 4 = _ := hu 4 (by decide)
    clear hu
    simp only [putL, List.set_cons_zero, List.set_cons_succ] at hK ⊢
    rw [owp_eq]
    go_big_op
    refine (K3.out V _ (HA.out.on hV)).mono ?_
    rintro e V' ⟨A, c, rfl, hc, hs, hb⟩
    exact hK _ _ hb ⟨A, c, rfl, hc, hs⟩
  case refine_7 =>
    refine StepG.of rfl ?_
    refine StepL.up fun x V hV hu K Q hK => ?_
    obtain ⟨A, c, u2, hc, hs⟩ := hu 2 (by decide)
    clear hu
    simp only [putL, List.set_cons_zero, List.set_cons_succ] at hK ⊢
    rw [owp_eq]
    go_big_op
    exact hK _ _ (Below.refl _ _) ⟨A, c, by rw [upd_same]; rfl, hc, hs⟩
  case refine_8 =>
    refine StepG.of rfl ?_
    refine StepL.up fun x V hV hu K Q hK => ?_
    obtain ⟨A, c, u5, hc, hs⟩ := hu 5 (by decide)
    clear hu
    simp only [putL, List.set_cons_zero, List.set_cons_succ] at hK ⊢
    rw [owp_eq]
    go_big_op
    exact hK _ _ (Below.refl _ _) ⟨A, c, by rw [upd_same]; rfl, hc, hs⟩
  case refine_9 =>
    intro x Y hV hA
    obtain ⟨A6, c6, h6, hc6, hs6⟩ := hA 6 rfl (by decide)
    obtain ⟨A7, c7, h7, hc7, hs7⟩ := hA 7 rfl (by decide)
    have hVY : Below V.heap.size V Y := hV
    replace HA := Lib.hid (HA.out.on hVY)
    replace HS4 := Lib.hid (HS4.out.on hVY)
    have HS6 := Lib.hid hs6
    have HS7 := Lib.hid hs7
    clear hA hV hVY hs6 hs7 K2 K3 e0 e1 e2 e3 e4 e5 e6 e7 e8 e9 e10 e11 e12
    simp only [layL, putL, List.set_cons_zero, List.set_cons_succ]
    rw [h6, h7]
    clear h6 h7
    try clear V
    obtain ⟨V, rfl⟩ : ∃ V, V = Y := ⟨_, rfl⟩
    go_wp2_with fail
    refine (sameInts_any A4 (some ⟨V.heap.size, 0, none⟩) c4 1 [3] [3] _ _ _ (HS4.out.on (ba1 V _)) (sl_intsP (Bk.new V _ _) rfl) (by decide)).mono ?_
    rintro e W ⟨rfl, m, hW⟩
    simp only [decide_true]
    have hb : Below V.heap.size V W := by rw [hW]; exact below_drewN (ba1 V _) m
    replace HA := Lib.hid (HA.out.on hb)
    replace HS6 := Lib.hid (HS6.out.on hb)
    replace HS7 := Lib.hid (HS7.out.on hb)
    clear hb hW HS4
    try clear V
    obtain ⟨V, rfl⟩ : ∃ V, V = W := ⟨_, rfl⟩
    have e0 : V.cell? ⟨g, 0, none⟩ = some (.slice (some ⟨b, 0, none⟩) 5 5) := HA.out.bk.cell 0
    have e1 : V.cell? ⟨g, 1, none⟩ = some (.slice (some ⟨cc, 0, none⟩) 1 1) := HA.out.bk.cell 1
    have e2 : V.cell? ⟨g, 2, none⟩ = some (.int .i64 0) := HA.out.bk.cell 2
    have e3 : V.cell? ⟨g, 3, none⟩ = some (.int .i64 0) := HA.out.bk.cell 3
    have e4 : V.cell? ⟨g, 4, none⟩ = some (.int .i64 0) := HA.out.bk.cell 4
    have e5 : V.cell? ⟨g, 5, none⟩ = some (.int .i64 0) := HA.out.bk.cell 5
    have e6 : V.cell? ⟨g, 6, none⟩ = some (.slice none 0 0) := HA.out.bk.cell 6
    have e7 : V.cell? ⟨g, 7, none⟩ = some (.slice none 0 0) := HA.out.bk.cell 7
    have e8 : V.cell? ⟨g, 8, none⟩ = some (.slice none 0 0) := HA.out.bk.cell 8
    have e9 : V.cell? ⟨g, 9, none⟩ = some (.int .i64 0) := HA.out.bk.cell 9
    have e10 : V.cell? ⟨g, 10, none⟩ = some (.int .i64 0) := HA.out.bk.cell 10
    have e11 : V.cell? ⟨g, 11, none⟩ = some (.int .i64 0) := HA.out.bk.cell 11
    have e12 : V.cell? ⟨g, 12, none⟩ = some (.int .i64 0) := HA.out.bk.cell 12
    go_wp2_with fail
    refine (K4.out _ _ HA.out).mono ?_
    rintro e W ⟨rfl, hb⟩
    simp only
    clear K4 e0 e1 e2 e3 e4 e5 e6 e7 e8 e9 e10 e11 e12
    replace HA := Lib.hid (HA.out.on hb)
    replace HS6 := Lib.hid (HS6.out.on hb)
    replace HS7 := Lib.hid (HS7.out.on hb)
    clear hb
    try clear V
    go_wp2_with fail
    refine (K5.out _ _ HA.out).mono ?_
    rintro e V ⟨rfl, hb⟩
    simp only
    clear K5
    replace HA := Lib.hid (HA.out.on hb)
    replace HS6 := Lib.hid (HS6.out.on hb)
    replace HS7 := Lib.hid (HS7.out.on hb)
    clear hb
    try clear W
    go_wp2_with fail
    refine (sameSlots_any A6 (some ⟨V.heap.size, 0, none⟩) c6 2 [⟨0, 0, 1⟩, ⟨0, 0, 2⟩] [⟨0, 0, 1⟩, ⟨0, 0, 2⟩] _ (HS6.out.on (ba1 V _)) (sl_slts (Bk.new V _ _) rfl) (by decide)).mono ?_
    rintro e W ⟨rfl, hb⟩
    simp only [decide_true]
    have hb1 := (ba1 V (.cells #[.int .i64 0, .int .i64 0, .int .u8 1, .int .i64 0, .int .i64 0, .int .u8 2] 40)).trans (hb.mono (ba1 V (.cells #[.int .i64 0, .int .i64 0, .int .u8 1, .int .i64 0, .int .i64 0, .int .u8 2] 40)).size)
    replace HA := Lib.hid (HA.out.on hb1)
    replace HS7 := Lib.hid (HS7.out.on hb1)
    clear hb hb1 HS6
    try clear V
    go_wp2_with fail
    refine (sameSlots_any A7 (some ⟨W.heap.size, 0, none⟩) c7 1 [⟨0, 0, 0⟩] [⟨0, 0, 0⟩] _ (HS7.out.on (ba1 W _)) (sl_slts (Bk.new W _ _) rfl) (by decide)).mono ?_
    rintro e V ⟨rfl, hb⟩
    simp only [decide_true]
    have hb1 := (ba1 W (.cells #[.int .i64 0, .int .i64 0, .int .u8 0] 40)).trans (hb.mono (ba1 W (.cells #[.int .i64 0, .int .i64 0, .int .u8 0] 40)).size)
    replace HA := Lib.hid (HA.out.on hb1)
    clear hb hb1 HS7
    try clear W
    have e0 : V.cell? ⟨g, 0, none⟩ = some (.slice (some ⟨b, 0, none⟩) 5 5) := HA.out.bk.cell 0
    have e1 : V.cell? ⟨g, 1, none⟩ = some (.slice (some ⟨cc, 0, none⟩) 1 1) := HA.out.bk.cell 1
    have e2 : V.cell? ⟨g, 2, none⟩ = some (.int .i64 0) := HA.out.bk.cell 2
    have e3 : V.cell? ⟨g, 3, none⟩ = some (.int .i64 0) := HA.out.bk.cell 3
    have e4 : V.cell? ⟨g, 4, none⟩ = some (.int .i64 0) := HA.out.bk.cell 4
    have e5 : V.cell? ⟨g, 5, none⟩ = some (.int .i64 0) := HA.out.bk.cell 5
    have e6 : V.cell? ⟨g, 6, none⟩ = some (.slice none 0 0) := HA.out.bk.cell 6
    have e7 : V.cell? ⟨g, 7, none⟩ = some (.slice none 0 0) := HA.out.bk.cell 7
    have e8 : V.cell? ⟨g, 8, none⟩ = some (.slice none 0 0) := HA.out.bk.cell 8
    have e9 : V.cell? ⟨g, 9, none⟩ = some (.int .i64 0) := HA.out.bk.cell 9
    have e10 : V.cell? ⟨g, 10, none⟩ = some (.int .i64 0) := HA.out.bk.cell 10
    have e11 : V.cell? ⟨g, 11, none⟩ = some (.int .i64 0) := HA.out.bk.cell 11
    have e12 : V.cell? ⟨g, 12, none⟩ = some (.int .i64 0) := HA.out.bk.cell 12
    go_wp2_with fail
    refine (K6.out _ _ HA.out).mono ?_
    rintro e W ⟨rfl, hb⟩
    simp only
    clear K6 e0 e1 e2 e3 e4 e5 e6 e7 e8 e9 e10 e11 e12
    replace HA := Lib.hid (HA.out.on hb)
    clear hb
    try clear V
    obtain ⟨V, rfl⟩ : ∃ V, V = W := ⟨_, rfl⟩
    have e0 : V.cell? ⟨g, 0, none⟩ = some (.slice (some ⟨b, 0, none⟩) 5 5) := HA.out.bk.cell 0
    have e1 : V.cell? ⟨g, 1, none⟩ = some (.slice (some ⟨cc, 0, none⟩) 1 1) := HA.out.bk.cell 1
    have e2 : V.cell? ⟨g, 2, none⟩ = some (.int .i64 0) := HA.out.bk.cell 2
    have e3 : V.cell? ⟨g, 3, none⟩ = some (.int .i64 0) := HA.out.bk.cell 3
    have e4 : V.cell? ⟨g, 4, none⟩ = some (.int .i64 0) := HA.out.bk.cell 4
    have e5 : V.cell? ⟨g, 5, none⟩ = some (.int .i64 0) := HA.out.bk.cell 5
    have e6 : V.cell? ⟨g, 6, none⟩ = some (.slice none 0 0) := HA.out.bk.cell 6
    have e7 : V.cell? ⟨g, 7, none⟩ = some (.slice none 0 0) := HA.out.bk.cell 7
    have e8 : V.cell? ⟨g, 8, none⟩ = some (.slice none 0 0) := HA.out.bk.cell 8
    have e9 : V.cell? ⟨g, 9, none⟩ = some (.int .i64 0) := HA.out.bk.cell 9
    have e10 : V.cell? ⟨g, 10, none⟩ = some (.int .i64 0) := HA.out.bk.cell 10
    have e11 : V.cell? ⟨g, 11, none⟩ = some (.int .i64 0) := HA.out.bk.cell 11
    have e12 : V.cell? ⟨g, 12, none⟩ = some (.int .i64 0) := HA.out.bk.cell 12
    go_wp2_with fail
    refine (K7.out _ _ HA.out).mono ?_
    rintro e W ⟨rfl, hb⟩
    simp only
    clear K7 e0 e1 e2 e3 e4 e5 e6 e7 e8 e9 e10 e11 e12
    replace HA := Lib.hid (HA.out.on hb)
    clear hb
    try clear V
    go_wp2_with fail
    refine (K8.out _ _ HA.out).mono ?_
    rintro e V ⟨A8, c8, rfl, hb⟩
    simp only
    clear K8
    replace HA := Lib.hid (HA.out.on hb)
    clear hb
    go_wp2_with fail
    go_ret
    exact ⟨rfl, HA.out.so.be⟩
end Go.Proofs.Ytmkplemdnglhmaa
