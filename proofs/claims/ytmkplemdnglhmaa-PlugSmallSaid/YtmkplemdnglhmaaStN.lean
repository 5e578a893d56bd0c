/-
  Walks of package stack: Room.
-/
import Derived.Test.YtmkplemdnglhmaaStM
namespace Go.Proofs.Ytmkplemdnglhmaa
open Go.RowKit

def minI (a b : Int) : Int := if b < a then b else a
def maxI (a b : Int) : Int := if a < b then b else a
/-- What there is room for in a half. -/
def room1 (c : Col) (fore aft all : Int) (half : Nat) : Int := if half = 1 then minI (c.k40 - all) (c.k20 - fore) else if half = 2 then minI (c.k40 - all) (c.k20 - aft) else c.k40 - all
def room2 (c : Col) (fore aft all below tol : Int) (x : Slt) : Int := if c.deck && decide (0 < x.tier) then minI (room1 c fore aft all x.half) (below + tol) else room1 c fore aft all x.half
def roomK (s : Shp) (boxes : List Bx) (l : List Stw) (x : Slt) (k : Nat) : Int := maxI (room2 (s.cols.getD k default) (sumF boxes l (halfB k 1)) (sumF boxes l (halfB k 2)) (sumF boxes l (colB k)) (sumF boxes l (belowB x)) s.m0 x) 0
def roomF (s : Shp) (boxes : List Bx) (l : List Stw) (x : Slt) : Int := if thereB s x.col then roomK s boxes l x x.col.toNat else 0
set_option maxRecDepth 100000 in
set_option maxHeartbeats 4000000 in
theorem stRoom_any (s : Shp) (h : Hd) (A : Option Addr) (c : Nat) (boxes : List Bx) (A2 : Option Addr) (c2 : Nat) (l : List Stw) (x : Slt) (w : World) (hkg : KgOK boxes) (htol : -1000000000000 ≤ s.m0 ∧ s.m0 ≤ 1000000000000)
    (hkc : ∀ c ∈ s.cols, (-1000000000000 ≤ c.k20 ∧ c.k20 ≤ 1000000000000) ∧ (-1000000000000 ≤ c.k40 ∧ c.k40 ≤ 1000000000000)) (hsh : ShpR w (Lt w.heap.size) s h) (hb : SlT tBx w (Lt w.heap.size) A boxes) (hbl : boxes.length ≤ 1000000) (hs : SlT tStw w (Lt w.heap.size) A2 l) (hl : l.length ≤ 1000000)
    (ht : -9223372036854775807 ≤ x.tier ∧ x.tier ≤ 9223372036854775807) :
    Calls Try.prog 23 #[.agg (shpA s h), .slice A boxes.length c, .slice A2 l.length c2, .agg (sltL x).toArray] w (Ret w (.int .i64 (roomF s boxes l x))) := by
  have HTH := Lib.hid (fun V => there_any s h x.col V)
  have hbs := ba2 w (.cells (shpA s h) 32) (.cells (sltL x).toArray 40)
  have HRF : Hid (roomF s boxes l x = if thereB s x.col then roomK s boxes l x x.col.toNat else 0) := Lib.hid rfl
  have kS := (Bk.new w 32 (shpA s h)).alloc (.cells (sltL x).toArray 40)
  have kX : Bk ((w.alloc (.cells (shpA s h) 32)).alloc (.cells (sltL x).toArray 40)) (w.heap.size + 1) 40 (sltL x).toArray := Bk.at_ _ _ (by simp)
  obtain ⟨W, hW⟩ : ∃ W, W = (w.alloc (.cells (shpA s h) 32)).alloc (.cells (sltL x).toArray 40) := ⟨_, rfl⟩
  rw [← hW] at hbs kS kX
  have hszW : W.heap.size = w.heap.size + 2 := by rw [hW]; simp
  have HW := Lib.hid hW
  clear hW
  generalize roomF s boxes l x = rv at *
  obtain ⟨e0, e1, e2, e3, e4, e5, e6, e7, e8, e9, e10, e11, e12⟩ : W.cell? ⟨w.heap.size, 0, none⟩ = some (.slice h.A1 s.cols.length h.c1) ∧ W.cell? ⟨w.heap.size, 1, none⟩ = some (.slice h.A2 s.covs.length h.c2) ∧ W.cell? ⟨w.heap.size, 2, none⟩ = some (.int .i64 s.l0) ∧ W.cell? ⟨w.heap.size, 3, none⟩ = some (.int .i64 s.l1) ∧ W.cell? ⟨w.heap.size, 4, none⟩ = some (.int .i64 s.l2) ∧ W.cell? ⟨w.heap.size, 5, none⟩ = some (.int .i64 s.l3) ∧ W.cell? ⟨w.heap.size, 6, none⟩ = some (.slice h.A3 s.rows.length h.c3) ∧ W.cell? ⟨w.heap.size, 7, none⟩ = some (.slice h.A4 s.frames.length h.c4) ∧ W.cell? ⟨w.heap.size, 8, none⟩ = some (.slice h.A5 s.tanks.length h.c5) ∧ W.cell? ⟨w.heap.size, 9, none⟩ = some (.int .i64 s.m0) ∧ W.cell? ⟨w.heap.size, 10, none⟩ = some (.int .i64 s.m1) ∧ W.cell? ⟨w.heap.size, 11, none⟩ = some (.int .i64 s.m2) ∧ W.cell? ⟨w.heap.size, 12, none⟩ = some (.int .i64 s.m3) := ⟨kS.cell 0, kS.cell 1, kS.cell 2, kS.cell 3, kS.cell 4, kS.cell 5, kS.cell 6, kS.cell 7, kS.cell 8, kS.cell 9, kS.cell 10, kS.cell 11, kS.cell 12⟩
  have x0 : W.cell? ⟨w.heap.size + 1, 0, none⟩ = some (.int .i64 x.col) := kX.cell 0
  cases htb : thereB s x.col with
  | false =>
    rw [htb] at HTH HRF
    have HB := Lib.hid hbs
    have hrv : rv = 0 := by rw [HRF.out]; rfl
    have hW' := HW.out.symm
    clear hb hs hsh hbs HRF HW kS kX
    subst hrv
    unfold shpA sltL at *
    go_enter Try.func23, Try.ntmps23
    go_upto_region 1 with fail
    try rw [hW']
    clear hW'
    go_wp2_with fail
    refine (HTH.out _).mono ?_
    rintro e w1 ⟨rfl, hb1⟩
    simp only
    go_wp2_with fail
    go_ret
    exact ⟨rfl, HB.out.trans (hb1.mono HB.out.size)⟩
  | true =>
    rw [htb] at HTH HRF
    obtain ⟨k, hkx, hk⟩ : ∃ k : Nat, x.col = (k : Int) ∧ k < s.cols.length := by
      unfold thereB at htb
      simp only [Bool.and_eq_true, decide_eq_true_eq] at htb
      exact ⟨x.col.toNat, by omega, by omega⟩
    have hbd := sum_bd2 (kgOf boxes (halfB k 1)) 1000000000000 l (fun x _ => kg_bd hkg _ x)
    have hbd2 := sum_bd2 (kgOf boxes (halfB k 2)) 1000000000000 l (fun x _ => kg_bd hkg _ x)
    have hbd3 := sum_bd2 (kgOf boxes (colB k)) 1000000000000 l (fun x _ => kg_bd hkg _ x)
    have hbd4 := sum_bd2 (kgOf boxes (belowB x)) 1000000000000 l (fun x _ => kg_bd hkg _ x)
    change -(1000000000000 * (l.length : Int)) ≤ sumF boxes l (halfB k 1) ∧ sumF boxes l (halfB k 1) ≤ _ at hbd
    change -(1000000000000 * (l.length : Int)) ≤ sumF boxes l (halfB k 2) ∧ sumF boxes l (halfB k 2) ≤ _ at hbd2
    change -(1000000000000 * (l.length : Int)) ≤ sumF boxes l (colB k) ∧ sumF boxes l (colB k) ≤ _ at hbd3
    change -(1000000000000 * (l.length : Int)) ≤ sumF boxes l (belowB x) ∧ sumF boxes l (belowB x) ≤ _ at hbd4
    have KW2 : Hid (∀ V : World, Below w.heap.size w V → Calls Try.prog 19 #[.slice A boxes.length c, .slice A2 l.length c2, .int .i64 (k : Nat)] V (Ret V (.agg (klL boxes l k).toArray))) :=
      Lib.hid fun V hV => weigh_any A c boxes A2 c2 l k V hkg ((hb.below hV).up hV.size) hbl ((hs.below hV).up hV.size) hl
    have KB : Hid (∀ V : World, Below w.heap.size w V → Calls Try.prog 21 #[.slice A boxes.length c, .slice A2 l.length c2, .agg (sltL x).toArray] V (Ret V (.int .i64 (sumF boxes l (belowB x))))) := Lib.hid fun V hV =>
      stackBelow_any A c boxes A2 c2 l x V hkg ((hb.below hV).up hV.size) hbl ((hs.below hV).up hV.size) hl ht
    have HRV : Hid (rv = roomK s boxes l x k) := Lib.hid (by rw [HRF.out, if_pos rfl, hkx, Int.toNat_natCast])
    have HRK : Hid (roomK s boxes l x k = maxI (room2 (s.cols.getD k default) (sumF boxes l (halfB k 1)) (sumF boxes l (halfB k 2)) (sumF boxes l (colB k)) (sumF boxes l (belowB x)) s.m0 x) 0) := Lib.hid rfl
    have hkc' := hkc _ (getD_memD hk default)
    obtain ⟨b, off, Ap, q, hA1, hB, hpq, hpl, c0, c1, c2', c3, c4, c5, c6, c7, c8, c9, c10, c11⟩ := hsh.cols.col (i := k) hk
    have HKL : Hid (klL boxes l k = [.int .i64 (sumF boxes l (halfB k 1)), .int .i64 (sumF boxes l (halfB k 2)), .int .i64 (sumF boxes l (colB k))]) := Lib.hid rfl
    rw [HKL.out] at KW2
    clear HRF HKL hb hs hsh hpq hpl hkc
    obtain ⟨A1, cc1, A2', cc2, A3, cc3, A4, cc4, A5, cc5⟩ := h
    obtain ⟨xcol, xtier, xhalf⟩ := x
    simp only at hA1 hkx e0 e1 e2 e3 e4 e5 e6 e7 e8 e9 e10 e11 e12 x0
    subst hA1 hkx
    have hk0 : (0 : Int) ≤ (k : Int) := by omega
    have hk1 : (k : Int) < (s.cols.length : Int) := by omega
    have hB : b < w.heap.size := hB
    have HWB := Lib.hid hbs
    have KS := Lib.hid kS
    have KX := Lib.hid kX
    clear kS kX
    replace c0 := (hbs.cell (p := ⟨b, off + k * 12, none⟩) hB).trans c0
    replace c1 := (hbs.cell (p := ⟨b, off + k * 12 + 1, none⟩) hB).trans c1
    replace c2' := (hbs.cell (p := ⟨b, off + k * 12 + 2, none⟩) hB).trans c2'
    replace c3 := (hbs.cell (p := ⟨b, off + k * 12 + 3, none⟩) hB).trans c3
    replace c4 := (hbs.cell (p := ⟨b, off + k * 12 + 4, none⟩) hB).trans c4
    replace c5 := (hbs.cell (p := ⟨b, off + k * 12 + 5, none⟩) hB).trans c5
    replace c6 := (hbs.cell (p := ⟨b, off + k * 12 + 6, none⟩) hB).trans c6
    replace c7 := (hbs.cell (p := ⟨b, off + k * 12 + 7, none⟩) hB).trans c7
    replace c8 := (hbs.cell (p := ⟨b, off + k * 12 + 8, none⟩) hB).trans c8
    replace c9 := (hbs.cell (p := ⟨b, off + k * 12 + 9, none⟩) hB).trans c9
    replace c10 := (hbs.cell (p := ⟨b, off + k * 12 + 10, none⟩) hB).trans c10
    replace c11 := (hbs.cell (p := ⟨b, off + k * 12 + 11, none⟩) hB).trans c11
    generalize s.cols.getD k default = cl at *
    obtain ⟨xb, xr, xd, xti, xhe, xk2, xk4, xl, xp, xx, xy, xz⟩ := cl
    simp only at c0 c1 c2' c3 c4 c5 c6 c7 c8 c9 c10 c11 hkc'
    generalize sumF boxes l (halfB k 1) = s1 at *
    generalize sumF boxes l (halfB k 2) = s2 at *
    generalize sumF boxes l (colB k) = s3 at *
    generalize sumF boxes l (belowB ⟨(k : Int), xtier, xhalf⟩) = s4 at *
    have hs1 : -1000000000000000000 ≤ s1 ∧ s1 ≤ 1000000000000000000 := by omega
    have hs2 : -1000000000000000000 ≤ s2 ∧ s2 ≤ 1000000000000000000 := by omega
    have hs3 : -1000000000000000000 ≤ s3 ∧ s3 ≤ 1000000000000000000 := by omega
    have hs4 : -1000000000000000000 ≤ s4 ∧ s4 ≤ 1000000000000000000 := by omega
    clear hbd hbd2 hbd3 hbd4 hbs
    have hW' := HW.out.symm
    clear HW
    unfold shpA sltL at *
    go_enter Try.func23, Try.ntmps23
    go_upto_region 1 with fail
    try rw [hW']
    clear hW'
    go_wp2_with fail
    refine (HTH.out _).mono ?_
    rintro e w1 ⟨rfl, hb1⟩
    simp only
    go_upto_region 3 with fail
    replace e0 := (Cb.cell (W := W) hb1 e0)
    replace x0 := (Cb.cell (W := W) hb1 x0)
    replace c0 := (Cb.cell (W := W) hb1 c0)
    replace c1 := (Cb.cell (W := W) hb1 c1)
    replace c2' := (Cb.cell (W := W) hb1 c2')
    replace c3 := (Cb.cell (W := W) hb1 c3)
    replace c4 := (Cb.cell (W := W) hb1 c4)
    replace c5 := (Cb.cell (W := W) hb1 c5)
    replace c6 := (Cb.cell (W := W) hb1 c6)
    replace c7 := (Cb.cell (W := W) hb1 c7)
    replace c8 := (Cb.cell (W := W) hb1 c8)
    replace c9 := (Cb.cell (W := W) hb1 c9)
    replace c10 := (Cb.cell (W := W) hb1 c10)
    replace c11 := (Cb.cell (W := W) hb1 c11)
    have HB1 := Lib.hid (HWB.out.trans (hb1.mono HWB.out.size))
    have KS1 := Lib.hid (KS.out.below hb1 KS.out.lt)
    have KX1 := Lib.hid (KX.out.below hb1 KX.out.lt)
    have hlW : w.heap.size ≤ w1.heap.size := HB1.out.size
    replace KW2 : Hid (∀ V : World, Cb w1 V → Calls Try.prog 19 #[.slice A boxes.length c, .slice A2 l.length c2, .int .i64 (k : Nat)] V (Ret V (.agg #[.int .i64 s1, .int .i64 s2, .int .i64 s3]))) :=
      Lib.hid fun V hV => KW2.out V (HB1.out.trans (Below.mono hV HB1.out.size))
    clear hb1 HTH HWB KS KX e1 e2 e3 e4 e5 e6 e7 e8 e9 e10 e11 e12
    clear hszW W
    obtain ⟨W, rfl⟩ : ∃ W, W = w1 := ⟨_, rfl⟩
    obtain ⟨gs, hgs⟩ : ∃ g, g = w.heap.size := ⟨_, rfl⟩
    obtain ⟨gx, hgx⟩ : ∃ g, g = w.heap.size + 1 := ⟨_, rfl⟩
    rw [← hgx] at x0 KX1 ⊢
    rw [← hgs] at e0 KS1 ⊢
    have HGS := Lib.hid hgs
    clear hgs hgx
    refine wp_region_og [.val 0 (.pointer (some ⟨gs, 0, none⟩)),
    .val 1 (.slice (some ⟨b, off, none⟩) s.cols.length cc1),
    .val 2 (.pointer (some ⟨gx, 0, none⟩)),
    .val 3 (.int .i64 (k : Nat)),
    .val 4 (.pointer (some ⟨b, off + k * 12, none⟩)),
    .val 5 (.agg #[.int .i64 xb, .int .i64 xr, .bool xd, .int .i64 xti, .int .i64 xhe, .int .i64 xk2, .int .i64 xk4, .int .i64 xl, .slice Ap xp.length q, .int .i64 xx, .int .i64 xy, .int .i64 xz]),
    .val 6 (.slice A boxes.length c),
    .val 7 (.slice A2 l.length c2),
    .val 8 (.pointer (some ⟨gx, 0, none⟩)),
    .val 9 (.int .i64 (k : Nat)),
    .val 10 (.agg #[.int .i64 s1, .int .i64 s2, .int .i64 s3]),
    .blk 11 46 z12 W.heap.size,
    .blk 12 55 z3 W.heap.size,
    .blk 11 46 #[.int .i64 xb, .int .i64 xr, .bool xd, .int .i64 xti, .int .i64 xhe, .int .i64 xk2, .int .i64 xk4, .int .i64 xl, .slice Ap xp.length q, .int .i64 xx, .int .i64 xy, .int .i64 xz] W.heap.size,
    .blk 12 55 #[.int .i64 s1, .int .i64 s2, .int .i64 s3] W.heap.size]
      [[], [0], [], [2], [1, 3], [4], [], [], [], [8], [6, 7, 9], [], [], [11, 5], [12, 10]] [13, 14] (Cb W) (by kernel_rfl) (by kernel_rfl) (Cb.drew W) ⟨?_, ?_, ?_, ?_, ?_, ?_, ?_, ?_, ?_, ?_, ?_, ?_, ?_, ?_, ?_, trivial⟩ ?_
    case refine_1 =>
      refine StepL.up fun x V hV hu K Q hK => ?_
      clear hu
      rw [owp_eq]
      go_big_op
      exact hK _ _ (Below.refl _ _) rfl
    case refine_2 =>
      refine StepL.up fun x V hV hu K Q hK => ?_
      have u0 : x 0 = _ := hu 0 (by decide)
      have fe0 := hV.cell e0
      clear hu
      simp only [putL, List.set_cons_zero, List.set_cons_succ] at hK ⊢
      rw [owp_eq]
      go_big_op
      exact hK _ _ (Below.refl _ _) rfl
    case refine_3 =>
      refine StepL.up fun x V hV hu K Q hK => ?_
      clear hu
      simp only [putL, List.set_cons_zero, List.set_cons_succ] at hK ⊢
      rw [owp_eq]
      go_big_op
      exact hK _ _ (Below.refl _ _) rfl
    case refine_4 =>
      refine StepL.up fun x V hV hu K Q hK => ?_
      have u2 : x 2 = _ := hu 2 (by decide)
      have fx0 := hV.cell x0
      clear hu
      simp only [putL, List.set_cons_zero, List.set_cons_succ] at hK ⊢
      rw [owp_eq]
      go_big_op
      exact hK _ _ (Below.refl _ _) rfl
    case refine_5 =>
      refine StepL.up fun x V hV hu K Q hK => ?_
      have u1 : x 1 = _ := hu 1 (by decide)
      have u3 : x 3 = _ := hu 3 (by decide)
      clear hu
      simp only [putL, List.set_cons_zero, List.set_cons_succ] at hK ⊢
      rw [owp_eq]
      go_big_op
      exact hK _ _ (Below.refl _ _) rfl
    case refine_6 =>
      refine StepL.up fun x V hV hu K Q hK => ?_
      have u4 : x 4 = _ := hu 4 (by decide)
      have fc0 := hV.cell c0
      have fc1 := hV.cell c1
      have fc2' := hV.cell c2'
      have fc3 := hV.cell c3
      have fc4 := hV.cell c4
      have fc5 := hV.cell c5
      have fc6 := hV.cell c6
      have fc7 := hV.cell c7
      have fc8 := hV.cell c8
      have fc9 := hV.cell c9
      have fc10 := hV.cell c10
      have fc11 := hV.cell c11
      clear hu
      simp only [putL, List.set_cons_zero, List.set_cons_succ] at hK ⊢
      rw [owp_eq]
      go_big_op
      exact hK _ _ (Below.refl _ _) rfl
    case refine_7 =>
      refine StepL.up fun x V hV hu K Q hK => ?_
      clear hu
      simp only [putL, List.set_cons_zero, List.set_cons_succ] at hK ⊢
      rw [owp_eq]
      go_big_op
      exact hK _ _ (Below.refl _ _) rfl
    case refine_8 =>
      refine StepL.up fun x V hV hu K Q hK => ?_
      clear hu
      simp only [putL, List.set_cons_zero, List.set_cons_succ] at hK ⊢
      rw [owp_eq]
      go_big_op
      exact hK _ _ (Below.refl _ _) rfl
    case refine_9 =>
      refine StepL.up fun x V hV hu K Q hK => ?_
      clear hu
      simp only [putL, List.set_cons_zero, List.set_cons_succ] at hK ⊢
      rw [owp_eq]
      go_big_op
      exact hK _ _ (Below.refl _ _) rfl
    case refine_10 =>
      refine StepL.up fun x V hV hu K Q hK => ?_
      have u8 : x 8 = _ := hu 8 (by decide)
      have fx0 := hV.cell x0
      clear hu
      simp only [putL, List.set_cons_zero, List.set_cons_succ] at hK ⊢
      rw [owp_eq]
      go_big_op
      exact hK _ _ (Below.refl _ _) rfl
    case refine_11 =>
      refine StepL.up fun x V hV hu K Q hK => ?_
      have u6 : x 6 = _ := hu 6 (by decide)
      have u7 : x 7 = _ := hu 7 (by decide)
      have u9 : x 9 = _ := hu 9 (by decide)
      clear hu
      simp only [putL, List.set_cons_zero, List.set_cons_succ] at hK ⊢
      rw [owp_eq]
      go_big_op
      refine (KW2.out V hV).mono ?_
      rintro e V' ⟨rfl, hb⟩
      exact hK _ _ hb rfl
    case refine_12 =>
      refine StepL.up fun x V hV hu K Q hK => ?_
      clear hu
      simp only [putL, List.set_cons_zero, List.set_cons_succ] at hK ⊢
      rw [owp_eq]
      go_big_op
      exact hK _ _ (ba1 V _) ⟨_, rfl, Below.size hV, Bk.new V _ _⟩
    case refine_13 =>
      refine StepL.up fun x V hV hu K Q hK => ?_
      clear hu
      simp only [putL, List.set_cons_zero, List.set_cons_succ] at hK ⊢
      rw [owp_eq]
      go_big_op
      exact hK _ _ (ba1 V _) ⟨_, rfl, Below.size hV, Bk.new V _ _⟩
    case refine_14 =>
      refine StepL.wr [10, 12] (by kernel_rfl) fun x V hV hu K Q hK => ?_
      obtain ⟨g, u11, hg, hk⟩ := hu 11 (by decide)
      have u5 : x 5 = _ := hu 5 (by decide)
      clear hu
      simp only [putL, List.set_cons_zero, List.set_cons_succ] at hK ⊢
      refine wp_store_og 46 (.tmp 9) (.tmp 22) rfl g #[.int .i64 xb, .int .i64 xr, .bool xd, .int .i64 xti, .int .i64 xhe, .int .i64 xk2, .int .i64 xk4, .int .i64 xl, .slice Ap xp.length q, .int .i64 xx, .int .i64 xy, .int .i64 xz] u11 u5 46 z12 hk (by kernel_rfl) rfl (by kernel_rfl) fun V' h1 h2 => ?_
      refine hK undef _ (hV.store h2 hg) ⟨g, u11, hg, h1⟩ fun k hk' => ?_
      simp only [List.mem_cons, List.not_mem_nil, or_false] at hk'
      rcases hk' with rfl | rfl
      all_goals (first | exact fun h => h | (rintro ⟨g', e', l', k'⟩; exact ⟨g', e', l', k'.grownT hk (by decide) h2⟩))
    case refine_15 =>
      refine StepL.wr [13] (by kernel_rfl) fun x V hV hu K Q hK => ?_
      obtain ⟨g, u12, hg, hk⟩ := hu 12 (by decide)
      have u10 : x 10 = _ := hu 10 (by decide)
      clear hu
      simp only [putL, List.set_cons_zero, List.set_cons_succ] at hK ⊢
      refine wp_store_og 55 (.tmp 10) (.tmp 27) rfl g #[.int .i64 s1, .int .i64 s2, .int .i64 s3] u12 u10 55 z3 hk (by kernel_rfl) rfl (by kernel_rfl) fun V' h1 h2 => ?_
      refine hK undef _ (hV.store h2 hg) ⟨g, u12, hg, h1⟩ fun k hk' => ?_
      simp only [List.mem_cons, List.not_mem_nil, or_false] at hk'
      subst hk'
      all_goals (first | exact fun h => h | (rintro ⟨g', e', l', k'⟩; exact ⟨g', e', l', k'.grownT hk (by decide) h2⟩))
    case refine_16 =>
      intro x V hV hA
      obtain ⟨gc, ec, lc, kc⟩ := hA 13 rfl (by decide)
      obtain ⟨gk, ek, lk, kk⟩ := hA 14 rfl (by decide)
      simp only [layL, putL, List.set_cons_zero, List.set_cons_succ]
      rw [ec, ek]
      have HV := Lib.hid (show Below W.heap.size W V from hV)
      have KS2 := KS1.out.below hV KS1.out.lt
      have KX2 := KX1.out.below hV KX1.out.lt
      have d2 : V.cell? ⟨gc, 2, none⟩ = some (.bool xd) := kc.cell 2
      have d5 : V.cell? ⟨gc, 5, none⟩ = some (.int .i64 xk2) := kc.cell 5
      have d6 : V.cell? ⟨gc, 6, none⟩ = some (.int .i64 xk4) := kc.cell 6
      have m0 : V.cell? ⟨gk, 0, none⟩ = some (.int .i64 s1) := kk.cell 0
      have m1 : V.cell? ⟨gk, 1, none⟩ = some (.int .i64 s2) := kk.cell 1
      have m2 : V.cell? ⟨gk, 2, none⟩ = some (.int .i64 s3) := kk.cell 2
      have t0 : V.cell? ⟨gx, 0, none⟩ = some (.int .i64 k) := KX2.cell 0
      have t1 : V.cell? ⟨gx, 1, none⟩ = some (.int .i64 xtier) := KX2.cell 1
      have t2 : V.cell? ⟨gx, 2, none⟩ = some (.int .u8 (xhalf : Nat)) := KX2.cell 2
      have t9 : V.cell? ⟨gs, 9, none⟩ = some (.int .i64 s.m0) := KS2.cell 9
      have KB1 : Hid (∀ U : World, Below V.heap.size V U → Calls Try.prog 21 #[.slice A boxes.length c, .slice A2 l.length c2, .agg #[.int .i64 (k : Nat), .int .i64 xtier, .int .u8 (xhalf : Nat)]] U (Ret U (.int .i64 s4))) :=
        Lib.hid fun U hU => KB.out U (HB1.out.trans ((HV.out.trans (hU.mono HV.out.size)).mono HB1.out.size))
      clear hA ec ek lc lk kc kk hV KS2 KX2 c0 c1 c2' c3 c4 c5 c6 c7 c8 c9 c10 c11 e0 x0 KW2 KB KS1 KX1
      obtain ⟨⟨hk20, hk21⟩, hk40, hk41⟩ := hkc'
      obtain ⟨hs10, hs11⟩ := hs1
      obtain ⟨hs20, hs21⟩ := hs2
      obtain ⟨hs30, hs31⟩ := hs3
      obtain ⟨hs40, hs41⟩ := hs4
      obtain ⟨htol0, htol1⟩ := htol
      have hVW : w.heap.size ≤ W.heap.size := HB1.out.size
      have HR1 : Hid (room1 ⟨xb, xr, xd, xti, xhe, xk2, xk4, xl, xp, xx, xy, xz⟩ s1 s2 s3 xhalf = if xhalf = 1 then minI (xk4 - s3) (xk2 - s1) else if xhalf = 2 then minI (xk4 - s3) (xk2 - s2) else xk4 - s3) := Lib.hid rfl
      have HR2 : Hid (rv = maxI (if xd && decide (0 < xtier) then minI (room1 ⟨xb, xr, xd, xti, xhe, xk2, xk4, xl, xp, xx, xy, xz⟩ s1 s2 s3 xhalf) (s4 + s.m0) else room1 ⟨xb, xr, xd, xti, xhe, xk2, xk4, xl, xp, xx, xy, xz⟩ s1 s2 s3 xhalf) 0) := Lib.hid (by rw [HRV.out, HRK.out]; rfl)
      have hr1 : -2000000000000000000 ≤ room1 ⟨xb, xr, xd, xti, xhe, xk2, xk4, xl, xp, xx, xy, xz⟩ s1 s2 s3 xhalf ∧ room1 ⟨xb, xr, xd, xti, xhe, xk2, xk4, xl, xp, xx, xy, xz⟩ s1 s2 s3 xhalf ≤ 2000000000000000000 := by
        unfold room1 minI
        simp only
        constructor <;> (repeat' split) <;> omega
      clear HRV HRK
      generalize room1 ⟨xb, xr, xd, xti, xhe, xk2, xk4, xl, xp, xx, xy, xz⟩ s1 s2 s3 xhalf = o1 at *
      by_cases h1 : xhalf = 1
      · subst h1
        have hmn : (if xk2 - s1 < xk4 - s3 then xk2 - s1 else xk4 - s3) = o1 := by rw [HR1.out]; rfl
        clear HR1
        go_upto_region 10 with fail
        clear d5 d6 m0 m1 m2
        cases xd with
        | false =>
          have HRV : Hid (rv = (if o1 < 0 then 0 else o1)) := Lib.hid (by rw [HR2.out]; rfl)
          have hmx : (if o1 < 0 then 0 else o1) = rv := HRV.out.symm
          clear HR2 HRV
          go_wp2_with fail
          go_ret
          exact ⟨rfl, HB1.out.trans (HV.out.mono hVW)⟩
        | true =>
          by_cases h9 : 0 < xtier
          · have HRV : Hid (rv = (if (if s4 + s.m0 < o1 then s4 + s.m0 else o1) < 0 then 0 else (if s4 + s.m0 < o1 then s4 + s.m0 else o1))) := Lib.hid (by rw [HR2.out, decide_eq_true h9]; rfl)
            have hw1 : IntKind.i64.wrap (s4 + s.m0) = s4 + s.m0 := IntWalk.i64_in _ (by omega)
            clear HR2
            generalize hm2 : (if s4 + s.m0 < o1 then s4 + s.m0 else o1) = o2 at *
            have HM2 := Lib.hid hm2
            clear hm2
            go_upto_region 11 with fail
            have hm2 := HM2.out
            have t0' := Gr.cell t0
            have t1' := Gr.cell t1
            have t2' := Gr.cell t2
            have t9' := Gr.cell t9
            refine wp_region_gr (by kernel_rfl) (by kernel_rfl) ?_
            repeat (go_big_quiet_step ((first | (with_reducible exact Gr.call _ (fun V hV => KB1.out V hV)))))
            refine wpQuiet_nil ?_
            rintro Y ⟨⟨_, hbY⟩, rfl⟩
            clear hm2 t0' t1' t2' t9' t0 t1 t2 t9 d2
            have HBY := Lib.hid (HB1.out.trans ((HV.out.trans (hbY.mono HV.out.size)).mono hVW))
            have hmx : (if o2 < 0 then 0 else o2) = rv := HRV.out.symm
            clear HRV
            go_wp2_with fail
            go_ret
            exact ⟨rfl, HBY.out⟩
          · have HRV : Hid (rv = (if o1 < 0 then 0 else o1)) := Lib.hid (by rw [HR2.out, decide_eq_false h9]; rfl)
            have hmx : (if o1 < 0 then 0 else o1) = rv := HRV.out.symm
            clear HR2 HRV
            go_wp2_with fail
            go_ret
            exact ⟨rfl, HB1.out.trans (HV.out.mono hVW)⟩
      · by_cases h2 : xhalf = 2
        · subst h2
          have hmn : (if xk2 - s2 < xk4 - s3 then xk2 - s2 else xk4 - s3) = o1 := by rw [HR1.out]; rfl
          clear HR1
          go_upto_region 10 with fail
          clear d5 d6 m0 m1 m2
          cases xd with
          | false =>
            have HRV : Hid (rv = (if o1 < 0 then 0 else o1)) := Lib.hid (by rw [HR2.out]; rfl)
            have hmx : (if o1 < 0 then 0 else o1) = rv := HRV.out.symm
            clear HR2 HRV
            go_wp2_with fail
            go_ret
            exact ⟨rfl, HB1.out.trans (HV.out.mono hVW)⟩
          | true =>
            by_cases h9 : 0 < xtier
            · have HRV : Hid (rv = (if (if s4 + s.m0 < o1 then s4 + s.m0 else o1) < 0 then 0 else (if s4 + s.m0 < o1 then s4 + s.m0 else o1))) := Lib.hid (by rw [HR2.out, decide_eq_true h9]; rfl)
              have hw1 : IntKind.i64.wrap (s4 + s.m0) = s4 + s.m0 := IntWalk.i64_in _ (by omega)
              clear HR2
              generalize hm2 : (if s4 + s.m0 < o1 then s4 + s.m0 else o1) = o2 at *
              have HM2 := Lib.hid hm2
              clear hm2
              go_upto_region 11 with fail
              have hm2 := HM2.out
              have t0' := Gr.cell t0
              have t1' := Gr.cell t1
              have t2' := Gr.cell t2
              have t9' := Gr.cell t9
              refine wp_region_gr (by kernel_rfl) (by kernel_rfl) ?_
              repeat (go_big_quiet_step ((first | (with_reducible exact Gr.call _ (fun V hV => KB1.out V hV)))))
              refine wpQuiet_nil ?_
              rintro Y ⟨⟨_, hbY⟩, rfl⟩
              clear hm2 t0' t1' t2' t9' t0 t1 t2 t9 d2
              have HBY := Lib.hid (HB1.out.trans ((HV.out.trans (hbY.mono HV.out.size)).mono hVW))
              have hmx : (if o2 < 0 then 0 else o2) = rv := HRV.out.symm
              clear HRV
              go_wp2_with fail
              go_ret
              exact ⟨rfl, HBY.out⟩
            · have HRV : Hid (rv = (if o1 < 0 then 0 else o1)) := Lib.hid (by rw [HR2.out, decide_eq_false h9]; rfl)
              have hmx : (if o1 < 0 then 0 else o1) = rv := HRV.out.symm
              clear HR2 HRV
              go_wp2_with fail
              go_ret
              exact ⟨rfl, HB1.out.trans (HV.out.mono hVW)⟩
        · have ho1 : o1 = xk4 - s3 := by rw [HR1.out, if_neg h1, if_neg h2]
          have n1 : ((xhalf : Int) == 1) = false := by simp; omega
          have n2 : ((xhalf : Int) == 2) = false := by simp; omega
          have hq1 : IntKind.i64.wrap (xk4 - s3) = xk4 - s3 := IntWalk.i64_in _ (by omega)
          clear HR1 h1 h2
          rw [ho1] at HR2 hr1
          clear ho1
          clear o1
          go_upto_region 10 with fail
          generalize xk4 - s3 = o1 at *
          clear d5 d6 m0 m1 m2
          cases xd with
          | false =>
            have HRV : Hid (rv = (if o1 < 0 then 0 else o1)) := Lib.hid (by rw [HR2.out]; rfl)
            have hmx : (if o1 < 0 then 0 else o1) = rv := HRV.out.symm
            clear HR2 HRV
            go_wp2_with fail
            go_ret
            exact ⟨rfl, HB1.out.trans (HV.out.mono hVW)⟩
          | true =>
            by_cases h9 : 0 < xtier
            · have HRV : Hid (rv = (if (if s4 + s.m0 < o1 then s4 + s.m0 else o1) < 0 then 0 else (if s4 + s.m0 < o1 then s4 + s.m0 else o1))) := Lib.hid (by rw [HR2.out, decide_eq_true h9]; rfl)
              have hw1 : IntKind.i64.wrap (s4 + s.m0) = s4 + s.m0 := IntWalk.i64_in _ (by omega)
              clear HR2
              generalize hm2 : (if s4 + s.m0 < o1 then s4 + s.m0 else o1) = o2 at *
              have HM2 := Lib.hid hm2
              clear hm2
              go_upto_region 11 with fail
              have hm2 := HM2.out
              have t0' := Gr.cell t0
              have t1' := Gr.cell t1
              have t2' := Gr.cell t2
              have t9' := Gr.cell t9
              refine wp_region_gr (by kernel_rfl) (by kernel_rfl) ?_
              repeat (go_big_quiet_step ((first | (with_reducible exact Gr.call _ (fun V hV => KB1.out V hV)))))
              refine wpQuiet_nil ?_
              rintro Y ⟨⟨_, hbY⟩, rfl⟩
              clear hm2 t0' t1' t2' t9' t0 t1 t2 t9 d2
              have HBY := Lib.hid (HB1.out.trans ((HV.out.trans (hbY.mono HV.out.size)).mono hVW))
              have hmx : (if o2 < 0 then 0 else o2) = rv := HRV.out.symm
              clear HRV
              go_wp2_with fail
              go_ret
              exact ⟨rfl, HBY.out⟩
            · have HRV : Hid (rv = (if o1 < 0 then 0 else o1)) := Lib.hid (by rw [HR2.out, decide_eq_false h9]; rfl)
              have hmx : (if o1 < 0 then 0 else o1) = rv := HRV.out.symm
              clear HR2 HRV
              go_wp2_with fail
              go_ret
              exact ⟨rfl, HB1.out.trans (HV.out.mono hVW)⟩
end Go.Proofs.Ytmkplemdnglhmaa
