/-
  Walks of package slot: Name, the walk.
-/
import Derived.Test.YtggebllkkiennaaDoorSlG
import Derived.Test.YtggebllkkiennaaDoorQb
import Derived.IntWalk
namespace Go.Proofs.YtggebllkkiennaaDoor
open Go.RowKit

theorem Sh.mk2 {w : World} {s : Shp} {h : Hd} (hs : ShpR w (Lt w.heap.size) s h) (o : Obj) : Sh w ((w.alloc (.cells (shpA s h) 32)).alloc o) w.heap.size s h :=
  Sh.on ⟨hs.on (ba1 w _), Bk.new w _ _, ba1 w _⟩ (ba1 _ o)
theorem strN_size (l : List Nat) : (strN l).size = l.length := by simp [strN, strOfNums, ByteArray.size]
set_option maxRecDepth 100000 in
set_option maxHeartbeats 4000000 in
theorem name_any (s : Shp) (h : Hd) (x : Slt) (w : World) (hs : ShpR w (Lt w.heap.size) s h) (hf : Few s) (hi : Ints s) (hq : QuarOK w) :
    Calls Tryd.prog 13 #[.agg (shpA s h), .agg (sltL x).toArray] w (NameRet w (nameF s x)) := by
  have HR : Hid (∀ (V : World), Sh w V w.heap.size s h → Calls Tryd.prog 44 #[.agg (shpA s h)] V (Ret V (.bool (rightF s)))) := Lib.hid fun V hV => shipRight_any s h V hV.rd hf hi
  have H20 : Hid (∀ (V : World), Sh w V w.heap.size s h → Calls Tryd.prog 21 #[.agg (shpA s h), .agg (sltL x).toArray, .int .u8 20] V (Ret V (.bool (slotRight s x 20)))) := Lib.hid fun V hV => slotRight_any s h x 20 V hV.rd
  have H40 : Hid (∀ (V : World), Sh w V w.heap.size s h → Calls Tryd.prog 21 #[.agg (shpA s h), .agg (sltL x).toArray, .int .u8 40] V (Ret V (.bool (slotRight s x 40)))) := Lib.hid fun V hV => slotRight_any s h x 40 V hV.rd
  have hS := Sh.mk2 hs (.cells (sltL x).toArray 34)
  have hX := Bk.new (w.alloc (.cells (shpA s h) 32)) 34 (sltL x).toArray
  simp only [World.size_alloc] at hX
  have hQ : QuarOK ((w.alloc (.cells (shpA s h) 32)).alloc (.cells (sltL x).toArray 34)) := hq.below (ba2 w _ _)
  have hV1 : rightF s = false → nameF s x = ([], 2) := fun e => by unfold nameF; rw [if_pos e]
  have hV2 : rightF s = true → slotRight s x 20 = false → slotRight s x 40 = false → nameF s x = ([], 6) := fun e e1 e2 => by unfold nameF; rw [if_neg (by rw [e]; simp), if_pos ⟨e1, e2⟩]
  have hV3 : rightF s = true → slotRight s x 20 = true ∨ slotRight s x 40 = true → nameF s x = (nameL s x, 0) := fun e e1 => by
    unfold nameF; rw [if_neg (by rw [e]; simp), if_neg (by rcases e1 with e1 | e1 <;> rw [e1] <;> simp)]
  have hRS : rightF s = true → slotRight s x 20 = true ∨ slotRight s x 40 = true → _ := fun e e1 => e1.elim (right_slot e) (right_slot e)
  have HRS := Lib.hid hRS
  have HV1 := Lib.hid hV1
  have HV2 := Lib.hid hV2
  have HV3 := Lib.hid hV3
  clear hs hf hi hq hRS hV1 hV2 hV3
  unfold shpA sltL at *
  generalize hr : rightF s = r at *
  generalize h20 : slotRight s x 20 = b20 at *
  generalize h40 : slotRight s x 40 = b40 at *
  clear hr h20 h40
  obtain ⟨xc, xt, xh⟩ := x
  simp only at *
  go_enter Tryd.func13, Tryd.ntmps13
  go_wp2_with fail
  generalize ((w.alloc _).alloc _) = W at *
  refine (HR.out _ hS).mono ?_
  rintro e w1 ⟨rfl, hq⟩
  replace hS := hS.on hq
  replace hX := hX.below hq hX.lt
  replace hQ := hQ.below hq
  clear hq HR
  clear W
  obtain ⟨W, rfl⟩ : ∃ W, W = w1 := ⟨_, rfl⟩
  have hcs := hS.cells
  obtain ⟨e0, e1, e2, e3, e4, e5, e6, e7, e8, e9, e10, e11, e12⟩ := hcs
  cases r with
  | false =>
    go_wp2
    go_ret2
    exact ⟨by rw [HV1.out (by trivial)]; rfl, hS.be⟩
  | true =>
    have x0 := hX.cell 0
    have x1 := hX.cell 1
    have x2 := hX.cell 2
    simp at x0 x1 x2
    go_wp2_with fail
    refine (H20.out _ hS).mono ?_
    rintro e w1 ⟨rfl, hq⟩
    replace hS := hS.on hq
    replace hX := hX.below hq hX.lt
    replace hQ := hQ.below hq
    clear hq H20 e0 e1 e2 e3 e4 e5 e6 e7 e8 e9 e10 e11 e12 x0 x1 x2
    clear W
    obtain ⟨W, rfl⟩ : ∃ W, W = w1 := ⟨_, rfl⟩
    have hcs := hS.cells
    obtain ⟨e0, e1, e2, e3, e4, e5, e6, e7, e8, e9, e10, e11, e12⟩ := hcs
    have x0 := hX.cell 0
    have x1 := hX.cell 1
    have x2 := hX.cell 2
    simp at x0 x1 x2
    cases b20 with
    | false =>
      go_wp2_with fail
      refine (H40.out _ hS).mono ?_
      rintro e w1 ⟨rfl, hq⟩
      replace hS := hS.on hq
      replace hX := hX.below hq hX.lt
      replace hQ := hQ.below hq
      clear hq H40 e0 e1 e2 e3 e4 e5 e6 e7 e8 e9 e10 e11 e12 x0 x1 x2
      clear W
      obtain ⟨W, rfl⟩ : ∃ W, W = w1 := ⟨_, rfl⟩
      cases b40 with
      | false =>
        go_wp2
        go_ret2
        exact ⟨by rw [HV2.out (by trivial) (by trivial) (by trivial)]; rfl, hS.be⟩
      | true =>
        have hV := HV3.out (by trivial) (by simp)
        obtain ⟨k, t, rfl, hk, rfl, ht9, htt, hxh, b, rr, hb, hb39, hr, hr30⟩ := HRS.out (by trivial) (by simp)
        clear HV1 HV2 HV3 HRS
        obtain ⟨gb, off, Ap, q, hA1, hgb, _, _, c0, c1, c2, c3, c4, c5, c6, c7, c8, c9, c10, c11⟩ := hS.rd.cols.col hk
        have hgb : gb < W.heap.size := hgb
        have hN : nameL s ⟨(k : Int), (t : Int), xh⟩ = num3 (4 * b + qOf xh) ++ num2 rr ++ num2 ((2 * (t + 1) + if (s.cols.getD k default).deck then 80 else 0) % 100) := by
          unfold nameL
          simp only [Int.toNat_natCast]
          rw [hb, hr]; rfl
        rw [hN] at hV
        have hQh := hQ xh hxh
        have hq3 : qOf xh ≤ 3 := by unfold qOf; split <;> (try split) <;> omega
        obtain ⟨A1, cc1, A2, cc2, A3, cc3, A4, cc4, A5, cc5⟩ := h
        simp only at hA1
        subst hA1
        have e0 : W.cell? ⟨w.heap.size, 0, none⟩ = some (.slice (some ⟨gb, off, none⟩) s.cols.length cc1) := hS.cells.1
        have x0 : W.cell? ⟨w.heap.size + 1, 0, none⟩ = some (.int .i64 k) := hX.cell 0
        have x1 : W.cell? ⟨w.heap.size + 1, 1, none⟩ = some (.int .i64 t) := hX.cell 1
        have x2 : W.cell? ⟨w.heap.size + 1, 2, none⟩ = some (.int .u8 (xh : Nat)) := hX.cell 2
        have gl0 := hS.bk.lt
        have gl1 := hX.lt
        have gl2 : 0 < W.heap.size := block_lt_of_cell hQh
        have HBE := Lib.hid hS.be
        clear htt hN hS hX hQ
        rw [hb] at c0
        rw [hr] at c1
        generalize qOf xh = qv at *
        have K1 : Hid (∀ (V : World) (z : Int), z = ((4 * b + qv : Nat) : Int) → Calls Tryd.prog 45 #[.int .i64 z, .int .i64 3] V (Ret V (.string (strN (num3 (4 * b + qv)))))) := Lib.hid fun V z hz => by subst hz; exact number3_any _ V (by omega)
        have K2 : Hid (∀ (V : World) (z : Int), z = ((rr : Nat) : Int) → Calls Tryd.prog 45 #[.int .i64 z, .int .i64 2] V (Ret V (.string (strN (num2 rr))))) := Lib.hid fun V z hz => by subst hz; exact number2_any _ V (by omega)
        generalize hcol : s.cols.getD k default = col at *
        clear hcol
        obtain ⟨xb, xr, xd, xti, xhe, xk2, xk4, xl, xp, xx, xy, xz⟩ := col
        simp only at c0 c1 c2 c3 c4 c5 c6 c7 c8 c9 c10 c11 hV hb hr
        subst hb hr
        have i1 : (0 : Int) ≤ (k : Int) := by omega
        have i2 : (k : Int) < (s.cols.length : Int) := by omega
        have i3 : (0 : Int) ≤ (xh : Int) := by omega
        have i4 : (xh : Int) < 3 := by omega
        have s1 : IntKind.i64.wrap (4 * (b : Int)) = 4 * b := IntWalk.i64_in _ (by omega)
        have s2 : IntKind.i64.wrap (4 * (b : Int) + (qv : Int)) = 4 * b + qv := IntWalk.i64_in _ (by omega)
        have HV := Lib.hid hV; clear hV
        cases xd with
        | false =>
          have K3 : Hid (∀ (V : World) (z : Int), z = (((2 * (t + 1) + 0) % 100 : Nat) : Int) → Calls Tryd.prog 45 #[.int .i64 z, .int .i64 2] V (Ret V (.string (strN (num2 ((2 * (t + 1) + 0) % 100)))))) := Lib.hid fun V z hz => by subst hz; exact number2_any _ V (by omega)
          have hUk := Bk.new W 54 #[.int .i64 b, .int .i64 rr, .bool false, .int .i64 xti, .int .i64 xhe, .int .i64 xk2, .int .i64 xk4, .int .i64 xl, .slice Ap xp.length q, .int .i64 xx, .int .i64 xy, .int .i64 xz]
          have hUb := ba1 W (.cells #[.int .i64 b, .int .i64 rr, .bool false, .int .i64 xti, .int .i64 xhe, .int .i64 xk2, .int .i64 xk4, .int .i64 xl, .slice Ap xp.length q, .int .i64 xx, .int .i64 xy, .int .i64 xz] 54)
          have HBE2 := Lib.hid (HBE.out.trans (hUb.mono HBE.out.size))
          have u2 := (hUb.cell (p := ⟨w.heap.size + 1, 2, none⟩) gl1).trans x2
          have u3 := (hUb.cell (p := ⟨0, xh, none⟩) gl2).trans hQh
          have HKS : Hid (∀ V : World, Below (W.alloc (.cells #[.int .i64 b, .int .i64 rr, .bool false, .int .i64 xti, .int .i64 xhe, .int .i64 xk2, .int .i64 xk4, .int .i64 xl, .slice Ap xp.length q, .int .i64 xx, .int .i64 xy, .int .i64 xz] 54)).heap.size (W.alloc (.cells #[.int .i64 b, .int .i64 rr, .bool false, .int .i64 xti, .int .i64 xhe, .int .i64 xk2, .int .i64 xk4, .int .i64 xl, .slice Ap xp.length q, .int .i64 xx, .int .i64 xy, .int .i64 xz] 54)) V → V.cell? ⟨W.heap.size, 0, none⟩ = some (.int .i64 b) ∧ V.cell? ⟨W.heap.size, 1, none⟩ = some (.int .i64 rr) ∧ V.cell? ⟨w.heap.size + 1, 2, none⟩ = some (.int .u8 (xh : Nat)) ∧ V.cell? ⟨0, xh, none⟩ = some (.int .i64 qv)) :=
            Lib.hid fun V hV => ⟨(hV.cell (p := ⟨W.heap.size, 0, none⟩) hUk.lt).trans (hUk.cell 0), (hV.cell (p := ⟨W.heap.size, 1, none⟩) hUk.lt).trans (hUk.cell 1), (hV.cell (p := ⟨w.heap.size + 1, 2, none⟩) (Nat.lt_of_lt_of_le gl1 hUb.size)).trans u2, (hV.cell (p := ⟨0, xh, none⟩) (Nat.lt_of_lt_of_le gl2 hUb.size)).trans u3⟩
          clear hUk hUb u2 u3
          go_upto_region 9 with fail
          generalize (W.alloc _) = U at *
          have v0 : ∀ p : Gr U, p.W.cell? ⟨W.heap.size, 0, none⟩ = some (.int .i64 b) := fun p => (HKS.out p.W p.be).1
          have v1 : ∀ p : Gr U, p.W.cell? ⟨W.heap.size, 1, none⟩ = some (.int .i64 rr) := fun p => (HKS.out p.W p.be).2.1
          have v2 : ∀ p : Gr U, p.W.cell? ⟨w.heap.size + 1, 2, none⟩ = some (.int .u8 (xh : Nat)) := fun p => (HKS.out p.W p.be).2.2.1
          have v3 : ∀ p : Gr U, p.W.cell? ⟨0, xh, none⟩ = some (.int .i64 qv) := fun p => (HKS.out p.W p.be).2.2.2
          clear c0 c1 c2 c3 c4 c5 c6 c7 c8 c9 c10 c11 e0 x0 x1 x2 hQh
          have E1 : Hid (∀ V : World, Calls Tryd.prog 45 #[.int .i64 (4 * (b : Int) + (qv : Int)), .int .i64 3] V (Ret V (.string (strN (num3 (4 * b + qv)))))) := Lib.hid fun V => K1.out V _ (by omega)
          have E2 : Hid (∀ V : World, Calls Tryd.prog 45 #[.int .i64 (rr : Nat), .int .i64 2] V (Ret V (.string (strN (num2 rr))))) := Lib.hid fun V => K2.out V _ rfl
          have E3 := Lib.hid (fun V => K3.out V (2 * ((t : Int) + 1) % 100) (by omega))
          clear K1 K2 K3
          have z1 : (strN (num3 (4 * b + qv))).size = 3 := strN_size _
          have z2 : (strN (num2 rr)).size = 2 := strN_size _
          have z3 : ∀ m : Nat, (strN (num2 m)).size = 2 := fun m => strN_size _
          refine wp_region_gr (by kernel_rfl) (by kernel_rfl) ?_
          repeat (go_big_quiet_step ((first | (with_reducible exact Gr.call _ (fun V _ => E1.out V)) | (with_reducible exact Gr.call _ (fun V _ => E2.out V)) | (with_reducible exact Gr.call _ (fun V _ => E3.out V)))))
          refine wpQuiet_nil ?_
          rintro Y ⟨⟨_, hbY⟩, rfl⟩
          go_wp2
          go_ret2
          exact ⟨by rw [HV.out]; simp [strN_append], HBE2.out.trans (hbY.mono HBE2.out.size)⟩
        | true =>
          have K3 : Hid (∀ (V : World) (z : Int), z = (((2 * (t + 1) + 80) % 100 : Nat) : Int) → Calls Tryd.prog 45 #[.int .i64 z, .int .i64 2] V (Ret V (.string (strN (num2 ((2 * (t + 1) + 80) % 100)))))) := Lib.hid fun V z hz => by subst hz; exact number2_any _ V (by omega)
          have hUk := Bk.new W 54 #[.int .i64 b, .int .i64 rr, .bool true, .int .i64 xti, .int .i64 xhe, .int .i64 xk2, .int .i64 xk4, .int .i64 xl, .slice Ap xp.length q, .int .i64 xx, .int .i64 xy, .int .i64 xz]
          have hUb := ba1 W (.cells #[.int .i64 b, .int .i64 rr, .bool true, .int .i64 xti, .int .i64 xhe, .int .i64 xk2, .int .i64 xk4, .int .i64 xl, .slice Ap xp.length q, .int .i64 xx, .int .i64 xy, .int .i64 xz] 54)
          have HBE2 := Lib.hid (HBE.out.trans (hUb.mono HBE.out.size))
          have u2 := (hUb.cell (p := ⟨w.heap.size + 1, 2, none⟩) gl1).trans x2
          have u3 := (hUb.cell (p := ⟨0, xh, none⟩) gl2).trans hQh
          have HKS : Hid (∀ V : World, Below (W.alloc (.cells #[.int .i64 b, .int .i64 rr, .bool true, .int .i64 xti, .int .i64 xhe, .int .i64 xk2, .int .i64 xk4, .int .i64 xl, .slice Ap xp.length q, .int .i64 xx, .int .i64 xy, .int .i64 xz] 54)).heap.size (W.alloc (.cells #[.int .i64 b, .int .i64 rr, .bool true, .int .i64 xti, .int .i64 xhe, .int .i64 xk2, .int .i64 xk4, .int .i64 xl, .slice Ap xp.length q, .int .i64 xx, .int .i64 xy, .int .i64 xz] 54)) V → V.cell? ⟨W.heap.size, 0, none⟩ = some (.int .i64 b) ∧ V.cell? ⟨W.heap.size, 1, none⟩ = some (.int .i64 rr) ∧ V.cell? ⟨w.heap.size + 1, 2, none⟩ = some (.int .u8 (xh : Nat)) ∧ V.cell? ⟨0, xh, none⟩ = some (.int .i64 qv)) :=
            Lib.hid fun V hV => ⟨(hV.cell (p := ⟨W.heap.size, 0, none⟩) hUk.lt).trans (hUk.cell 0), (hV.cell (p := ⟨W.heap.size, 1, none⟩) hUk.lt).trans (hUk.cell 1), (hV.cell (p := ⟨w.heap.size + 1, 2, none⟩) (Nat.lt_of_lt_of_le gl1 hUb.size)).trans u2, (hV.cell (p := ⟨0, xh, none⟩) (Nat.lt_of_lt_of_le gl2 hUb.size)).trans u3⟩
          clear hUk hUb u2 u3
          go_upto_region 9 with fail
          generalize (W.alloc _) = U at *
          have v0 : ∀ p : Gr U, p.W.cell? ⟨W.heap.size, 0, none⟩ = some (.int .i64 b) := fun p => (HKS.out p.W p.be).1
          have v1 : ∀ p : Gr U, p.W.cell? ⟨W.heap.size, 1, none⟩ = some (.int .i64 rr) := fun p => (HKS.out p.W p.be).2.1
          have v2 : ∀ p : Gr U, p.W.cell? ⟨w.heap.size + 1, 2, none⟩ = some (.int .u8 (xh : Nat)) := fun p => (HKS.out p.W p.be).2.2.1
          have v3 : ∀ p : Gr U, p.W.cell? ⟨0, xh, none⟩ = some (.int .i64 qv) := fun p => (HKS.out p.W p.be).2.2.2
          clear c0 c1 c2 c3 c4 c5 c6 c7 c8 c9 c10 c11 e0 x0 x1 x2 hQh
          have E1 : Hid (∀ V : World, Calls Tryd.prog 45 #[.int .i64 (4 * (b : Int) + (qv : Int)), .int .i64 3] V (Ret V (.string (strN (num3 (4 * b + qv)))))) := Lib.hid fun V => K1.out V _ (by omega)
          have E2 : Hid (∀ V : World, Calls Tryd.prog 45 #[.int .i64 (rr : Nat), .int .i64 2] V (Ret V (.string (strN (num2 rr))))) := Lib.hid fun V => K2.out V _ rfl
          have E3 := Lib.hid (fun V => K3.out V ((2 * ((t : Int) + 1) + 80) % 100) (by omega))
          clear K1 K2 K3
          have z1 : (strN (num3 (4 * b + qv))).size = 3 := strN_size _
          have z2 : (strN (num2 rr)).size = 2 := strN_size _
          have z3 : ∀ m : Nat, (strN (num2 m)).size = 2 := fun m => strN_size _
          refine wp_region_gr (by kernel_rfl) (by kernel_rfl) ?_
          repeat (go_big_quiet_step ((first | (with_reducible exact Gr.call _ (fun V _ => E1.out V)) | (with_reducible exact Gr.call _ (fun V _ => E2.out V)) | (with_reducible exact Gr.call _ (fun V _ => E3.out V)))))
          refine wpQuiet_nil ?_
          rintro Y ⟨⟨_, hbY⟩, rfl⟩
          go_wp2
          go_ret2
          exact ⟨by rw [HV.out]; simp [strN_append], HBE2.out.trans (hbY.mono HBE2.out.size)⟩
    | true =>
      have hV := HV3.out (by trivial) (by simp)
      obtain ⟨k, t, rfl, hk, rfl, ht9, htt, hxh, b, rr, hb, hb39, hr, hr30⟩ := HRS.out (by trivial) (by simp)
      clear HV1 HV2 HV3 HRS H40 e0 e1 e2 e3 e4 e5 e6 e7 e8 e9 e10 e11 e12 x0 x1 x2
      obtain ⟨gb, off, Ap, q, hA1, hgb, _, _, c0, c1, c2, c3, c4, c5, c6, c7, c8, c9, c10, c11⟩ := hS.rd.cols.col hk
      have hgb : gb < W.heap.size := hgb
      have hN : nameL s ⟨(k : Int), (t : Int), xh⟩ = num3 (4 * b + qOf xh) ++ num2 rr ++ num2 ((2 * (t + 1) + if (s.cols.getD k default).deck then 80 else 0) % 100) := by
        unfold nameL
        simp only [Int.toNat_natCast]
        rw [hb, hr]; rfl
      rw [hN] at hV
      have hQh := hQ xh hxh
      have hq3 : qOf xh ≤ 3 := by unfold qOf; split <;> (try split) <;> omega
      obtain ⟨A1, cc1, A2, cc2, A3, cc3, A4, cc4, A5, cc5⟩ := h
      simp only at hA1
      subst hA1
      have e0 : W.cell? ⟨w.heap.size, 0, none⟩ = some (.slice (some ⟨gb, off, none⟩) s.cols.length cc1) := hS.cells.1
      have x0 : W.cell? ⟨w.heap.size + 1, 0, none⟩ = some (.int .i64 k) := hX.cell 0
      have x1 : W.cell? ⟨w.heap.size + 1, 1, none⟩ = some (.int .i64 t) := hX.cell 1
      have x2 : W.cell? ⟨w.heap.size + 1, 2, none⟩ = some (.int .u8 (xh : Nat)) := hX.cell 2
      have gl0 := hS.bk.lt
      have gl1 := hX.lt
      have gl2 : 0 < W.heap.size := block_lt_of_cell hQh
      have HBE := Lib.hid hS.be
      clear htt hN hS hX hQ
      rw [hb] at c0
      rw [hr] at c1
      generalize qOf xh = qv at *
      have K1 : Hid (∀ (V : World) (z : Int), z = ((4 * b + qv : Nat) : Int) → Calls Tryd.prog 45 #[.int .i64 z, .int .i64 3] V (Ret V (.string (strN (num3 (4 * b + qv)))))) := Lib.hid fun V z hz => by subst hz; exact number3_any _ V (by omega)
      have K2 : Hid (∀ (V : World) (z : Int), z = ((rr : Nat) : Int) → Calls Tryd.prog 45 #[.int .i64 z, .int .i64 2] V (Ret V (.string (strN (num2 rr))))) := Lib.hid fun V z hz => by subst hz; exact number2_any _ V (by omega)
      generalize hcol : s.cols.getD k default = col at *
      clear hcol
      obtain ⟨xb, xr, xd, xti, xhe, xk2, xk4, xl, xp, xx, xy, xz⟩ := col
      simp only at c0 c1 c2 c3 c4 c5 c6 c7 c8 c9 c10 c11 hV hb hr
      subst hb hr
      have i1 : (0 : Int) ≤ (k : Int) := by omega
      have i2 : (k : Int) < (s.cols.length : Int) := by omega
      have i3 : (0 : Int) ≤ (xh : Int) := by omega
      have i4 : (xh : Int) < 3 := by omega
      have s1 : IntKind.i64.wrap (4 * (b : Int)) = 4 * b := IntWalk.i64_in _ (by omega)
      have s2 : IntKind.i64.wrap (4 * (b : Int) + (qv : Int)) = 4 * b + qv := IntWalk.i64_in _ (by omega)
      have HV := Lib.hid hV; clear hV
      cases xd with
      | false =>
        have K3 : Hid (∀ (V : World) (z : Int), z = (((2 * (t + 1) + 0) % 100 : Nat) : Int) → Calls Tryd.prog 45 #[.int .i64 z, .int .i64 2] V (Ret V (.string (strN (num2 ((2 * (t + 1) + 0) % 100)))))) := Lib.hid fun V z hz => by subst hz; exact number2_any _ V (by omega)
        have hUk := Bk.new W 54 #[.int .i64 b, .int .i64 rr, .bool false, .int .i64 xti, .int .i64 xhe, .int .i64 xk2, .int .i64 xk4, .int .i64 xl, .slice Ap xp.length q, .int .i64 xx, .int .i64 xy, .int .i64 xz]
        have hUb := ba1 W (.cells #[.int .i64 b, .int .i64 rr, .bool false, .int .i64 xti, .int .i64 xhe, .int .i64 xk2, .int .i64 xk4, .int .i64 xl, .slice Ap xp.length q, .int .i64 xx, .int .i64 xy, .int .i64 xz] 54)
        have HBE2 := Lib.hid (HBE.out.trans (hUb.mono HBE.out.size))
        have u2 := (hUb.cell (p := ⟨w.heap.size + 1, 2, none⟩) gl1).trans x2
        have u3 := (hUb.cell (p := ⟨0, xh, none⟩) gl2).trans hQh
        have HKS : Hid (∀ V : World, Below (W.alloc (.cells #[.int .i64 b, .int .i64 rr, .bool false, .int .i64 xti, .int .i64 xhe, .int .i64 xk2, .int .i64 xk4, .int .i64 xl, .slice Ap xp.length q, .int .i64 xx, .int .i64 xy, .int .i64 xz] 54)).heap.size (W.alloc (.cells #[.int .i64 b, .int .i64 rr, .bool false, .int .i64 xti, .int .i64 xhe, .int .i64 xk2, .int .i64 xk4, .int .i64 xl, .slice Ap xp.length q, .int .i64 xx, .int .i64 xy, .int .i64 xz] 54)) V → V.cell? ⟨W.heap.size, 0, none⟩ = some (.int .i64 b) ∧ V.cell? ⟨W.heap.size, 1, none⟩ = some (.int .i64 rr) ∧ V.cell? ⟨w.heap.size + 1, 2, none⟩ = some (.int .u8 (xh : Nat)) ∧ V.cell? ⟨0, xh, none⟩ = some (.int .i64 qv)) :=
          Lib.hid fun V hV => ⟨(hV.cell (p := ⟨W.heap.size, 0, none⟩) hUk.lt).trans (hUk.cell 0), (hV.cell (p := ⟨W.heap.size, 1, none⟩) hUk.lt).trans (hUk.cell 1), (hV.cell (p := ⟨w.heap.size + 1, 2, none⟩) (Nat.lt_of_lt_of_le gl1 hUb.size)).trans u2, (hV.cell (p := ⟨0, xh, none⟩) (Nat.lt_of_lt_of_le gl2 hUb.size)).trans u3⟩
        clear hUk hUb u2 u3
        go_upto_region 9 with fail
        generalize (W.alloc _) = U at *
        have v0 : ∀ p : Gr U, p.W.cell? ⟨W.heap.size, 0, none⟩ = some (.int .i64 b) := fun p => (HKS.out p.W p.be).1
        have v1 : ∀ p : Gr U, p.W.cell? ⟨W.heap.size, 1, none⟩ = some (.int .i64 rr) := fun p => (HKS.out p.W p.be).2.1
        have v2 : ∀ p : Gr U, p.W.cell? ⟨w.heap.size + 1, 2, none⟩ = some (.int .u8 (xh : Nat)) := fun p => (HKS.out p.W p.be).2.2.1
        have v3 : ∀ p : Gr U, p.W.cell? ⟨0, xh, none⟩ = some (.int .i64 qv) := fun p => (HKS.out p.W p.be).2.2.2
        clear c0 c1 c2 c3 c4 c5 c6 c7 c8 c9 c10 c11 e0 x0 x1 x2 hQh
        have E1 : Hid (∀ V : World, Calls Tryd.prog 45 #[.int .i64 (4 * (b : Int) + (qv : Int)), .int .i64 3] V (Ret V (.string (strN (num3 (4 * b + qv)))))) := Lib.hid fun V => K1.out V _ (by omega)
        have E2 : Hid (∀ V : World, Calls Tryd.prog 45 #[.int .i64 (rr : Nat), .int .i64 2] V (Ret V (.string (strN (num2 rr))))) := Lib.hid fun V => K2.out V _ rfl
        have E3 := Lib.hid (fun V => K3.out V (2 * ((t : Int) + 1) % 100) (by omega))
        clear K1 K2 K3
        have z1 : (strN (num3 (4 * b + qv))).size = 3 := strN_size _
        have z2 : (strN (num2 rr)).size = 2 := strN_size _
        have z3 : ∀ m : Nat, (strN (num2 m)).size = 2 := fun m => strN_size _
        refine wp_region_gr (by kernel_rfl) (by kernel_rfl) ?_
        repeat (go_big_quiet_step ((first | (with_reducible exact Gr.call _ (fun V _ => E1.out V)) | (with_reducible exact Gr.call _ (fun V _ => E2.out V)) | (with_reducible exact Gr.call _ (fun V _ => E3.out V)))))
        refine wpQuiet_nil ?_
        rintro Y ⟨⟨_, hbY⟩, rfl⟩
        go_wp2
        go_ret2
        exact ⟨by rw [HV.out]; simp [strN_append], HBE2.out.trans (hbY.mono HBE2.out.size)⟩
      | true =>
        have K3 : Hid (∀ (V : World) (z : Int), z = (((2 * (t + 1) + 80) % 100 : Nat) : Int) → Calls Tryd.prog 45 #[.int .i64 z, .int .i64 2] V (Ret V (.string (strN (num2 ((2 * (t + 1) + 80) % 100)))))) := Lib.hid fun V z hz => by subst hz; exact number2_any _ V (by omega)
        have hUk := Bk.new W 54 #[.int .i64 b, .int .i64 rr, .bool true, .int .i64 xti, .int .i64 xhe, .int .i64 xk2, .int .i64 xk4, .int .i64 xl, .slice Ap xp.length q, .int .i64 xx, .int .i64 xy, .int .i64 xz]
        have hUb := ba1 W (.cells #[.int .i64 b, .int .i64 rr, .bool true, .int .i64 xti, .int .i64 xhe, .int .i64 xk2, .int .i64 xk4, .int .i64 xl, .slice Ap xp.length q, .int .i64 xx, .int .i64 xy, .int .i64 xz] 54)
        have HBE2 := Lib.hid (HBE.out.trans (hUb.mono HBE.out.size))
        have u2 := (hUb.cell (p := ⟨w.heap.size + 1, 2, none⟩) gl1).trans x2
        have u3 := (hUb.cell (p := ⟨0, xh, none⟩) gl2).trans hQh
        have HKS : Hid (∀ V : World, Below (W.alloc (.cells #[.int .i64 b, .int .i64 rr, .bool true, .int .i64 xti, .int .i64 xhe, .int .i64 xk2, .int .i64 xk4, .int .i64 xl, .slice Ap xp.length q, .int .i64 xx, .int .i64 xy, .int .i64 xz] 54)).heap.size (W.alloc (.cells #[.int .i64 b, .int .i64 rr, .bool true, .int .i64 xti, .int .i64 xhe, .int .i64 xk2, .int .i64 xk4, .int .i64 xl, .slice Ap xp.length q, .int .i64 xx, .int .i64 xy, .int .i64 xz] 54)) V → V.cell? ⟨W.heap.size, 0, none⟩ = some (.int .i64 b) ∧ V.cell? ⟨W.heap.size, 1, none⟩ = some (.int .i64 rr) ∧ V.cell? ⟨w.heap.size + 1, 2, none⟩ = some (.int .u8 (xh : Nat)) ∧ V.cell? ⟨0, xh, none⟩ = some (.int .i64 qv)) :=
          Lib.hid fun V hV => ⟨(hV.cell (p := ⟨W.heap.size, 0, none⟩) hUk.lt).trans (hUk.cell 0), (hV.cell (p := ⟨W.heap.size, 1, none⟩) hUk.lt).trans (hUk.cell 1), (hV.cell (p := ⟨w.heap.size + 1, 2, none⟩) (Nat.lt_of_lt_of_le gl1 hUb.size)).trans u2, (hV.cell (p := ⟨0, xh, none⟩) (Nat.lt_of_lt_of_le gl2 hUb.size)).trans u3⟩
        clear hUk hUb u2 u3
        go_upto_region 9 with fail
        generalize (W.alloc _) = U at *
        have v0 : ∀ p : Gr U, p.W.cell? ⟨W.heap.size, 0, none⟩ = some (.int .i64 b) := fun p => (HKS.out p.W p.be).1
        have v1 : ∀ p : Gr U, p.W.cell? ⟨W.heap.size, 1, none⟩ = some (.int .i64 rr) := fun p => (HKS.out p.W p.be).2.1
        have v2 : ∀ p : Gr U, p.W.cell? ⟨w.heap.size + 1, 2, none⟩ = some (.int .u8 (xh : Nat)) := fun p => (HKS.out p.W p.be).2.2.1
        have v3 : ∀ p : Gr U, p.W.cell? ⟨0, xh, none⟩ = some (.int .i64 qv) := fun p => (HKS.out p.W p.be).2.2.2
        clear c0 c1 c2 c3 c4 c5 c6 c7 c8 c9 c10 c11 e0 x0 x1 x2 hQh
        have E1 : Hid (∀ V : World, Calls Tryd.prog 45 #[.int .i64 (4 * (b : Int) + (qv : Int)), .int .i64 3] V (Ret V (.string (strN (num3 (4 * b + qv)))))) := Lib.hid fun V => K1.out V _ (by omega)
        have E2 : Hid (∀ V : World, Calls Tryd.prog 45 #[.int .i64 (rr : Nat), .int .i64 2] V (Ret V (.string (strN (num2 rr))))) := Lib.hid fun V => K2.out V _ rfl
        have E3 := Lib.hid (fun V => K3.out V ((2 * ((t : Int) + 1) + 80) % 100) (by omega))
        clear K1 K2 K3
        have z1 : (strN (num3 (4 * b + qv))).size = 3 := strN_size _
        have z2 : (strN (num2 rr)).size = 2 := strN_size _
        have z3 : ∀ m : Nat, (strN (num2 m)).size = 2 := fun m => strN_size _
        refine wp_region_gr (by kernel_rfl) (by kernel_rfl) ?_
        repeat (go_big_quiet_step ((first | (with_reducible exact Gr.call _ (fun V _ => E1.out V)) | (with_reducible exact Gr.call _ (fun V _ => E2.out V)) | (with_reducible exact Gr.call _ (fun V _ => E3.out V)))))
        refine wpQuiet_nil ?_
        rintro Y ⟨⟨_, hbY⟩, rfl⟩
        go_wp2
        go_ret2
        exact ⟨by rw [HV.out]; simp [strN_append], HBE2.out.trans (hbY.mono HBE2.out.size)⟩
end Go.Proofs.YtggebllkkiennaaDoor
