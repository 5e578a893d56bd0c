/-
  Walks of the reference of chapter 10: kilos, Weigh, Below.
-/
import Derived.Test.YtmkplemdnglhmaaRhA
import Derived.Test.YtmkplemdnglhmaaStG
import Derived.Test.YtmkplemdnglhmaaStH
namespace Go.Proofs.Ytmkplemdnglhmaa
open Go.RowKit

set_option maxRecDepth 100000 in
set_option maxHeartbeats 4000000 in
theorem refKilos_any (A : Option Addr) (c : Nat) (boxes : List Bx) (x : Stw) (w : World) (hb : SlT tBx w (Lt w.heap.size) A boxes) (hbl : boxes.length ≤ 1000000) :
    Calls Try.prog 63 #[.slice A boxes.length c, .agg (stwL x).toArray] w (Ret w (.int .i64 (findBx boxes x.box).1.kilos)) := by
  have hb0 := ba1 w (.cells (stwL x).toArray 42)
  have KX := Lib.hid (Bk.new w 42 (stwL x).toArray)
  have HB0 := Lib.hid hb0
  have KF := Lib.hid (refFindBx_any A c boxes x.box (w.alloc (.cells (stwL x).toArray 42)) (hb.on hb0) hbl)
  clear hb hb0
  generalize findBx boxes x.box = fb at *
  obtain ⟨⟨b0, b1, b2, b3, b4, b5, b6, b7, b8⟩, ok⟩ := fb
  obtain ⟨xb, xc, xt, xh⟩ := x
  unfold bxL at KF
  unfold stwL at *
  simp only at *
  go_enter Try.func63, Try.ntmps63
  go_upto_region 1 with fail
  generalize (w.alloc _) = W at *
  have x0 : W.cell? ⟨w.heap.size, 0, none⟩ = some (.int .i64 xb) := KX.out.cell 0
  go_wp2_with fail
  refine KF.out.mono ?_
  rintro e V1 ⟨rfl, hb1⟩
  simp only
  have HE := Lib.hid (HB0.out.trans ((hb1.trans ((ba1 V1 (.cells #[.int .i64 b0, .string b1, .int .u8 (b2 : Nat), .bool b3, .int .i64 b4, .int .i64 b5, .int .i64 b6, .int .u8 (b7 : Nat), .bool b8] 37)).mono hb1.size)).mono HB0.out.size))
  clear x0 KX hb1 HB0
  go_wp2_with fail
  go_ret
  exact ⟨rfl, HE.out⟩
set_option maxRecDepth 100000 in
set_option maxHeartbeats 4000000 in
theorem refWeigh_any (A : Option Addr) (c : Nat) (boxes : List Bx) (A2 : Option Addr) (c2 : Nat) (l : List Stw) (col : Int) (w : World) (hkg : KgOK boxes) (hb : SlT tBx w (Lt w.heap.size) A boxes) (hbl : boxes.length ≤ 1000000) (hs : SlT tStw w (Lt w.heap.size) A2 l) (hl : l.length ≤ 1000000) :
    Calls Try.prog 20 #[.slice A boxes.length c, .slice A2 l.length c2, .int .i64 col] w (Ret w (.tuple #[.int .i64 (sumF boxes l (halfB col 1)), .int .i64 (sumF boxes l (halfB col 2)), .int .i64 (sumF boxes l (colB col))])) := by
  have HS := Lib.hid hs
  have HBX := Lib.hid hb
  have HKG := Lib.hid hkg
  clear hs hb hkg
  go_enter Try.func20, Try.ntmps20
  go_wp2_with fail
  go_loopw [9, 10, 11, 12] (fun v1 v2 v3 i wr => ∃ (k : Nat) (n1 n2 n3 : Int), k ≤ l.length ∧ i = .int .i64 k ∧ v1 = .int .i64 n1 ∧ v2 = .int .i64 n2 ∧ v3 = .int .i64 n3 ∧ Hid (n1 = ((l.take k).map (kgOf boxes (halfB col 1))).sum ∧ n2 = ((l.take k).map (kgOf boxes (halfB col 2))).sum ∧ n3 = ((l.take k).map (kgOf boxes (colB col))).sum) ∧ Hid (Below w.heap.size w wr)) (fun _ _ _ i _ => l.length - (intOf i).toNat)
  case atStart => exact ⟨0, 0, 0, 0, Nat.zero_le _, rfl, rfl, rfl, rfl, Lib.hid (And.intro (by simp) (And.intro (by simp) (by simp))), Lib.hid (Below.refl _ _)⟩
  case round =>
    obtain ⟨k, n1, n2, n3, hk, rfl, rfl, rfl, rfl, HN, HB⟩ := hrel
    obtain ⟨V, rfl⟩ : ∃ V, V = wr := ⟨_, rfl⟩
    by_cases hlt : k < l.length
    · obtain ⟨b, off, rfl, hbB, a0, a1, a2, a3⟩ := (HS.out.on HB.out).stw hlt
      have HP0 := Lib.hid (sum_take_succ (kgOf boxes (halfB col 1)) l hlt default)
      have HP1 := Lib.hid (sum_take_succ (kgOf boxes (halfB col 2)) l hlt default)
      have HP2 := Lib.hid (sum_take_succ (kgOf boxes (colB col)) l hlt default)
      have hd1 := sum_bd2 (kgOf boxes (halfB col 1)) 1000000000000 (l.take k) (fun x _ => kg_bd HKG.out _ x)
      have hd2 := sum_bd2 (kgOf boxes (halfB col 2)) 1000000000000 (l.take k) (fun x _ => kg_bd HKG.out _ x)
      have hd3 := sum_bd2 (kgOf boxes (colB col)) 1000000000000 (l.take k) (fun x _ => kg_bd HKG.out _ x)
      rw [← HN.out.1] at hd1
      rw [← HN.out.2.1] at hd2
      rw [← HN.out.2.2] at hd3
      have hlk : (l.take k).length = k := by simp; omega
      rw [hlk] at hd1 hd2 hd3
      clear hlk
      have i0 : (0 : Int) ≤ (k : Int) := by omega
      have i1 : (k : Int) < (l.length : Int) := by omega
      obtain ⟨d1, d2⟩ := (show -1000000000000000000 ≤ n1 ∧ n1 ≤ 1000000000000000000 from ⟨by omega, by omega⟩)
      obtain ⟨d3, d4⟩ := (show -1000000000000000000 ≤ n2 ∧ n2 ≤ 1000000000000000000 from ⟨by omega, by omega⟩)
      obtain ⟨d5, d6⟩ := (show -1000000000000000000 ≤ n3 ∧ n3 ≤ 1000000000000000000 from ⟨by omega, by omega⟩)
      clear hd1 hd2 hd3
      have hbb : b < V.heap.size := hbB
      clear hbB
      generalize l.getD k default = x at *
      obtain ⟨xb, xc, xt, xh⟩ := x
      simp only at a0 a1 a2 a3
      have KC := Lib.hid (refKilos_any A c boxes ⟨xb, xc, xt, xh⟩ V (HBX.out.on HB.out) hbl)
      obtain ⟨g1, g2⟩ := find_kg HKG.out xb
      have HK0 : Hid (kgOf boxes (halfB col 1) ⟨xb, ⟨xc, xt, xh⟩⟩ = if (xc == col) && ((xh : Int) == 1) then (findBx boxes xb).1.kilos else 0) := Lib.hid (by
        rw [show ((xh : Int) == 1) = (xh == 1) from int_beq xh 1]; rfl)
      have HK1 : Hid (kgOf boxes (halfB col 2) ⟨xb, ⟨xc, xt, xh⟩⟩ = if (xc == col) && ((xh : Int) == 2) then (findBx boxes xb).1.kilos else 0) := Lib.hid (by
        rw [show ((xh : Int) == 2) = (xh == 2) from int_beq xh 2]; rfl)
      have HK2 : Hid (kgOf boxes (colB col) ⟨xb, ⟨xc, xt, xh⟩⟩ = if xc == col then (findBx boxes xb).1.kilos else 0) := Lib.hid rfl
      unfold stwL at KC
      simp only at KC
      generalize (findBx boxes xb).1.kilos = kg at *
      go_step
      go_step
      go_upto_region 5 with fail
      cases p1 : (xc != col) with
      | true =>
        have HG0 : Hid (kgOf boxes (halfB col 1) ⟨xb, ⟨xc, xt, xh⟩⟩ = 0) := Lib.hid (by
          rw [HK0.out, show (xc == col) = false by simpa using p1]
          simp)
        have HG1 : Hid (kgOf boxes (halfB col 2) ⟨xb, ⟨xc, xt, xh⟩⟩ = 0) := Lib.hid (by
          rw [HK1.out, show (xc == col) = false by simpa using p1]
          simp)
        have HG2 : Hid (kgOf boxes (colB col) ⟨xb, ⟨xc, xt, xh⟩⟩ = 0) := Lib.hid (by
          rw [HK2.out, show (xc == col) = false by simpa using p1]
          rfl)
        have HM0 : Hid (n1 = ((l.take (k + 1)).map (kgOf boxes (halfB col 1))).sum) := Lib.hid (by rw [HP0.out, ← HN.out.1, HG0.out]; simp)
        have HM1 : Hid (n2 = ((l.take (k + 1)).map (kgOf boxes (halfB col 2))).sum) := Lib.hid (by rw [HP1.out, ← HN.out.2.1, HG1.out]; simp)
        have HM2 : Hid (n3 = ((l.take (k + 1)).map (kgOf boxes (colB col))).sum) := Lib.hid (by rw [HP2.out, ← HN.out.2.2, HG2.out]; simp)
        have HM := Lib.hid (And.intro HM0.out (And.intro HM1.out HM2.out))
        clear HM0 HM1 HM2 HG0 HG1 HG2 HK0 HK1 HK2 HP0 HP1 HP2 HN
        clear KC
        go_wp2_with fail
        clear a0 a1 a2 a3
        go_roundw
        case rel => first | exact ⟨k + 1, _, _, _, by omega, by go_num, rfl, rfl, rfl, HM, HB⟩ | ((repeat apply Exists.intro); (first | exact ⟨⟨k + 1, _, _, _, by omega, by go_num, rfl, rfl, rfl, HM, HB⟩, rfl⟩ | exact ⟨by omega, by go_num, rfl, rfl, rfl, HM, HB⟩))
        case measure => simp [intOf]; omega
      | false =>
        go_wp2_with fail
        refine KC.out.mono ?_
        rintro e V1 ⟨rfl, hb1⟩
        simp only
        replace a0 := (hb1.cell (p := ⟨b, off + k * 4, none⟩) hbb).trans a0
        replace a1 := (hb1.cell (p := ⟨b, off + k * 4 + 1, none⟩) hbb).trans a1
        replace a2 := (hb1.cell (p := ⟨b, off + k * 4 + 2, none⟩) hbb).trans a2
        replace a3 := (hb1.cell (p := ⟨b, off + k * 4 + 3, none⟩) hbb).trans a3
        have HB2 := Lib.hid (HB.out.trans (hb1.mono HB.out.size))
        clear hb1 KC HB hbb
        cases p2 : ((xh : Int) == 1) with
        | true =>
          cases p3 : ((xh : Int) == 2) with
          | true =>
            exfalso
            simp at p2 p3
            omega
          | false =>
            have HG0 : Hid (kgOf boxes (halfB col 1) ⟨xb, ⟨xc, xt, xh⟩⟩ = kg) := Lib.hid (by
              rw [HK0.out, show (xc == col) = true by simpa using p1, p2]
              rfl)
            have HG1 : Hid (kgOf boxes (halfB col 2) ⟨xb, ⟨xc, xt, xh⟩⟩ = 0) := Lib.hid (by
              rw [HK1.out, show (xc == col) = true by simpa using p1, p3]
              rfl)
            have HG2 : Hid (kgOf boxes (colB col) ⟨xb, ⟨xc, xt, xh⟩⟩ = kg) := Lib.hid (by
              rw [HK2.out, show (xc == col) = true by simpa using p1]
              rfl)
            have HM0 : Hid (n1 + kg = ((l.take (k + 1)).map (kgOf boxes (halfB col 1))).sum) := Lib.hid (by rw [HP0.out, ← HN.out.1, HG0.out])
            have HM1 : Hid (n2 = ((l.take (k + 1)).map (kgOf boxes (halfB col 2))).sum) := Lib.hid (by rw [HP1.out, ← HN.out.2.1, HG1.out]; simp)
            have HM2 : Hid (n3 + kg = ((l.take (k + 1)).map (kgOf boxes (colB col))).sum) := Lib.hid (by rw [HP2.out, ← HN.out.2.2, HG2.out])
            have HM := Lib.hid (And.intro HM0.out (And.intro HM1.out HM2.out))
            clear HM0 HM1 HM2 HG0 HG1 HG2 HK0 HK1 HK2 HP0 HP1 HP2 HN
            go_wp2_with fail
            clear a0 a1 a2 a3
            go_roundw
            case rel => first | exact ⟨k + 1, _, _, _, by omega, by go_num, rfl, rfl, rfl, HM, HB2⟩ | ((repeat apply Exists.intro); (first | exact ⟨⟨k + 1, _, _, _, by omega, by go_num, rfl, rfl, rfl, HM, HB2⟩, rfl⟩ | exact ⟨by omega, by go_num, rfl, rfl, rfl, HM, HB2⟩))
            case measure => simp [intOf]; omega
        | false =>
          cases p3 : ((xh : Int) == 2) with
          | true =>
            have HG0 : Hid (kgOf boxes (halfB col 1) ⟨xb, ⟨xc, xt, xh⟩⟩ = 0) := Lib.hid (by
              rw [HK0.out, show (xc == col) = true by simpa using p1, p2]
              rfl)
            have HG1 : Hid (kgOf boxes (halfB col 2) ⟨xb, ⟨xc, xt, xh⟩⟩ = kg) := Lib.hid (by
              rw [HK1.out, show (xc == col) = true by simpa using p1, p3]
              rfl)
            have HG2 : Hid (kgOf boxes (colB col) ⟨xb, ⟨xc, xt, xh⟩⟩ = kg) := Lib.hid (by
              rw [HK2.out, show (xc == col) = true by simpa using p1]
              rfl)
            have HM0 : Hid (n1 = ((l.take (k + 1)).map (kgOf boxes (halfB col 1))).sum) := Lib.hid (by rw [HP0.out, ← HN.out.1, HG0.out]; simp)
            have HM1 : Hid (n2 + kg = ((l.take (k + 1)).map (kgOf boxes (halfB col 2))).sum) := Lib.hid (by rw [HP1.out, ← HN.out.2.1, HG1.out])
            have HM2 : Hid (n3 + kg = ((l.take (k + 1)).map (kgOf boxes (colB col))).sum) := Lib.hid (by rw [HP2.out, ← HN.out.2.2, HG2.out])
            have HM := Lib.hid (And.intro HM0.out (And.intro HM1.out HM2.out))
            clear HM0 HM1 HM2 HG0 HG1 HG2 HK0 HK1 HK2 HP0 HP1 HP2 HN
            go_wp2_with fail
            clear a0 a1 a2 a3
            go_roundw
            case rel => first | exact ⟨k + 1, _, _, _, by omega, by go_num, rfl, rfl, rfl, HM, HB2⟩ | ((repeat apply Exists.intro); (first | exact ⟨⟨k + 1, _, _, _, by omega, by go_num, rfl, rfl, rfl, HM, HB2⟩, rfl⟩ | exact ⟨by omega, by go_num, rfl, rfl, rfl, HM, HB2⟩))
            case measure => simp [intOf]; omega
          | false =>
            have HG0 : Hid (kgOf boxes (halfB col 1) ⟨xb, ⟨xc, xt, xh⟩⟩ = 0) := Lib.hid (by
              rw [HK0.out, show (xc == col) = true by simpa using p1, p2]
              rfl)
            have HG1 : Hid (kgOf boxes (halfB col 2) ⟨xb, ⟨xc, xt, xh⟩⟩ = 0) := Lib.hid (by
              rw [HK1.out, show (xc == col) = true by simpa using p1, p3]
              rfl)
            have HG2 : Hid (kgOf boxes (colB col) ⟨xb, ⟨xc, xt, xh⟩⟩ = kg) := Lib.hid (by
              rw [HK2.out, show (xc == col) = true by simpa using p1]
              rfl)
            have HM0 : Hid (n1 = ((l.take (k + 1)).map (kgOf boxes (halfB col 1))).sum) := Lib.hid (by rw [HP0.out, ← HN.out.1, HG0.out]; simp)
            have HM1 : Hid (n2 = ((l.take (k + 1)).map (kgOf boxes (halfB col 2))).sum) := Lib.hid (by rw [HP1.out, ← HN.out.2.1, HG1.out]; simp)
            have HM2 : Hid (n3 + kg = ((l.take (k + 1)).map (kgOf boxes (colB col))).sum) := Lib.hid (by rw [HP2.out, ← HN.out.2.2, HG2.out])
            have HM := Lib.hid (And.intro HM0.out (And.intro HM1.out HM2.out))
            clear HM0 HM1 HM2 HG0 HG1 HG2 HK0 HK1 HK2 HP0 HP1 HP2 HN
            go_wp2_with fail
            clear a0 a1 a2 a3
            go_roundw
            case rel => first | exact ⟨k + 1, _, _, _, by omega, by go_num, rfl, rfl, rfl, HM, HB2⟩ | ((repeat apply Exists.intro); (first | exact ⟨⟨k + 1, _, _, _, by omega, by go_num, rfl, rfl, rfl, HM, HB2⟩, rfl⟩ | exact ⟨by omega, by go_num, rfl, rfl, rfl, HM, HB2⟩))
            case measure => simp [intOf]; omega
    · obtain rfl : k = l.length := by omega
      have HE : Hid (n1 = sumF boxes l (halfB col 1) ∧ n2 = sumF boxes l (halfB col 2) ∧ n3 = sumF boxes l (colB col)) := Lib.hid (by have := HN.out; rw [List.take_length] at this; exact this)
      go_wp2_with fail
      refine bodyPost_ret (results_tmp3 rfl _ _ _) rfl ?_
      exact ⟨by rw [← HE.out.1, ← HE.out.2.1, ← HE.out.2.2]; rfl, HB.out⟩
set_option maxRecDepth 100000 in
set_option maxHeartbeats 4000000 in
theorem refBelow_any (A : Option Addr) (c : Nat) (boxes : List Bx) (A2 : Option Addr) (c2 : Nat) (l : List Stw) (x : Slt) (w : World) (hkg : KgOK boxes) (hb : SlT tBx w (Lt w.heap.size) A boxes) (hbl : boxes.length ≤ 1000000) (hs : SlT tStw w (Lt w.heap.size) A2 l) (hl : l.length ≤ 1000000)
    (ht : x.tier ≤ 9223372036854775807) (hti : ∀ y ∈ l, -9223372036854775808 ≤ y.slot.tier) :
    Calls Try.prog 22 #[.slice A boxes.length c, .slice A2 l.length c2, .agg (sltL x).toArray] w (Ret w (.int .i64 (sumF boxes l (belowB x)))) := by
  obtain ⟨xc, xt, xh⟩ := x
  have hb0 := ba1 w (.cells #[.int .i64 xc, .int .i64 xt, .int .u8 (xh : Nat)] 40)
  have KX := Lib.hid (Bk.new w 40 #[.int .i64 xc, .int .i64 xt, .int .u8 (xh : Nat)])
  have HS := Lib.hid (hs.on hb0)
  have HBX := Lib.hid (hb.on hb0)
  have HKG := Lib.hid hkg
  have HB0 := Lib.hid hb0
  have HTI := Lib.hid hti
  clear hs hb hkg hb0 hti
  unfold sltL
  simp only at *
  go_enter Try.func22, Try.ntmps22
  go_upto_region 1 with fail
  generalize hW : (w.alloc _) = W at *
  clear hW
  go_wp2_with fail
  go_loopw [7, 8] (fun v i wr => ∃ (k : Nat) (n : Int), k ≤ l.length ∧ i = .int .i64 k ∧ v = .int .i64 n ∧ Hid (n = ((l.take k).map (kgOf boxes (belowB ⟨xc, xt, xh⟩))).sum) ∧ Hid (Below W.heap.size W wr)) (fun _ i _ => l.length - (intOf i).toNat)
  case atStart => exact ⟨0, 0, Nat.zero_le _, rfl, rfl, Lib.hid (by simp), Lib.hid (Below.refl _ _)⟩
  case round =>
    obtain ⟨k, n, hk, rfl, rfl, HN, HB⟩ := hrel
    obtain ⟨V, rfl⟩ : ∃ V, V = wr := ⟨_, rfl⟩
    by_cases hlt : k < l.length
    · obtain ⟨b, off, rfl, hbB, a0, a1, a2, a3⟩ := (HS.out.on HB.out).stw hlt
      have HP := Lib.hid (sum_take_succ (kgOf boxes (belowB ⟨xc, xt, xh⟩)) l hlt default)
      have hd1 := sum_bd2 (kgOf boxes (belowB ⟨xc, xt, xh⟩)) 1000000000000 (l.take k) (fun x _ => kg_bd HKG.out _ x)
      rw [← HN.out] at hd1
      have hlk : (l.take k).length = k := by simp; omega
      rw [hlk] at hd1
      clear hlk
      have i0 : (0 : Int) ≤ (k : Int) := by omega
      have i1 : (k : Int) < (l.length : Int) := by omega
      obtain ⟨d1, d2⟩ := (show -1000000000000000000 ≤ n ∧ n ≤ 1000000000000000000 from ⟨by omega, by omega⟩)
      clear hd1
      have hbb : b < V.heap.size := hbB
      clear hbB
      have t1 := HTI.out _ (getD_memD hlt default)
      generalize l.getD k default = y at *
      obtain ⟨yb, yc, yt, yh⟩ := y
      simp only at a0 a1 a2 a3 t1
      obtain ⟨g1, g2⟩ := find_kg HKG.out yb
      have HK : Hid (kgOf boxes (belowB ⟨xc, xt, xh⟩) ⟨yb, ⟨yc, yt, yh⟩⟩ = if (yc == xc) && (decide (yt < xt) && ((yt + 1 == xt) && (((yh : Int) == (xh : Int)) || (((yh : Int) == 0) || ((xh : Int) == 0))))) then (findBx boxes yb).1.kilos else 0) := Lib.hid (by
        rw [int_beq, show ((yh : Int) == 0) = (yh == 0) from int_beq yh 0, show ((xh : Int) == 0) = (xh == 0) from int_beq xh 0, show (yt + 1 == xt) = (yt == xt - 1) by rw [Bool.eq_iff_iff]; simp; omega]
        rfl)
      have hby := ba1 V (.cells #[.int .i64 yc, .int .i64 yt, .int .u8 (yh : Nat)] 40)
      have KY := Lib.hid (Bk.new V 40 #[.int .i64 yc, .int .i64 yt, .int .u8 (yh : Nat)])
      have HB2 := Lib.hid (HB.out.trans (hby.mono HB.out.size))
      have KC : Hid (∀ U, Below (V.alloc (.cells #[.int .i64 yc, .int .i64 yt, .int .u8 (yh : Nat)] 40)).heap.size (V.alloc (.cells #[.int .i64 yc, .int .i64 yt, .int .u8 (yh : Nat)] 40)) U → Calls Try.prog 63 #[.slice A boxes.length c, .agg #[.int .i64 yb, .int .i64 yc, .int .i64 yt, .int .u8 (yh : Nat)]] U (Ret U (.int .i64 (findBx boxes yb).1.kilos))) := Lib.hid fun U hU => refKilos_any A c boxes ⟨yb, yc, yt, yh⟩ U (HBX.out.on (HB2.out.trans (hU.mono HB2.out.size))) hbl
      generalize (findBx boxes yb).1.kilos = kg at *
      go_step
      go_step
      go_upto_region 6 with fail
      replace a0 := (hby.cell (p := ⟨b, off + k * 4, none⟩) hbb).trans a0
      replace a1 := (hby.cell (p := ⟨b, off + k * 4 + 1, none⟩) hbb).trans a1
      replace a2 := (hby.cell (p := ⟨b, off + k * 4 + 2, none⟩) hbb).trans a2
      replace a3 := (hby.cell (p := ⟨b, off + k * 4 + 3, none⟩) hbb).trans a3
      obtain ⟨gy, hgy⟩ : ∃ gy, gy = V.heap.size := ⟨_, rfl⟩
      rw [← hgy] at KY ⊢
      clear hby hbb HB
      clear hgy
      generalize (V.alloc _) = W2 at *
      have y0 : W2.cell? ⟨gy, 0, none⟩ = some (.int .i64 yc) := KY.out.cell 0
      have y1 : W2.cell? ⟨gy, 1, none⟩ = some (.int .i64 yt) := KY.out.cell 1
      have y2 : W2.cell? ⟨gy, 2, none⟩ = some (.int .u8 (yh : Nat)) := KY.out.cell 2
      have x0 : W2.cell? ⟨w.heap.size, 0, none⟩ = some (.int .i64 xc) := (KX.out.below HB2.out KX.out.lt).cell 0
      have x1 : W2.cell? ⟨w.heap.size, 1, none⟩ = some (.int .i64 xt) := (KX.out.below HB2.out KX.out.lt).cell 1
      have x2 : W2.cell? ⟨w.heap.size, 2, none⟩ = some (.int .u8 (xh : Nat)) := (KX.out.below HB2.out KX.out.lt).cell 2
      clear KY
      cases q1 : ((yh : Int) == (xh : Int)) with
      | true =>
        cases p1 : (yc == xc) with
        | false =>
          have HG : Hid (kgOf boxes (belowB ⟨xc, xt, xh⟩) ⟨yb, ⟨yc, yt, yh⟩⟩ = 0) := Lib.hid (by rw [HK.out, p1, q1]; simp)
          have HM : Hid (n = ((l.take (k + 1)).map (kgOf boxes (belowB ⟨xc, xt, xh⟩))).sum) := Lib.hid (by rw [HP.out, ← HN.out, HG.out]; simp)
          clear HG HK HP HN
          clear KC
          go_wp2_with fail
          clear a0 a1 a2 a3 x0 x1 x2 y0 y1 y2
          go_roundw
          case rel => first | exact ⟨k + 1, _, by omega, by go_num, rfl, HM, HB2⟩ | ((repeat apply Exists.intro); (first | exact ⟨⟨k + 1, _, by omega, by go_num, rfl, HM, HB2⟩, rfl⟩ | exact ⟨by omega, by go_num, rfl, HM, HB2⟩))
          case measure => simp [intOf]; omega
        | true =>
          cases p2 : decide (yt < xt) with
          | false =>
            have HG : Hid (kgOf boxes (belowB ⟨xc, xt, xh⟩) ⟨yb, ⟨yc, yt, yh⟩⟩ = 0) := Lib.hid (by rw [HK.out, p1, p2, q1]; simp)
            have HM : Hid (n = ((l.take (k + 1)).map (kgOf boxes (belowB ⟨xc, xt, xh⟩))).sum) := Lib.hid (by rw [HP.out, ← HN.out, HG.out]; simp)
            clear HG HK HP HN
            clear KC
            go_wp2_with fail
            clear a0 a1 a2 a3 x0 x1 x2 y0 y1 y2
            go_roundw
            case rel => first | exact ⟨k + 1, _, by omega, by go_num, rfl, HM, HB2⟩ | ((repeat apply Exists.intro); (first | exact ⟨⟨k + 1, _, by omega, by go_num, rfl, HM, HB2⟩, rfl⟩ | exact ⟨by omega, by go_num, rfl, HM, HB2⟩))
            case measure => simp [intOf]; omega
          | true =>
            have s1 : IntKind.i64.wrap (yt + 1) = yt + 1 := IntWalk.i64_in _ (by have := of_decide_eq_true p2; omega)
            cases p3 : (yt + 1 == xt) with
            | false =>
              have HG : Hid (kgOf boxes (belowB ⟨xc, xt, xh⟩) ⟨yb, ⟨yc, yt, yh⟩⟩ = 0) := Lib.hid (by rw [HK.out, p1, p2, p3, q1]; simp)
              have HM : Hid (n = ((l.take (k + 1)).map (kgOf boxes (belowB ⟨xc, xt, xh⟩))).sum) := Lib.hid (by rw [HP.out, ← HN.out, HG.out]; simp)
              clear HG HK HP HN
              clear KC
              go_wp2_with fail
              clear a0 a1 a2 a3 x0 x1 x2 y0 y1 y2
              go_roundw
              case rel => first | exact ⟨k + 1, _, by omega, by go_num, rfl, HM, HB2⟩ | ((repeat apply Exists.intro); (first | exact ⟨⟨k + 1, _, by omega, by go_num, rfl, HM, HB2⟩, rfl⟩ | exact ⟨by omega, by go_num, rfl, HM, HB2⟩))
              case measure => simp [intOf]; omega
            | true =>
              have HG : Hid (kgOf boxes (belowB ⟨xc, xt, xh⟩) ⟨yb, ⟨yc, yt, yh⟩⟩ = kg) := Lib.hid (by rw [HK.out, p1, p2, p3, q1]; simp)
              have HM : Hid (n + kg = ((l.take (k + 1)).map (kgOf boxes (belowB ⟨xc, xt, xh⟩))).sum) := Lib.hid (by rw [HP.out, ← HN.out, HG.out])
              clear HG HK HP HN
              go_wp2_with fail
              refine (KC.out W2 (Below.refl _ _)).mono ?_
              rintro e V1 ⟨rfl, hb1⟩
              simp only
              have HB3 := Lib.hid (HB2.out.trans (hb1.mono HB2.out.size))
              clear hb1 KC HB2 a0 a1 a2 a3 x0 x1 x2 y0 y1 y2
              go_wp2_with fail
              go_roundw
              case rel => first | exact ⟨k + 1, _, by omega, by go_num, rfl, HM, HB3⟩ | ((repeat apply Exists.intro); (first | exact ⟨⟨k + 1, _, by omega, by go_num, rfl, HM, HB3⟩, rfl⟩ | exact ⟨by omega, by go_num, rfl, HM, HB3⟩))
              case measure => simp [intOf]; omega
      | false =>
        cases q2 : ((yh : Int) == 0) with
        | true =>
          cases p1 : (yc == xc) with
          | false =>
            have HG : Hid (kgOf boxes (belowB ⟨xc, xt, xh⟩) ⟨yb, ⟨yc, yt, yh⟩⟩ = 0) := Lib.hid (by rw [HK.out, p1, q1, q2]; simp)
            have HM : Hid (n = ((l.take (k + 1)).map (kgOf boxes (belowB ⟨xc, xt, xh⟩))).sum) := Lib.hid (by rw [HP.out, ← HN.out, HG.out]; simp)
            clear HG HK HP HN
            clear KC
            go_wp2_with fail
            clear a0 a1 a2 a3 x0 x1 x2 y0 y1 y2
            go_roundw
            case rel => first | exact ⟨k + 1, _, by omega, by go_num, rfl, HM, HB2⟩ | ((repeat apply Exists.intro); (first | exact ⟨⟨k + 1, _, by omega, by go_num, rfl, HM, HB2⟩, rfl⟩ | exact ⟨by omega, by go_num, rfl, HM, HB2⟩))
            case measure => simp [intOf]; omega
          | true =>
            cases p2 : decide (yt < xt) with
            | false =>
              have HG : Hid (kgOf boxes (belowB ⟨xc, xt, xh⟩) ⟨yb, ⟨yc, yt, yh⟩⟩ = 0) := Lib.hid (by rw [HK.out, p1, p2, q1, q2]; simp)
              have HM : Hid (n = ((l.take (k + 1)).map (kgOf boxes (belowB ⟨xc, xt, xh⟩))).sum) := Lib.hid (by rw [HP.out, ← HN.out, HG.out]; simp)
              clear HG HK HP HN
              clear KC
              go_wp2_with fail
              clear a0 a1 a2 a3 x0 x1 x2 y0 y1 y2
              go_roundw
              case rel => first | exact ⟨k + 1, _, by omega, by go_num, rfl, HM, HB2⟩ | ((repeat apply Exists.intro); (first | exact ⟨⟨k + 1, _, by omega, by go_num, rfl, HM, HB2⟩, rfl⟩ | exact ⟨by omega, by go_num, rfl, HM, HB2⟩))
              case measure => simp [intOf]; omega
            | true =>
              have s1 : IntKind.i64.wrap (yt + 1) = yt + 1 := IntWalk.i64_in _ (by have := of_decide_eq_true p2; omega)
              cases p3 : (yt + 1 == xt) with
              | false =>
                have HG : Hid (kgOf boxes (belowB ⟨xc, xt, xh⟩) ⟨yb, ⟨yc, yt, yh⟩⟩ = 0) := Lib.hid (by rw [HK.out, p1, p2, p3, q1, q2]; simp)
                have HM : Hid (n = ((l.take (k + 1)).map (kgOf boxes (belowB ⟨xc, xt, xh⟩))).sum) := Lib.hid (by rw [HP.out, ← HN.out, HG.out]; simp)
                clear HG HK HP HN
                clear KC
                go_wp2_with fail
                clear a0 a1 a2 a3 x0 x1 x2 y0 y1 y2
                go_roundw
                case rel => first | exact ⟨k + 1, _, by omega, by go_num, rfl, HM, HB2⟩ | ((repeat apply Exists.intro); (first | exact ⟨⟨k + 1, _, by omega, by go_num, rfl, HM, HB2⟩, rfl⟩ | exact ⟨by omega, by go_num, rfl, HM, HB2⟩))
                case measure => simp [intOf]; omega
              | true =>
                have HG : Hid (kgOf boxes (belowB ⟨xc, xt, xh⟩) ⟨yb, ⟨yc, yt, yh⟩⟩ = kg) := Lib.hid (by rw [HK.out, p1, p2, p3, q1, q2]; simp)
                have HM : Hid (n + kg = ((l.take (k + 1)).map (kgOf boxes (belowB ⟨xc, xt, xh⟩))).sum) := Lib.hid (by rw [HP.out, ← HN.out, HG.out])
                clear HG HK HP HN
                go_wp2_with fail
                refine (KC.out W2 (Below.refl _ _)).mono ?_
                rintro e V1 ⟨rfl, hb1⟩
                simp only
                have HB3 := Lib.hid (HB2.out.trans (hb1.mono HB2.out.size))
                clear hb1 KC HB2 a0 a1 a2 a3 x0 x1 x2 y0 y1 y2
                go_wp2_with fail
                go_roundw
                case rel => first | exact ⟨k + 1, _, by omega, by go_num, rfl, HM, HB3⟩ | ((repeat apply Exists.intro); (first | exact ⟨⟨k + 1, _, by omega, by go_num, rfl, HM, HB3⟩, rfl⟩ | exact ⟨by omega, by go_num, rfl, HM, HB3⟩))
                case measure => simp [intOf]; omega
        | false =>
          cases q3 : ((xh : Int) == 0) with
          | true =>
            cases p1 : (yc == xc) with
            | false =>
              have HG : Hid (kgOf boxes (belowB ⟨xc, xt, xh⟩) ⟨yb, ⟨yc, yt, yh⟩⟩ = 0) := Lib.hid (by rw [HK.out, p1, q1, q2, q3]; simp)
              have HM : Hid (n = ((l.take (k + 1)).map (kgOf boxes (belowB ⟨xc, xt, xh⟩))).sum) := Lib.hid (by rw [HP.out, ← HN.out, HG.out]; simp)
              clear HG HK HP HN
              clear KC
              go_wp2_with fail
              clear a0 a1 a2 a3 x0 x1 x2 y0 y1 y2
              go_roundw
              case rel => first | exact ⟨k + 1, _, by omega, by go_num, rfl, HM, HB2⟩ | ((repeat apply Exists.intro); (first | exact ⟨⟨k + 1, _, by omega, by go_num, rfl, HM, HB2⟩, rfl⟩ | exact ⟨by omega, by go_num, rfl, HM, HB2⟩))
              case measure => simp [intOf]; omega
            | true =>
              cases p2 : decide (yt < xt) with
              | false =>
                have HG : Hid (kgOf boxes (belowB ⟨xc, xt, xh⟩) ⟨yb, ⟨yc, yt, yh⟩⟩ = 0) := Lib.hid (by rw [HK.out, p1, p2, q1, q2, q3]; simp)
                have HM : Hid (n = ((l.take (k + 1)).map (kgOf boxes (belowB ⟨xc, xt, xh⟩))).sum) := Lib.hid (by rw [HP.out, ← HN.out, HG.out]; simp)
                clear HG HK HP HN
                clear KC
                go_wp2_with fail
                clear a0 a1 a2 a3 x0 x1 x2 y0 y1 y2
                go_roundw
                case rel => first | exact ⟨k + 1, _, by omega, by go_num, rfl, HM, HB2⟩ | ((repeat apply Exists.intro); (first | exact ⟨⟨k + 1, _, by omega, by go_num, rfl, HM, HB2⟩, rfl⟩ | exact ⟨by omega, by go_num, rfl, HM, HB2⟩))
                case measure => simp [intOf]; omega
              | true =>
                have s1 : IntKind.i64.wrap (yt + 1) = yt + 1 := IntWalk.i64_in _ (by have := of_decide_eq_true p2; omega)
                cases p3 : (yt + 1 == xt) with
                | false =>
                  have HG : Hid (kgOf boxes (belowB ⟨xc, xt, xh⟩) ⟨yb, ⟨yc, yt, yh⟩⟩ = 0) := Lib.hid (by rw [HK.out, p1, p2, p3, q1, q2, q3]; simp)
                  have HM : Hid (n = ((l.take (k + 1)).map (kgOf boxes (belowB ⟨xc, xt, xh⟩))).sum) := Lib.hid (by rw [HP.out, ← HN.out, HG.out]; simp)
                  clear HG HK HP HN
                  clear KC
                  go_wp2_with fail
                  clear a0 a1 a2 a3 x0 x1 x2 y0 y1 y2
                  go_roundw
                  case rel => first | exact ⟨k + 1, _, by omega, by go_num, rfl, HM, HB2⟩ | ((repeat apply Exists.intro); (first | exact ⟨⟨k + 1, _, by omega, by go_num, rfl, HM, HB2⟩, rfl⟩ | exact ⟨by omega, by go_num, rfl, HM, HB2⟩))
                  case measure => simp [intOf]; omega
                | true =>
                  have HG : Hid (kgOf boxes (belowB ⟨xc, xt, xh⟩) ⟨yb, ⟨yc, yt, yh⟩⟩ = kg) := Lib.hid (by rw [HK.out, p1, p2, p3, q1, q2, q3]; simp)
                  have HM : Hid (n + kg = ((l.take (k + 1)).map (kgOf boxes (belowB ⟨xc, xt, xh⟩))).sum) := Lib.hid (by rw [HP.out, ← HN.out, HG.out])
                  clear HG HK HP HN
                  go_wp2_with fail
                  refine (KC.out W2 (Below.refl _ _)).mono ?_
                  rintro e V1 ⟨rfl, hb1⟩
                  simp only
                  have HB3 := Lib.hid (HB2.out.trans (hb1.mono HB2.out.size))
                  clear hb1 KC HB2 a0 a1 a2 a3 x0 x1 x2 y0 y1 y2
                  go_wp2_with fail
                  go_roundw
                  case rel => first | exact ⟨k + 1, _, by omega, by go_num, rfl, HM, HB3⟩ | ((repeat apply Exists.intro); (first | exact ⟨⟨k + 1, _, by omega, by go_num, rfl, HM, HB3⟩, rfl⟩ | exact ⟨by omega, by go_num, rfl, HM, HB3⟩))
                  case measure => simp [intOf]; omega
          | false =>
            cases p1 : (yc == xc) with
            | false =>
              have HG : Hid (kgOf boxes (belowB ⟨xc, xt, xh⟩) ⟨yb, ⟨yc, yt, yh⟩⟩ = 0) := Lib.hid (by rw [HK.out, p1, q1, q2, q3]; simp)
              have HM : Hid (n = ((l.take (k + 1)).map (kgOf boxes (belowB ⟨xc, xt, xh⟩))).sum) := Lib.hid (by rw [HP.out, ← HN.out, HG.out]; simp)
              clear HG HK HP HN
              clear KC
              go_wp2_with fail
              clear a0 a1 a2 a3 x0 x1 x2 y0 y1 y2
              go_roundw
              case rel => first | exact ⟨k + 1, _, by omega, by go_num, rfl, HM, HB2⟩ | ((repeat apply Exists.intro); (first | exact ⟨⟨k + 1, _, by omega, by go_num, rfl, HM, HB2⟩, rfl⟩ | exact ⟨by omega, by go_num, rfl, HM, HB2⟩))
              case measure => simp [intOf]; omega
            | true =>
              cases p2 : decide (yt < xt) with
              | false =>
                have HG : Hid (kgOf boxes (belowB ⟨xc, xt, xh⟩) ⟨yb, ⟨yc, yt, yh⟩⟩ = 0) := Lib.hid (by rw [HK.out, p1, p2, q1, q2, q3]; simp)
                have HM : Hid (n = ((l.take (k + 1)).map (kgOf boxes (belowB ⟨xc, xt, xh⟩))).sum) := Lib.hid (by rw [HP.out, ← HN.out, HG.out]; simp)
                clear HG HK HP HN
                clear KC
                go_wp2_with fail
                clear a0 a1 a2 a3 x0 x1 x2 y0 y1 y2
                go_roundw
                case rel => first | exact ⟨k + 1, _, by omega, by go_num, rfl, HM, HB2⟩ | ((repeat apply Exists.intro); (first | exact ⟨⟨k + 1, _, by omega, by go_num, rfl, HM, HB2⟩, rfl⟩ | exact ⟨by omega, by go_num, rfl, HM, HB2⟩))
                case measure => simp [intOf]; omega
              | true =>
                have s1 : IntKind.i64.wrap (yt + 1) = yt + 1 := IntWalk.i64_in _ (by have := of_decide_eq_true p2; omega)
                cases p3 : (yt + 1 == xt) with
                | false =>
                  have HG : Hid (kgOf boxes (belowB ⟨xc, xt, xh⟩) ⟨yb, ⟨yc, yt, yh⟩⟩ = 0) := Lib.hid (by rw [HK.out, p1, p2, p3, q1, q2, q3]; simp)
                  have HM : Hid (n = ((l.take (k + 1)).map (kgOf boxes (belowB ⟨xc, xt, xh⟩))).sum) := Lib.hid (by rw [HP.out, ← HN.out, HG.out]; simp)
                  clear HG HK HP HN
                  clear KC
                  go_wp2_with fail
                  clear a0 a1 a2 a3 x0 x1 x2 y0 y1 y2
                  go_roundw
                  case rel => first | exact ⟨k + 1, _, by omega, by go_num, rfl, HM, HB2⟩ | ((repeat apply Exists.intro); (first | exact ⟨⟨k + 1, _, by omega, by go_num, rfl, HM, HB2⟩, rfl⟩ | exact ⟨by omega, by go_num, rfl, HM, HB2⟩))
                  case measure => simp [intOf]; omega
                | true =>
                  have HG : Hid (kgOf boxes (belowB ⟨xc, xt, xh⟩) ⟨yb, ⟨yc, yt, yh⟩⟩ = 0) := Lib.hid (by rw [HK.out, p1, p2, p3, q1, q2, q3]; simp)
                  have HM : Hid (n = ((l.take (k + 1)).map (kgOf boxes (belowB ⟨xc, xt, xh⟩))).sum) := Lib.hid (by rw [HP.out, ← HN.out, HG.out]; simp)
                  clear HG HK HP HN
                  clear KC
                  go_wp2_with fail
                  clear a0 a1 a2 a3 x0 x1 x2 y0 y1 y2
                  go_roundw
                  case rel => first | exact ⟨k + 1, _, by omega, by go_num, rfl, HM, HB2⟩ | ((repeat apply Exists.intro); (first | exact ⟨⟨k + 1, _, by omega, by go_num, rfl, HM, HB2⟩, rfl⟩ | exact ⟨by omega, by go_num, rfl, HM, HB2⟩))
                  case measure => simp [intOf]; omega
    · obtain rfl : k = l.length := by omega
      have HE : Hid (n = sumF boxes l (belowB ⟨xc, xt, xh⟩)) := Lib.hid (by rw [HN.out, List.take_length]; rfl)
      go_wp2_with fail
      go_ret
      exact ⟨by rw [HE.out]; rfl, HB0.out.trans (HB.out.mono HB0.out.size)⟩
end Go.Proofs.Ytmkplemdnglhmaa
