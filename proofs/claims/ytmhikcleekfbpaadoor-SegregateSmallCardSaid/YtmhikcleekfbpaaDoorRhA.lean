/-
  Walks of the reference of chapter 09: Find, Height, slots, high.
-/
import Derived.Test.YtmhikcleekfbpaaDoorStB
import Derived.Test.YtmhikcleekfbpaaDoorRgB
namespace Go.Proofs.YtmhikcleekfbpaaDoor
open Go.RowKit

theorem findBx_at {l : List Bx} {id : Int} {k : Nat} (hk : k < l.length) (h : ∀ j, j < k → idB id (l.getD j zBx) = false) (hp : idB id (l.getD k zBx) = true) : findBx l id = (l.getD k zBx, true) := by
  have e : idxF (idB id) l = (k : Int) := by
    unfold idxF
    have : l.findIdx? (idB id) = some k := by
      rw [List.findIdx?_eq_some_iff_getElem]
      refine ⟨hk, by simpa [hk] using hp, fun j hj => ?_⟩
      have := h j hj
      simpa [show j < l.length by omega] using this
    rw [this]
  unfold findBx
  rw [e, if_neg (by omega)]
  rfl
theorem findBx_no {l : List Bx} {id : Int} (h : ∀ j, j < l.length → idB id (l.getD j zBx) = false) : findBx l id = (zBx, false) := by
  unfold findBx
  rw [idx_none zBx h, if_pos (by decide)]
set_option maxRecDepth 100000 in
set_option maxHeartbeats 4000000 in
theorem refFindBx_any (A : Option Addr) (c : Nat) (l : List Bx) (id : Int) (w : World) (hs : SlT tBx w (Lt w.heap.size) A l) (hl : l.length ≤ 1000000) :
    Calls Tryd.prog 28 #[.slice A l.length c, .int .i64 id] w (Ret w (.tuple #[.agg (bxL (findBx l id).1).toArray, .bool (findBx l id).2])) := by
  have hb0 := ba1 w (.cells (bxL zBx).toArray 41)
  have HS := Lib.hid (hs.on hb0)
  have KZ := Lib.hid (Bk.new w 41 (bxL zBx).toArray)
  have HB0 := Lib.hid hb0
  clear hs hb0
  go_enter Tryd.func28, Tryd.ntmps28
  go_upto_region 1 with fail
  generalize hW : (w.alloc _) = W
  have hWe : w.alloc (.cells (bxL zBx).toArray 41) = W := hW
  rw [hWe] at HS KZ HB0
  clear hW hWe
  go_wp2_with fail
  go_loopw [6] (fun i wr => ∃ k : Nat, k ≤ l.length ∧ i = .int .i64 k ∧ Hid ((∀ j, j < k → idB id (l.getD j zBx) = false) ∧ Below W.heap.size W wr)) (fun i _ => l.length - (intOf i).toNat)
  case atStart => exact ⟨0, Nat.zero_le _, rfl, Lib.hid (And.intro (fun j hj => absurd hj (by omega)) (Below.refl _ _))⟩
  case round =>
    obtain ⟨k, hk, rfl, HB⟩ := hrel
    obtain ⟨V, rfl⟩ : ∃ V, V = wr := ⟨_, rfl⟩
    by_cases hlt : k < l.length
    · obtain ⟨b, o, rfl, _, hc⟩ := (HS.out.on HB.out.2).bx hlt
      have i0 : (0 : Int) ≤ (k : Int) := by omega
      have i1 : (k : Int) < (l.length : Int) := by omega
      have HQ : Hid (idB id (l.getD k zBx) = ((l.getD k zBx).id == id)) := Lib.hid rfl
      have HAT := Lib.hid (findBx_at (l := l) (id := id) hlt HB.out.1)
      have HN1 : Hid (idB id (l.getD k zBx) = false → ∀ j, j < k + 1 → idB id (l.getD j zBx) = false) := Lib.hid fun h j hj => by
        rcases Nat.lt_succ_iff_lt_or_eq.1 hj with h' | h'
        · exact HB.out.1 j h'
        · rw [h']; exact h
      generalize l.getD k zBx = x at *
      obtain ⟨b0, b1, b2, b3, b4, b5, b6, b7, b8⟩ := x
      unfold bxL at hc
      have c0 : V.cell? ⟨b, o + k * 9, none⟩ = some (.int .i64 b0) := hc 0 _ rfl
      have c1 : V.cell? ⟨b, o + k * 9 + 1, none⟩ = some (.string b1) := hc 1 _ rfl
      have c2 : V.cell? ⟨b, o + k * 9 + 2, none⟩ = some (.int .u8 (b2 : Nat)) := hc 2 _ rfl
      have c3 : V.cell? ⟨b, o + k * 9 + 3, none⟩ = some (.bool b3) := hc 3 _ rfl
      have c4 : V.cell? ⟨b, o + k * 9 + 4, none⟩ = some (.int .i64 b4) := hc 4 _ rfl
      have c5 : V.cell? ⟨b, o + k * 9 + 5, none⟩ = some (.int .i64 b5) := hc 5 _ rfl
      have c6 : V.cell? ⟨b, o + k * 9 + 6, none⟩ = some (.int .i64 b6) := hc 6 _ rfl
      have c7 : V.cell? ⟨b, o + k * 9 + 7, none⟩ = some (.int .u8 (b7 : Nat)) := hc 7 _ rfl
      have c8 : V.cell? ⟨b, o + k * 9 + 8, none⟩ = some (.bool b8) := hc 8 _ rfl
      clear hc
      simp only at HQ
      cases p1 : (b0 == id) with
      | true =>
        have HR := Lib.hid (HAT.out (by rw [HQ.out, p1]))
        have KV := KZ.out.below HB.out.2 KZ.out.lt
        have HE := Lib.hid (HB0.out.trans (HB.out.2.mono HB0.out.size))
        unfold bxL zBx at KV
        have z0 : V.cell? ⟨w.heap.size, 0, none⟩ = some (.int .i64 0) := KV.cell 0
        have f0 := KV.frozen 0
        have z1 : V.cell? ⟨w.heap.size, 1, none⟩ = some (.string ⟨#[]⟩) := KV.cell 1
        have f1 := KV.frozen 1
        have z2 : V.cell? ⟨w.heap.size, 2, none⟩ = some (.int .u8 0) := KV.cell 2
        have f2 := KV.frozen 2
        have z3 : V.cell? ⟨w.heap.size, 3, none⟩ = some (.bool false) := KV.cell 3
        have f3 := KV.frozen 3
        have z4 : V.cell? ⟨w.heap.size, 4, none⟩ = some (.int .i64 0) := KV.cell 4
        have f4 := KV.frozen 4
        have z5 : V.cell? ⟨w.heap.size, 5, none⟩ = some (.int .i64 0) := KV.cell 5
        have f5 := KV.frozen 5
        have z6 : V.cell? ⟨w.heap.size, 6, none⟩ = some (.int .i64 0) := KV.cell 6
        have f6 := KV.frozen 6
        have z7 : V.cell? ⟨w.heap.size, 7, none⟩ = some (.int .u8 0) := KV.cell 7
        have f7 := KV.frozen 7
        have z8 : V.cell? ⟨w.heap.size, 8, none⟩ = some (.bool false) := KV.cell 8
        have f8 := KV.frozen 8
        have KH := Lib.hid KV
        clear KV HB KZ HS HB0 HAT HN1 HQ
        go_wp2_with fail
        refine bodyPost_ret (results_row_tmp rfl _ _ w.heap.size 41 #[.int .i64 b0, .string b1, .int .u8 (b2 : Nat), .bool b3, .int .i64 b4, .int .i64 b5, .int .i64 b6, .int .u8 (b7 : Nat), .bool b8] _ rfl (set9 KH.out _ _ _ _ _ _ _ _ _ rfl) Tryd.underlying41 rfl info_bx) rfl ?_
        exact ⟨by rw [HR.out]; rfl, be_set9 HE.out (Nat.le_refl _) _ _ _ _ _ _ _ _ _⟩
      | false =>
        have HN := Lib.hid (And.intro (HN1.out (by rw [HQ.out, p1])) HB.out.2)
        clear HB HAT HN1 HQ
        go_wp2_with fail
        clear c0 c1 c2 c3 c4 c5 c6 c7 c8
        go_roundw
        case rel => first | exact ⟨k + 1, by omega, by go_num, HN⟩ | ((repeat apply Exists.intro); (first | exact ⟨⟨k + 1, by omega, by go_num, HN⟩, rfl⟩ | exact ⟨by omega, by go_num, HN⟩))
        case measure => simp [intOf]; omega
    · obtain rfl : k = l.length := by omega
      have HR := Lib.hid (findBx_no (l := l) (id := id) HB.out.1)
      have KV := KZ.out.below HB.out.2 KZ.out.lt
      have HE := Lib.hid (HB0.out.trans (HB.out.2.mono HB0.out.size))
      unfold bxL zBx at KV
      have z0 : V.cell? ⟨w.heap.size, 0, none⟩ = some (.int .i64 0) := KV.cell 0
      have f0 := KV.frozen 0
      have z1 : V.cell? ⟨w.heap.size, 1, none⟩ = some (.string ⟨#[]⟩) := KV.cell 1
      have f1 := KV.frozen 1
      have z2 : V.cell? ⟨w.heap.size, 2, none⟩ = some (.int .u8 0) := KV.cell 2
      have f2 := KV.frozen 2
      have z3 : V.cell? ⟨w.heap.size, 3, none⟩ = some (.bool false) := KV.cell 3
      have f3 := KV.frozen 3
      have z4 : V.cell? ⟨w.heap.size, 4, none⟩ = some (.int .i64 0) := KV.cell 4
      have f4 := KV.frozen 4
      have z5 : V.cell? ⟨w.heap.size, 5, none⟩ = some (.int .i64 0) := KV.cell 5
      have f5 := KV.frozen 5
      have z6 : V.cell? ⟨w.heap.size, 6, none⟩ = some (.int .i64 0) := KV.cell 6
      have f6 := KV.frozen 6
      have z7 : V.cell? ⟨w.heap.size, 7, none⟩ = some (.int .u8 0) := KV.cell 7
      have f7 := KV.frozen 7
      have z8 : V.cell? ⟨w.heap.size, 8, none⟩ = some (.bool false) := KV.cell 8
      have f8 := KV.frozen 8
      have KH := Lib.hid KV
      clear KV HB KZ HS HB0
      go_wp2_with fail
      refine bodyPost_ret (results_row_tmp rfl _ _ w.heap.size 41 #[.int .i64 0, .string ⟨#[]⟩, .int .u8 0, .bool false, .int .i64 0, .int .i64 0, .int .i64 0, .int .u8 0, .bool false] _ rfl (set9 KH.out _ _ _ _ _ _ _ _ _ rfl) Tryd.underlying41 rfl info_bx) rfl ?_
      exact ⟨by rw [HR.out]; rfl, be_set9 HE.out (Nat.le_refl _) _ _ _ _ _ _ _ _ _⟩
set_option maxRecDepth 100000 in
set_option maxHeartbeats 4000000 in
theorem refHeight_any (A : Option Addr) (c : Nat) (boxes : List Bx) (A2 : Option Addr) (c2 : Nat) (l : List Stw) (col : Int) (half : Nat) (w : World) (hb : SlT tBx w (Lt w.heap.size) A boxes) (hbl : boxes.length ≤ 1000000) (hs : SlT tStw w (Lt w.heap.size) A2 l) (hl : l.length ≤ 1000000) :
    Calls Tryd.prog 77 #[.slice A boxes.length c, .slice A2 l.length c2, .int .i64 col, .int .u8 (half : Nat)] w (Ret w (.int .i64 (heightF boxes l col half))) := by
  have HS := Lib.hid hs
  have HBX := Lib.hid hb
  clear hs hb
  go_enter Tryd.func77, Tryd.ntmps77
  go_wp2_with fail
  go_loopw [9, 10] (fun v i wr => ∃ (k : Nat) (n : Int), k ≤ l.length ∧ i = .int .i64 k ∧ v = .int .i64 n ∧ Hid (n = ((l.take k).map (htOf boxes col half)).sum) ∧ Hid (Below w.heap.size w wr)) (fun _ i _ => l.length - (intOf i).toNat)
  case atStart => exact ⟨0, 0, Nat.zero_le _, rfl, rfl, Lib.hid (by simp), Lib.hid (Below.refl _ _)⟩
  case round =>
    obtain ⟨k, n, hk, rfl, rfl, HN, HB⟩ := hrel
    obtain ⟨V, rfl⟩ : ∃ V, V = wr := ⟨_, rfl⟩
    by_cases hlt : k < l.length
    · obtain ⟨b, off, rfl, hbB, a0, a1, a2, a3⟩ := (HS.out.on HB.out).stw hlt
      have HP := Lib.hid (sum_take_succ (htOf boxes col half) l hlt default)
      have hbd := sum_bd (htOf boxes col half) 2896 (l.take k) (fun x _ => htOf_bd boxes col half x)
      rw [← HN.out] at hbd
      have hlk : (l.take k).length = k := by simp; omega
      rw [hlk] at hbd
      clear hlk
      have i0 : (0 : Int) ≤ (k : Int) := by omega
      have i1 : (k : Int) < (l.length : Int) := by omega
      obtain ⟨hn0, hn1⟩ := hbd
      have hn2 : n ≤ 2896000000 := by omega
      clear hn1
      have hbb : b < V.heap.size := hbB
      clear hbB
      generalize l.getD k default = x at *
      obtain ⟨xb, xc, xt, xh⟩ := x
      simp only at a0 a1 a2 a3
      have KF := Lib.hid (refFindBx_any A c boxes xb V (HBX.out.on HB.out) hbl)
      have HT : Hid (htOf boxes col half ⟨xb, ⟨xc, xt, xh⟩⟩ = if xc == col && (((xh : Int) == (half : Int)) || ((xh : Int) == 0)) then (if (findBx boxes xb).2 then tallB (findBx boxes xb).1 else 0) else 0) := Lib.hid (by
        rw [int_beq, show ((xh : Int) == 0) = (xh == 0) from int_beq xh 0]
        rfl)
      obtain ⟨fb, hf⟩ : ∃ fb, findBx boxes xb = fb := ⟨_, rfl⟩
      rw [hf] at KF
      obtain ⟨⟨b0, b1, b2, b3, b4, b5, b6, b7, b8⟩, ok⟩ := fb
      unfold bxL at KF
      simp only at KF
      go_step
      go_step
      go_upto_region 5 with fail
      go_wp2_with fail
      refine KF.out.mono ?_
      rintro e V1 ⟨rfl, hb1⟩
      simp only
      have KY := Lib.hid (Bk.new V1 41 #[.int .i64 b0, .string b1, .int .u8 (b2 : Nat), .bool b3, .int .i64 b4, .int .i64 b5, .int .i64 b6, .int .u8 (b7 : Nat), .bool b8])
      have hb2 := hb1.trans ((ba1 V1 (.cells #[.int .i64 b0, .string b1, .int .u8 (b2 : Nat), .bool b3, .int .i64 b4, .int .i64 b5, .int .i64 b6, .int .u8 (b7 : Nat), .bool b8] 41)).mono hb1.size)
      go_upto_region 6 with fail
      obtain ⟨gy, hgy⟩ : ∃ gy, gy = V1.heap.size := ⟨_, rfl⟩
      rw [← hgy] at KY ⊢
      clear hgy
      generalize (V1.alloc _) = W at *
      have y3 : W.cell? ⟨gy, 3, none⟩ = some (.bool b3) := KY.out.cell 3
      replace a0 := (hb2.cell (p := ⟨b, off + k * 4, none⟩) hbb).trans a0
      replace a1 := (hb2.cell (p := ⟨b, off + k * 4 + 1, none⟩) hbb).trans a1
      replace a2 := (hb2.cell (p := ⟨b, off + k * 4 + 2, none⟩) hbb).trans a2
      replace a3 := (hb2.cell (p := ⟨b, off + k * 4 + 3, none⟩) hbb).trans a3
      have HB2 := Lib.hid (HB.out.trans (hb2.mono HB.out.size))
      clear hb1 hb2 KF KY HB hbb
      cases ok with
      | false =>
        have HH : Hid (htOf boxes col half ⟨xb, ⟨xc, xt, xh⟩⟩ = 0) := Lib.hid (by
          rw [HT.out, hf]
          simp)
        have HM : Hid (n = ((l.take (k + 1)).map (htOf boxes col half)).sum) := Lib.hid (by rw [HP.out, HH.out, ← HN.out, Int.add_zero])
        clear HH HT HP HN hf
        go_wp2_with fail
        clear a0 a1 a2 a3 y3
        go_roundw
        case rel => first | exact ⟨k + 1, _, by omega, by go_num, rfl, HM, HB2⟩ | ((repeat apply Exists.intro); (first | exact ⟨⟨k + 1, _, by omega, by go_num, rfl, HM, HB2⟩, rfl⟩ | exact ⟨by omega, by go_num, rfl, HM, HB2⟩))
        case measure => simp [intOf]; omega
      | true =>
        cases p2 : (xc != col) with
        | true =>
          have HH : Hid (htOf boxes col half ⟨xb, ⟨xc, xt, xh⟩⟩ = (0 : Int)) := Lib.hid (by
            rw [HT.out, hf]
            simp only [bne, Bool.not_eq_true'] at p2
            simp [p2])
          have HM : Hid (n = ((l.take (k + 1)).map (htOf boxes col half)).sum) := Lib.hid (by rw [HP.out, HH.out, ← HN.out, Int.add_zero])
          clear HH HT HP HN hf
          go_wp2_with fail
          clear a0 a1 a2 a3 y3
          go_roundw
          case rel => first | exact ⟨k + 1, _, by omega, by go_num, rfl, HM, HB2⟩ | ((repeat apply Exists.intro); (first | exact ⟨⟨k + 1, _, by omega, by go_num, rfl, HM, HB2⟩, rfl⟩ | exact ⟨by omega, by go_num, rfl, HM, HB2⟩))
          case measure => simp [intOf]; omega
        | false =>
          cases p3 : ((xh : Int) != (half : Int)) with
          | false =>
            cases b3 with
            | true =>
              have HH : Hid (htOf boxes col half ⟨xb, ⟨xc, xt, xh⟩⟩ = (2896 : Int)) := Lib.hid (by
                rw [HT.out, hf]
                simp only [bne, Bool.not_eq_false'] at p2 p3
                simp [tallB, p2, p3])
              have HM : Hid (n + (2896 : Int) = ((l.take (k + 1)).map (htOf boxes col half)).sum) := Lib.hid (by rw [HP.out, HH.out, ← HN.out])
              clear HH HT HP HN hf
              go_wp2_with fail
              clear a0 a1 a2 a3 y3
              go_roundw
              case rel => first | exact ⟨k + 1, _, by omega, by go_num, rfl, HM, HB2⟩ | ((repeat apply Exists.intro); (first | exact ⟨⟨k + 1, _, by omega, by go_num, rfl, HM, HB2⟩, rfl⟩ | exact ⟨by omega, by go_num, rfl, HM, HB2⟩))
              case measure => simp [intOf]; omega
            | false =>
              have HH : Hid (htOf boxes col half ⟨xb, ⟨xc, xt, xh⟩⟩ = (2591 : Int)) := Lib.hid (by
                rw [HT.out, hf]
                simp only [bne, Bool.not_eq_false'] at p2 p3
                simp [tallB, p2, p3])
              have HM : Hid (n + (2591 : Int) = ((l.take (k + 1)).map (htOf boxes col half)).sum) := Lib.hid (by rw [HP.out, HH.out, ← HN.out])
              clear HH HT HP HN hf
              go_wp2_with fail
              clear a0 a1 a2 a3 y3
              go_roundw
              case rel => first | exact ⟨k + 1, _, by omega, by go_num, rfl, HM, HB2⟩ | ((repeat apply Exists.intro); (first | exact ⟨⟨k + 1, _, by omega, by go_num, rfl, HM, HB2⟩, rfl⟩ | exact ⟨by omega, by go_num, rfl, HM, HB2⟩))
              case measure => simp [intOf]; omega
          | true =>
            cases p4 : ((xh : Int) != 0) with
            | true =>
              have HH : Hid (htOf boxes col half ⟨xb, ⟨xc, xt, xh⟩⟩ = (0 : Int)) := Lib.hid (by
                rw [HT.out, hf]
                simp only [bne, Bool.not_eq_true', Bool.not_eq_false'] at p2 p3 p4
                simp [p2, p3, p4])
              have HM : Hid (n = ((l.take (k + 1)).map (htOf boxes col half)).sum) := Lib.hid (by rw [HP.out, HH.out, ← HN.out, Int.add_zero])
              clear HH HT HP HN hf
              go_wp2_with fail
              clear a0 a1 a2 a3 y3
              go_roundw
              case rel => first | exact ⟨k + 1, _, by omega, by go_num, rfl, HM, HB2⟩ | ((repeat apply Exists.intro); (first | exact ⟨⟨k + 1, _, by omega, by go_num, rfl, HM, HB2⟩, rfl⟩ | exact ⟨by omega, by go_num, rfl, HM, HB2⟩))
              case measure => simp [intOf]; omega
            | false =>
              cases b3 with
              | true =>
                have HH : Hid (htOf boxes col half ⟨xb, ⟨xc, xt, xh⟩⟩ = (2896 : Int)) := Lib.hid (by
                  rw [HT.out, hf]
                  simp only [bne, Bool.not_eq_true', Bool.not_eq_false'] at p2 p3 p4
                  simp [tallB, p2, p3, p4])
                have HM : Hid (n + (2896 : Int) = ((l.take (k + 1)).map (htOf boxes col half)).sum) := Lib.hid (by rw [HP.out, HH.out, ← HN.out])
                clear HH HT HP HN hf
                go_wp2_with fail
                clear a0 a1 a2 a3 y3
                go_roundw
                case rel => first | exact ⟨k + 1, _, by omega, by go_num, rfl, HM, HB2⟩ | ((repeat apply Exists.intro); (first | exact ⟨⟨k + 1, _, by omega, by go_num, rfl, HM, HB2⟩, rfl⟩ | exact ⟨by omega, by go_num, rfl, HM, HB2⟩))
                case measure => simp [intOf]; omega
              | false =>
                have HH : Hid (htOf boxes col half ⟨xb, ⟨xc, xt, xh⟩⟩ = (2591 : Int)) := Lib.hid (by
                  rw [HT.out, hf]
                  simp only [bne, Bool.not_eq_true', Bool.not_eq_false'] at p2 p3 p4
                  simp [tallB, p2, p3, p4])
                have HM : Hid (n + (2591 : Int) = ((l.take (k + 1)).map (htOf boxes col half)).sum) := Lib.hid (by rw [HP.out, HH.out, ← HN.out])
                clear HH HT HP HN hf
                go_wp2_with fail
                clear a0 a1 a2 a3 y3
                go_roundw
                case rel => first | exact ⟨k + 1, _, by omega, by go_num, rfl, HM, HB2⟩ | ((repeat apply Exists.intro); (first | exact ⟨⟨k + 1, _, by omega, by go_num, rfl, HM, HB2⟩, rfl⟩ | exact ⟨by omega, by go_num, rfl, HM, HB2⟩))
                case measure => simp [intOf]; omega
    · obtain rfl : k = l.length := by omega
      have HE : Hid (n = heightF boxes l col half) := Lib.hid (by rw [HN.out, List.take_length]; rfl)
      go_wp2_with fail
      go_ret
      exact ⟨by rw [HE.out]; rfl, HB.out⟩
set_option maxRecDepth 100000 in
set_option maxHeartbeats 4000000 in
theorem refSlots_any (A : Option Addr) (c : Nat) (l : List Stw) (w : World) (hs : SlT tStw w (Lt w.heap.size) A l) (hl : l.length ≤ 1000000) :
    Calls Tryd.prog 62 #[.slice A l.length c] w (OwnSlt w (l.map (·.slot))) := by
  have HS := Lib.hid hs; clear hs
  go_enter Tryd.func62, Tryd.ntmps62
  go_wp2_with fail
  go_loopw [3, 4] (fun v i wr => ∃ (k : Nat) (m : List Slt), k ≤ l.length ∧ i = .int .i64 k ∧ m.length = k ∧ Hid (m = (l.take k).map (·.slot)) ∧ OwnT tSlt 37 wr w.heap.size v m ∧ Below w.heap.size w wr) (fun _ i _ => l.length - (intOf i).toNat)
  case atStart => exact ⟨0, [], Nat.zero_le _, rfl, rfl, Lib.hid (by simp), OwnT.nil, Below.refl _ _⟩
  case round =>
    obtain ⟨k, m, hk, rfl, hm, HM, hown, hb⟩ := hrel
    by_cases hlt : k < l.length
    · obtain ⟨b, off, rfl, hbB, c0, c1, c2, c3⟩ := (HS.out.below hb).stw hlt
      have HP := Lib.hid (show (l.take (k + 1)).map (·.slot) = (l.take k).map (·.slot) ++ [(l.getD k default).slot] by rw [List.take_succ_eq_append_getElem hlt, List.map_append]; simp [hlt])
      have hk0 : (0 : Int) ≤ (k : Int) := by omega
      have hk1 : (k : Int) < (l.length : Int) := by omega
      generalize l.getD k default = x at *
      obtain ⟨xb, xc, xt, xh⟩ := x
      simp only at c0 c1 c2 c3
      obtain ⟨xs, ho, hfl⟩ := hown
      have hz0 := hb.size
      go_upto_region 5 with fail
      go_wp2_with (at_builtin; (refine wpList_append1 el_slt rfl (.tmp 11) (.tmp 17) rfl w.heap.size _ m.length xs rfl ho #[.int .i64 xc, .int .i64 xt, .int .u8 (xh : Nat)] _ rfl rfl rfl ?c1 ?c2 ?c3 ?_))
      case c1 => unfold maxLen; omega
      case c2 => omega
      intro v' w3 hown' hgr hd3 hbel
      go_wp2
      go_roundw
      case rel => exact ⟨k + 1, m ++ [⟨xc, xt, xh⟩], by omega, by go_num, by simp [hm], Lib.hid (by rw [HP.out, HM.out]), OwnT.append1 (T := tSlt) (x := ⟨xc, xt, xh⟩) hfl (cs := sltL ⟨xc, xt, xh⟩) rfl (by rw [hm]; exact hown') hgr hd3, hb.trans hbel⟩
      case measure => simp [intOf]; omega
    · have hkn : m = l.map (·.slot) := by rw [HM.out, List.take_of_length_le (by omega)]
      subst hkn
      go_wp2
      go_ret
      exact ⟨_, rfl, hown, hb⟩
/-- Whether a half of a column is too high, as the reference asks. -/
def highF (s : Shp) (boxes : List Bx) (l : List Stw) (c : Nat) : Bool := if (s.cols.getD c default).height = 0 then false else (decide ((s.cols.getD c default).height < heightF boxes l c 1) || decide ((s.cols.getD c default).height < heightF boxes l c 2))
set_option maxRecDepth 100000 in
set_option maxHeartbeats 4000000 in
theorem refHigh_any (s : Shp) (h : Hd) (A : Option Addr) (c : Nat) (boxes : List Bx) (A2 : Option Addr) (c2 : Nat) (l : List Stw) (k : Nat) (w : World) (hsh : ShpR w (Lt w.heap.size) s h) (hk : k < s.cols.length) (_hcl : s.cols.length ≤ 1000000) (hb : SlT tBx w (Lt w.heap.size) A boxes) (hbl : boxes.length ≤ 1000000) (hs : SlT tStw w (Lt w.heap.size) A2 l) (hl : l.length ≤ 1000000) :
    Calls Tryd.prog 64 #[.agg (shpA s h), .slice A boxes.length c, .slice A2 l.length c2, .int .i64 (k : Nat)] w (Ret w (.bool (highF s boxes l k))) := by
  have hb0 := ba1 w (.cells (shpA s h) 32)
  have KE := Lib.hid (Bk.new w 32 (shpA s h))
  have HB0 := Lib.hid hb0
  obtain ⟨b1, o1, Ap, q, hA, _, _, _, _, _, _, _, d4, -⟩ := (hsh.cols.on hb0).col hk
  have HD4 := Lib.hid d4
  have HA := Lib.hid hA
  clear d4 hA
  have K1 := Lib.hid (fun (U : World) (hU : Below (w.alloc (.cells (shpA s h) 32)).heap.size (w.alloc (.cells (shpA s h) 32)) U) => refHeight_any A c boxes A2 c2 l k 1 U ((hb.on hb0).on hU) hbl ((hs.on hb0).on hU) hl)
  have K2 := Lib.hid (fun (U : World) (hU : Below (w.alloc (.cells (shpA s h) 32)).heap.size (w.alloc (.cells (shpA s h) 32)) U) => refHeight_any A c boxes A2 c2 l k 2 U ((hb.on hb0).on hU) hbl ((hs.on hb0).on hU) hl)
  have HV : Hid (highF s boxes l k = if (s.cols.getD k default).height = 0 then false else (decide ((s.cols.getD k default).height < heightF boxes l k 1) || decide ((s.cols.getD k default).height < heightF boxes l k 2))) := Lib.hid rfl
  clear hb hs hsh hb0
  generalize highF s boxes l k = r at *
  generalize (s.cols.getD k default).height = H at *
  generalize heightF boxes l k 1 = n1 at *
  generalize heightF boxes l k 2 = n2 at *
  have i0 : (0 : Int) ≤ (k : Int) := by omega
  have i1 : (k : Int) < (s.cols.length : Int) := by omega
  unfold shpA at *
  go_enter Tryd.func64, Tryd.ntmps64
  go_upto_region 1 with fail
  generalize (w.alloc _) = W at *
  have e0 : W.cell? ⟨w.heap.size, 0, none⟩ = some (.slice h.A1 s.cols.length h.c1) := KE.out.cell 0
  rw [HA.out] at e0
  have d4 : W.cell? ⟨b1, o1 + k * 12 + 4, none⟩ = some (.int .i64 H) := HD4.out
  by_cases h0 : H = 0
  · have HY : Hid (r = false) := Lib.hid (by rw [HV.out, if_pos h0])
    have q0 : (H == 0) = true := by simpa using h0
    clear HV h0
    go_wp2_with fail
    go_ret
    exact ⟨by rw [HY.out]; rfl, HB0.out⟩
  · have HV2 : Hid (r = (decide (H < n1) || decide (H < n2))) := Lib.hid (by rw [HV.out, if_neg h0])
    have q0 : (H == 0) = false := by simpa using h0
    clear HV h0
    cases q1 : decide (H < n1) with
    | true =>
      have HY : Hid (r = true) := Lib.hid (by rw [HV2.out, q1]; rfl)
      go_upto_region 3 with fail
      have e0 : ∀ p : Gr W, p.W.cell? ⟨w.heap.size, 0, none⟩ = some (.slice (some ⟨b1, o1, none⟩) s.cols.length h.c1) := Gr.cell e0
      have d4 : ∀ p : Gr W, p.W.cell? ⟨b1, o1 + k * 12 + 4, none⟩ = some (.int .i64 H) := Gr.cell d4
      refine wp_region_gr (by kernel_rfl) (by kernel_rfl) ?_
      repeat (go_big_quiet_step ((with_reducible exact Gr.call _ (fun V hV => K1.out V hV))))
      refine wpQuiet_nil ?_
      rintro Y ⟨⟨_, hbY⟩, rfl⟩
      have HE := Lib.hid (HB0.out.trans (hbY.mono HB0.out.size))
      clear hbY e0 d4
      go_wp2_with fail
      go_ret
      exact ⟨by rw [HY.out]; rfl, HE.out⟩
    | false =>
      have HY : Hid (r = decide (H < n2)) := Lib.hid (by rw [HV2.out, q1]; rfl)
      go_upto_region 3 with fail
      have e0 : ∀ p : Gr W, p.W.cell? ⟨w.heap.size, 0, none⟩ = some (.slice (some ⟨b1, o1, none⟩) s.cols.length h.c1) := Gr.cell e0
      have d4 : ∀ p : Gr W, p.W.cell? ⟨b1, o1 + k * 12 + 4, none⟩ = some (.int .i64 H) := Gr.cell d4
      refine wp_region_gr (by kernel_rfl) (by kernel_rfl) ?_
      repeat (go_big_quiet_step (((first | (with_reducible exact Gr.call _ (fun V hV => K1.out V hV)) | (with_reducible exact Gr.call _ (fun V hV => K2.out V hV))))))
      refine wpQuiet_nil ?_
      rintro Y ⟨⟨_, hbY⟩, rfl⟩
      have HE := Lib.hid (HB0.out.trans (hbY.mono HB0.out.size))
      clear hbY e0 d4
      go_wp2_with fail
      go_ret
      exact ⟨by rw [HY.out]; rfl, HE.out⟩
end Go.Proofs.YtmhikcleekfbpaaDoor
