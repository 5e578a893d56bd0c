/-
  The walk of the reference of chapter 14: Wrong.
-/
import Derived.Test.YtmhikcleekfbpaaDoorRhB
import Derived.Test.YtmhikcleekfbpaaDoorSgE
namespace Go.Proofs.YtmhikcleekfbpaaDoor
open Go.RowKit

theorem any_of_take {α : Type} {p : α → Bool} {l : List α} {k : Nat} (h : (l.take k).any p = true) : l.any p = true := by
  rw [List.any_eq_true] at h ⊢
  obtain ⟨x, h1, h2⟩ := h
  exact ⟨x, List.mem_of_mem_take h1, h2⟩
set_option maxRecDepth 100000 in
set_option maxHeartbeats 4000000 in
theorem refWrong_any (s : Shp) (h : Hd) (A : Option Addr) (c : Nat) (boxes : List Bx) (A2 : Option Addr) (c2 : Nat) (l : List Stw) (w : World) (hsh : ShpR w (Lt w.heap.size) s h) (hf : Few s) (hcl : s.cols.length ≤ 1000000)
    (hb : SlT tBx w (Lt w.heap.size) A boxes) (hbl : boxes.length ≤ 1000000) (hs : SlT tStw w (Lt w.heap.size) A2 l) (hl : l.length ≤ 1000000) (ht : ∀ x ∈ l, x.slot.tier ≤ 9223372036854775807) (hsz : ∀ b ∈ boxes, b.size < 256) :
    Calls Tryd.prog 27 #[.agg (shpA s h), .slice A boxes.length c, .slice A2 l.length c2] w (Ret w (.int .i64 (dErr s boxes l : Nat))) := by
  have hb0 := ba1 w (.cells (shpA s h) 32)
  have HB0 := Lib.hid hb0
  have KR := Lib.hid (refStow_any s h A c boxes A2 c2 l _ (hsh.on hb0) hf hcl (hb.on hb0) hbl (hs.on hb0) hl ht hsz)
  have KE := Lib.hid (Bk.new w 32 (shpA s h))
  have HB := Lib.hid (hb.on hb0)
  have HS := Lib.hid (hs.on hb0)
  have HE : Hid (dErr s boxes l = if stowRight s boxes l then (if l.any (overB9 boxes) then 130 else if 200 < (goodsF boxes l).length then 5 else 0) else 2) := Lib.hid rfl
  clear hb hs hsh hb0 hf ht hsz
  generalize stowRight s boxes l = r at *
  generalize dErr s boxes l = de at *
  unfold shpA at *
  go_enter Tryd.func27, Tryd.ntmps27
  go_upto_region 1 with fail
  generalize (w.alloc _) = W at *
  have e0 : W.cell? ⟨w.heap.size, 0, none⟩ = some (Value.slice h.A1 s.cols.length h.c1) := KE.out.cell 0
  have e1 : W.cell? ⟨w.heap.size, 1, none⟩ = some (Value.slice h.A2 s.covs.length h.c2) := KE.out.cell 1
  have e2 : W.cell? ⟨w.heap.size, 2, none⟩ = some (.int .i64 s.l0) := KE.out.cell 2
  have e3 : W.cell? ⟨w.heap.size, 3, none⟩ = some (.int .i64 s.l1) := KE.out.cell 3
  have e4 : W.cell? ⟨w.heap.size, 4, none⟩ = some (.int .i64 s.l2) := KE.out.cell 4
  have e5 : W.cell? ⟨w.heap.size, 5, none⟩ = some (.int .i64 s.l3) := KE.out.cell 5
  have e6 : W.cell? ⟨w.heap.size, 6, none⟩ = some (Value.slice h.A3 s.rows.length h.c3) := KE.out.cell 6
  have e7 : W.cell? ⟨w.heap.size, 7, none⟩ = some (Value.slice h.A4 s.frames.length h.c4) := KE.out.cell 7
  have e8 : W.cell? ⟨w.heap.size, 8, none⟩ = some (Value.slice h.A5 s.tanks.length h.c5) := KE.out.cell 8
  have e9 : W.cell? ⟨w.heap.size, 9, none⟩ = some (.int .i64 s.m0) := KE.out.cell 9
  have e10 : W.cell? ⟨w.heap.size, 10, none⟩ = some (.int .i64 s.m1) := KE.out.cell 10
  have e11 : W.cell? ⟨w.heap.size, 11, none⟩ = some (.int .i64 s.m2) := KE.out.cell 11
  have e12 : W.cell? ⟨w.heap.size, 12, none⟩ = some (.int .i64 s.m3) := KE.out.cell 12
  go_wp2_with fail
  refine KR.out.mono ?_
  rintro e w1 ⟨rfl, hb⟩
  simp only
  have HB1 := Lib.hid (HB0.out.trans (hb.mono HB0.out.size))
  have HBX := Lib.hid (HB.out.on hb)
  have HST := Lib.hid (HS.out.on hb)
  clear hb KR KE HB0 HB HS e0 e1 e2 e3 e4 e5 e6 e7 e8 e9 e10 e11 e12
  try clear W
  cases r with
  | false =>
    have HE2 := Lib.hid (show de = 2 by rw [HE.out]; rfl)
    go_wp2_with fail
    (try go_ret)
    exact ⟨by rw [HE2.out]; rfl, HB1.out⟩
  | true =>
    have HE1 := Lib.hid (show de = (if l.any (overB9 boxes) then 130 else if 200 < (goodsF boxes l).length then 5 else 0) by rw [HE.out]; rfl)
    clear HE
    go_wp2_with fail
    go_loopw [7, 8] (fun v i wz => ∃ (k m : Nat), k ≤ l.length ∧ i = .int .i64 k ∧ v = .int .i64 m ∧ m ≤ k ∧ Hid (m = (goodsF boxes (l.take k)).length) ∧ Hid ((l.take k).any (overB9 boxes) = false) ∧ Hid (Below w1.heap.size w1 wz)) (fun _ i _ => l.length - (intOf i).toNat)
    case atStart => exact ⟨0, 0, Nat.zero_le _, rfl, rfl, Nat.le_refl _, Lib.hid (by simp [goodsF, gdsF]), Lib.hid (by simp), Lib.hid (Below.refl _ _)⟩
    case round =>
      obtain ⟨k, m, hk, rfl, rfl, hm, HG, HA, HBZ⟩ := hrel
      obtain ⟨V, rfl⟩ : ∃ V, V = wr := ⟨_, rfl⟩
      by_cases hlt : k < l.length
      · obtain ⟨b, off, rfl, hbB, c0, c1, c2', c3⟩ := (HST.out.on HBZ.out).stw hlt
        have HGS := Lib.hid (congrArg List.length (goodsF_succ boxes hlt))
        have HAS := Lib.hid (any9_take boxes hlt)
        rw [List.length_append, ← HG.out] at HGS
        rw [HA.out, Bool.false_or] at HAS
        have i0 : (0 : Int) ≤ (k : Int) := by omega
        have i1 : (k : Int) < (l.length : Int) := by omega
        clear HG HA hbB
        generalize l.getD k default = x at *
        have HCL : Hid (clsF boxes x.box = (findBx boxes x.box).1.cls) := Lib.hid rfl
        have KF := Lib.hid (refFindBx_any A c boxes x.box V (HBX.out.on HBZ.out) hbl)
        obtain ⟨x0, x1, x2, x3⟩ := x
        simp only at c0 c1 c2' c3 HCL KF HGS HAS
        generalize clsF boxes x0 = cx at *
        generalize findBx boxes x0 = fb at *
        obtain ⟨⟨b0, b1, b2, b3, b4, b5, b6, b7, b8⟩, ok⟩ := fb
        unfold bxL at KF
        simp only at KF
        obtain rfl : cx = b7 := HCL.out
        clear HCL
        go_step
        go_step
        go_upto_region 7 with fail
        go_wp2_with fail
        refine KF.out.mono ?_
        rintro e Y ⟨rfl, hbY⟩
        simp only
        have hy := hbY.trans ((ba1 Y (.cells #[.int .i64 b0, .string b1, .int .u8 (b2 : Nat), .bool b3, .int .i64 b4, .int .i64 b5, .int .i64 b6, .int .u8 (cx : Nat), .bool b8] 41)).mono hbY.size)
        have HBB := Lib.hid (Bk.new Y 41 #[.int .i64 b0, .string b1, .int .u8 (b2 : Nat), .bool b3, .int .i64 b4, .int .i64 b5, .int .i64 b6, .int .u8 (cx : Nat), .bool b8])
        have HN := Lib.hid (HBZ.out.trans (hy.mono HBZ.out.size))
        clear KF hy hbY HBZ c0 c1 c2' c3
        go_upto_region 8 with fail
        generalize Y.heap.size = gb at *
        generalize (Y.alloc _) = Z at *
        try clear Y
        try clear V
        have z7 : Z.cell? ⟨gb, 7, none⟩ = some (.int .u8 (cx : Nat)) := HBB.out.cell 7
        clear HBB
        by_cases h9 : 9 < cx
        · have u1 : decide ((9 : Int) < (cx : Int)) = true := decide_eq_true (by omega)
          have HE2 := Lib.hid (show de = 130 by rw [HE1.out, any_of_take (k := k + 1) (HAS.out.trans (decide_eq_true h9))]; rfl)
          have HF := Lib.hid (HB1.out.trans (HN.out.mono HB1.out.size))
          clear HAS HGS HE1
          go_wp2_with fail
          (try go_ret)
          exact ⟨by rw [HE2.out]; rfl, HF.out⟩
        · have u1 : decide ((9 : Int) < (cx : Int)) = false := decide_eq_false (by omega)
          have HA' := Lib.hid (HAS.out.trans (decide_eq_false h9))
          clear HAS
          by_cases h0 : 0 < cx
          · have u2 : decide ((0 : Int) < (cx : Int)) = true := decide_eq_true (by omega)
            have HG' := Lib.hid (show m + 1 = (goodsF boxes (l.take (k + 1))).length by rw [HGS.out, if_pos h0]; rfl)
            clear HGS
            go_wp2_with fail
            go_roundw
            case rel => (first | exact ⟨k + 1, m + 1, by omega, by go_num, by go_num, by omega, HG', HA', HN⟩ | ((repeat apply Exists.intro); (first | exact ⟨⟨k + 1, m + 1, by omega, by go_num, by go_num, by omega, HG', HA', HN⟩, rfl⟩ | exact ⟨by omega, by go_num, by go_num, by omega, HG', HA', HN⟩)))
            case measure => simp [intOf]; omega
          · have u2 : decide ((0 : Int) < (cx : Int)) = false := decide_eq_false (by omega)
            have HG' := Lib.hid (show m = (goodsF boxes (l.take (k + 1))).length by rw [HGS.out, if_neg h0]; rfl)
            clear HGS
            go_wp2_with fail
            go_roundw
            case rel => (first | exact ⟨k + 1, m, by omega, by go_num, by go_num, by omega, HG', HA', HN⟩ | ((repeat apply Exists.intro); (first | exact ⟨⟨k + 1, m, by omega, by go_num, by go_num, by omega, HG', HA', HN⟩, rfl⟩ | exact ⟨by omega, by go_num, by go_num, by omega, HG', HA', HN⟩)))
            case measure => simp [intOf]; omega
      · obtain rfl : k = l.length := by omega
        have HM := Lib.hid (show m = (goodsF boxes l).length by have := HG.out; rwa [List.take_length] at this)
        have HAA := Lib.hid (show l.any (overB9 boxes) = false by have := HA.out; rwa [List.take_length] at this)
        have HF := Lib.hid (HB1.out.trans (HBZ.out.mono HB1.out.size))
        have HE3 := Lib.hid (show de = if 200 < m then 5 else 0 by rw [HE1.out, HAA.out, HM.out]; rfl)
        clear HM HAA HE1 HG HA
        by_cases h2 : 200 < m
        · have u1 : decide ((200 : Int) < (m : Int)) = true := decide_eq_true (by omega)
          have HE2 := Lib.hid (show de = 5 by rw [HE3.out, if_pos h2])
          clear HE3
          go_wp2_with fail
          (try go_ret)
          exact ⟨by rw [HE2.out]; rfl, HF.out⟩
        · have u1 : decide ((200 : Int) < (m : Int)) = false := decide_eq_false (by omega)
          have HE2 := Lib.hid (show de = 0 by rw [HE3.out, if_neg h2])
          clear HE3
          go_wp2_with fail
          (try go_ret)
          exact ⟨by rw [HE2.out]; rfl, HF.out⟩
end Go.Proofs.YtmhikcleekfbpaaDoor
