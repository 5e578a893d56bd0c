/-
  Walks of the law file of chapter 14: class, close.
-/
import Derived.Test.YtnbpecnddjpfbaaDoorSgT
namespace Go.Proofs.YtnbpecnddjpfbaaDoor
open Go.RowKit

theorem cls_hit {bs : List Bx} {id : Int} {k : Nat} (h : idxF (idB id) bs = (k : Int)) : clsF bs id = (bs.getD k zBx).cls := by
  unfold clsF findBx
  rw [h, if_neg (by omega), Int.toNat_natCast]
theorem cls_miss {bs : List Bx} {id : Int} (h : idxF (idB id) bs = -1) : clsF bs id = 0 := by
  unfold clsF findBx
  rw [h, if_pos (by decide)]
  rfl
set_option maxRecDepth 100000 in
set_option maxHeartbeats 4000000 in
theorem class_any (A : Option Addr) (c : Nat) (bs : List Bx) (id : Int) (w : World) (hs : SlT tBx w (Lt w.heap.size) A bs) (hl : bs.length ≤ 1000000) :
    Calls Tryd.prog 27 #[.slice A bs.length c, .int .i64 id] w (Ret w (.int .u8 (clsF bs id : Nat))) := by
  have HS := Lib.hid hs
  clear hs
  have HM := Lib.hid (fun h => cls_miss (bs := bs) (id := id) h)
  have HH := Lib.hid (fun k h => cls_hit (bs := bs) (id := id) (k := k) h)
  generalize clsF bs id = R at *
  go_enter Tryd.func27, Tryd.ntmps27
  go_wp2_with fail
  go_loopw [9] (fun i wr => ∃ k : Nat, k ≤ bs.length ∧ i = .int .i64 k ∧ Hid (Before (idB id) bs zBx k) ∧ Hid (Below w.heap.size w wr)) (fun i _ => bs.length - (intOf i).toNat)
  case atStart => exact ⟨0, Nat.zero_le _, rfl, Lib.hid .zero, Lib.hid (Below.refl _ _)⟩
  case round =>
    obtain ⟨k, hk, rfl, HB, HW⟩ := hrel
    obtain ⟨X, rfl⟩ : ∃ V, V = wr := ⟨_, rfl⟩
    by_cases hlt : k < bs.length
    · obtain ⟨b, off, rfl, _, hc⟩ := (HS.out.on HW.out).bx hlt
      have i0 : (0 : Int) ≤ (k : Int) := by omega
      have i1 : (k : Int) < (bs.length : Int) := by omega
      have hk1 : k + 1 ≤ bs.length := hlt
      have HT := Lib.hid (fun hp => HH.out k (idx_some (p := idB id) zBx hlt hp HB.out))
      have HN := Lib.hid (fun hp => HB.out.succ (k := k) hp)
      have HID : Hid (idB id (bs.getD k zBx) = ((bs.getD k zBx).id == id)) := Lib.hid rfl
      clear HB
      generalize idB id (bs.getD k zBx) = px at *
      generalize bs.getD k zBx = x at *
      obtain ⟨b0, b1, b2, b3, b4, b5, b6, b7, b8⟩ := x
      unfold bxL at hc
      simp only at hc HID HT
      have c0 : X.cell? ⟨b, off + k * 9, none⟩ = some (.int .i64 b0) := by simpa using hc 0 _ rfl
      have c1 : X.cell? ⟨b, off + k * 9 + 1, none⟩ = some (.string b1) := hc 1 _ rfl
      have c2 : X.cell? ⟨b, off + k * 9 + 2, none⟩ = some (.int .u8 (b2 : Nat)) := hc 2 _ rfl
      have c3 : X.cell? ⟨b, off + k * 9 + 3, none⟩ = some (.bool b3) := hc 3 _ rfl
      have c4 : X.cell? ⟨b, off + k * 9 + 4, none⟩ = some (.int .i64 b4) := hc 4 _ rfl
      have c5 : X.cell? ⟨b, off + k * 9 + 5, none⟩ = some (.int .i64 b5) := hc 5 _ rfl
      have c6 : X.cell? ⟨b, off + k * 9 + 6, none⟩ = some (.int .i64 b6) := hc 6 _ rfl
      have c7 : X.cell? ⟨b, off + k * 9 + 7, none⟩ = some (.int .u8 (b7 : Nat)) := hc 7 _ rfl
      have c8 : X.cell? ⟨b, off + k * 9 + 8, none⟩ = some (.bool b8) := hc 8 _ rfl
      clear hc
      have hbX := ba1 X (.cells #[.int .i64 b0, .string b1, .int .u8 (b2 : Nat), .bool b3, .int .i64 b4, .int .i64 b5, .int .i64 b6, .int .u8 (b7 : Nat), .bool b8] 41)
      have HX := Lib.hid (Bk.new X 41 #[.int .i64 b0, .string b1, .int .u8 (b2 : Nat), .bool b3, .int .i64 b4, .int .i64 b5, .int .i64 b6, .int .u8 (b7 : Nat), .bool b8])
      have HW2 := Lib.hid (HW.out.trans (hbX.mono HW.out.size))
      clear hbX HW
      go_upto_region 4 with fail
      clear c0 c1 c2 c3 c4 c5 c6 c7 c8
      generalize X.heap.size = gx at *
      generalize (X.alloc _) = U at *
      try clear X
      have y0 : U.cell? ⟨gx, 0, none⟩ = some (.int .i64 b0) := HX.out.cell 0
      have y7 : U.cell? ⟨gx, 7, none⟩ = some (.int .u8 (b7 : Nat)) := HX.out.cell 7
      cases hpx : (b0 == id) with
      | true =>
        have HV := Lib.hid (HT.out (HID.out.trans hpx))
        clear HT HN HID
        go_wp2_with fail
        go_ret
        exact ⟨by rw [HV.out]; rfl, HW2.out⟩
      | false =>
        have HB := Lib.hid (HN.out (HID.out.trans hpx))
        clear HT HN HID y7
        go_wp2_with fail
        go_roundw
        case rel => (first | exact ⟨k + 1, hk1, by go_num, HB, HW2⟩ | ((repeat apply Exists.intro); (first | exact ⟨⟨k + 1, hk1, by go_num, HB, HW2⟩, rfl⟩ | exact ⟨hk1, by go_num, HB, HW2⟩)))
        case measure => simp [intOf]; omega
    · obtain rfl : k = bs.length := by omega
      have HV := Lib.hid (HM.out (idx_none (p := idB id) zBx (fun i hi => HB.out i (by omega))))
      go_wp2_with fail
      go_ret
      exact ⟨by rw [HV.out]; rfl, HW.out⟩
end Go.Proofs.YtnbpecnddjpfbaaDoor
