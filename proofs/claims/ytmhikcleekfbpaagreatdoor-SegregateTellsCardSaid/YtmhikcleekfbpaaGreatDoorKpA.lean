/-
  Walks of package twistlockkit: KeptInts: true of what nobody has turned.
-/
import Derived.Test.YtmhikcleekfbpaaGreatDoorLn
namespace Go.Proofs.YtmhikcleekfbpaaGreatDoor
open Go.RowKit

theorem mark1_ret (i : Nat) (w : World) (hi : i ≤ 1000) : Calls Tryz.prog 52 #[.int .i64 1, .int .i64 (i : Int)] w (Ret w (.int .i64 (mk1 i))) :=
  (mark1_any i w hi).mono fun e w' ⟨h1, h2⟩ => ⟨h1, by rw [← h2]; exact Below.refl _ _⟩
set_option maxRecDepth 100000 in
set_option maxHeartbeats 4000000 in
theorem keptInts2_any (A1 A2 : Option Addr) (c1 c2 : Nat) (l : List Int) (w : World) (h1 : SlT tInt w (Lt w.heap.size) A1 (l ++ marksI 12)) (h2 : SlT tInt w (Lt w.heap.size) A2 l) (hc : l.length + 12 ≤ c1) (hcm : l.length ≤ 17592186043904) :
    Calls Tryz.prog 87 #[.slice A1 l.length c1, .slice A2 l.length c2] w (Ret w (.bool true)) := by
  have HS1 := Lib.hid h1
  have HS2 := Lib.hid h2
  clear h1 h2
  have hb0 : ((l.length : Int) != (l.length : Int)) = false := by simp
  have j1 : (0 : Int) ≤ (l.length : Int) + 12 := by omega
  have j2 : (l.length : Int) + 12 ≤ (c1 : Int) := by omega
  go_enter Tryz.func87, Tryz.ntmps87
  go_wp2_with fail
  go_loopw [6] (fun i wr => ∃ k : Nat, k ≤ l.length + 12 ∧ i = .int .i64 k ∧ Hid (Below w.heap.size w wr)) (fun i _ => l.length + 12 - (intOf i).toNat)
  case atStart => exact ⟨0, Nat.zero_le _, rfl, Lib.hid (Below.refl _ _)⟩
  case round =>
    obtain ⟨k, hk, rfl, HB⟩ := hrel
    obtain ⟨V, rfl⟩ : ∃ V, V = wr := ⟨_, rfl⟩
    by_cases hlt : k < l.length + 12
    · obtain ⟨p1, o1, rfl, _, e1⟩ := (HS1.out.on HB.out).int (j := k) (by rw [List.length_append, marksI_len]; exact hlt)
      have i0 : (0 : Int) ≤ (k : Int) := by omega
      have i1 : (k : Int) < (l.length : Int) + 12 := by omega
      by_cases hin : k < l.length
      · obtain ⟨p2, o2, rfl, _, e2⟩ := (HS2.out.on HB.out).int (j := k) hin
        rw [getD_app_l hin] at e1
        have i2 : (k : Int) < (l.length : Int) := by omega
        have q1 : decide (k < l.length) = true := by simpa using hin
        have q2 : decide (l.length ≤ k) = false := by simp; omega
        generalize l.getD k 0 = x at *
        go_upto_region 7 with fail
        have e1 : ∀ p : Gr V, p.W.cell? ⟨p1, o1 + k, none⟩ = some (.int .i64 x) := Gr.cell e1
        have e2 : ∀ p : Gr V, p.W.cell? ⟨p2, o2 + k, none⟩ = some (.int .i64 x) := Gr.cell e2
        refine wp_region_gr (by kernel_rfl) (by kernel_rfl) ?_
        repeat (go_big_quiet_step (fail))
        refine wpQuiet_nil ?_
        rintro Y ⟨⟨_, hbY⟩, rfl⟩
        have HBY := Lib.hid (HB.out.trans (hbY.mono HB.out.size))
        clear e1 e2 hbY HB q1 q2
        go_wp2_with fail
        go_roundw
        case rel => first | exact ⟨k + 1, by omega, by go_num, HBY⟩ | ((repeat apply Exists.intro); (first | exact ⟨⟨k + 1, by omega, by go_num, HBY⟩, rfl⟩ | exact ⟨by omega, by go_num, HBY⟩))
        case measure => simp [intOf]; omega
      · rw [getD_app_r (by omega), marksI_at (by omega)] at e1
        have q1 : decide (k < l.length) = false := by simp; omega
        have q2 : decide (l.length ≤ k) = true := by simp; omega
        obtain ⟨j, hj⟩ : ∃ j, k - l.length = j := ⟨_, rfl⟩
        rw [hj] at e1
        have s1 : IntKind.i64.wrap ((k : Int) - (l.length : Int)) = (j : Int) := by rw [IntWalk.i64_in _ (by omega)]; omega
        have HM := Lib.hid (fun (V' : World) (hV : Below V.heap.size V V') => mark1_ret j V' (by omega))
        clear hj
        generalize mk1 j = x at *
        go_upto_region 7 with fail
        have e1 : ∀ p : Gr V, p.W.cell? ⟨p1, o1 + k, none⟩ = some (.int .i64 x) := Gr.cell e1
        refine wp_region_gr (by kernel_rfl) (by kernel_rfl) ?_
        repeat (go_big_quiet_step ((with_reducible exact Gr.call _ (fun V hV => HM.out V hV))))
        refine wpQuiet_nil ?_
        rintro Y ⟨⟨_, hbY⟩, rfl⟩
        have HBY := Lib.hid (HB.out.trans (hbY.mono HB.out.size))
        clear e1 hbY HB q1 q2 s1 HM
        go_wp2_with fail
        go_roundw
        case rel => first | exact ⟨k + 1, by omega, by go_num, HBY⟩ | ((repeat apply Exists.intro); (first | exact ⟨⟨k + 1, by omega, by go_num, HBY⟩, rfl⟩ | exact ⟨by omega, by go_num, HBY⟩))
        case measure => simp [intOf]; omega
    · obtain rfl : k = l.length + 12 := by omega
      go_wp2_with fail
      go_ret
      exact ⟨rfl, HB.out⟩
end Go.Proofs.YtmhikcleekfbpaaGreatDoor
