/-
  Walks of the reference twistlockref13: Strictest, Clashes.
-/
import Derived.Test.YtcjnabbggmbfgaaDoorDgL
namespace Go.Proofs.YtcjnabbggmbfgaaDoor
open Go.RowKit

set_option maxHeartbeats 1000000 in
theorem rstrict_err (cls : Nat) (A : Option Addr) (n c : Nat) (l : List Nat) (w : World) (hs : Sl w w.heap.size 1 A n (u8s l)) (he : Dg.err l ≠ 0) :
    Calls Tryd.prog 26 #[.int .u8 cls, .slice A n c] w fun e w' => e = .returned (.tuple #[.int .u8 0, .int .i64 (Dg.err l)]) ∧ Below w.heap.size w w' := by
  have hne : (Dg.err l != 0) = true := by simpa using he
  have HC := Lib.hid (wrong_any A n c l w hs)
  generalize Dg.err l = er at *
  go_enter Tryd.func26, Tryd.ntmps26
  go_wp2_with (go_at_call 30; refine HC.out.mono ?_; rintro e w1 ⟨rfl, rfl⟩)
  go_ret2
  exact ⟨rfl, Below.refl _ _⟩
set_option maxHeartbeats 1000000 in
theorem rstrict_cls (cls : Nat) (A : Option Addr) (n c : Nat) (l : List Nat) (w : World) (hs : Sl w w.heap.size 1 A n (u8s l)) (he : Dg.err l = 0) (h9 : 9 < cls) :
    Calls Tryd.prog 26 #[.int .u8 cls, .slice A n c] w fun e w' => e = .returned (.tuple #[.int .u8 0, .int .i64 130]) ∧ Below w.heap.size w w' := by
  have hC := wrong_any A n c l w hs
  rw [he] at hC
  have HC := Lib.hid hC; clear hC he
  go_enter Tryd.func26, Tryd.ntmps26
  go_wp2_with (go_at_call 30; refine HC.out.mono ?_; rintro e w1 ⟨rfl, rfl⟩)
  go_ret2
  exact ⟨rfl, Below.refl _ _⟩
theorem most_take {l : List Nat} {k x : Nat} (m : Nat) (hk : k < l.length) (hx : l.getD k 0 = x) : Dg.most m (l.take (k + 1)) = max (Dg.most m (l.take k)) (Dg.tab m x) := by
  rw [count_take_succ hk hx, Dg.most_snoc]
set_option maxHeartbeats 1000000 in
theorem rstrict_ok (cls : Nat) (A : Option Addr) (n c : Nat) (l : List Nat) (w : World) (hs : Sl w w.heap.size 1 A n (u8s l)) (he : Dg.err l = 0) (h9 : cls < 10) :
    Calls Tryd.prog 26 #[.int .u8 cls, .slice A n c] w fun e w' => e = .returned (.tuple #[.int .u8 (Dg.most cls l : Nat), .int .i64 0]) ∧ Below w.heap.size w w' := by
  have hC := wrong_any A n c l w hs
  rw [he] at hC
  have HC := Lib.hid hC; clear hC
  have HE := Lib.hid (Dg.err_ok he); clear he
  have hll : l.length = n := by have := hs.len; rw [u8s_len] at this; omega
  have hn : n ≤ 1000 := by have := HE.out.1; omega
  have HL := Lib.hid hll; clear hll
  go_enter Tryd.func26, Tryd.ntmps26
  go_wp2_with (go_at_call 30; refine HC.out.mono ?_; rintro e w1 ⟨rfl, rfl⟩)
  clear HC
  go_loopw [7, 8] (fun m i wr => ∃ k q : Nat, k ≤ n ∧ q ≤ 3 ∧ i = .int .i64 k ∧ m = .int .u8 q ∧ Hid (Dg.most cls (l.take k) = q) ∧ Below w.heap.size w wr) (fun _ i _ => n - (intOf i).toNat)
  case atStart => exact ⟨0, 0, Nat.zero_le _, by omega, rfl, rfl, Lib.hid (by simp [Dg.most]), Below.refl _ _⟩
  case round =>
    obtain ⟨k, q, hk, hq3, rfl, rfl, HQ, hbr⟩ := hrel
    by_cases hlt : k < n
    · obtain ⟨b, off, rfl, hbB, hc⟩ := (hs.below hbr).u8 hlt
      have hkl : k < l.length := by rw [HL.out]; exact hlt
      have hx10 : l.getD k 0 < 10 := by have := HE.out.2 _ (getD_mem hkl); omega
      have HS := Lib.hid (most_take cls hkl rfl)
      have HO := Lib.hid fun W : World => of_any cls (l.getD k 0) W h9 hx10
      have h3 := Dg.tab_le cls _ h9 hx10
      generalize l.getD k 0 = x at *
      generalize Dg.tab cls x = t at *
      have hbw : b < wr.heap.size := block_lt_of_cell hc
      by_cases htq : q < t
      · have hdec : decide (q < t) = true := by simp; omega
        go_wp2_with (first
          | (go_at_call 29; refine (HO.out wr).mono ?_; rintro e w1 ⟨rfl, hb1⟩; have hc1 := (hb1.cell (p := ⟨b, off + k, none⟩) hbw).trans hc)
          | (go_at_call 29; refine (HO.out w1).mono ?_; rintro e w2 ⟨rfl, hb2⟩))
        go_roundw
        case rel => exact ⟨k + 1, t, by omega, h3, by go_num, rfl, Lib.hid (by rw [HS.out, HQ.out]; omega), (hbr.trans (hb1.mono hbr.size)).trans (hb2.mono (Nat.le_trans hbr.size hb1.size))⟩
        case measure => simp [intOf]; omega
      · have hdec : decide (q < t) = false := by simp; omega
        go_wp2_with (go_at_call 29; refine (HO.out wr).mono ?_; rintro e w1 ⟨rfl, hb1⟩)
        go_roundw
        case rel => exact ⟨k + 1, q, by omega, hq3, by go_num, rfl, Lib.hid (by rw [HS.out, HQ.out]; omega), hbr.trans (hb1.mono hbr.size)⟩
        case measure => simp [intOf]; omega
    · have hkn : l.take k = l := List.take_of_length_le (by rw [HL.out]; omega)
      rw [hkn] at HQ
      clear hkn
      go_wp2
      go_ret2
      exact ⟨by rw [HQ.out]; rfl, hbr⟩
def RClRet (w : World) (l : List (Nat × Nat × Nat)) (er : Int) (e : Ending) (w' : World) : Prop :=
  ∃ v, e = .returned (.tuple #[v, .int .i64 er]) ∧ w'.ownsRow w.heap.size 70 3 v l.length (clCs l) ∧ Below w.heap.size w w'
theorem el_rclash : El Tryd.prog 67 70 3 3 := El.mk' Tryd.underlying67 (by kernel_rfl) (by decide)
set_option maxHeartbeats 1000000 in
theorem rclashes_err (A : Option Addr) (n c : Nat) (l : List Nat) (w : World) (hs : Sl w w.heap.size 1 A n (u8s l)) (he : Dg.err l ≠ 0) :
    Calls Tryd.prog 33 #[.slice A n c] w (RClRet w [] (Dg.err l)) := by
  have hne : (Dg.err l != 0) = true := by simpa using he
  have HC := Lib.hid (wrong_any A n c l w hs)
  generalize Dg.err l = er at *
  go_enter Tryd.func33, Tryd.ntmps33
  go_wp2_with (go_at_call 30; refine HC.out.mono ?_; rintro e w1 ⟨rfl, rfl⟩)
  go_ret2
  exact ⟨_, rfl, World.ownsRow_nil _ _ _ _, Below.refl _ _⟩
theorem clash_has (p : List Nat) (a b : Nat) : Dg.clashB p a b = (decide (0 < Dg.tab a b) && hasB p a (a == b) && hasB p b (a == b)) := by
  unfold Dg.clashB hasB
  by_cases e : a = b
  · subst e
    by_cases h1 : 1 < p.count a
    · have h2 : 0 < p.count a := by omega
      simp [h1, h2]
    · simp [h1]
  · have h1 : (a == b) = false := by simp [e]
    have h2 : (a != b) = true := by simp [e]
    rw [h1, h2]
    by_cases h3 : 0 < p.count a <;> by_cases h4 : 0 < p.count b <;> by_cases h5 : 1 < p.count a <;> by_cases h6 : 1 < p.count b <;> simp [h3, h4, h5, h6] <;> omega
set_option maxRecDepth 100000 in
set_option maxHeartbeats 8000000 in
theorem rclashes_ok (A : Option Addr) (n c : Nat) (l : List Nat) (w : World) (hs : Sl w w.heap.size 1 A n (u8s l)) (he : Dg.err l = 0) :
    Calls Tryd.prog 33 #[.slice A n c] w (RClRet w (Dg.clashes l) 0) := by
  have hC := wrong_any A n c l w hs
  rw [he] at hC
  have HC := Lib.hid hC; clear hC
  have hll : l.length = n := by have := hs.len; rw [u8s_len] at this; omega
  have hn : n ≤ 1000 := by have := (Dg.err_ok he).1; omega
  clear he hll
  go_enter Tryd.func33, Tryd.ntmps33
  go_wp2_with (go_at_call 30; refine HC.out.mono ?_; rintro e w1 ⟨rfl, rfl⟩)
  clear HC
  go_loopw [5, 6] (fun v i wr => ∃ a : Nat, a ≤ 10 ∧ i = .int .u8 a ∧ wr.ownsRow w.heap.size 70 3 v (Dg.clTo l a).length (clCs (Dg.clTo l a)) ∧ Below w.heap.size w wr) (fun _ i _ => 10 - (intOf i).toNat)
  case atStart => exact ⟨0, Nat.zero_le _, rfl, World.ownsRow_nil _ _ _ _, Below.refl _ _⟩
  case round =>
    obtain ⟨a, ha, rfl, hown, hbr⟩ := hrel
    by_cases hlt : a < 10
    · have hda : decide ((a : Int) ≤ 9) = true := by simp; omega
      go_wp2
      obtain ⟨wo, rfl⟩ : ∃ wo : World, wo = wr := ⟨_, rfl⟩
      go_loopw [5, 7] (fun v i wi => ∃ k : Nat, k ≤ 10 - a ∧ i = .int .u8 (a + k : Nat) ∧ wi.ownsRow w.heap.size 70 3 v (Dg.clTo l a ++ Dg.clRow l a k).length (clCs (Dg.clTo l a ++ Dg.clRow l a k)) ∧ Below w.heap.size w wi) (fun _ i _ => 10 - (intOf i).toNat)
      case atStart => exact ⟨0, Nat.zero_le _, by simp, by simpa [Dg.clRow] using hown, hbr⟩
      case round =>
        clear hown hbr
        obtain ⟨k, hk, rfl, hown, hbr⟩ := hrel
        by_cases hkl : a + k ≤ 9
        · have hlen1 := Dg.clTo_len l a
          have hlen2 := Dg.clRow_len l a k
          have h3 := Dg.tab_le a (a + k) (by omega) (by omega)
          have HS : Hid (Dg.clTo l a ++ Dg.clRow l a (k + 1) = (Dg.clTo l a ++ Dg.clRow l a k) ++ if (decide (0 < Dg.tab a (a + k)) && hasB l a (a == a + k) && hasB l (a + k) (a == a + k)) = true then [(a, a + k, Dg.tab a (a + k))] else []) := Lib.hid (by rw [List.append_assoc, ← clash_has]; rfl)
          have HO := Lib.hid fun W : World => of_any a (a + k) W (by omega) (by omega)
          have HH := Lib.hid fun (W : World) (hb : Below w.heap.size w W) (cl : Nat) (tw : Bool) => has_any A n c l cl tw W hn ((hs.below hb).more hb.size)
          generalize hm : a + k = m at *
          have hk0 : (m = a ∧ k = 0) ∨ (a ≠ m ∧ 0 < k) := by omega
          generalize hL : Dg.clTo l a ++ Dg.clRow l a k = L at *
          have hLl : L.length ≤ 200 := by rw [← hL]; simp; omega
          clear hL hlen1 hlen2
          generalize htw : (a == m) = tw at *
          generalize hq1 : hasB l a tw = q1 at *
          generalize hq2 : hasB l m tw = q2 at *
          generalize Dg.tab a m = x at *
          have hcs : x = 0 ∨ (0 < x ∧ q1 = false) ∨ (0 < x ∧ q1 = true ∧ q2 = false) ∨ (0 < x ∧ q1 = true ∧ q2 = true) := by
            cases q1 <;> cases q2 <;> simp <;> omega
          rcases hk0 with ⟨rfl, hk1⟩ | ⟨hne, hk1⟩
          · have htw' : tw = true := by rw [← htw]; simp
            subst htw'
            have hqq : q1 = q2 := hq1.symm.trans hq2
            subst hqq
            clear hq2
            rcases hcs with rfl | ⟨hx, rfl⟩ | ⟨hx, h1, h2⟩ | ⟨hx, rfl, _⟩
            · go_wp2_with (first
                          | (go_at_call 29; refine (HO.out wr).mono ?_; rintro e w1 ⟨rfl, hb1⟩; have hbw1 := hbr.trans (hb1.mono hbr.size))
                          | (go_at_call 31; refine (HH.out w1 hbw1 _ _).mono ?_; rintro e w2 ⟨rfl, rfl⟩))
              go_roundw
              case rel => exact ⟨k + 1, by omega, by go_num, by rw [HS.out]; simpa using own_below hown hb1 (Nat.le_refl _), hbw1⟩
              case measure => simp [intOf]; omega
            · go_wp2_with (first
                          | (go_at_call 29; refine (HO.out wr).mono ?_; rintro e w1 ⟨rfl, hb1⟩; have hbw1 := hbr.trans (hb1.mono hbr.size))
                          | (go_at_call 31; refine (HH.out w1 hbw1 _ _).mono ?_; rintro e w2 ⟨rfl, rfl⟩))
              go_roundw
              case rel => exact ⟨k + 1, by omega, by go_num, by rw [HS.out]; simpa using own_below hown hb1 (Nat.le_refl _), hbw1⟩
              case measure => simp [intOf]; omega
            · rw [h1] at h2; cases h2
            · go_wp2_with (first
                          | (go_at_call 29; refine (HO.out wr).mono ?_; rintro e w1 ⟨rfl, hb1⟩; have hbw1 := hbr.trans (hb1.mono hbr.size))
                          | (go_at_call 31; refine (HH.out w1 hbw1 _ _).mono ?_; rintro e w2 ⟨rfl, rfl⟩)
                          | (go_at_call 29; refine (HO.out w1).mono ?_; rintro e w2 ⟨rfl, hb2⟩; have hbw2 := hbw1.trans (hb2.mono hbw1.size); have hown2 := own_below (own_below hown hb1 (Nat.le_refl _)) hb2 (Nat.le_refl _))
                          | (at_builtin; refine wpList_append1 el_rclash rfl (.tmp 42) (.tmp 49) rfl w.heap.size _ L.length (clCs L) rfl hown2 #[.int .u8 m, .int .u8 m, .int .u8 x] _ rfl rfl rfl (by unfold maxLen; omega) (by omega) hbw2.size ?_))
              intro v' w3 hown' hgr _ hbel
              go_wp2
              go_roundw
              case rel => exact ⟨k + 1, by omega, by go_num, by rw [HS.out, if_pos (by simp; omega)]; simpa [clCs, clC] using hown', hbw2.trans hbel⟩
              case measure => simp [intOf]; omega
          · have htw' : tw = false := by rw [← htw]; simp; omega
            subst htw'
            have hne2 : ((a : Int) == (m : Int)) = false := by simp; omega
            rcases hcs with rfl | ⟨hx, rfl⟩ | ⟨hx, rfl, rfl⟩ | ⟨hx, rfl, rfl⟩
            · go_wp2_with (first
                          | (go_at_call 29; refine (HO.out wr).mono ?_; rintro e w1 ⟨rfl, hb1⟩; have hbw1 := hbr.trans (hb1.mono hbr.size))
                          | (go_at_call 31; refine (HH.out w1 hbw1 _ _).mono ?_; rintro e w2 ⟨rfl, rfl⟩))
              go_roundw
              case rel => exact ⟨k + 1, by omega, by go_num, by rw [HS.out]; simpa using own_below hown hb1 (Nat.le_refl _), hbw1⟩
              case measure => simp [intOf]; omega
            · go_wp2_with (first
                          | (go_at_call 29; refine (HO.out wr).mono ?_; rintro e w1 ⟨rfl, hb1⟩; have hbw1 := hbr.trans (hb1.mono hbr.size))
                          | (go_at_call 31; refine (HH.out w1 hbw1 _ _).mono ?_; rintro e w2 ⟨rfl, rfl⟩))
              go_roundw
              case rel => exact ⟨k + 1, by omega, by go_num, by rw [HS.out]; simpa using own_below hown hb1 (Nat.le_refl _), hbw1⟩
              case measure => simp [intOf]; omega
            · go_wp2_with (first
                          | (go_at_call 29; refine (HO.out wr).mono ?_; rintro e w1 ⟨rfl, hb1⟩; have hbw1 := hbr.trans (hb1.mono hbr.size))
                          | (go_at_call 31; refine (HH.out w1 hbw1 _ _).mono ?_; rintro e w2 ⟨rfl, rfl⟩))
              go_roundw
              case rel => exact ⟨k + 1, by omega, by go_num, by rw [HS.out]; simpa using own_below hown hb1 (Nat.le_refl _), hbw1⟩
              case measure => simp [intOf]; omega
            · go_wp2_with (first
                          | (go_at_call 29; refine (HO.out wr).mono ?_; rintro e w1 ⟨rfl, hb1⟩; have hbw1 := hbr.trans (hb1.mono hbr.size))
                          | (go_at_call 31; refine (HH.out w1 hbw1 _ _).mono ?_; rintro e w2 ⟨rfl, rfl⟩)
                          | (go_at_call 29; refine (HO.out w1).mono ?_; rintro e w2 ⟨rfl, hb2⟩; have hbw2 := hbw1.trans (hb2.mono hbw1.size); have hown2 := own_below (own_below hown hb1 (Nat.le_refl _)) hb2 (Nat.le_refl _))
                          | (at_builtin; refine wpList_append1 el_rclash rfl (.tmp 42) (.tmp 49) rfl w.heap.size _ L.length (clCs L) rfl hown2 #[.int .u8 a, .int .u8 m, .int .u8 x] _ rfl rfl rfl (by unfold maxLen; omega) (by omega) hbw2.size ?_))
              intro v' w3 hown' hgr _ hbel
              go_wp2
              go_roundw
              case rel => exact ⟨k + 1, by omega, by go_num, by rw [HS.out, if_pos (by simp; omega)]; simpa [clCs, clC] using hown', hbw2.trans hbel⟩
              case measure => simp [intOf]; omega
        · have hk' : k = 10 - a := by omega
          subst hk'
          have hm9 : decide (((a + (10 - a) : Nat) : Int) ≤ 9) = false := by simp; omega
          go_wp2
          go_roundw
          case rel => exact ⟨a + 1, by omega, by go_num, hown, hbr⟩
          case measure => simp [intOf]; omega
    · have ha10 : a = 10 := by omega
      subst ha10
      go_wp2
      go_ret2
      exact ⟨_, rfl, hown, hbr⟩
end Go.Proofs.YtcjnabbggmbfgaaDoor
