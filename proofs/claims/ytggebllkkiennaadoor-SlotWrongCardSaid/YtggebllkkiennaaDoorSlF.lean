/-
  Walks of package slot: number.
-/
import Derived.Test.YtggebllkkiennaaDoorSlE
import Derived.Test.YtggebllkkiennaaDoorLib2
namespace Go.Proofs.YtggebllkkiennaaDoor
open Go.RowKit

def dg (n i : Nat) : Nat := 48 + n / 10 ^ i % 10
/-- The digits of a number, as number writes them. -/
def num3 (n : Nat) : List Nat := [dg n 2, dg n 1, dg n 0]
def num2 (n : Nat) : List Nat := [dg n 1, dg n 0]
def dcell3 (n j : Nat) : Array Value :=
  #[.int .u8 (if 3 ≤ j then (dg n 2 : Nat) else 0 : Nat), .int .u8 (if 2 ≤ j then (dg n 1 : Nat) else 0 : Nat), .int .u8 (if 1 ≤ j then (dg n 0 : Nat) else 0 : Nat)]
def dcell2 (n j : Nat) : Array Value := #[.int .u8 (if 2 ≤ j then (dg n 1 : Nat) else 0 : Nat), .int .u8 (if 1 ≤ j then (dg n 0 : Nat) else 0 : Nat)]
theorem sl_of_bk {w : World} {g : Nat} {t : TypeId} {l : List Nat} (h : Bk w g t (u8s l).toArray) : Sl w w.heap.size 1 (some ⟨g, 0, none⟩) l.length (u8s l) :=
  ⟨by rw [u8s_len]; simp, fun _ => ⟨g, 0, rfl, h.lt, fun j u hu => by rw [Nat.zero_add, h.cell j]; simpa using hu⟩⟩
theorem str_of_bk {w : World} {g c : Nat} {t : TypeId} {l : List Nat} (h : Bk w g t (u8s l).toArray) : (convert 67 9 (.slice (some ⟨g, 0, none⟩) l.length c)).run Tryd.prog w = .ok (.string (strN l)) w :=
  conv_u8 Tryd.underlying67 Tryd.underlying5 Tryd.underlying9 (sl_of_bk h)

set_option maxRecDepth 100000 in
set_option maxHeartbeats 2000000 in
theorem number3_any (n : Nat) (w : World) (hn : n ≤ 1000000) :
    Calls Tryd.prog 45 #[.int .i64 (n : Int), .int .i64 3] w (Ret w (.string (strN (num3 n)))) := by
  have hmk : ∀ w, (Instr.makeSlice 67 (.int .i64 3) (.int .i64 3)).run Tryd.prog w = .ok (.slice (some ⟨w.heap.size, 0, none⟩) 3 3) (w.alloc (.cells #[.int .u8 0, .int .u8 0, .int .u8 0] 5)) := fun _ => by kernel_rfl
  go_enter Tryd.func45, Tryd.ntmps45
  go_wp2
  have hb0 := ba1 w (.cells #[.int .u8 0, .int .u8 0, .int .u8 0] 5)
  have hk0 := Bk.new w 5 #[.int .u8 0, .int .u8 0, .int .u8 0]
  clear hmk
  generalize (w.alloc _) = W at *
  go_loopw [0, 6] (fun a i wr => ∃ j : Nat, j ≤ 3 ∧ a = .int .i64 ((n / 10 ^ j : Nat) : Int) ∧ i = .int .i64 (2 - (j : Int)) ∧ Bk wr w.heap.size 5 (dcell3 n j) ∧ Below w.heap.size w wr) (fun _ i _ => (intOf i + 1).toNat)
  case atStart => exact ⟨0, by omega, by simp, by simp, by simpa [dcell3] using hk0, hb0⟩
  case round =>
    clear hk0 hb0
    obtain ⟨j, hj, rfl, rfl, hk, hb⟩ := hrel
    obtain ⟨V, rfl⟩ : ∃ V, V = wr := ⟨_, rfl⟩
    by_cases h3 : j = 3
    · subst h3
      have hcv : (convert 67 9 (.slice (some ⟨w.heap.size, 0, none⟩) 3 3)).run Tryd.prog V = .ok (.string (strN (num3 n))) V := str_of_bk (c := 3) (l := num3 n) (show Bk V w.heap.size 5 (u8s (num3 n)).toArray from hk)
      clear hk
      rw [show (2 - ((3 : Nat) : Int)) = -1 from rfl]
      go_wp2
      go_ret
      exact ⟨rfl, hb⟩
    · have hN : n / 10 ^ j ≤ 1000000 := Nat.le_trans (Nat.div_le_self _ _) hn
      have hd : n / 10 ^ (j + 1) = n / 10 ^ j / 10 := by rw [Nat.pow_succ, Nat.div_div_eq_div_mul]
      have hdg : dg n j = 48 + n / 10 ^ j % 10 := rfl
      have HD := Lib.hid hd
      have HG := Lib.hid hdg
      clear hd hdg
      have c0 := hk.cell 0
      have c1 := hk.cell 1
      have c2 := hk.cell 2
      have f0 := hk.frozen 0
      have f1 := hk.frozen 1
      have f2 := hk.frozen 2
      simp [dcell3] at c0 c1 c2
      have HK := Lib.hid hk
      clear hk
      have hM10 : ((n / 10 ^ (j + 1) : Nat) : Int) = (n / 10 ^ j : Nat) / 10 := by rw [HD.out]; omega
      have HM := Lib.hid hM10
      clear hM10
      generalize hM : n / 10 ^ j = M at *
      rcases (show j = 0 ∨ j = 1 ∨ j = 2 by omega) with rfl | rfl | rfl
      · rw [show (2 - ((0 : Nat) : Int)) = 2 from rfl]
        go_wp2
        go_roundw
        case rel =>
          refine ⟨0 + 1, by omega, by rw [HM.out], by simp, ?_, hb.setCell (p := ⟨w.heap.size, 2, none⟩) (Nat.le_refl _) _⟩
          have h := HK.out.set_ 2 (.int .u8 (48 + (M : Int) % 10))
          rw [show (dcell3 n 0).setIfInBounds 2 (.int .u8 (48 + (M : Int) % 10)) = dcell3 n (0 + 1) from by rw [show (48 + (M : Int) % 10) = ((dg n 0 : Nat) : Int) from by rw [HG.out]; omega]; rfl] at h
          exact h
        case measure => simp [intOf]
      · rw [show (2 - ((1 : Nat) : Int)) = 1 from rfl]
        go_wp2
        go_roundw
        case rel =>
          refine ⟨1 + 1, by omega, by rw [HM.out], by simp, ?_, hb.setCell (p := ⟨w.heap.size, 1, none⟩) (Nat.le_refl _) _⟩
          have h := HK.out.set_ 1 (.int .u8 (48 + (M : Int) % 10))
          rw [show (dcell3 n 1).setIfInBounds 1 (.int .u8 (48 + (M : Int) % 10)) = dcell3 n (1 + 1) from by rw [show (48 + (M : Int) % 10) = ((dg n 1 : Nat) : Int) from by rw [HG.out]; omega]; rfl] at h
          exact h
        case measure => simp [intOf]
      · rw [show (2 - ((2 : Nat) : Int)) = 0 from rfl]
        go_wp2
        go_roundw
        case rel =>
          refine ⟨2 + 1, by omega, by rw [HM.out], by simp, ?_, hb.setCell (p := ⟨w.heap.size, 0, none⟩) (Nat.le_refl _) _⟩
          have h := HK.out.set_ 0 (.int .u8 (48 + (M : Int) % 10))
          rw [show (dcell3 n 2).setIfInBounds 0 (.int .u8 (48 + (M : Int) % 10)) = dcell3 n (2 + 1) from by rw [show (48 + (M : Int) % 10) = ((dg n 2 : Nat) : Int) from by rw [HG.out]; omega]; rfl] at h
          exact h
        case measure => simp [intOf]
set_option maxRecDepth 100000 in
set_option maxHeartbeats 2000000 in
theorem number2_any (n : Nat) (w : World) (hn : n ≤ 1000000) :
    Calls Tryd.prog 45 #[.int .i64 (n : Int), .int .i64 2] w (Ret w (.string (strN (num2 n)))) := by
  have hmk : ∀ w, (Instr.makeSlice 67 (.int .i64 2) (.int .i64 2)).run Tryd.prog w = .ok (.slice (some ⟨w.heap.size, 0, none⟩) 2 2) (w.alloc (.cells #[.int .u8 0, .int .u8 0] 5)) := fun _ => by kernel_rfl
  go_enter Tryd.func45, Tryd.ntmps45
  go_wp2
  have hb0 := ba1 w (.cells #[.int .u8 0, .int .u8 0] 5)
  have hk0 := Bk.new w 5 #[.int .u8 0, .int .u8 0]
  clear hmk
  generalize (w.alloc _) = W at *
  go_loopw [0, 6] (fun a i wr => ∃ j : Nat, j ≤ 2 ∧ a = .int .i64 ((n / 10 ^ j : Nat) : Int) ∧ i = .int .i64 (1 - (j : Int)) ∧ Bk wr w.heap.size 5 (dcell2 n j) ∧ Below w.heap.size w wr) (fun _ i _ => (intOf i + 1).toNat)
  case atStart => exact ⟨0, by omega, by simp, by simp, by simpa [dcell2] using hk0, hb0⟩
  case round =>
    clear hk0 hb0
    obtain ⟨j, hj, rfl, rfl, hk, hb⟩ := hrel
    obtain ⟨V, rfl⟩ : ∃ V, V = wr := ⟨_, rfl⟩
    by_cases h3 : j = 2
    · subst h3
      have hcv : (convert 67 9 (.slice (some ⟨w.heap.size, 0, none⟩) 2 2)).run Tryd.prog V = .ok (.string (strN (num2 n))) V := str_of_bk (c := 2) (l := num2 n) (show Bk V w.heap.size 5 (u8s (num2 n)).toArray from hk)
      clear hk
      rw [show (1 - ((2 : Nat) : Int)) = -1 from rfl]
      go_wp2
      go_ret
      exact ⟨rfl, hb⟩
    · have hN : n / 10 ^ j ≤ 1000000 := Nat.le_trans (Nat.div_le_self _ _) hn
      have hd : n / 10 ^ (j + 1) = n / 10 ^ j / 10 := by rw [Nat.pow_succ, Nat.div_div_eq_div_mul]
      have hdg : dg n j = 48 + n / 10 ^ j % 10 := rfl
      have HD := Lib.hid hd
      have HG := Lib.hid hdg
      clear hd hdg
      have c0 := hk.cell 0
      have c1 := hk.cell 1
      have f0 := hk.frozen 0
      have f1 := hk.frozen 1
      simp [dcell2] at c0 c1
      have HK := Lib.hid hk
      clear hk
      have hM10 : ((n / 10 ^ (j + 1) : Nat) : Int) = (n / 10 ^ j : Nat) / 10 := by rw [HD.out]; omega
      have HM := Lib.hid hM10
      clear hM10
      generalize hM : n / 10 ^ j = M at *
      rcases (show j = 0 ∨ j = 1 by omega) with rfl | rfl
      · rw [show (1 - ((0 : Nat) : Int)) = 1 from rfl]
        go_wp2
        go_roundw
        case rel =>
          refine ⟨0 + 1, by omega, by rw [HM.out], by simp, ?_, hb.setCell (p := ⟨w.heap.size, 1, none⟩) (Nat.le_refl _) _⟩
          have h := HK.out.set_ 1 (.int .u8 (48 + (M : Int) % 10))
          rw [show (dcell2 n 0).setIfInBounds 1 (.int .u8 (48 + (M : Int) % 10)) = dcell2 n (0 + 1) from by rw [show (48 + (M : Int) % 10) = ((dg n 0 : Nat) : Int) from by rw [HG.out]; omega]; rfl] at h
          exact h
        case measure => simp [intOf]
      · rw [show (1 - ((1 : Nat) : Int)) = 0 from rfl]
        go_wp2
        go_roundw
        case rel =>
          refine ⟨1 + 1, by omega, by rw [HM.out], by simp, ?_, hb.setCell (p := ⟨w.heap.size, 0, none⟩) (Nat.le_refl _) _⟩
          have h := HK.out.set_ 0 (.int .u8 (48 + (M : Int) % 10))
          rw [show (dcell2 n 1).setIfInBounds 0 (.int .u8 (48 + (M : Int) % 10)) = dcell2 n (1 + 1) from by rw [show (48 + (M : Int) % 10) = ((dg n 1 : Nat) : Int) from by rw [HG.out]; omega]; rfl] at h
          exact h
        case measure => simp [intOf]
end Go.Proofs.YtggebllkkiennaaDoor
