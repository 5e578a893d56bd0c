/-
  The walk of the reference's Divide.
-/
import Derived.Test.YtcjnabbggmbfgaaDoorDgO
namespace Go.Proofs.YtcjnabbggmbfgaaDoor
open Go.RowKit

theorem Dg.clsTo_yes {l : List Nat} {k : Nat} (h : 0 < l.count (k + 1)) : Dg.clsTo l (k + 1) = Dg.clsTo l k ++ [k + 1] := if_pos h
theorem Dg.clsTo_no {l : List Nat} {k : Nat} (h : ¬ 0 < l.count (k + 1)) : Dg.clsTo l (k + 1) = Dg.clsTo l k := if_neg h
theorem hasB_false (l : List Nat) (c : Nat) : hasB l c false = decide (0 < l.count c) := by
  unfold hasB
  by_cases h : 0 < l.count c
  · simp [h]
  · simp [h]; omega
set_option maxHeartbeats 1000000 in
theorem rdivide_err (A : Option Addr) (n c : Nat) (l : List Nat) (w : World) (hs : Sl w w.heap.size 1 A n (u8s l)) (he : Dg.err l ≠ 0) :
    Calls Tryd.prog 27 #[.slice A n c] w (DivRet w [] (Dg.err l)) := by
  have hne : (Dg.err l != 0) = true := by simpa using he
  have HC := Lib.hid (wrong_any A n c l w hs)
  generalize Dg.err l = er at *
  go_enter Tryd.func27, Tryd.ntmps27
  go_wp2_with (go_at_call 30; refine HC.out.mono ?_; rintro e w1 ⟨rfl, rfl⟩)
  go_ret2
  exact ⟨_, rfl, ⟨[], World.ownsRow_nil _ _ _ _, rfl, fun i hi => by simp at hi⟩, Below.refl _ _⟩
set_option maxRecDepth 100000 in
set_option maxHeartbeats 4000000 in
theorem rdivide_ok (A : Option Addr) (n c : Nat) (l : List Nat) (w : World) (hs : Sl w w.heap.size 1 A n (u8s l)) (he : Dg.err l = 0) :
    Calls Tryd.prog 27 #[.slice A n c] w (DivRet w (Dg.rdivC (Dg.clsTo l 9)) 0) := by
  have hC := wrong_any A n c l w hs
  rw [he] at hC
  have HC := Lib.hid hC; clear hC
  have hn : n ≤ 1000 := by have := (Dg.err_ok he).1; have := hs.len; rw [u8s_len] at this; omega
  clear he
  have hH := fun (W : World) (hb : Below w.heap.size w W) (cl : Nat) => has_any A n c l cl false W hn ((hs.below hb).more hb.size)
  have HH := Lib.hid hH; clear hH
  have q3 := nenil_some; have q4 := nenil_none
  go_enter Tryd.func27, Tryd.ntmps27
  go_wp2_with (go_at_call 30; refine HC.out.mono ?_; rintro e w1 ⟨rfl, rfl⟩)
  clear HC
  go_loopw [5, 6] (fun v q wr => ∃ (k : Nat), k ≤ 9 ∧ q = .int .u8 (k + 1 : Nat) ∧ wr.ownsRow w.heap.size 5 1 v (Dg.clsTo l k).length (u8s (Dg.clsTo l k)) ∧ Below w.heap.size w wr) (fun _ q _ => 10 - (intOf q).toNat)
  case atStart => exact ⟨0, Nat.zero_le _, rfl, World.ownsRow_nil _ _ _ _, Below.refl _ _⟩
  case round =>
    obtain ⟨k, hk, rfl, hown, hbr⟩ := hrel
    by_cases hlt : k < 9
    · have hd : decide (((k + 1 : Nat) : Int) ≤ 9) = true := by simp; omega
      have hH := HH.out wr hbr (k + 1)
      rw [hasB_false] at hH
      have hB := hbr.size
      have hcl := Dg.clsTo_len l k
      by_cases hct : 0 < l.count (k + 1)
      · rw [decide_eq_true hct] at hH
        have H1 := Lib.hid hH; clear hH
        have HS := Lib.hid (Dg.clsTo_yes hct); clear hct
        generalize Dg.clsTo l k = cs at *
        go_wp2_with (first
          | (go_at_call 31; refine H1.out.mono ?_; rintro e w1 ⟨rfl, rfl⟩)
          | (at_builtin; (refine wpList_append1 el_u8 rfl (.tmp 21) (.tmp 23) rfl w.heap.size _ cs.length (u8s cs) rfl hown #[.int .u8 (k + 1 : Nat)] _ rfl rfl rfl (by unfold maxLen; omega) (by omega) hB ?_)))
        intro v2 w2 ho2 hg2 hd2 hb2
        have HO := Lib.hid (show w2.ownsRow w.heap.size 5 1 v2 (Dg.clsTo l (k + 1)).length (u8s (Dg.clsTo l (k + 1))) by
          rw [HS.out]; simpa [u8s] using ho2)
        clear ho2 HS
        go_wp2_with fail
        go_roundw
        case rel => exact ⟨k + 1, by omega, by go_num, HO.out, hbr.trans hb2⟩
        case measure => simp [intOf] <;> omega
      · rw [decide_eq_false hct] at hH
        have H1 := Lib.hid hH; clear hH
        have HS := Lib.hid (Dg.clsTo_no hct); clear hct
        go_wp2_with (go_at_call 31; refine H1.out.mono ?_; rintro e w1 ⟨rfl, rfl⟩)
        go_roundw
        case rel => exact ⟨k + 1, by omega, by go_num, by rw [HS.out]; exact hown, hbr⟩
        case measure => simp [intOf] <;> omega
    · obtain rfl : k = 9 := by omega
      rw [show ((9 + 1 : Nat) : Int) = 10 from rfl]
      have hcl := Dg.clsTo_lt l 9 (by omega)
      have hcn := Dg.clsTo_len l 9
      generalize Dg.clsTo l 9 = cs at *
      obtain ⟨Ac, cc, rfl, hcc1, hcc2, hSc⟩ := own_sl hown
      have HCL := Lib.hid hcl; clear hcl
      clear hown HH
      have HSC := Lib.hid hSc; clear hSc
      obtain ⟨wo, rfl⟩ : ∃ wo : World, wo = wr := ⟨_, rfl⟩
      go_wp2_with fail
      go_loopw [7] (fun q wq => ∃ (m : Nat), m ≤ cs.length ∧ q = .int .i64 (m + 1 : Nat) ∧ Below wo.heap.size wo wq ∧ Hid ((List.range m).findSome? (fun m => Dg.bestF cs (m + 1) cs.length [] 0) = none)) (fun q _ => 12 - (intOf q).toNat)
      case atStart => exact ⟨0, Nat.zero_le _, rfl, Below.refl _ _, Lib.hid rfl⟩
      case round =>
        obtain ⟨m, hm, rfl, hbq, HN⟩ := hrel
        by_cases hlt2 : m < cs.length
        · obtain ⟨b, off, rfl, hb0, _⟩ := HSC.out.mem (by omega)
          have hcall := best_any b off cs.length cc (m + 1) cs (by omega) hcc1 (by omega) rfl (fun x hx => (HCL.out x hx).2) cs.length [] 0 0 none 0 wr rfl (by omega) (by simp) (by omega) ((HSC.out.below hbq).more hbq.size) (Sl.nil rfl rfl)
          rw [show ((0 : Nat) : Int) = 0 from rfl] at hcall
          have HM := Lib.hid (show Dg.bestF cs (m + 1) cs.length [] 0 = none → (List.range (m + 1)).findSome? (fun m => Dg.bestF cs (m + 1) cs.length [] 0) = none from fun h => Dg.findSome_miss HN.out h)
          have HI := Lib.hid (show ∀ R, Dg.bestF cs (m + 1) cs.length [] 0 = some R → Dg.rdivC cs = R from fun R h => by
            unfold Dg.rdivC
            rw [Dg.findSome_hit (K := cs.length) hlt2 HN.out h]; rfl)
          generalize hr : Dg.bestF cs (m + 1) cs.length [] 0 = r at *
          have HRR := Lib.hid hr; clear hr
          have HCA := Lib.hid hcall; clear hcall
          have hd2 : decide (m + 1 ≤ cs.length) = true := by simp; omega
          go_wp2_with fail
          refine HCA.out.mono ?_
          rintro e w4 ⟨v4, rfl, hv4, hb4⟩
          clear HCA
          cases r with
          | none =>
            simp only at hv4
            subst hv4
            have HM2 := Lib.hid (HM.out rfl); clear HM HI
            go_wp2_with fail
            go_roundw
            case rel => exact ⟨m + 1, by omega, by go_num, hbq.trans (hb4.mono hbq.size), HM2⟩
            case measure => simp [intOf] <;> omega
          | some R =>
            obtain ⟨⟨g', rfl⟩, hgr⟩ := hv4
            have HGR := Lib.hid hgr; clear hgr
            go_wp2_with fail
            go_ret2
            exact ⟨_, rfl, by rw [HI.out R rfl]; exact HGR.out.mono (Nat.le_trans hbr.size hbq.size), hbr.trans ((hbq.trans (hb4.mono hbq.size)).mono hbr.size)⟩
        · obtain rfl : m = cs.length := by omega
          have HI := Lib.hid (show Dg.rdivC cs = [] by unfold Dg.rdivC; rw [HN.out]; rfl)
          go_wp2_with fail
          go_ret2
          refine ⟨_, rfl, ?_, hbr.trans (hbq.mono hbr.size)⟩
          rw [HI.out]
          exact ⟨[], World.ownsRow_nil _ _ _ _, rfl, fun i hi => by simp at hi⟩
end Go.Proofs.YtcjnabbggmbfgaaDoor
