/-
  The walk of the statements' lists, part 2.
-/
import Derived.Test.YtcjnabbggmbfgaaDoorDgR
namespace Go.Proofs.YtcjnabbggmbfgaaDoor
open Go.RowKit

theorem sl2_later {w W : World} {A : Option Addr} {n : Nat} {L : List (List Nat)} (h : Sl2 w w.heap.size A n L) (hb : Below w.heap.size w W) : Sl2 W W.heap.size A n L := (h.below hb).more hb.size
theorem sl_later {w W : World} {A : Option Addr} {n k : Nat} {xs : List Value} (h : Sl w w.heap.size k A n xs) (hb : Below w.heap.size w W) : Sl W W.heap.size k A n xs := (h.below hb).more hb.size
theorem same_yes (A1 A2 : Option Addr) (n c1 c2 : Nat) (L : List (List Nat)) (w : World) (h1 : Sl2 w w.heap.size A1 n L) (h2 : Sl2 w w.heap.size A2 n L) (hn : n ≤ 1000000) (hb : ∀ g ∈ L, ∀ x ∈ g, x < 256) :
    Calls Tryd.prog 20 #[.slice A1 n c1, .slice A2 n c2] w (TrueRet w) :=
  (same_any A1 A2 n n c1 c2 L L w h1 h2 hn hb hb).mono fun _ _ ⟨h1, h2⟩ => ⟨by rw [h1]; simp, below_drewN' (Below.refl _ _) h2⟩
set_option maxRecDepth 100000 in
set_option maxHeartbeats 4000000 in
theorem lists_any (cls : Nat) (A : Option Addr) (n c : Nat) (l : List Nat) (w : World) (hn : n ≤ 100000) (hl : ∀ x ∈ l, x < 256) (ht : TabOK w) (hs : Sl w w.heap.size 1 A n (u8s l)) :
    Calls Tryd.prog 17 #[.int .u8 cls, .slice A n c] w (TrueRet w) := by
  have HT := Lib.hid ht; clear ht
  have HS := Lib.hid hs; clear hs
  have HLT := Lib.hid hl; clear hl
  have HO := Lib.hid (own_empty w w.heap.size 5 1 (Nat.le_refl _))
  have HSA := Lib.hid (HS.out.below ((Below.refl _ w).alloc (Nat.le_refl _) (.cells #[] 5)))
  have H1 := Lib.hid (u8s_one l)
  have C1 := Lib.hid (fun (W : World) (h1 : TabOK W) (A1 : Option Addr) (c1 : Nat) (h2 : Sl W W.heap.size 1 A1 n (u8s l)) => strictest_p cls A1 n c1 l W h1 h2)
  have C2 := Lib.hid (fun (W : World) (h2 : Sl W W.heap.size 1 A n (u8s l)) => rstrictest_p cls A n c l W h2)
  have C3 := Lib.hid (fun (W : World) (h1 : TabOK W) (A1 : Option Addr) (c1 : Nat) (h2 : Sl W W.heap.size 1 A1 n (u8s l)) => divide_p A1 n c1 l W h1 h2)
  have C4 := Lib.hid (fun (W : World) (h2 : Sl W W.heap.size 1 A n (u8s l)) => rdivide_p A n c l W h2)
  have HG := Lib.hid (Dg.divP_good l)
  have HGL := Lib.hid (Dg.divP_lt l)
  generalize (Dg.strP cls l).1 = sx at *
  generalize (Dg.strP cls l).2 = sy at *
  generalize Dg.divP l = R at *
  generalize Dg.err l = er at *
  go_enter Tryd.func17, Tryd.ntmps17
  go_wp2_with (at_builtin; (refine wpList_append_sl el_u8 rfl (.tmp 18) (.tmp 19) rfl w.heap.size (.slice (some ⟨w.heap.size, 0, none⟩) 0 0) 0 [] rfl HO.out w.heap.size A n c (u8s l) rfl HSA.out H1.out (by unfold maxLen; omega) (by omega) (by simp) ?_; intro v1 w1 ho1 hg1 hd1 hb1'; simp only [List.nil_append, Nat.zero_add] at ho1))
  have hb1 : Below w.heap.size w w1 := ((Below.refl _ w).alloc (Nat.le_refl _) _).trans hb1'
  obtain ⟨A1, c1, rfl, _, _, hs1⟩ := own_sl ho1
  have HS1 := Lib.hid hs1
  clear ho1 hg1 hd1 hb1' hs1 HSA HO H1
  have HT1 := Lib.hid (HT.out.below hb1 HT.out.lt)
  have HSw := Lib.hid (sl_later HS.out hb1)
  clear HT
  go_wp2_with fail
  refine (C1.out w1 HT1.out A1 c1 HS1.out).mono ?_
  rintro e w2 ⟨rfl, hb2⟩
  go_wp2_with fail
  refine (C2.out w2 (sl_later HSw.out hb2)).mono ?_
  rintro e w3 ⟨rfl, hb3'⟩
  have hb3 : Below w1.heap.size w1 w3 := hb2.trans (hb3'.mono hb2.size)
  clear hb2 hb3' C1 C2
  have HT3 := Lib.hid (HT1.out.below hb3 HT1.out.lt)
  go_wp2_with fail
  refine (C3.out w3 HT3.out A1 c1 (sl_later HS1.out hb3)).mono ?_
  rintro e w4 ⟨v4, rfl, hv4, hb4⟩
  obtain ⟨A4, c4, rfl, hs4⟩ := groups_sl2 hv4.groups
  have HS4 := Lib.hid hs4; clear hs4 hv4
  have hb14 := hb3.trans (hb4.mono hb3.size)
  go_wp2_with fail
  refine (C4.out w4 (sl_later HSw.out hb14)).mono ?_
  rintro e w5 ⟨v5, rfl, hv5, hb5⟩
  obtain ⟨A5, c5, rfl, hs5⟩ := groups_sl2 hv5
  have HS5 := Lib.hid hs5; clear hs5 hv5
  have hb15 := hb14.trans (hb5.mono hb14.size)
  have hRl := HG.out.1
  go_wp2_with fail
  refine (same_yes A4 A5 R.length c4 c5 R w5 (sl2_later HS4.out hb5) HS5.out (by omega) HGL.out).mono ?_
  rintro e w6 ⟨rfl, hb6⟩
  have hb16 := hb15.trans (hb6.mono hb15.size)
  have HT6 := Lib.hid (HT1.out.below hb16 HT1.out.lt)
  go_wp2_with fail
  refine (lclashes_any A1 n c1 l w6 HT6.out (sl_later HS1.out hb16)).mono ?_
  rintro e w7 ⟨rfl, hb7⟩
  have hb17 := hb16.trans (hb7.mono hb16.size)
  have HT7 := Lib.hid (HT1.out.below hb17 HT1.out.lt)
  have cv1 := conv_u8 (c := c1) Tryd.underlying22 Tryd.underlying5 Tryd.underlying9 (sl_later HS1.out hb17)
  have cv2 := conv_u8 (c := c) Tryd.underlying22 Tryd.underlying5 Tryd.underlying9 (sl_later HSw.out hb17)
  go_wp2_with fail
  clear cv1 cv2
  refine (C3.out w7 HT7.out A1 c1 (sl_later HS1.out hb17)).mono ?_
  rintro e w8 ⟨v8, rfl, hv8, hb8⟩
  obtain ⟨A8, c8, rfl, hAI⟩ := AI.start hv8 hb8
  clear hv8 C3 C4 HT1 HT3 HT6 HT7
  go_wp2_with fail
  go_loopw [81] (fun q wr => ∃ i : Nat, i ≤ R.length ∧ q = .int .i64 i ∧ AI w7 wr w7.heap.size A8 R i) (fun q _ => R.length - (intOf q).toNat)
  case atStart => exact ⟨0, Nat.zero_le _, rfl, hAI⟩
  case round =>
    clear hAI hb8
    obtain ⟨i, hi, rfl, hAI⟩ := hrel
    by_cases hlt : i < R.length
    · obtain ⟨g, cur, rfl, hI⟩ := hAI.2.2 hlt
      have hlen := HG.out.2 i hlt
      obtain ⟨gi, ci, hrow, hI1, hap, hcell⟩ := hI.row hlt hlen.1
      have HAP := Lib.hid hap; clear hap hI hAI
      have hlt' : (i : Int) < (R.length : Int) := by omega
      generalize hRi : (R.getD i []).length = len at *
      clear hRi
      generalize hRL : R.length = RL at hi hlt hlt' hRl ⊢
      have HRL := Lib.hid hRL; clear hRL
      obtain ⟨wo, rfl⟩ : ∃ wo : World, wo = wr := ⟨_, rfl⟩
      go_wp2_with fail
      go_loopw [89] (fun q wr => ∃ k : Nat, k ≤ len ∧ q = .int .i64 k ∧ AInv w7 wr w7.heap.size g cur R (i + 1) ∧ ARow wr w7.heap.size (cur.getD i undef) gi ci len) (fun q _ => len - (intOf q).toNat)
      case atStart => exact ⟨0, Nat.zero_le _, rfl, hI1, hrow⟩
      case round =>
        clear hI1 hrow hcell
        obtain ⟨k, hk, rfl, hI, hrow⟩ := hrel
        obtain ⟨hev, ⟨xs, hown⟩, hlo⟩ := id hrow
        have hisz : i < cur.size := by have := hI.sz; have := HRL.out; omega
        have hci : cur[i]? = some (.slice (some ⟨gi, 0, none⟩) len ci) := by rw [← hev]; simp [hisz]
        have hcell := (hI.kg.cell i).trans hci
        have hgw := hI.kg.lt
        have HI := Lib.hid hI; clear hI
        by_cases hkl : k < len
        · obtain ⟨⟨u, hu⟩, hf⟩ := hrow.cell hkl
          have HST := Lib.hid (HI.out.store hrow HAP.out k (.int .u8 99))
          have HR := Lib.hid hrow
          clear hrow hown hci hev
          go_wp2_with fail
          go_roundw
          case rel => exact ⟨k + 1, by omega, by go_num, HST.out.1, HST.out.2⟩
          case measure => simp [intOf] <;> omega
        · obtain rfl : k = len := by omega
          rw [hev] at hown
          have HCI := Lib.hid hci; have HEV := Lib.hid hev; have HR := Lib.hid hrow; clear hci hev hrow
          have hlen9 := hlen.2
          have hbs := HI.out.bs
          go_wp2_with (at_builtin; (refine wpList_append1 el_u8 rfl (.tmp 104) (.tmp 105) rfl w7.heap.size (.slice (some ⟨gi, 0, none⟩) k ci) k xs rfl hown #[.int .u8 98] _ rfl rfl rfl (by unfold maxLen; omega) (by omega) hbs ?_; intro v' w3 ho3 hg3 hd3 hb3; have nx := HI.out.next (v := v') HR.out HAP.out hg3 hb3; have c3 := (nx.1.cell i).trans HCI.out; have f3 := nx.1.frozen i; obtain ⟨A', c', rfl, _, _, _⟩ := own_sl ho3; have NX := Lib.hid nx.2; have hz3 : g < w3.heap.size := nx.1.lt; clear ho3 hg3 hd3 hb3 nx))
          go_roundw
          case rel => exact ⟨i + 1, by omega, by go_num, NX.out.be, NX.out.bs, fun _ => ⟨g, _, rfl, NX.out⟩⟩
          case measure => simp [intOf] <;> omega
    · obtain rfl : i = R.length := by omega
      have hbF := hAI.1
      have hb1F := hb17.trans (hbF.mono hb17.size)
      have cv1 := conv_u8 (c := c1) Tryd.underlying22 Tryd.underlying5 Tryd.underlying9 (sl_later HS1.out hb1F)
      have cv2 := conv_u8 (c := c) Tryd.underlying22 Tryd.underlying5 Tryd.underlying9 (sl_later HSw.out hb1F)
      have hb67 := hb6.trans (hb7.mono hb6.size)
      have hb5F := hb67.trans (hbF.mono hb67.size)
      have hb4F := hb5.trans (hb5F.mono hb5.size)
      clear cv1 cv2
      go_wp2_with fail
      refine (same_yes A4 A5 R.length c4 c5 R wr (sl2_later HS4.out hb4F) (sl2_later HS5.out hb5F) (by omega) HGL.out).mono ?_
      rintro e wz ⟨rfl, hbz⟩
      have hb1z := hb1F.trans (hbz.mono hb1F.size)
      have cv1 := conv_u8 (c := c1) Tryd.underlying22 Tryd.underlying5 Tryd.underlying9 (sl_later HS1.out hb1z)
      have cv2 := conv_u8 (c := c) Tryd.underlying22 Tryd.underlying5 Tryd.underlying9 (sl_later HSw.out hb1z)
      go_wp2_with fail
      go_ret
      exact ⟨rfl, hb1.trans (hb1z.mono hb1.size)⟩
end Go.Proofs.YtcjnabbggmbfgaaDoor
