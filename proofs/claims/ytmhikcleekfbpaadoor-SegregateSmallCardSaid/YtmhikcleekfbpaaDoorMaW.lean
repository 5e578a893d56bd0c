/-
  The walk of twistlocklaw14.many.
-/
import Derived.Test.YtmhikcleekfbpaaDoorMaC
import Derived.Test.YtmhikcleekfbpaaDoorSgL
namespace Go.Proofs.YtmhikcleekfbpaaDoor
open Go.RowKit

set_option maxRecDepth 100000 in
set_option maxHeartbeats 8000000 in
theorem many_any (w : World) (ht : TabOK w) (hn : NamesOK w) : Calls Tryd.prog 8 #[] w (TrueRet w) := by
  have H0 := Lib.hid (MA.start w)
  have HT := Lib.hid ht
  have HN := Lib.hid hn
  clear ht hn
  unfold shpA shp0 hd0 at H0
  simp only [List.length_nil] at H0
  go_enter Tryd.func8, Tryd.ntmps8
  go_upto_region 4 with fail
  generalize w.heap.size = g at *
  generalize (w.alloc _) = W at *
  have H1 : Hid (MA w W g (clM 0) none 0 (.slice none 0 0) (bxM f0M (10 * 0)) (.slice none 0 0) (stM (10 * 0))) := Lib.hid H0.out
  clear H0
  go_wp2_with fail
  go_loopw [2, 3, 4] (fun vb vl i wr => ∃ (k : Nat) (A1 : Option Addr) (c1 : Nat), k ≤ 21 ∧ i = .int .i64 k ∧ Hid (MA w wr g (clM k) A1 c1 vb (bxM f0M (10 * k)) vl (stM (10 * k)))) (fun _ _ i _ => 21 - (intOf i).toNat)
  case atStart => exact ⟨0, none, 0, Nat.zero_le _, rfl, H1⟩
  case round =>
    clear H1
    obtain ⟨k, A1, c1, hk, rfl, HM⟩ := hrel
    obtain ⟨V, rfl⟩ : ∃ V, V = wr := ⟨_, rfl⟩
    by_cases hlt : k < 21
    · have hki : (k : Int) < 21 := by omega
      have e0 : V.cell? ⟨g, 0, none⟩ = some (.slice A1 (clM k).length c1) := HM.out.ks.cell 0
      rw [clM_len] at e0
      have hgz := HM.out.ks.lt
      have hown := HM.out.own.below (ba1 V (.cells #[.int .i64 (k : Int), .int .i64 0, .bool false, .int .i64 10, .int .i64 0, .int .i64 0, .int .i64 0, .int .i64 0, .slice none 0 0, .int .i64 0, .int .i64 0, .int .i64 0] 35))
      rw [clM_len] at hown
      go_step
      go_step
      go_wp2_with (at_builtin; (refine wpList_append_R el_colN rfl (.tmp 18) (.tmp 21) rfl (g + 1) (Lt (g + 1)) _ (clM k) rfl hown (some ⟨V.heap.size, 0, none⟩) 1 _ [colM k] rfl rfl (Src.blk (Bk.new V 35 #[.int .i64 (k : Int), .int .i64 0, .bool false, .int .i64 10, .int .i64 0, .int .i64 0, .int .i64 0, .int .i64 0, .slice none 0 0, .int .i64 0, .int .i64 0, .int .i64 0]) (Flat.single (rd_colN (colM k) rfl _ rfl)) rfl) ?c1 ?c2 ?c3 ?_))
      case c1 => rw [clM_len]; unfold maxLen; omega
      case c2 => rw [clM_len]; omega
      case c3 => simp; omega
      intro v' w3 ho3 hg3 hb3
      rw [← clM_succ] at ho3
      obtain ⟨A3, c3, hv, hc31, hc32, _⟩ := ho3.sl'
      rw [clM_len] at hv hc31
      subst hv
      obtain ⟨cv, fv⟩ := HM.out.cellC (v := .slice A1 k c1) _ (by rw [clM_len]; exact hg3) (by rw [clM_len])
      have hp := HM.out.pushC (A3 := A3) (c3 := c3) (m := [colM k]) _ (by rw [← clM_succ, clM_len]; exact ho3) (by rw [← clM_succ, clM_len]; exact ⟨hc31, hc32⟩) (by simp [colM]) (by rw [clM_len]; exact hg3) hb3
      rw [← clM_succ, clM_len] at hp
      have HN1 := Lib.hid hp
      clear hp
      clear hown ho3 hg3 hb3 hc31 hc32 HM e0 hgz
      go_upto_region 8 with fail
      clear cv fv
      generalize (w3.setCell _ _) = W1 at *
      try clear w3
      try clear V
      go_wp2_with fail
      go_loopw [2, 3, 5] (fun vb vl i wr => ∃ t : Nat, t ≤ 10 ∧ i = .int .i64 t ∧ Hid (MA w wr g (clM (k + 1)) A3 c3 vb (bxM f0M (10 * k + t)) vl (stM (10 * k + t)))) (fun _ _ i _ => 10 - (intOf i).toNat)
      case atStart => exact ⟨0, Nat.zero_le _, rfl, HN1⟩
      case round =>
        clear HN1
        obtain ⟨t, ht, rfl, HM⟩ := hrel
        obtain ⟨V, rfl⟩ : ∃ V, V = wr := ⟨_, rfl⟩
        by_cases h10 : t < 10
        · have hti : (t : Int) < 10 := by omega
          obtain ⟨N, hN⟩ : ∃ N, N = 10 * k + t := ⟨_, rfl⟩
          rw [← hN] at HM
          obtain ⟨Ab, cb, hv, hcb, _, _⟩ := HM.out.bx.sl'
          rw [bxM_len] at hv hcb
          subst hv
          obtain ⟨c9, e9, hc9⟩ : ∃ c : Nat, ((k : Int) + (t : Int)) % 9 = (c : Int) ∧ c < 9 := ⟨(k + t) % 9, by omega, by omega⟩
          have HF0 : Hid (f0M N = 1 + c9) := Lib.hid (by unfold f0M; omega)
          have HS0 : Hid (stwL (swM N) = [.int .i64 ((N : Int) + 1), .int .i64 (k : Int), .int .i64 (t : Int), .int .u8 0]) := Lib.hid (by
            unfold stwL swM slM
            simp only
            rw [show (N : Int) / 10 = (k : Int) by omega, show (N : Int) % 10 = (t : Int) by omega]
            rfl)
          have HB0 : Hid (bxL (bxi f0M N) = [.int .i64 ((N : Int) + 1), .string ⟨#[]⟩, .int .u8 40, .bool false, .int .i64 0, .int .i64 0, .int .i64 0, .int .u8 (1 + (c9 : Int)), .bool false]) := Lib.hid (by
            unfold bxL bxi
            simp only
            rw [HF0.out, show ((1 + c9 : Nat) : Int) = 1 + (c9 : Int) by omega]
            rfl)
          have HEN : Hid (10 * k + (t + 1) = N + 1) := Lib.hid (by omega)
          have hN2 : N < 210 := by omega
          have hgz := HM.out.ks.lt
          have hown := HM.out.bx.below (ba1 V (.cells #[.int .i64 ((N : Int) + 1), .string ⟨#[]⟩, .int .u8 40, .bool false, .int .i64 0, .int .i64 0, .int .i64 0, .int .u8 (1 + (c9 : Int)), .bool false] 41))
          clear hN hcb
          go_step
          go_step
          go_wp2_with (at_builtin; (refine wpList_append_R el_bxM rfl (.tmp 28) (.tmp 39) rfl (g + 1) (Lt (g + 1)) _ (bxM f0M N) rfl hown (some ⟨V.heap.size, 0, none⟩) 1 _ [bxi f0M N] rfl rfl (Src.blk (Bk.new V 41 #[.int .i64 ((N : Int) + 1), .string ⟨#[]⟩, .int .u8 40, .bool false, .int .i64 0, .int .i64 0, .int .i64 0, .int .u8 (1 + (c9 : Int)), .bool false]) (Flat.single HB0.out.symm) rfl) ?c1 ?c2 ?c3 ?_))
          case c1 => rw [bxM_len]; unfold maxLen; omega
          case c2 => rw [bxM_len]; omega
          case c3 => simp; omega
          intro v' w3 ho3 hg3 hb3
          have HM2 := Lib.hid (HM.out.pushB _ ho3 hg3 hb3)
          rw [← bxM_succ] at HM2 ho3
          obtain ⟨Ab2, cb2, hv, _, _, _⟩ := ho3.sl'
          rw [bxM_len] at hv
          subst hv
          clear hown ho3 hg3 hb3 HM hgz e9 HF0 HB0
          try clear V
          go_wp2_with fail
          refine (at14 _ _ _ _ _).mono ?_
          rintro e V4 ⟨rfl, hb4⟩
          simp only
          have HM3 := Lib.hid (HM2.out.on hb4)
          clear HM2 hb4
          try clear w3
          have hgz := HM3.out.ks.lt
          have hown := HM3.out.sx.below (ba1 V4 (.cells #[.int .i64 ((N : Int) + 1), .int .i64 (k : Int), .int .i64 (t : Int), .int .u8 0] 44))
          go_wp2_with (at_builtin; (refine wpList_append_R el_stwM rfl (.tmp 41) (.tmp 47) rfl (g + 1) (Lt (g + 1)) _ (stM N) rfl hown (some ⟨V4.heap.size, 0, none⟩) 1 _ [swM N] rfl rfl (Src.blk (Bk.new V4 44 #[.int .i64 ((N : Int) + 1), .int .i64 (k : Int), .int .i64 (t : Int), .int .u8 0]) (Flat.single HS0.out.symm) rfl) ?c1 ?c2 ?c3 ?_))
          case c1 => rw [stM_len]; unfold maxLen; omega
          case c2 => rw [stM_len]; omega
          case c3 => simp; omega
          intro v' w5 ho5 hg5 hb5
          have HM4 := Lib.hid (HM3.out.pushS _ ho5 hg5 hb5)
          rw [← stM_succ] at HM4
          have HM5 : Hid (MA w w5 g (clM (k + 1)) A3 c3 (.slice Ab2 (N + 1) cb2) (bxM f0M (10 * k + (t + 1))) v' (stM (10 * k + (t + 1)))) := Lib.hid (by rw [HEN.out]; exact HM4.out)
          clear HM4
          clear hown ho5 hg5 hb5 HM3 hgz HS0
          try clear V4
          go_wp2
          go_roundw
          case rel => first | exact ⟨t + 1, by omega, by go_num, HM5⟩ | ((repeat apply Exists.intro); (first | exact ⟨⟨t + 1, by omega, by go_num, HM5⟩, rfl⟩ | exact ⟨(show t + 1 ≤ 10 from h10), by go_num, HM5⟩))
          case measure => simp [intOf]; omega
        · obtain rfl : t = 10 := by omega
          have HM9 : Hid (MA w V g (clM (k + 1)) A3 c3 _ (bxM f0M (10 * (k + 1))) _ (stM (10 * (k + 1)))) := Lib.hid HM.out
          clear HM
          go_wp2_with fail
          go_roundw
          case rel => first | exact ⟨k + 1, A3, c3, by omega, by go_num, HM9⟩ | ((repeat apply Exists.intro); (first | exact ⟨⟨k + 1, A3, c3, by omega, by go_num, HM9⟩, rfl⟩ | exact ⟨(show k + 1 ≤ 21 from hlt), by go_num, HM9⟩))
          case measure => simp [intOf]; omega
    · obtain rfl : k = 21 := by omega
      obtain ⟨b, q, rfl, hbg, hqb, _⟩ := HM.out.bx.formG (by rw [bxM_len]; decide)
      obtain ⟨b2, q2, rfl, hbg2, hqs, _⟩ := HM.out.sx.formG (by rw [stM_len]; decide)
      rw [bxM_len, stM_len] at *
      have HQ : Hid (210 ≤ q2) := Lib.hid hqs
      have H2 : Hid (MA w V g (clM 21) A1 c1 (.slice (some ⟨b, 0, none⟩) 210 q) (bxM f0M 210) (.slice (some ⟨b2, 0, none⟩) 210 q2) (stM 210)) := Lib.hid HM.out
      clear HM hbg hqb hbg2 hqs
      go_wp2_with fail
      go_loopw [6] (fun i wr => ∃ (n : Nat) (f : Nat → Nat), 198 ≤ n ∧ n ≤ 203 ∧ i = .int .i64 n ∧ Hid (OkM f) ∧ Hid (MA w wr g (clM 21) A1 c1 (.slice (some ⟨b, 0, none⟩) 210 q) (bxM f 210) (.slice (some ⟨b2, 0, none⟩) 210 q2) (stM 210))) (fun i _ => 203 - (intOf i).toNat)
      case atStart => exact ⟨198, f0M, by omega, by omega, rfl, Lib.hid ok_f0, H2⟩
      case round =>
        clear H2
        try clear V
        obtain ⟨n, f, h1, h2, rfl, HF, HM⟩ := hrel
        obtain ⟨V0, rfl⟩ : ∃ V, V = wr := ⟨_, rfl⟩
        by_cases hlt : n < 203
        · have hlti : (n : Int) < 203 := by omega
          have hn210 : n ≤ 210 := by omega
          have hnc : (n : Int) ≤ (q2 : Int) := by have := HQ.out; omega
          have hn0 : (0 : Int) ≤ (n : Int) := by omega
          obtain ⟨de, L1, oe, L2, ne, L3, HE1, HE2, HE3, HK1, HK2, HK3⟩ : ∃ (de : Nat) (L1 : List Cl) (oe : Nat) (L2 : List Int) (ne : Nat) (L3 : List Slt), Hid (de = if n ≤ 200 then 0 else 5) ∧ Hid (oe = if n ≤ 200 then 0 else 5) ∧ Hid (ne = if n ≤ 200 then 6 else 5) ∧
              Hid ((200 < n → L1 = []) ∧ ∀ U, MA w U g (clM 21) A1 c1 (.slice (some ⟨b, 0, none⟩) 210 q) (bxM f 210) (.slice (some ⟨b2, 0, none⟩) 210 q2) (stM 210) → Calls Tryd.prog 12 #[.agg #[.slice A1 21 c1, .slice none 0 0, .int .i64 0, .int .i64 0, .int .i64 0, .int .i64 0, .slice none 0 0, .slice none 0 0, .slice none 0 0, .int .i64 0, .int .i64 0, .int .i64 0, .int .i64 0], .slice (some ⟨b, 0, none⟩) 210 q, .slice (some ⟨b2, 0, none⟩) n q2] U (fun e w' => Below U.heap.size U w' ∧ ∃ A c, e = .returned (.tuple #[.slice A L1.length c, .int .i64 (de : Nat)]) ∧ L1.length ≤ c ∧ SlT tCl w' (Lt w'.heap.size) A L1)) ∧
              Hid ((200 < n → L2 = []) ∧ ∀ U, MA w U g (clM 21) A1 c1 (.slice (some ⟨b, 0, none⟩) 210 q) (bxM f 210) (.slice (some ⟨b2, 0, none⟩) 210 q2) (stM 210) → Calls Tryd.prog 15 #[.agg #[.slice A1 21 c1, .slice none 0 0, .int .i64 0, .int .i64 0, .int .i64 0, .int .i64 0, .slice none 0 0, .slice none 0 0, .slice none 0 0, .int .i64 0, .int .i64 0, .int .i64 0, .int .i64 0], .slice (some ⟨b, 0, none⟩) 210 q, .slice (some ⟨b2, 0, none⟩) n q2, .agg #[.int .i64 1, .int .i64 0, .int .i64 0, .int .u8 0]] U (fun e w' => Below U.heap.size U w' ∧ ∃ A c, e = .returned (.tuple #[.slice A L2.length c, .int .i64 (oe : Nat)]) ∧ L2.length ≤ c ∧ SlT tInt w' (Lt w'.heap.size) A L2)) ∧
              Hid ((200 < n → L3 = []) ∧ ∀ U, MA w U g (clM 21) A1 c1 (.slice (some ⟨b, 0, none⟩) 210 q) (bxM f 210) (.slice (some ⟨b2, 0, none⟩) 210 q2) (stM 210) → Calls Tryd.prog 17 #[.agg #[.slice A1 21 c1, .slice none 0 0, .int .i64 0, .int .i64 0, .int .i64 0, .int .i64 0, .slice none 0 0, .slice none 0 0, .slice none 0 0, .int .i64 0, .int .i64 0, .int .i64 0, .int .i64 0], .slice (some ⟨b, 0, none⟩) 210 q, .slice (some ⟨b2, 0, none⟩) n q2, .int .i64 999] U (fun e w' => Below U.heap.size U w' ∧ ∃ A c, e = .returned (.tuple #[.slice A L3.length c, .int .i64 (ne : Nat)]) ∧ L3.length ≤ c ∧ SlT tSlt w' (Lt w'.heap.size) A L3)) := by
            refine ⟨_, clX f n, _, agX f n, _, frX f n, Lib.hid (derr_ok HF.out hn210), Lib.hid (oerr_one HF.out hn210), Lib.hid (oerr_none HF.out hn210), Lib.hid (And.intro (fun h => ?_) fun U hU => hU.kCl HT.out HN.out hn210), Lib.hid (And.intro (fun h => ?_) fun U hU => hU.kAg HT.out HN.out hn210), Lib.hid (And.intro (fun h => ?_) fun U hU => hU.kFr HT.out HN.out hn210)⟩
            · unfold clX; rw [derr_ok HF.out hn210, if_neg (by omega : ¬ n ≤ 200), if_neg (by decide)]
            · unfold agX; rw [oerr_one HF.out hn210, if_neg (by omega : ¬ n ≤ 200), if_neg (by decide)]
            · unfold frX; rw [oerr_none HF.out hn210, if_neg (by omega : ¬ n ≤ 200), if_neg (by decide)]
          obtain ⟨j, hj⟩ : ∃ j, n = j + 1 := ⟨n - 1, by omega⟩
          have HJ := Lib.hid hj
          clear hj
          go_step
          go_step
          go_upto_region 16 with fail
          have SK := HM.out.ksM
          have e0 : V0.cell? ⟨g, 0, none⟩ = some (.slice A1 21 c1) := SK.cell 0
          have e1 : V0.cell? ⟨g, 1, none⟩ = some (.slice none 0 0) := SK.cell 1
          have e2 : V0.cell? ⟨g, 2, none⟩ = some (.int .i64 0) := SK.cell 2
          have e3 : V0.cell? ⟨g, 3, none⟩ = some (.int .i64 0) := SK.cell 3
          have e4 : V0.cell? ⟨g, 4, none⟩ = some (.int .i64 0) := SK.cell 4
          have e5 : V0.cell? ⟨g, 5, none⟩ = some (.int .i64 0) := SK.cell 5
          have e6 : V0.cell? ⟨g, 6, none⟩ = some (.slice none 0 0) := SK.cell 6
          have e7 : V0.cell? ⟨g, 7, none⟩ = some (.slice none 0 0) := SK.cell 7
          have e8 : V0.cell? ⟨g, 8, none⟩ = some (.slice none 0 0) := SK.cell 8
          have e9 : V0.cell? ⟨g, 9, none⟩ = some (.int .i64 0) := SK.cell 9
          have e10 : V0.cell? ⟨g, 10, none⟩ = some (.int .i64 0) := SK.cell 10
          have e11 : V0.cell? ⟨g, 11, none⟩ = some (.int .i64 0) := SK.cell 11
          have e12 : V0.cell? ⟨g, 12, none⟩ = some (.int .i64 0) := SK.cell 12
          clear SK
          have K1 := Lib.hid (fun (V : World) (hV : Cb V0 V) => HK1.out.2 V (HM.out.on hV))
          refine wp_region_ogG [.val 0 (.agg #[.slice A1 21 c1, .slice none 0 0, .int .i64 0, .int .i64 0, .int .i64 0, .int .i64 0, .slice none 0 0, .slice none 0 0, .slice none 0 0, .int .i64 0, .int .i64 0, .int .i64 0, .int .i64 0]),
              .val 1 (.slice (some ⟨b, 0, none⟩) 210 q),
              .val 2 (.slice (some ⟨b2, 0, none⟩) 210 q2),
              .val 3 (.int .i64 (n : Nat)),
              .val 4 (.slice (some ⟨b2, 0, none⟩) n q2),
              .tpT tCl 5 L1 de,
              .tpT tCl 6 L1 de,
              .slT tCl 7 L1,
              .val 8 (.int .i64 ((de : Nat) : Int)),
              .slT tCl 9 L1,
              .val 10 (.int .i64 ((de : Nat) : Int))]
            [[], [], [], [], [2, 3], [0, 1, 4], [5], [6], [6], [7], [8]] [9, 10] (Cb V0) (by kernel_rfl) (by kernel_rfl) (Cb.drew V0) ⟨?_, ?_, ?_, ?_, ?_, ?_, ?_, ?_, ?_, ?_, ?_, trivial⟩ ?_
          case refine_1 =>
            refine StepG.of rfl ?_
            refine StepL.up fun x V hV hu K Q hK => ?_
            have fe0 := hV.cell e0
            have fe1 := hV.cell e1
            have fe2 := hV.cell e2
            have fe3 := hV.cell e3
            have fe4 := hV.cell e4
            have fe5 := hV.cell e5
            have fe6 := hV.cell e6
            have fe7 := hV.cell e7
            have fe8 := hV.cell e8
            have fe9 := hV.cell e9
            have fe10 := hV.cell e10
            have fe11 := hV.cell e11
            have fe12 := hV.cell e12
            clear hu
            rw [owp_eq]
            go_big_op
            exact hK _ _ (Below.refl _ _) rfl
          case refine_2 =>
            refine StepG.of rfl ?_
            refine StepL.up fun x V hV hu K Q hK => ?_
            clear hu
            simp only [putL, List.set_cons_zero, List.set_cons_succ] at hK ⊢
            rw [owp_eq]
            go_big_op
            exact hK _ _ (Below.refl _ _) rfl
          case refine_3 =>
            refine StepG.of rfl ?_
            refine StepL.up fun x V hV hu K Q hK => ?_
            clear hu
            simp only [putL, List.set_cons_zero, List.set_cons_succ] at hK ⊢
            rw [owp_eq]
            go_big_op
            exact hK _ _ (Below.refl _ _) rfl
          case refine_4 =>
            refine StepG.of rfl ?_
            refine StepL.up fun x V hV hu K Q hK => ?_
            clear hu
            simp only [putL, List.set_cons_zero, List.set_cons_succ] at hK ⊢
            rw [owp_eq]
            go_big_op
            exact hK _ _ (Below.refl _ _) rfl
          case refine_5 =>
            refine StepG.of rfl ?_
            refine StepL.up fun x V hV hu K Q hK => ?_
            have u2 : x 2 = _ := hu 2 (by decide)
            have u3 : x 3 = _ := hu 3 (by decide)
            clear hu
            simp only [putL, List.set_cons_zero, List.set_cons_succ] at hK ⊢
            rw [owp_eq]
            go_big_op
            exact hK _ _ (Below.refl _ _) rfl
          case refine_6 =>
            refine StepG.of rfl ?_
            refine StepL.up fun x V hV hu K Q hK => ?_
            have u0 : x 0 = _ := hu 0 (by decide)
            have u1 : x 1 = _ := hu 1 (by decide)
            have u4 : x 4 = _ := hu 4 (by decide)
            clear hu
            simp only [putL, List.set_cons_zero, List.set_cons_succ] at hK ⊢
            rw [owp_eq]
            go_big_op
            with_reducible refine (K1.out V hV).mono ?_
            rintro e V' ⟨hb, A, c, rfl, hc, hs⟩
            exact hK _ _ hb ⟨A, c, rfl, hc, hs⟩
          case refine_7 =>
            refine StepG.of rfl ?_
            refine StepL.up fun x V hV hu K Q hK => ?_
            obtain ⟨A, c, u5, hc, hs⟩ := hu 5 (by decide)
            clear hu
            simp only [putL, List.set_cons_zero, List.set_cons_succ] at hK ⊢
            rw [owp_eq]
            go_big_op
            exact hK _ _ (Below.refl _ _) ⟨A, c, by first | (rw [upd_same]; done) | (rw [upd_same]; rfl), hc, hs⟩
          case refine_8 =>
            refine StepG.of rfl ?_
            refine StepL.up fun x V hV hu K Q hK => ?_
            obtain ⟨A, c, u6, hc, hs⟩ := hu 6 (by decide)
            clear hu
            simp only [putL, List.set_cons_zero, List.set_cons_succ] at hK ⊢
            rw [owp_eq]
            go_big_op
            exact hK _ _ (Below.refl _ _) ⟨A, c, by first | (rw [upd_same]; done) | (rw [upd_same]; rfl), hc, hs⟩
          case refine_9 =>
            refine StepG.of rfl ?_
            refine StepL.up fun x V hV hu K Q hK => ?_
            obtain ⟨A, c, u6, hc, hs⟩ := hu 6 (by decide)
            clear hu
            simp only [putL, List.set_cons_zero, List.set_cons_succ] at hK ⊢
            rw [owp_eq]
            go_big_op
            exact hK _ _ (Below.refl _ _) (by first | rfl | (rw [upd_same]; done) | (rw [upd_same]; rfl))
          case refine_10 =>
            refine StepG.of rfl ?_
            refine StepL.up fun x V hV hu K Q hK => ?_
            obtain ⟨A, c, u7, hc, hs⟩ := hu 7 (by decide)
            clear hu
            simp only [putL, List.set_cons_zero, List.set_cons_succ] at hK ⊢
            rw [owp_eq]
            go_big_op
            exact hK _ _ (Below.refl _ _) ⟨A, c, by first | (rw [upd_same]; done) | (rw [upd_same]; rfl), hc, hs⟩
          case refine_11 =>
            refine StepG.of rfl ?_
            refine StepL.up fun x V hV hu K Q hK => ?_
            have u8 : x 8 = _ := hu 8 (by decide)
            clear hu
            simp only [putL, List.set_cons_zero, List.set_cons_succ] at hK ⊢
            rw [owp_eq]
            go_big_op
            exact hK _ _ (Below.refl _ _) rfl
          intro x Y hV hA
          obtain ⟨R1, r1, h9, hc9, hs9⟩ := hA 9 (by decide) (by decide)
          have h10 : x 10 = _ := hA 10 (by decide) (by decide)
          simp only [layL, putL, List.set_cons_zero, List.set_cons_succ, h9, h10]
          have hVY : Below V0.heap.size V0 Y := hV
          have HM1 := Lib.hid (HM.out.on hVY)
          clear hA h10 hV hVY HM K1 e0 e1 e2 e3 e4 e5 e6 e7 e8 e9 e10 e11 e12 h9 hc9 hs9
          try clear V0
          obtain ⟨V1, rfl⟩ : ∃ V, V = Y := ⟨_, rfl⟩
          go_upto_region 17 with fail
          have SK := HM1.out.ksM
          have e0 : V1.cell? ⟨g, 0, none⟩ = some (.slice A1 21 c1) := SK.cell 0
          have e1 : V1.cell? ⟨g, 1, none⟩ = some (.slice none 0 0) := SK.cell 1
          have e2 : V1.cell? ⟨g, 2, none⟩ = some (.int .i64 0) := SK.cell 2
          have e3 : V1.cell? ⟨g, 3, none⟩ = some (.int .i64 0) := SK.cell 3
          have e4 : V1.cell? ⟨g, 4, none⟩ = some (.int .i64 0) := SK.cell 4
          have e5 : V1.cell? ⟨g, 5, none⟩ = some (.int .i64 0) := SK.cell 5
          have e6 : V1.cell? ⟨g, 6, none⟩ = some (.slice none 0 0) := SK.cell 6
          have e7 : V1.cell? ⟨g, 7, none⟩ = some (.slice none 0 0) := SK.cell 7
          have e8 : V1.cell? ⟨g, 8, none⟩ = some (.slice none 0 0) := SK.cell 8
          have e9 : V1.cell? ⟨g, 9, none⟩ = some (.int .i64 0) := SK.cell 9
          have e10 : V1.cell? ⟨g, 10, none⟩ = some (.int .i64 0) := SK.cell 10
          have e11 : V1.cell? ⟨g, 11, none⟩ = some (.int .i64 0) := SK.cell 11
          have e12 : V1.cell? ⟨g, 12, none⟩ = some (.int .i64 0) := SK.cell 12
          clear SK
          obtain ⟨x0, x1, x2, x3⟩ := HM1.out.st0
          have K1 := Lib.hid (fun (V : World) (hV : Cb V1 V) => HK2.out.2 V (HM1.out.on hV))
          refine wp_region_ogG [.val 0 (.agg #[.slice A1 21 c1, .slice none 0 0, .int .i64 0, .int .i64 0, .int .i64 0, .int .i64 0, .slice none 0 0, .slice none 0 0, .slice none 0 0, .int .i64 0, .int .i64 0, .int .i64 0, .int .i64 0]),
              .val 1 (.slice (some ⟨b, 0, none⟩) 210 q),
              .val 2 (.slice (some ⟨b2, 0, none⟩) 210 q2),
              .val 3 (.int .i64 (n : Nat)),
              .val 4 (.slice (some ⟨b2, 0, none⟩) n q2),
              .val 5 (.slice (some ⟨b2, 0, none⟩) 210 q2),
              .val 6 (.pointer (some ⟨b2, 0, none⟩)),
              .val 7 (.agg #[.int .i64 1, .int .i64 0, .int .i64 0, .int .u8 0]),
              .tpT tInt 8 L2 oe,
              .tpT tInt 9 L2 oe,
              .slT tInt 10 L2,
              .val 11 (.int .i64 ((oe : Nat) : Int)),
              .slT tInt 12 L2,
              .val 13 (.int .i64 ((oe : Nat) : Int))]
            [[], [], [], [], [2, 3], [], [5], [6], [0, 1, 4, 7], [8], [9], [9], [10], [11]] [12, 13] (Cb V1) (by kernel_rfl) (by kernel_rfl) (Cb.drew V1) ⟨?_, ?_, ?_, ?_, ?_, ?_, ?_, ?_, ?_, ?_, ?_, ?_, ?_, ?_, trivial⟩ ?_
          case refine_1 =>
            refine StepG.of rfl ?_
            refine StepL.up fun x V hV hu K Q hK => ?_
            have fe0 := hV.cell e0
            have fe1 := hV.cell e1
            have fe2 := hV.cell e2
            have fe3 := hV.cell e3
            have fe4 := hV.cell e4
            have fe5 := hV.cell e5
            have fe6 := hV.cell e6
            have fe7 := hV.cell e7
            have fe8 := hV.cell e8
            have fe9 := hV.cell e9
            have fe10 := hV.cell e10
            have fe11 := hV.cell e11
            have fe12 := hV.cell e12
            clear hu
            rw [owp_eq]
            go_big_op
            exact hK _ _ (Below.refl _ _) rfl
          case refine_2 =>
            refine StepG.of rfl ?_
            refine StepL.up fun x V hV hu K Q hK => ?_
            clear hu
            simp only [putL, List.set_cons_zero, List.set_cons_succ] at hK ⊢
            rw [owp_eq]
            go_big_op
            exact hK _ _ (Below.refl _ _) rfl
          case refine_3 =>
            refine StepG.of rfl ?_
            refine StepL.up fun x V hV hu K Q hK => ?_
            clear hu
            simp only [putL, List.set_cons_zero, List.set_cons_succ] at hK ⊢
            rw [owp_eq]
            go_big_op
            exact hK _ _ (Below.refl _ _) rfl
          case refine_4 =>
            refine StepG.of rfl ?_
            refine StepL.up fun x V hV hu K Q hK => ?_
            clear hu
            simp only [putL, List.set_cons_zero, List.set_cons_succ] at hK ⊢
            rw [owp_eq]
            go_big_op
            exact hK _ _ (Below.refl _ _) rfl
          case refine_5 =>
            refine StepG.of rfl ?_
            refine StepL.up fun x V hV hu K Q hK => ?_
            have u2 : x 2 = _ := hu 2 (by decide)
            have u3 : x 3 = _ := hu 3 (by decide)
            clear hu
            simp only [putL, List.set_cons_zero, List.set_cons_succ] at hK ⊢
            rw [owp_eq]
            go_big_op
            exact hK _ _ (Below.refl _ _) rfl
          case refine_6 =>
            refine StepG.of rfl ?_
            refine StepL.up fun x V hV hu K Q hK => ?_
            clear hu
            simp only [putL, List.set_cons_zero, List.set_cons_succ] at hK ⊢
            rw [owp_eq]
            go_big_op
            exact hK _ _ (Below.refl _ _) rfl
          case refine_7 =>
            refine StepG.of rfl ?_
            refine StepL.up fun x V hV hu K Q hK => ?_
            have u5 : x 5 = _ := hu 5 (by decide)
            clear hu
            simp only [putL, List.set_cons_zero, List.set_cons_succ] at hK ⊢
            rw [owp_eq]
            go_big_op
            exact hK _ _ (Below.refl _ _) rfl
          case refine_8 =>
            refine StepG.of rfl ?_
            refine StepL.up fun x V hV hu K Q hK => ?_
            have u6 : x 6 = _ := hu 6 (by decide)
            have fx0 := hV.cell x0
            have fx1 := hV.cell x1
            have fx2 := hV.cell x2
            have fx3 := hV.cell x3
            clear hu
            simp only [putL, List.set_cons_zero, List.set_cons_succ] at hK ⊢
            rw [owp_eq]
            go_big_op
            exact hK _ _ (Below.refl _ _) rfl
          case refine_9 =>
            refine StepG.of rfl ?_
            refine StepL.up fun x V hV hu K Q hK => ?_
            have u0 : x 0 = _ := hu 0 (by decide)
            have u1 : x 1 = _ := hu 1 (by decide)
            have u4 : x 4 = _ := hu 4 (by decide)
            have u7 : x 7 = _ := hu 7 (by decide)
            clear hu
            simp only [putL, List.set_cons_zero, List.set_cons_succ] at hK ⊢
            rw [owp_eq]
            go_big_op
            with_reducible refine (K1.out V hV).mono ?_
            rintro e V' ⟨hb, A, c, rfl, hc, hs⟩
            exact hK _ _ hb ⟨A, c, rfl, hc, hs⟩
          case refine_10 =>
            refine StepG.of rfl ?_
            refine StepL.up fun x V hV hu K Q hK => ?_
            obtain ⟨A, c, u8, hc, hs⟩ := hu 8 (by decide)
            clear hu
            simp only [putL, List.set_cons_zero, List.set_cons_succ] at hK ⊢
            rw [owp_eq]
            go_big_op
            exact hK _ _ (Below.refl _ _) ⟨A, c, by first | (rw [upd_same]; done) | (rw [upd_same]; rfl), hc, hs⟩
          case refine_11 =>
            refine StepG.of rfl ?_
            refine StepL.up fun x V hV hu K Q hK => ?_
            obtain ⟨A, c, u9, hc, hs⟩ := hu 9 (by decide)
            clear hu
            simp only [putL, List.set_cons_zero, List.set_cons_succ] at hK ⊢
            rw [owp_eq]
            go_big_op
            exact hK _ _ (Below.refl _ _) ⟨A, c, by first | (rw [upd_same]; done) | (rw [upd_same]; rfl), hc, hs⟩
          case refine_12 =>
            refine StepG.of rfl ?_
            refine StepL.up fun x V hV hu K Q hK => ?_
            obtain ⟨A, c, u9, hc, hs⟩ := hu 9 (by decide)
            clear hu
            simp only [putL, List.set_cons_zero, List.set_cons_succ] at hK ⊢
            rw [owp_eq]
            go_big_op
            exact hK _ _ (Below.refl _ _) (by first | rfl | (rw [upd_same]; done) | (rw [upd_same]; rfl))
          case refine_13 =>
            refine StepG.of rfl ?_
            refine StepL.up fun x V hV hu K Q hK => ?_
            obtain ⟨A, c, u10, hc, hs⟩ := hu 10 (by decide)
            clear hu
            simp only [putL, List.set_cons_zero, List.set_cons_succ] at hK ⊢
            rw [owp_eq]
            go_big_op
            exact hK _ _ (Below.refl _ _) ⟨A, c, by first | (rw [upd_same]; done) | (rw [upd_same]; rfl), hc, hs⟩
          case refine_14 =>
            refine StepG.of rfl ?_
            refine StepL.up fun x V hV hu K Q hK => ?_
            have u11 : x 11 = _ := hu 11 (by decide)
            clear hu
            simp only [putL, List.set_cons_zero, List.set_cons_succ] at hK ⊢
            rw [owp_eq]
            go_big_op
            exact hK _ _ (Below.refl _ _) rfl
          intro x Y hV hA
          obtain ⟨R2, r2, h9, hc9, hs9⟩ := hA 12 (by decide) (by decide)
          have h10 : x 13 = _ := hA 13 (by decide) (by decide)
          simp only [layL, putL, List.set_cons_zero, List.set_cons_succ, h9, h10]
          have hVY : Below V1.heap.size V1 Y := hV
          have HM2 := Lib.hid (HM1.out.on hVY)
          clear hA h10 hV hVY HM1 K1 e0 e1 e2 e3 e4 e5 e6 e7 e8 e9 e10 e11 e12 h9 hc9 hs9 x0 x1 x2 x3
          try clear V1
          obtain ⟨V2, rfl⟩ : ∃ V, V = Y := ⟨_, rfl⟩
          go_upto_region 18 with fail
          have SK := HM2.out.ksM
          have e0 : V2.cell? ⟨g, 0, none⟩ = some (.slice A1 21 c1) := SK.cell 0
          have e1 : V2.cell? ⟨g, 1, none⟩ = some (.slice none 0 0) := SK.cell 1
          have e2 : V2.cell? ⟨g, 2, none⟩ = some (.int .i64 0) := SK.cell 2
          have e3 : V2.cell? ⟨g, 3, none⟩ = some (.int .i64 0) := SK.cell 3
          have e4 : V2.cell? ⟨g, 4, none⟩ = some (.int .i64 0) := SK.cell 4
          have e5 : V2.cell? ⟨g, 5, none⟩ = some (.int .i64 0) := SK.cell 5
          have e6 : V2.cell? ⟨g, 6, none⟩ = some (.slice none 0 0) := SK.cell 6
          have e7 : V2.cell? ⟨g, 7, none⟩ = some (.slice none 0 0) := SK.cell 7
          have e8 : V2.cell? ⟨g, 8, none⟩ = some (.slice none 0 0) := SK.cell 8
          have e9 : V2.cell? ⟨g, 9, none⟩ = some (.int .i64 0) := SK.cell 9
          have e10 : V2.cell? ⟨g, 10, none⟩ = some (.int .i64 0) := SK.cell 10
          have e11 : V2.cell? ⟨g, 11, none⟩ = some (.int .i64 0) := SK.cell 11
          have e12 : V2.cell? ⟨g, 12, none⟩ = some (.int .i64 0) := SK.cell 12
          clear SK
          have K1 := Lib.hid (fun (V : World) (hV : Cb V2 V) => HK3.out.2 V (HM2.out.on hV))
          refine wp_region_ogG [.val 0 (.agg #[.slice A1 21 c1, .slice none 0 0, .int .i64 0, .int .i64 0, .int .i64 0, .int .i64 0, .slice none 0 0, .slice none 0 0, .slice none 0 0, .int .i64 0, .int .i64 0, .int .i64 0, .int .i64 0]),
              .val 1 (.slice (some ⟨b, 0, none⟩) 210 q),
              .val 2 (.slice (some ⟨b2, 0, none⟩) 210 q2),
              .val 3 (.int .i64 (n : Nat)),
              .val 4 (.slice (some ⟨b2, 0, none⟩) n q2),
              .tpT tSlt 5 L3 ne,
              .tpT tSlt 6 L3 ne,
              .slT tSlt 7 L3,
              .val 8 (.int .i64 ((ne : Nat) : Int)),
              .slT tSlt 9 L3,
              .val 10 (.int .i64 ((ne : Nat) : Int))]
            [[], [], [], [], [2, 3], [0, 1, 4], [5], [6], [6], [7], [8]] [9, 10] (Cb V2) (by kernel_rfl) (by kernel_rfl) (Cb.drew V2) ⟨?_, ?_, ?_, ?_, ?_, ?_, ?_, ?_, ?_, ?_, ?_, trivial⟩ ?_
          case refine_1 =>
            refine StepG.of rfl ?_
            refine StepL.up fun x V hV hu K Q hK => ?_
            have fe0 := hV.cell e0
            have fe1 := hV.cell e1
            have fe2 := hV.cell e2
            have fe3 := hV.cell e3
            have fe4 := hV.cell e4
            have fe5 := hV.cell e5
            have fe6 := hV.cell e6
            have fe7 := hV.cell e7
            have fe8 := hV.cell e8
            have fe9 := hV.cell e9
            have fe10 := hV.cell e10
            have fe11 := hV.cell e11
            have fe12 := hV.cell e12
            clear hu
            rw [owp_eq]
            go_big_op
            exact hK _ _ (Below.refl _ _) rfl
          case refine_2 =>
            refine StepG.of rfl ?_
            refine StepL.up fun x V hV hu K Q hK => ?_
            clear hu
            simp only [putL, List.set_cons_zero, List.set_cons_succ] at hK ⊢
            rw [owp_eq]
            go_big_op
            exact hK _ _ (Below.refl _ _) rfl
          case refine_3 =>
            refine StepG.of rfl ?_
            refine StepL.up fun x V hV hu K Q hK => ?_
            clear hu
            simp only [putL, List.set_cons_zero, List.set_cons_succ] at hK ⊢
            rw [owp_eq]
            go_big_op
            exact hK _ _ (Below.refl _ _) rfl
          case refine_4 =>
            refine StepG.of rfl ?_
            refine StepL.up fun x V hV hu K Q hK => ?_
            clear hu
            simp only [putL, List.set_cons_zero, List.set_cons_succ] at hK ⊢
            rw [owp_eq]
            go_big_op
            exact hK _ _ (Below.refl _ _) rfl
          case refine_5 =>
            refine StepG.of rfl ?_
            refine StepL.up fun x V hV hu K Q hK => ?_
            have u2 : x 2 = _ := hu 2 (by decide)
            have u3 : x 3 = _ := hu 3 (by decide)
            clear hu
            simp only [putL, List.set_cons_zero, List.set_cons_succ] at hK ⊢
            rw [owp_eq]
            go_big_op
            exact hK _ _ (Below.refl _ _) rfl
          case refine_6 =>
            refine StepG.of rfl ?_
            refine StepL.up fun x V hV hu K Q hK => ?_
            have u0 : x 0 = _ := hu 0 (by decide)
            have u1 : x 1 = _ := hu 1 (by decide)
            have u4 : x 4 = _ := hu 4 (by decide)
            clear hu
            simp only [putL, List.set_cons_zero, List.set_cons_succ] at hK ⊢
            rw [owp_eq]
            go_big_op
            with_reducible refine (K1.out V hV).mono ?_
            rintro e V' ⟨hb, A, c, rfl, hc, hs⟩
            exact hK _ _ hb ⟨A, c, rfl, hc, hs⟩
          case refine_7 =>
            refine StepG.of rfl ?_
            refine StepL.up fun x V hV hu K Q hK => ?_
            obtain ⟨A, c, u5, hc, hs⟩ := hu 5 (by decide)
            clear hu
            simp only [putL, List.set_cons_zero, List.set_cons_succ] at hK ⊢
            rw [owp_eq]
            go_big_op
            exact hK _ _ (Below.refl _ _) ⟨A, c, by first | (rw [upd_same]; done) | (rw [upd_same]; rfl), hc, hs⟩
          case refine_8 =>
            refine StepG.of rfl ?_
            refine StepL.up fun x V hV hu K Q hK => ?_
            obtain ⟨A, c, u6, hc, hs⟩ := hu 6 (by decide)
            clear hu
            simp only [putL, List.set_cons_zero, List.set_cons_succ] at hK ⊢
            rw [owp_eq]
            go_big_op
            exact hK _ _ (Below.refl _ _) ⟨A, c, by first | (rw [upd_same]; done) | (rw [upd_same]; rfl), hc, hs⟩
          case refine_9 =>
            refine StepG.of rfl ?_
            refine StepL.up fun x V hV hu K Q hK => ?_
            obtain ⟨A, c, u6, hc, hs⟩ := hu 6 (by decide)
            clear hu
            simp only [putL, List.set_cons_zero, List.set_cons_succ] at hK ⊢
            rw [owp_eq]
            go_big_op
            exact hK _ _ (Below.refl _ _) (by first | rfl | (rw [upd_same]; done) | (rw [upd_same]; rfl))
          case refine_10 =>
            refine StepG.of rfl ?_
            refine StepL.up fun x V hV hu K Q hK => ?_
            obtain ⟨A, c, u7, hc, hs⟩ := hu 7 (by decide)
            clear hu
            simp only [putL, List.set_cons_zero, List.set_cons_succ] at hK ⊢
            rw [owp_eq]
            go_big_op
            exact hK _ _ (Below.refl _ _) ⟨A, c, by first | (rw [upd_same]; done) | (rw [upd_same]; rfl), hc, hs⟩
          case refine_11 =>
            refine StepG.of rfl ?_
            refine StepL.up fun x V hV hu K Q hK => ?_
            have u8 : x 8 = _ := hu 8 (by decide)
            clear hu
            simp only [putL, List.set_cons_zero, List.set_cons_succ] at hK ⊢
            rw [owp_eq]
            go_big_op
            exact hK _ _ (Below.refl _ _) rfl
          intro x Y hV hA
          obtain ⟨R3, r3, h9, hc9, hs9⟩ := hA 9 (by decide) (by decide)
          have h10 : x 10 = _ := hA 10 (by decide) (by decide)
          simp only [layL, putL, List.set_cons_zero, List.set_cons_succ, h9, h10]
          have hVY : Below V2.heap.size V2 Y := hV
          have HM3 := Lib.hid (HM2.out.on hVY)
          clear hA h10 hV hVY HM2 K1 e0 e1 e2 e3 e4 e5 e6 e7 e8 e9 e10 e11 e12 h9 hc9 hs9
          try clear V2
          obtain ⟨V3, rfl⟩ : ∃ V, V = Y := ⟨_, rfl⟩
          have HL1 := Lib.hid HK1.out.1
          have HL2 := Lib.hid HK2.out.1
          have HL3 := Lib.hid HK3.out.1
          clear HK1 HK2 HK3
          have hj1 : (n : Int) - 1 = (j : Int) := by have := HJ.out; omega
          have hjb : (j : Int) < 210 := by have := HJ.out; omega
          have hj0 : (0 : Int) ≤ (j : Int) := by omega
          have hj9 : j < 210 := by have := HJ.out; omega
          go_upto_region 19 with fail
          go_cut [123] (fun v wz => v = .bool false ∧ ∃ U, U = wz ∧ Hid (MA w U g (clM 21) A1 c1 (.slice (some ⟨b, 0, none⟩) 210 q) (bxM f 210) (.slice (some ⟨b2, 0, none⟩) 210 q2) (stM 210)))
          case first =>
            by_cases h200 : n ≤ 200
            · have g1 : decide ((200 : Int) < (n : Int)) = false := decide_eq_false (by omega)
              have g2 : decide ((n : Int) ≤ 200) = true := decide_eq_true (by omega)
              have q1 := HE1.out
              have q2' := HE2.out
              have q3 := HE3.out
              rw [if_pos h200] at q1 q2' q3
              subst q1 q2' q3
              clear HL1 HL2 HL3 h200
              go_wp2_with fail
              go_meet
              exact ⟨rfl, _, rfl, HM3⟩
            · have g1 : decide ((200 : Int) < (n : Int)) = true := decide_eq_true (by omega)
              have g2 : decide ((n : Int) ≤ 200) = false := decide_eq_false (by omega)
              have q1 := HE1.out
              have q2' := HE2.out
              have q3 := HE3.out
              rw [if_neg h200] at q1 q2' q3
              have l1 := HL1.out (by omega)
              have l2 := HL2.out (by omega)
              have l3 := HL3.out (by omega)
              subst q1 q2' q3 l1 l2 l3
              clear HL1 HL2 HL3 h200
              go_wp2_with fail
              go_meet
              exact ⟨rfl, _, rfl, HM3⟩
          case rest =>
            obtain ⟨rfl, V4, rfl, HM4⟩ := hcut
            clear HL1 HL2 HL3 HM3 HE1 HE2 HE3
            have hjn : n - 1 = j := by have := HJ.out; omega
            have hn1 : 0 < n := by omega
            have HD1 := Lib.hid (derr_ten (f := f) hn210 hn1)
            have HD2 := Lib.hid (derr_zero HF.out hn210 hn1)
            have HOK1 := Lib.hid (ok_one HF.out j)
            rw [hjn] at HD1 HD2
            have HSS := Lib.hid (setM_set f j)
            clear hjn
            obtain ⟨hs1, hs2, hs3⟩ := HM4.out.setK hj9 10
            have HM5 : Hid (MA w (V4.setCell ⟨b, j * 9 + 7, none⟩ (.int .u8 10)) g (clM 21) A1 c1 (.slice (some ⟨b, 0, none⟩) 210 q) (bxM (setM f j 10) 210) (.slice (some ⟨b2, 0, none⟩) 210 q2) (stM 210)) := Lib.hid hs1
            clear hs1 HM4
            go_upto_region 22 with fail
            clear hs2 hs3
            generalize (V4.setCell _ _) = V5 at *
            try clear V4
            obtain ⟨M1, HK4⟩ : ∃ M1 : List Cl, Hid (∀ U, MA w U g (clM 21) A1 c1 (.slice (some ⟨b, 0, none⟩) 210 q) (bxM (setM f j 10) 210) (.slice (some ⟨b2, 0, none⟩) 210 q2) (stM 210) → Calls Tryd.prog 12 #[.agg #[.slice A1 21 c1, .slice none 0 0, .int .i64 0, .int .i64 0, .int .i64 0, .int .i64 0, .slice none 0 0, .slice none 0 0, .slice none 0 0, .int .i64 0, .int .i64 0, .int .i64 0, .int .i64 0], .slice (some ⟨b, 0, none⟩) 210 q, .slice (some ⟨b2, 0, none⟩) n q2] U (fun e w' => Below U.heap.size U w' ∧ ∃ A c, e = .returned (.tuple #[.slice A M1.length c, .int .i64 ((130 : Nat) : Int)]) ∧ M1.length ≤ c ∧ SlT tCl w' (Lt w'.heap.size) A M1)) :=
              ⟨clX (setM f j 10) n, Lib.hid fun U hU => by have := hU.kCl HT.out HN.out hn210; rw [HD1.out] at this; exact this⟩
            go_upto_region 22 with fail
            have SK := HM5.out.ksM
            have e0 : V5.cell? ⟨g, 0, none⟩ = some (.slice A1 21 c1) := SK.cell 0
            have e1 : V5.cell? ⟨g, 1, none⟩ = some (.slice none 0 0) := SK.cell 1
            have e2 : V5.cell? ⟨g, 2, none⟩ = some (.int .i64 0) := SK.cell 2
            have e3 : V5.cell? ⟨g, 3, none⟩ = some (.int .i64 0) := SK.cell 3
            have e4 : V5.cell? ⟨g, 4, none⟩ = some (.int .i64 0) := SK.cell 4
            have e5 : V5.cell? ⟨g, 5, none⟩ = some (.int .i64 0) := SK.cell 5
            have e6 : V5.cell? ⟨g, 6, none⟩ = some (.slice none 0 0) := SK.cell 6
            have e7 : V5.cell? ⟨g, 7, none⟩ = some (.slice none 0 0) := SK.cell 7
            have e8 : V5.cell? ⟨g, 8, none⟩ = some (.slice none 0 0) := SK.cell 8
            have e9 : V5.cell? ⟨g, 9, none⟩ = some (.int .i64 0) := SK.cell 9
            have e10 : V5.cell? ⟨g, 10, none⟩ = some (.int .i64 0) := SK.cell 10
            have e11 : V5.cell? ⟨g, 11, none⟩ = some (.int .i64 0) := SK.cell 11
            have e12 : V5.cell? ⟨g, 12, none⟩ = some (.int .i64 0) := SK.cell 12
            clear SK
            have K1 := Lib.hid (fun (V : World) (hV : Cb V5 V) => HK4.out V (HM5.out.on hV))
            refine wp_region_ogG [.val 0 (.agg #[.slice A1 21 c1, .slice none 0 0, .int .i64 0, .int .i64 0, .int .i64 0, .int .i64 0, .slice none 0 0, .slice none 0 0, .slice none 0 0, .int .i64 0, .int .i64 0, .int .i64 0, .int .i64 0]),
                .val 1 (.slice (some ⟨b, 0, none⟩) 210 q),
                .val 2 (.slice (some ⟨b2, 0, none⟩) 210 q2),
                .val 3 (.int .i64 (n : Nat)),
                .val 4 (.slice (some ⟨b2, 0, none⟩) n q2),
                .tpT tCl 5 M1 130,
                .tpT tCl 6 M1 130,
                .slT tCl 7 M1,
                .val 8 (.int .i64 ((130 : Nat) : Int)),
                .val 9 (.int .i64 ((130 : Nat) : Int))]
              [[], [], [], [], [2, 3], [0, 1, 4], [5], [6], [6], [8]] [9] (Cb V5) (by kernel_rfl) (by kernel_rfl) (Cb.drew V5) ⟨?_, ?_, ?_, ?_, ?_, ?_, ?_, ?_, ?_, ?_, trivial⟩ ?_
            case refine_1 =>
              refine StepG.of rfl ?_
              refine StepL.up fun x V hV hu K Q hK => ?_
              have fe0 := hV.cell e0
              have fe1 := hV.cell e1
              have fe2 := hV.cell e2
              have fe3 := hV.cell e3
              have fe4 := hV.cell e4
              have fe5 := hV.cell e5
              have fe6 := hV.cell e6
              have fe7 := hV.cell e7
              have fe8 := hV.cell e8
              have fe9 := hV.cell e9
              have fe10 := hV.cell e10
              have fe11 := hV.cell e11
              have fe12 := hV.cell e12
              clear hu
              rw [owp_eq]
              go_big_op
              exact hK _ _ (Below.refl _ _) rfl
            case refine_2 =>
              refine StepG.of rfl ?_
              refine StepL.up fun x V hV hu K Q hK => ?_
              clear hu
              simp only [putL, List.set_cons_zero, List.set_cons_succ] at hK ⊢
              rw [owp_eq]
              go_big_op
              exact hK _ _ (Below.refl _ _) rfl
            case refine_3 =>
              refine StepG.of rfl ?_
              refine StepL.up fun x V hV hu K Q hK => ?_
              clear hu
              simp only [putL, List.set_cons_zero, List.set_cons_succ] at hK ⊢
              rw [owp_eq]
              go_big_op
              exact hK _ _ (Below.refl _ _) rfl
            case refine_4 =>
              refine StepG.of rfl ?_
              refine StepL.up fun x V hV hu K Q hK => ?_
              clear hu
              simp only [putL, List.set_cons_zero, List.set_cons_succ] at hK ⊢
              rw [owp_eq]
              go_big_op
              exact hK _ _ (Below.refl _ _) rfl
            case refine_5 =>
              refine StepG.of rfl ?_
              refine StepL.up fun x V hV hu K Q hK => ?_
              have u2 : x 2 = _ := hu 2 (by decide)
              have u3 : x 3 = _ := hu 3 (by decide)
              clear hu
              simp only [putL, List.set_cons_zero, List.set_cons_succ] at hK ⊢
              rw [owp_eq]
              go_big_op
              exact hK _ _ (Below.refl _ _) rfl
            case refine_6 =>
              refine StepG.of rfl ?_
              refine StepL.up fun x V hV hu K Q hK => ?_
              have u0 : x 0 = _ := hu 0 (by decide)
              have u1 : x 1 = _ := hu 1 (by decide)
              have u4 : x 4 = _ := hu 4 (by decide)
              clear hu
              simp only [putL, List.set_cons_zero, List.set_cons_succ] at hK ⊢
              rw [owp_eq]
              go_big_op
              with_reducible refine (K1.out V hV).mono ?_
              rintro e V' ⟨hb, A, c, rfl, hc, hs⟩
              exact hK _ _ hb ⟨A, c, rfl, hc, hs⟩
            case refine_7 =>
              refine StepG.of rfl ?_
              refine StepL.up fun x V hV hu K Q hK => ?_
              obtain ⟨A, c, u5, hc, hs⟩ := hu 5 (by decide)
              clear hu
              simp only [putL, List.set_cons_zero, List.set_cons_succ] at hK ⊢
              rw [owp_eq]
              go_big_op
              exact hK _ _ (Below.refl _ _) ⟨A, c, by first | (rw [upd_same]; done) | (rw [upd_same]; rfl), hc, hs⟩
            case refine_8 =>
              refine StepG.of rfl ?_
              refine StepL.up fun x V hV hu K Q hK => ?_
              obtain ⟨A, c, u6, hc, hs⟩ := hu 6 (by decide)
              clear hu
              simp only [putL, List.set_cons_zero, List.set_cons_succ] at hK ⊢
              rw [owp_eq]
              go_big_op
              exact hK _ _ (Below.refl _ _) ⟨A, c, by first | (rw [upd_same]; done) | (rw [upd_same]; rfl), hc, hs⟩
            case refine_9 =>
              refine StepG.of rfl ?_
              refine StepL.up fun x V hV hu K Q hK => ?_
              obtain ⟨A, c, u6, hc, hs⟩ := hu 6 (by decide)
              clear hu
              simp only [putL, List.set_cons_zero, List.set_cons_succ] at hK ⊢
              rw [owp_eq]
              go_big_op
              exact hK _ _ (Below.refl _ _) (by first | rfl | (rw [upd_same]; done) | (rw [upd_same]; rfl))
            case refine_10 =>
              refine StepG.of rfl ?_
              refine StepL.up fun x V hV hu K Q hK => ?_
              have u8 : x 8 = _ := hu 8 (by decide)
              clear hu
              simp only [putL, List.set_cons_zero, List.set_cons_succ] at hK ⊢
              rw [owp_eq]
              go_big_op
              exact hK _ _ (Below.refl _ _) rfl
            intro x Y hV hA
            have h10 : x 9 = _ := hA 9 (by decide) (by decide)
            simp only [layL, putL, List.set_cons_zero, List.set_cons_succ, h10]
            have hVY : Below V5.heap.size V5 Y := hV
            have HM6 := Lib.hid (HM5.out.on hVY)
            clear hA h10 hV hVY HM5 K1 e0 e1 e2 e3 e4 e5 e6 e7 e8 e9 e10 e11 e12
            try clear V5
            obtain ⟨V6, rfl⟩ : ∃ V, V = Y := ⟨_, rfl⟩
            clear HK4 HD1
            obtain ⟨hs1, hs2, hs3⟩ := HM6.out.setK hj9 0
            rw [HSS.out] at hs1
            have HM7 : Hid (MA w (V6.setCell ⟨b, j * 9 + 7, none⟩ (.int .u8 0)) g (clM 21) A1 c1 (.slice (some ⟨b, 0, none⟩) 210 q) (bxM (setM f j 0) 210) (.slice (some ⟨b2, 0, none⟩) 210 q2) (stM 210)) := Lib.hid hs1
            clear hs1 HM6
            go_upto_region 24 with fail
            clear hs2 hs3
            generalize (V6.setCell _ _) = V7 at *
            try clear V6
            obtain ⟨M2, fe, HFE, HK5⟩ : ∃ (M2 : List Cl) (fe : Nat), Hid (fe = if n ≤ 201 then 0 else 5) ∧ Hid (∀ U, MA w U g (clM 21) A1 c1 (.slice (some ⟨b, 0, none⟩) 210 q) (bxM (setM f j 0) 210) (.slice (some ⟨b2, 0, none⟩) 210 q2) (stM 210) → Calls Tryd.prog 12 #[.agg #[.slice A1 21 c1, .slice none 0 0, .int .i64 0, .int .i64 0, .int .i64 0, .int .i64 0, .slice none 0 0, .slice none 0 0, .slice none 0 0, .int .i64 0, .int .i64 0, .int .i64 0, .int .i64 0], .slice (some ⟨b, 0, none⟩) 210 q, .slice (some ⟨b2, 0, none⟩) n q2] U (fun e w' => Below U.heap.size U w' ∧ ∃ A c, e = .returned (.tuple #[.slice A M2.length c, .int .i64 (fe : Nat)]) ∧ M2.length ≤ c ∧ SlT tCl w' (Lt w'.heap.size) A M2)) :=
              ⟨clX (setM f j 0) n, _, Lib.hid HD2.out, Lib.hid fun U hU => hU.kCl HT.out HN.out hn210⟩
            go_upto_region 24 with fail
            have SK := HM7.out.ksM
            have e0 : V7.cell? ⟨g, 0, none⟩ = some (.slice A1 21 c1) := SK.cell 0
            have e1 : V7.cell? ⟨g, 1, none⟩ = some (.slice none 0 0) := SK.cell 1
            have e2 : V7.cell? ⟨g, 2, none⟩ = some (.int .i64 0) := SK.cell 2
            have e3 : V7.cell? ⟨g, 3, none⟩ = some (.int .i64 0) := SK.cell 3
            have e4 : V7.cell? ⟨g, 4, none⟩ = some (.int .i64 0) := SK.cell 4
            have e5 : V7.cell? ⟨g, 5, none⟩ = some (.int .i64 0) := SK.cell 5
            have e6 : V7.cell? ⟨g, 6, none⟩ = some (.slice none 0 0) := SK.cell 6
            have e7 : V7.cell? ⟨g, 7, none⟩ = some (.slice none 0 0) := SK.cell 7
            have e8 : V7.cell? ⟨g, 8, none⟩ = some (.slice none 0 0) := SK.cell 8
            have e9 : V7.cell? ⟨g, 9, none⟩ = some (.int .i64 0) := SK.cell 9
            have e10 : V7.cell? ⟨g, 10, none⟩ = some (.int .i64 0) := SK.cell 10
            have e11 : V7.cell? ⟨g, 11, none⟩ = some (.int .i64 0) := SK.cell 11
            have e12 : V7.cell? ⟨g, 12, none⟩ = some (.int .i64 0) := SK.cell 12
            clear SK
            have K1 := Lib.hid (fun (V : World) (hV : Cb V7 V) => HK5.out V (HM7.out.on hV))
            refine wp_region_ogG [.val 0 (.agg #[.slice A1 21 c1, .slice none 0 0, .int .i64 0, .int .i64 0, .int .i64 0, .int .i64 0, .slice none 0 0, .slice none 0 0, .slice none 0 0, .int .i64 0, .int .i64 0, .int .i64 0, .int .i64 0]),
                .val 1 (.slice (some ⟨b, 0, none⟩) 210 q),
                .val 2 (.slice (some ⟨b2, 0, none⟩) 210 q2),
                .val 3 (.int .i64 (n : Nat)),
                .val 4 (.slice (some ⟨b2, 0, none⟩) n q2),
                .tpT tCl 5 M2 fe,
                .tpT tCl 6 M2 fe,
                .slT tCl 7 M2,
                .val 8 (.int .i64 ((fe : Nat) : Int)),
                .val 9 (.int .i64 ((fe : Nat) : Int))]
              [[], [], [], [], [2, 3], [0, 1, 4], [5], [6], [6], [8]] [9] (Cb V7) (by kernel_rfl) (by kernel_rfl) (Cb.drew V7) ⟨?_, ?_, ?_, ?_, ?_, ?_, ?_, ?_, ?_, ?_, trivial⟩ ?_
            case refine_1 =>
              refine StepG.of rfl ?_
              refine StepL.up fun x V hV hu K Q hK => ?_
              have fe0 := hV.cell e0
              have fe1 := hV.cell e1
              have fe2 := hV.cell e2
              have fe3 := hV.cell e3
              have fe4 := hV.cell e4
              have fe5 := hV.cell e5
              have fe6 := hV.cell e6
              have fe7 := hV.cell e7
              have fe8 := hV.cell e8
              have fe9 := hV.cell e9
              have fe10 := hV.cell e10
              have fe11 := hV.cell e11
              have fe12 := hV.cell e12
              clear hu
              rw [owp_eq]
              go_big_op
              exact hK _ _ (Below.refl _ _) rfl
            case refine_2 =>
              refine StepG.of rfl ?_
              refine StepL.up fun x V hV hu K Q hK => ?_
              clear hu
              simp only [putL, List.set_cons_zero, List.set_cons_succ] at hK ⊢
              rw [owp_eq]
              go_big_op
              exact hK _ _ (Below.refl _ _) rfl
            case refine_3 =>
              refine StepG.of rfl ?_
              refine StepL.up fun x V hV hu K Q hK => ?_
              clear hu
              simp only [putL, List.set_cons_zero, List.set_cons_succ] at hK ⊢
              rw [owp_eq]
              go_big_op
              exact hK _ _ (Below.refl _ _) rfl
            case refine_4 =>
              refine StepG.of rfl ?_
              refine StepL.up fun x V hV hu K Q hK => ?_
              clear hu
              simp only [putL, List.set_cons_zero, List.set_cons_succ] at hK ⊢
              rw [owp_eq]
              go_big_op
              exact hK _ _ (Below.refl _ _) rfl
            case refine_5 =>
              refine StepG.of rfl ?_
              refine StepL.up fun x V hV hu K Q hK => ?_
              have u2 : x 2 = _ := hu 2 (by decide)
              have u3 : x 3 = _ := hu 3 (by decide)
              clear hu
              simp only [putL, List.set_cons_zero, List.set_cons_succ] at hK ⊢
              rw [owp_eq]
              go_big_op
              exact hK _ _ (Below.refl _ _) rfl
            case refine_6 =>
              refine StepG.of rfl ?_
              refine StepL.up fun x V hV hu K Q hK => ?_
              have u0 : x 0 = _ := hu 0 (by decide)
              have u1 : x 1 = _ := hu 1 (by decide)
              have u4 : x 4 = _ := hu 4 (by decide)
              clear hu
              simp only [putL, List.set_cons_zero, List.set_cons_succ] at hK ⊢
              rw [owp_eq]
              go_big_op
              with_reducible refine (K1.out V hV).mono ?_
              rintro e V' ⟨hb, A, c, rfl, hc, hs⟩
              exact hK _ _ hb ⟨A, c, rfl, hc, hs⟩
            case refine_7 =>
              refine StepG.of rfl ?_
              refine StepL.up fun x V hV hu K Q hK => ?_
              obtain ⟨A, c, u5, hc, hs⟩ := hu 5 (by decide)
              clear hu
              simp only [putL, List.set_cons_zero, List.set_cons_succ] at hK ⊢
              rw [owp_eq]
              go_big_op
              exact hK _ _ (Below.refl _ _) ⟨A, c, by first | (rw [upd_same]; done) | (rw [upd_same]; rfl), hc, hs⟩
            case refine_8 =>
              refine StepG.of rfl ?_
              refine StepL.up fun x V hV hu K Q hK => ?_
              obtain ⟨A, c, u6, hc, hs⟩ := hu 6 (by decide)
              clear hu
              simp only [putL, List.set_cons_zero, List.set_cons_succ] at hK ⊢
              rw [owp_eq]
              go_big_op
              exact hK _ _ (Below.refl _ _) ⟨A, c, by first | (rw [upd_same]; done) | (rw [upd_same]; rfl), hc, hs⟩
            case refine_9 =>
              refine StepG.of rfl ?_
              refine StepL.up fun x V hV hu K Q hK => ?_
              obtain ⟨A, c, u6, hc, hs⟩ := hu 6 (by decide)
              clear hu
              simp only [putL, List.set_cons_zero, List.set_cons_succ] at hK ⊢
              rw [owp_eq]
              go_big_op
              exact hK _ _ (Below.refl _ _) (by first | rfl | (rw [upd_same]; done) | (rw [upd_same]; rfl))
            case refine_10 =>
              refine StepG.of rfl ?_
              refine StepL.up fun x V hV hu K Q hK => ?_
              have u8 : x 8 = _ := hu 8 (by decide)
              clear hu
              simp only [putL, List.set_cons_zero, List.set_cons_succ] at hK ⊢
              rw [owp_eq]
              go_big_op
              exact hK _ _ (Below.refl _ _) rfl
            intro x Y hV hA
            have h10 : x 9 = _ := hA 9 (by decide) (by decide)
            simp only [layL, putL, List.set_cons_zero, List.set_cons_succ, h10]
            have hVY : Below V7.heap.size V7 Y := hV
            have HM8 := Lib.hid (HM7.out.on hVY)
            clear hA h10 hV hVY HM7 K1 e0 e1 e2 e3 e4 e5 e6 e7 e8 e9 e10 e11 e12
            try clear V7
            obtain ⟨V8, rfl⟩ : ∃ V, V = Y := ⟨_, rfl⟩
            clear HK5 HD2
            go_upto_region 25 with fail
            go_cut [160] (fun v wz => v = .bool false ∧ ∃ U, U = wz ∧ Hid (MA w U g (clM 21) A1 c1 (.slice (some ⟨b, 0, none⟩) 210 q) (bxM (setM f j 0) 210) (.slice (some ⟨b2, 0, none⟩) 210 q2) (stM 210)))
            case first =>
              by_cases h201 : n ≤ 201
              · have g1 : decide ((n : Int) ≤ 201) = true := decide_eq_true (by omega)
                have q1 := HFE.out
                rw [if_pos h201] at q1
                subst q1
                clear HFE h201
                go_wp2_with fail
                go_meet
                exact ⟨rfl, _, rfl, HM8⟩
              · have g1 : decide ((n : Int) ≤ 201) = false := decide_eq_false (by omega)
                have q1 := HFE.out
                rw [if_neg h201] at q1
                subst q1
                clear HFE h201
                go_wp2_with fail
                go_meet
                exact ⟨rfl, _, rfl, HM8⟩
            case rest =>
              clear HM8
              obtain ⟨rfl, V9, rfl, HM9⟩ := hcut
              obtain ⟨hs1, hs2, hs3⟩ := HM9.out.setK hj9 1
              rw [HSS.out] at hs1
              have HM10 : Hid (MA w (V9.setCell ⟨b, j * 9 + 7, none⟩ (.int .u8 1)) g (clM 21) A1 c1 (.slice (some ⟨b, 0, none⟩) 210 q) (bxM (setM f j 1) 210) (.slice (some ⟨b2, 0, none⟩) 210 q2) (stM 210)) := Lib.hid hs1
              clear hs1 HM9 HFE
              go_wp2_with fail
              clear hs2 hs3
              go_roundw
              case rel => first | exact ⟨n + 1, setM f j 1, by omega, by omega, by go_num, HOK1, HM10⟩ | ((repeat apply Exists.intro); (first | exact ⟨⟨n + 1, setM f j 1, by omega, by omega, by go_num, HOK1, HM10⟩, rfl⟩ | exact ⟨by omega, by omega, by go_num, HOK1, HM10⟩))
              case measure => simp [intOf]; omega
        · obtain rfl : n = 203 := by omega
          have HE := Lib.hid HM.out.be
          go_wp2_with fail
          go_ret
          exact ⟨rfl, HE.out⟩
end Go.Proofs.YtmhikcleekfbpaaDoor
