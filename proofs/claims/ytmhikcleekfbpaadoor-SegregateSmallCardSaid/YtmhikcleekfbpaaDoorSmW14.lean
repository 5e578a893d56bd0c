/-
  The walk of the statement SegregateSmall.
-/
import Derived.Test.YtmhikcleekfbpaaDoorSmQ
import Derived.Test.YtmhikcleekfbpaaDoorMaW
namespace Go.Proofs.YtmhikcleekfbpaaDoor
open Go.RowKit

set_option maxRecDepth 100000 in
set_option maxHeartbeats 16000000 in
theorem segregateSmall_any (w : World) (ht : TabOK w) (hn : NamesOK w) : Calls Tryd.prog 3 #[] w (TrueRet w) := by
  have H0 := Lib.hid (MA.start w)
  have HT := Lib.hid ht
  have HN := Lib.hid hn
  clear ht hn
  unfold shpA shp0 hd0 at H0
  simp only [List.length_nil] at H0
  go_enter Tryd.func3, Tryd.ntmps3
  go_upto_region 2 with fail
  generalize w.heap.size = g at *
  generalize (w.alloc _) = W at *
  have H1 : Hid (MA w W g (clS 0) none 0 (.slice none 0 0) [] (.slice none 0 0) []) := Lib.hid H0.out
  clear H0
  go_wp2_with fail
  go_loopw [2] (fun i wr => ∃ (k : Nat) (A1 : Option Addr) (c1 : Nat), k ≤ 12 ∧ i = .int .i64 k ∧ Hid (MA w wr g (clS k) A1 c1 (.slice none 0 0) [] (.slice none 0 0) [])) (fun i _ => 12 - (intOf i).toNat)
  case atStart => exact ⟨0, none, 0, Nat.zero_le _, rfl, H1⟩
  case round =>
    clear H1
    try clear W
    obtain ⟨k, A0, c0, hk, rfl, HM⟩ := hrel
    obtain ⟨V, rfl⟩ : ∃ V, V = wr := ⟨_, rfl⟩
    by_cases hlt : k < 12
    · have hki : (k : Int) < 12 := by omega
      have e0 : V.cell? ⟨g, 0, none⟩ = some (.slice A0 (clS k).length c0) := HM.out.ks.cell 0
      rw [clS_len] at e0
      have hgz := HM.out.ks.lt
      have hown := HM.out.own.below (ba1 V (.cells #[.int .i64 ((k : Int) / 4), .int .i64 ((k : Int) % 2), .bool ((k : Int) / 2 % 2 == 1), .int .i64 2, .int .i64 0, .int .i64 0, .int .i64 0, .int .i64 0, .slice none 0 0, .int .i64 0, .int .i64 0, .int .i64 0] 35))
      rw [clS_len] at hown
      go_step
      go_step
      go_wp2_with (at_builtin; (refine wpList_append_R el_colN rfl (.tmp 22) (.tmp 32) rfl (g + 1) (Lt (g + 1)) _ (clS k) rfl hown (some ⟨V.heap.size, 0, none⟩) 1 _ [colS k] rfl rfl (Src.blk (Bk.new V 35 #[.int .i64 ((k : Int) / 4), .int .i64 ((k : Int) % 2), .bool ((k : Int) / 2 % 2 == 1), .int .i64 2, .int .i64 0, .int .i64 0, .int .i64 0, .int .i64 0, .slice none 0 0, .int .i64 0, .int .i64 0, .int .i64 0]) (Flat.single (rd_colN (colS k) rfl _ rfl)) rfl) ?c1 ?c2 ?c3 ?_))
      case c1 => rw [clS_len]; unfold maxLen; omega
      case c2 => rw [clS_len]; omega
      case c3 => simp; omega
      intro v' w3 ho3 hg3 hb3
      rw [← clS_succ] at ho3
      obtain ⟨A3, c3, hv, hc31, hc32, _⟩ := ho3.sl'
      rw [clS_len] at hv hc31
      subst hv
      obtain ⟨cv, fv⟩ := HM.out.cellC (v := .slice A0 k c0) _ (by rw [clS_len]; exact hg3) (by rw [clS_len])
      have hp := HM.out.pushC (A3 := A3) (c3 := c3) (m := [colS k]) _ (by rw [← clS_succ, clS_len]; exact ho3) (by rw [← clS_succ, clS_len]; exact ⟨hc31, hc32⟩) (by simp [colS]) (by rw [clS_len]; exact hg3) hb3
      rw [← clS_succ, clS_len] at hp
      have HN1 := Lib.hid hp
      clear hp hown ho3 hg3 hb3 hc31 hc32 HM e0 hgz
      go_wp2_with fail
      clear cv fv
      go_roundw
      case rel => first | exact ⟨k + 1, A3, c3, by omega, by go_num, HN1⟩ | ((repeat apply Exists.intro); (first | exact ⟨⟨k + 1, A3, c3, by omega, by go_num, HN1⟩, rfl⟩ | exact ⟨(show k + 1 ≤ 12 from hlt), by go_num, HN1⟩))
      case measure => simp [intOf]; omega
    · obtain rfl : k = 12 := by omega
      have e0 : V.cell? ⟨g, 0, none⟩ = some (.slice A0 (clS 12).length c0) := HM.out.ks.cell 0
      rw [clS_len] at e0
      have hgz := HM.out.ks.lt
      have hown := HM.out.own.below (ba1 V (.cells #[.int .i64 1, .int .i64 2, .bool false, .int .i64 2, .int .i64 0, .int .i64 0, .int .i64 0, .int .i64 0, .slice none 0 0, .int .i64 0, .int .i64 0, .int .i64 0, .int .i64 5, .int .i64 0, .bool false, .int .i64 2, .int .i64 0, .int .i64 0, .int .i64 0, .int .i64 0, .slice none 0 0, .int .i64 0, .int .i64 0, .int .i64 0] 35))
      rw [clS_len] at hown
      go_wp2_with (at_builtin; (refine wpList_append_R el_colN rfl (.tmp 36) (.tmp 39) rfl (g + 1) (Lt (g + 1)) _ (clS 12) rfl hown (some ⟨V.heap.size, 0, none⟩) 2 _ [cE1, cE2] rfl rfl (Src.blk (Bk.new V 35 #[.int .i64 1, .int .i64 2, .bool false, .int .i64 2, .int .i64 0, .int .i64 0, .int .i64 0, .int .i64 0, .slice none 0 0, .int .i64 0, .int .i64 0, .int .i64 0, .int .i64 5, .int .i64 0, .bool false, .int .i64 2, .int .i64 0, .int .i64 0, .int .i64 0, .int .i64 0, .slice none 0 0, .int .i64 0, .int .i64 0, .int .i64 0]) flat_two rfl) ?c1 ?c2 ?c3 ?_))
      case c1 => rw [clS_len]; unfold maxLen; omega
      case c2 => rw [clS_len]; omega
      case c3 => simp; omega
      intro v' w3 ho3 hg3 hb3
      rw [show clS 12 ++ [cE1, cE2] = CX from rfl] at ho3
      obtain ⟨A1, c1, hv, hc31, hc32, _⟩ := ho3.sl'
      rw [CX_len] at hv hc31
      subst hv
      obtain ⟨cv, fv⟩ := HM.out.cellC (v := .slice A0 12 c0) _ (by rw [clS_len]; exact hg3) (by rw [clS_len])
      have hp := HM.out.pushC (A3 := A1) (c3 := c1) (m := [cE1, cE2]) _ (by rw [show clS 12 ++ [cE1, cE2] = CX from rfl, CX_len]; exact ho3) (by rw [show clS 12 ++ [cE1, cE2] = CX from rfl, CX_len]; exact ⟨hc31, hc32⟩) (by simp [cE1, cE2]) (by rw [clS_len]; exact hg3) hb3
      rw [show clS 12 ++ [cE1, cE2] = CX from rfl, CX_len] at hp
      have HN1 := Lib.hid hp
      clear hp hown ho3 hg3 hb3 hc31 hc32 HM e0 hgz
      go_upto_region 7 with fail
      clear cv fv
      generalize (w3.setCell _ _) = W1 at *
      try clear w3
      try clear V
      clear hk hlt
      go_wp2_with fail
      go_loopw [3] (fun i wr => ∃ c : Int, -1 ≤ c ∧ c ≤ 15 ∧ i = .int .i64 c ∧ Hid (MA w wr g CX A1 c1 (.slice none 0 0) [] (.slice none 0 0) [])) (fun i _ => (15 - intOf i).toNat)
      case atStart => exact ⟨-1, by omega, by omega, rfl, HN1⟩
      case round =>
        clear HN1
        try clear W1
        obtain ⟨c, hc1, hc2, rfl, HM⟩ := hrel
        obtain ⟨V, rfl⟩ : ∃ V, V = wr := ⟨_, rfl⟩
        by_cases hlc : c < 15
        · go_step
          go_step
          go_wp2_with fail
          go_loopw [4] (fun i wr => ∃ d : Int, -1 ≤ d ∧ d ≤ 15 ∧ i = .int .i64 d ∧ Hid (MA w wr g CX A1 c1 (.slice none 0 0) [] (.slice none 0 0) [])) (fun i _ => (15 - intOf i).toNat)
          case atStart => exact ⟨-1, by omega, by omega, rfl, HM⟩
          case round =>
            clear HM
            try clear V
            obtain ⟨d, hd1, hd2, rfl, HM⟩ := hrel
            obtain ⟨V, rfl⟩ : ∃ V, V = wr := ⟨_, rfl⟩
            by_cases hld : d < 15
            · go_step
              go_step
              go_wp2_with fail
              go_loopw [5] (fun i wr => ∃ n : Nat, n ≤ 36 ∧ i = .int .i64 n ∧ Hid (MA w wr g CX A1 c1 (.slice none 0 0) [] (.slice none 0 0) [])) (fun i _ => 36 - (intOf i).toNat)
              case atStart => exact ⟨0, by omega, rfl, HM⟩
              case round =>
                clear HM
                try clear V
                obtain ⟨n, hn, rfl, HM⟩ := hrel
                obtain ⟨V, rfl⟩ : ∃ V, V = wr := ⟨_, rfl⟩
                by_cases hln : n < 36
                · have hni : (n : Int) < 36 := by omega
                  obtain ⟨t1, e1⟩ : ∃ t : Int, (n : Int) % 2 = t := ⟨_, rfl⟩
                  obtain ⟨t2, e2⟩ : ∃ t : Int, (n : Int) / 6 % 2 = t := ⟨_, rfl⟩
                  obtain ⟨h1, e3, hh1⟩ : ∃ h : Nat, (n : Int) / 2 % 3 = (h : Int) ∧ h < 3 := ⟨n / 2 % 3, by omega, by omega⟩
                  obtain ⟨h2, e4, hh2⟩ : ∃ h : Nat, (n : Int) / 12 = (h : Int) ∧ h < 3 := ⟨n / 12, by omega, by omega⟩
                  have b1 := ba2 V (.cells #[.int .i64 c, .int .i64 t1, .int .u8 (h1 : Nat)] 37) (.cells #[.int .i64 d, .int .i64 t2, .int .u8 (h2 : Nat)] 37)
                  have HA := Lib.hid ((Bk.at14 (w := V) (g := V.heap.size) 37 #[.int .i64 c, .int .i64 t1, .int .u8 (h1 : Nat)] rfl).alloc (.cells #[.int .i64 d, .int .i64 t2, .int .u8 (h2 : Nat)] 37))
                  have HB := Lib.hid (Bk.at14 (w := V.alloc (.cells #[.int .i64 c, .int .i64 t1, .int .u8 (h1 : Nat)] 37)) (g := V.heap.size + 1) 37 #[.int .i64 d, .int .i64 t2, .int .u8 (h2 : Nat)] (by simp))
                  have HM1 := Lib.hid (HM.out.on b1)
                  clear b1 HM
                  go_step
                  go_step
                  go_upto_region 17 with fail
                  clear e1 e2 e3 e4
                  generalize V.heap.size + 1 = gb at *
                  generalize V.heap.size = ga at *
                  generalize ((V.alloc _).alloc _) = U at *
                  try clear V
                  have b2 := ba1 U (.cells UA14 5)
                  have HU := Lib.hid (Bk.new U 5 UA14)
                  have HM2 := Lib.hid (HM1.out.on b2)
                  have HA2 := Lib.hid (HA.out.below b2 HA.out.lt)
                  have HB2 := Lib.hid (HB.out.below b2 HB.out.lt)
                  clear b2 HM1 HA HB
                  unfold UA14 at HU HM2 HA2 HB2
                  go_wp2_with fail
                  generalize U.heap.size = gu at *
                  generalize (U.alloc _) = U1 at *
                  try clear U
                  go_loopw [72] (fun i wr => ∃ j : Nat, j ≤ 5 ∧ i = .int .i64 j ∧ Hid (MA w wr g CX A1 c1 (.slice none 0 0) [] (.slice none 0 0) []) ∧ Hid (Bk wr ga 37 #[.int .i64 c, .int .i64 t1, .int .u8 (h1 : Nat)]) ∧ Hid (Bk wr gb 37 #[.int .i64 d, .int .i64 t2, .int .u8 (h2 : Nat)]) ∧ Hid (Bk wr gu 5 UA14)) (fun i _ => 5 - (intOf i).toNat)
                  case atStart => exact ⟨0, by omega, rfl, HM2, HA2, HB2, HU⟩
                  case round =>
                    clear HM2 HA2 HB2 HU
                    try clear U1
                    obtain ⟨j, hj, rfl, HM, HA, HB, HU⟩ := hrel
                    obtain ⟨V, rfl⟩ : ∃ V, V = wr := ⟨_, rfl⟩
                    by_cases hlj : j < 5
                    · have hj1 : (j : Int) < 5 := by omega
                      obtain ⟨z, hz, hzr⟩ := ua14_at hlj
                      have ci : V.cell? ⟨gu, j, none⟩ = some (.int .u8 (z : Nat)) := (HU.out.cell j).trans hz
                      clear hz
                      go_step
                      go_step
                      go_upto_region 20 with fail
                      have SK := HM.out.ksX
                      have e0 : V.cell? ⟨g, 0, none⟩ = some (.slice A1 14 c1) := SK.cell 0
                      have e1 : V.cell? ⟨g, 1, none⟩ = some (.slice none 0 0) := SK.cell 1
                      have e2 : V.cell? ⟨g, 2, none⟩ = some (.int .i64 0) := SK.cell 2
                      have e3 : V.cell? ⟨g, 3, none⟩ = some (.int .i64 0) := SK.cell 3
                      have e4 : V.cell? ⟨g, 4, none⟩ = some (.int .i64 0) := SK.cell 4
                      have e5 : V.cell? ⟨g, 5, none⟩ = some (.int .i64 0) := SK.cell 5
                      have e6 : V.cell? ⟨g, 6, none⟩ = some (.slice none 0 0) := SK.cell 6
                      have e7 : V.cell? ⟨g, 7, none⟩ = some (.slice none 0 0) := SK.cell 7
                      have e8 : V.cell? ⟨g, 8, none⟩ = some (.slice none 0 0) := SK.cell 8
                      have e9 : V.cell? ⟨g, 9, none⟩ = some (.int .i64 0) := SK.cell 9
                      have e10 : V.cell? ⟨g, 10, none⟩ = some (.int .i64 0) := SK.cell 10
                      have e11 : V.cell? ⟨g, 11, none⟩ = some (.int .i64 0) := SK.cell 11
                      have e12 : V.cell? ⟨g, 12, none⟩ = some (.int .i64 0) := SK.cell 12
                      clear SK ci
                      have a0 : V.cell? ⟨ga, 0, none⟩ = some (.int .i64 c) := HA.out.cell 0
                      have a1 : V.cell? ⟨ga, 1, none⟩ = some (.int .i64 t1) := HA.out.cell 1
                      have a2 : V.cell? ⟨ga, 2, none⟩ = some (.int .u8 (h1 : Nat)) := HA.out.cell 2
                      have b0 : V.cell? ⟨gb, 0, none⟩ = some (.int .i64 d) := HB.out.cell 0
                      have b1 : V.cell? ⟨gb, 1, none⟩ = some (.int .i64 t2) := HB.out.cell 1
                      have b2 : V.cell? ⟨gb, 2, none⟩ = some (.int .u8 (h2 : Nat)) := HB.out.cell 2
                      have KN := Lib.hid (HM.out.near c d t1 t2 h1 h2 z hzr)
                      go_wp2_with fail
                      refine KN.out.mono ?_
                      rintro e Y ⟨rfl, hb⟩
                      simp only
                      have HM2 := Lib.hid (HM.out.on hb)
                      have HA2 := Lib.hid (HA.out.below hb HA.out.lt)
                      have HB2 := Lib.hid (HB.out.below hb HB.out.lt)
                      have HU2 := Lib.hid (HU.out.below hb HU.out.lt)
                      clear hb KN HM HA HB HU e0 e1 e2 e3 e4 e5 e6 e7 e8 e9 e10 e11 e12 a0 a1 a2 b0 b1 b2
                      try clear V
                      go_wp2_with fail
                      go_roundw
                      case rel => first | exact ⟨j + 1, by omega, by go_num, HM2, HA2, HB2, HU2⟩ | ((repeat apply Exists.intro); (first | exact ⟨⟨j + 1, by omega, by go_num, HM2, HA2, HB2, HU2⟩, rfl⟩ | exact ⟨by omega, by go_num, HM2, HA2, HB2, HU2⟩))
                      case measure => simp [intOf]; omega
                    · obtain rfl : j = 5 := by omega
                      clear HA HB HU
                      go_wp2_with fail
                      go_roundw
                      case rel => first | exact ⟨n + 1, by omega, by go_num, HM⟩ | ((repeat apply Exists.intro); (first | exact ⟨⟨n + 1, by omega, by go_num, HM⟩, rfl⟩ | exact ⟨by omega, by go_num, HM⟩))
                      case measure => simp [intOf]; omega
                · obtain rfl : n = 36 := by omega
                  go_wp2_with fail
                  go_roundw
                  case rel => first | exact ⟨d + 1, by omega, by omega, by go_num, HM⟩ | ((repeat apply Exists.intro); (first | exact ⟨⟨d + 1, by omega, by omega, by go_num, HM⟩, rfl⟩ | exact ⟨by omega, by omega, by go_num, HM⟩))
                  case measure => simp [intOf]; omega
            · obtain rfl : d = 15 := by omega
              go_wp2_with fail
              go_roundw
              case rel => first | exact ⟨c + 1, by omega, by omega, by go_num, HM⟩ | ((repeat apply Exists.intro); (first | exact ⟨⟨c + 1, by omega, by omega, by go_num, HM⟩, rfl⟩ | exact ⟨by omega, by omega, by go_num, HM⟩))
              case measure => simp [intOf]; omega
        · obtain rfl : c = 15 := by omega
          go_wp2_with fail
          go_loopw [10] (fun i wr => ∃ a : Nat, a ≤ 11 ∧ i = .int .u8 (a : Nat) ∧ Hid (MA w wr g CX A1 c1 (.slice none 0 0) [] (.slice none 0 0) [])) (fun i _ => 11 - (intOf i).toNat)
          case atStart => exact ⟨0, by omega, rfl, HM⟩
          case round =>
            clear HM
            try clear V
            obtain ⟨a, ha, rfl, HM⟩ := hrel
            obtain ⟨V, rfl⟩ : ∃ V, V = wr := ⟨_, rfl⟩
            by_cases hla : a < 11
            · have hai : (a : Int) < 11 := by omega
              go_step
              go_step
              go_wp2_with fail
              go_loopw [11] (fun i wr => ∃ b : Nat, b ≤ 11 ∧ i = .int .u8 (b : Nat) ∧ Hid (MA w wr g CX A1 c1 (.slice none 0 0) [] (.slice none 0 0) [])) (fun i _ => 11 - (intOf i).toNat)
              case atStart => exact ⟨0, by omega, rfl, HM⟩
              case round =>
                clear HM
                try clear V
                obtain ⟨b, hb, rfl, HM⟩ := hrel
                obtain ⟨V, rfl⟩ : ∃ V, V = wr := ⟨_, rfl⟩
                by_cases hlb : b < 11
                · have hbi : (b : Int) < 11 := by omega
                  have hab : a < 256 := by omega
                  have hbb : b < 256 := by omega
                  have b1 := ba1 V (.cells #[.int .i64 1, .string ⟨#[]⟩, .int .u8 40, .bool false, .int .i64 0, .int .i64 0, .int .i64 0, .int .u8 (a : Nat), .bool false, .int .i64 2, .string ⟨#[]⟩, .int .u8 40, .bool false, .int .i64 0, .int .i64 0, .int .i64 0, .int .u8 (b : Nat), .bool false, .int .i64 3, .string ⟨#[]⟩, .int .u8 20, .bool false, .int .i64 0, .int .i64 0, .int .i64 0, .int .u8 (b : Nat), .bool false] 41)
                  have HX := Lib.hid (Bk.new V 41 #[.int .i64 1, .string ⟨#[]⟩, .int .u8 40, .bool false, .int .i64 0, .int .i64 0, .int .i64 0, .int .u8 (a : Nat), .bool false, .int .i64 2, .string ⟨#[]⟩, .int .u8 40, .bool false, .int .i64 0, .int .i64 0, .int .i64 0, .int .u8 (b : Nat), .bool false, .int .i64 3, .string ⟨#[]⟩, .int .u8 20, .bool false, .int .i64 0, .int .i64 0, .int .i64 0, .int .u8 (b : Nat), .bool false])
                  have HM1 := Lib.hid (HM.out.on b1)
                  clear b1 HM
                  go_step
                  go_step
                  go_upto_region 30 with fail
                  generalize V.heap.size = gx at *
                  generalize (V.alloc _) = U at *
                  try clear V
                  have b2 := ba1 U (.cells IA14 3)
                  have HI := Lib.hid (Bk.new U 3 IA14)
                  have HM2 := Lib.hid (HM1.out.on b2)
                  have HX2 := Lib.hid (HX.out.below b2 HX.out.lt)
                  clear b2 HM1 HX
                  unfold IA14 at HI HM2 HX2
                  go_wp2_with fail
                  generalize U.heap.size = gi at *
                  generalize (U.alloc _) = U1 at *
                  try clear U
                  go_loopw [100] (fun i wr => ∃ j : Nat, j ≤ 7 ∧ i = .int .i64 j ∧ Hid (MA w wr g CX A1 c1 (.slice none 0 0) [] (.slice none 0 0) []) ∧ Hid (Bk wr gx 41 #[.int .i64 1, .string ⟨#[]⟩, .int .u8 40, .bool false, .int .i64 0, .int .i64 0, .int .i64 0, .int .u8 (a : Nat), .bool false, .int .i64 2, .string ⟨#[]⟩, .int .u8 40, .bool false, .int .i64 0, .int .i64 0, .int .i64 0, .int .u8 (b : Nat), .bool false, .int .i64 3, .string ⟨#[]⟩, .int .u8 20, .bool false, .int .i64 0, .int .i64 0, .int .i64 0, .int .u8 (b : Nat), .bool false]) ∧ Hid (Bk wr gi 3 IA14)) (fun i _ => 7 - (intOf i).toNat)
                  case atStart => exact ⟨0, by omega, rfl, HM2, HX2, HI⟩
                  case round =>
                    clear HM2 HX2 HI
                    try clear U1
                    obtain ⟨j, hj, rfl, HM, HX, HI⟩ := hrel
                    obtain ⟨V, rfl⟩ : ∃ V, V = wr := ⟨_, rfl⟩
                    by_cases hlj : j < 7
                    · have hj1 : (j : Int) < 7 := by omega
                      obtain ⟨z, hz, hz0, hz13⟩ := ia14_at hlj
                      have ci : V.cell? ⟨gi, j, none⟩ = some (.int .i64 z) := (HI.out.cell j).trans hz
                      clear hz
                      go_step
                      go_step
                      go_upto_region 33 with fail
                      clear ci
                      go_wp2_with fail
                      refine (at14 _ _ _ _ _).mono ?_
                      rintro e Y1 ⟨rfl, hb1⟩
                      simp only
                      go_wp2_with fail
                      refine (at14 _ _ _ _ _).mono ?_
                      rintro e Y2 ⟨rfl, hb2⟩
                      simp only
                      have hb3 := (hb1.trans (hb2.mono hb1.size)).trans ((ba1 Y2 (.cells #[.int .i64 1, .int .i64 0, .int .i64 0, .int .u8 0, .int .i64 2, .int .i64 z, .int .i64 0, .int .u8 0] 44)).mono (hb1.trans (hb2.mono hb1.size)).size)
                      have HM1 := Lib.hid (HM.out.on hb3)
                      have HX1 := Lib.hid (HX.out.below hb3 HX.out.lt)
                      have HI1 := Lib.hid (HI.out.below hb3 HI.out.lt)
                      have HL := Lib.hid (Bk.new Y2 44 #[.int .i64 1, .int .i64 0, .int .i64 0, .int .u8 0, .int .i64 2, .int .i64 z, .int .i64 0, .int .u8 0])
                      have hb4 := hb1.trans (hb2.mono hb1.size)
                      have hgl := (HM.out.on hb4).ks.lt
                      have hgxl := (HX.out.below hb4 HX.out.lt).lt
                      have hgil := (HI.out.below hb4 HI.out.lt).lt
                      clear hb1 hb2 hb3 hb4 HM HX HI
                      go_upto_if 109 with fail
                      generalize Y2.heap.size = gl at *
                      generalize (Y2.alloc _) = U at *
                      try clear Y2
                      try clear Y1
                      try clear V
                      go_cut [] (fun wz => ∃ (U : World) (T : Int), U = wz ∧ T ≤ 1 ∧ Hid (MA w U g CX A1 c1 (.slice none 0 0) [] (.slice none 0 0) []) ∧ Hid (Bk U gx 41 #[.int .i64 1, .string ⟨#[]⟩, .int .u8 40, .bool false, .int .i64 0, .int .i64 0, .int .i64 0, .int .u8 (a : Nat), .bool false, .int .i64 2, .string ⟨#[]⟩, .int .u8 40, .bool false, .int .i64 0, .int .i64 0, .int .i64 0, .int .u8 (b : Nat), .bool false, .int .i64 3, .string ⟨#[]⟩, .int .u8 20, .bool false, .int .i64 0, .int .i64 0, .int .i64 0, .int .u8 (b : Nat), .bool false]) ∧ Hid (Bk U gi 3 IA14) ∧ Hid (Bk U gl 44 #[.int .i64 1, .int .i64 0, .int .i64 0, .int .u8 0, .int .i64 2, .int .i64 z, .int .i64 T, .int .u8 0]))
                      case first =>
                        by_cases hz00 : z = 0
                        · have hzb : (z == 0) = true := by simpa using hz00
                          have HL2 : Hid (Bk (U.setCell ⟨gl, 6, none⟩ (.int .i64 1)) gl 44 #[.int .i64 1, .int .i64 0, .int .i64 0, .int .u8 0, .int .i64 2, .int .i64 z, .int .i64 1, .int .u8 0]) := Lib.hid (HL.out.set_ 6 (.int .i64 1))
                          have HM2 := Lib.hid (HM1.out.setL HL.out hgl 6 (.int .i64 1))
                          have HX2 := Lib.hid (HX1.out.far (p := ⟨gl, 6, none⟩) (show gx ≠ gl by omega) (.int .i64 1))
                          have HI2 := Lib.hid (HI1.out.far (p := ⟨gl, 6, none⟩) (show gi ≠ gl by omega) (.int .i64 1))
                          have l6 : U.cell? ⟨gl, 6, none⟩ = some (.int .i64 0) := HL.out.cell 6
                          have f6 : U.frozen? ⟨gl, 6, none⟩ = false := HL.out.frozen 6
                          clear HM1 HX1 HI1 HL hz00
                          go_wp2_with fail
                          go_meet
                          exact ⟨_, 1, rfl, by decide, HM2, HX2, HI2, HL2⟩
                        · have hzb : (z == 0) = false := by simpa using hz00
                          clear hz00
                          go_wp2_with fail
                          go_meet
                          exact ⟨_, 0, rfl, by decide, HM1, HX1, HI1, HL⟩
                      case rest =>
                        clear HM1 HX1 HI1 HL
                        obtain ⟨U2, T, rfl, hT, HM, HX, HI, HL⟩ := hcut
                        have HCH := Lib.hid (HM.out.ch (a := a) (b := b) (z := z) (T := T) HT.out HN.out HX.out HL.out (by omega))
                        have K1 := Lib.hid (fun (V : World) (hV : Below U2.heap.size U2 V) => (HCH.out.on hV).s1)
                        have K2 := Lib.hid (fun (V : World) (hV : Below U2.heap.size U2 V) => (HCH.out.on hV).s2)
                        have K3 := Lib.hid (fun (V : World) (hV : Below U2.heap.size U2 V) => (HCH.out.on hV).s3)
                        have KA := Lib.hid (fun (V : World) => at14 3 z 1 1 V)
                        clear HCH
                        go_upto_region 36 with fail
                        have SK := HM.out.ksX
                        have e0 : ∀ gp : Gr U2, gp.W.cell? ⟨g, 0, none⟩ = some (.slice A1 14 c1) := Gr.cell (SK.cell 0)
                        have e1 : ∀ gp : Gr U2, gp.W.cell? ⟨g, 1, none⟩ = some (.slice none 0 0) := Gr.cell (SK.cell 1)
                        have e2 : ∀ gp : Gr U2, gp.W.cell? ⟨g, 2, none⟩ = some (.int .i64 0) := Gr.cell (SK.cell 2)
                        have e3 : ∀ gp : Gr U2, gp.W.cell? ⟨g, 3, none⟩ = some (.int .i64 0) := Gr.cell (SK.cell 3)
                        have e4 : ∀ gp : Gr U2, gp.W.cell? ⟨g, 4, none⟩ = some (.int .i64 0) := Gr.cell (SK.cell 4)
                        have e5 : ∀ gp : Gr U2, gp.W.cell? ⟨g, 5, none⟩ = some (.int .i64 0) := Gr.cell (SK.cell 5)
                        have e6 : ∀ gp : Gr U2, gp.W.cell? ⟨g, 6, none⟩ = some (.slice none 0 0) := Gr.cell (SK.cell 6)
                        have e7 : ∀ gp : Gr U2, gp.W.cell? ⟨g, 7, none⟩ = some (.slice none 0 0) := Gr.cell (SK.cell 7)
                        have e8 : ∀ gp : Gr U2, gp.W.cell? ⟨g, 8, none⟩ = some (.slice none 0 0) := Gr.cell (SK.cell 8)
                        have e9 : ∀ gp : Gr U2, gp.W.cell? ⟨g, 9, none⟩ = some (.int .i64 0) := Gr.cell (SK.cell 9)
                        have e10 : ∀ gp : Gr U2, gp.W.cell? ⟨g, 10, none⟩ = some (.int .i64 0) := Gr.cell (SK.cell 10)
                        have e11 : ∀ gp : Gr U2, gp.W.cell? ⟨g, 11, none⟩ = some (.int .i64 0) := Gr.cell (SK.cell 11)
                        have e12 : ∀ gp : Gr U2, gp.W.cell? ⟨g, 12, none⟩ = some (.int .i64 0) := Gr.cell (SK.cell 12)
                        have l4 : ∀ gp : Gr U2, gp.W.cell? ⟨gl, 4, none⟩ = some (.int .i64 2) := Gr.cell (HL.out.cell 4)
                        have l5 : ∀ gp : Gr U2, gp.W.cell? ⟨gl, 5, none⟩ = some (.int .i64 z) := Gr.cell (HL.out.cell 5)
                        have l6 : ∀ gp : Gr U2, gp.W.cell? ⟨gl, 6, none⟩ = some (.int .i64 T) := Gr.cell (HL.out.cell 6)
                        have l7 : ∀ gp : Gr U2, gp.W.cell? ⟨gl, 7, none⟩ = some (.int .u8 0) := Gr.cell (HL.out.cell 7)
                        clear SK HL
                        refine wp_region_gr (by kernel_rfl) (by kernel_rfl) ?_
                        repeat (go_big_quiet_step ((first | (with_reducible exact Gr.call _ (fun V hV => K1.out V hV)) | (with_reducible exact Gr.call _ (fun V hV => K2.out V hV)) | (with_reducible exact Gr.call _ (fun V hV => K3.out V hV)) | (with_reducible exact Gr.call _ (fun V hV => KA.out V)))))
                        refine wpQuiet_nil ?_
                        rintro Y ⟨⟨_, hbY⟩, rfl⟩
                        have HM2 := Lib.hid (HM.out.on hbY)
                        have HX2 := Lib.hid (HX.out.below hbY HX.out.lt)
                        have HI2 := Lib.hid (HI.out.below hbY HI.out.lt)
                        clear hbY K1 K2 K3 KA e0 e1 e2 e3 e4 e5 e6 e7 e8 e9 e10 e11 e12 l4 l5 l6 l7 HM HX HI
                        go_wp2_with fail
                        go_roundw
                        case rel => first | exact ⟨j + 1, by omega, by go_num, HM2, HX2, HI2⟩ | ((repeat apply Exists.intro); (first | exact ⟨⟨j + 1, by omega, by go_num, HM2, HX2, HI2⟩, rfl⟩ | exact ⟨by omega, by go_num, HM2, HX2, HI2⟩))
                        case measure => simp [intOf]; omega
                    · obtain rfl : j = 7 := by omega
                      clear HX HI
                      go_wp2_with fail
                      go_roundw
                      case rel => first | exact ⟨b + 1, by omega, by go_num, HM⟩ | ((repeat apply Exists.intro); (first | exact ⟨⟨b + 1, by omega, by go_num, HM⟩, rfl⟩ | exact ⟨by omega, by go_num, HM⟩))
                      case measure => simp [intOf]; omega
                · obtain rfl : b = 11 := by omega
                  go_wp2_with fail
                  go_roundw
                  case rel => first | exact ⟨a + 1, by omega, by go_num, HM⟩ | ((repeat apply Exists.intro); (first | exact ⟨⟨a + 1, by omega, by go_num, HM⟩, rfl⟩ | exact ⟨by omega, by go_num, HM⟩))
                  case measure => simp [intOf]; omega
            · obtain rfl : a = 11 := by omega
              have HE := Lib.hid HM.out.be
              have HT1 := Lib.hid (HT.out.below HE.out HT.out.lt)
              have HN1 := Lib.hid (HN.out.below HE.out HN.out.lt)
              clear HM
              go_wp2_with fail
              refine (many_any V HT1.out HN1.out).mono ?_
              rintro e Z ⟨rfl, hz⟩
              simp only
              have HE2 := Lib.hid (HE.out.trans (hz.mono HE.out.size))
              have HT2 := Lib.hid (HT1.out.below hz HT1.out.lt)
              have HN2 := Lib.hid (HN1.out.below hz HN1.out.lt)
              clear hz HE HT1 HN1
              go_wp2_with fail
              refine (awake14_true Z HT2.out HN2.out).mono ?_
              rintro e Z2 ⟨rfl, hz⟩
              simp only
              have HE3 := Lib.hid (HE2.out.trans (hz.mono HE2.out.size))
              clear hz HE2
              go_wp2_with fail
              go_ret
              exact ⟨rfl, HE3.out⟩
end Go.Proofs.YtmhikcleekfbpaaDoor
