/-
  The walks of plug.Cold, Supply, Demand.
-/
import Derived.Test.YthijgmkflfaccaaPlC
namespace Go.Proofs.Ythijgmkflfaccaa
open Go.RowKit

set_option maxRecDepth 100000 in
set_option maxHeartbeats 4000000 in
theorem pSupply_any (s : Shp) (h : Hd) (w : World) (hsh : ShpR w (Lt w.heap.size) s h) (hf : Few s) (hi : Ints s) :
    Calls Try.prog 20 #[.agg (shpA s h)] w (Ret w (.int .i64 (supF s : Nat))) := by
  have hb0 := ba1 w (.cells (shpA s h) 37)
  have KP := Lib.hid (plugs_any s h _ (hsh.on hb0) hf hi)
  have HB0 := Lib.hid hb0
  have HV : Hid (supF s = (pairsF s).length) := Lib.hid rfl
  clear hsh hb0
  generalize supF s = r at *
  unfold shpA at *
  go_enter Try.func20, Try.ntmps20
  go_wp2_with fail
  refine KP.out.mono ?_
  rintro e w1 ⟨bm, n, rfl, hm, hb1⟩
  simp only
  have HB1 := Lib.hid (HB0.out.trans (hb1.mono HB0.out.size))
  have hln := run_len_ms hm 3
  rw [← HV.out] at hln
  clear KP hb1 HB0
  go_wp2_with fail
  go_ret
  exact ⟨rfl, HB1.out⟩
set_option maxRecDepth 100000 in
set_option maxHeartbeats 2000000 in
theorem demand11 (b : Bx) (size gz : Nat) (w : World) (hg : w.cell? ⟨gz, 0, none⟩ = some (.int .u8 (size : Nat))) :
    Calls Try.prog 50 #[.agg (bxL b).toArray, .pointer (some ⟨gz, 0, none⟩)] w (Ret w (.bool (reefB size b))) := by
  obtain ⟨b0, b1, b2, b3, b4, b5, b6, b7, b8⟩ := b
  have hgl := block_lt_of_cell hg
  simp only at hgl
  have e0 : ((b2 : Int) == (size : Int)) = (b2 == size) := int_beq _ _
  unfold reefB bxL
  simp only
  cases b8 with
  | false =>
    go_enter Try.func50, Try.ntmps50
    go_wp2
    go_ret
    exact ⟨rfl, ba1 w _⟩
  | true =>
    go_enter Try.func50, Try.ntmps50
    go_wp2
    go_ret
    exact ⟨by simp, ba1 w _⟩
set_option maxRecDepth 100000 in
set_option maxHeartbeats 2000000 in
theorem demand1 (A : Option Addr) (c : Nat) (bs : List Bx) (size gb : Nat) (w : World) (hb : SlT tBx w (Lt w.heap.size) A bs) (hbl : bs.length ≤ 1000000) (hg : w.cell? ⟨gb, 0, none⟩ = some (.slice A bs.length c)) :
    Calls Try.prog 48 #[.int .u8 (size : Nat), .pointer (some ⟨gb, 0, none⟩)] w (Ret w (.int .i64 ((bs.filter (reefB size)).length : Nat))) := by
  have hb0 := ba1 w (.cells #[.int .u8 (size : Nat)] 5)
  have hgl := block_lt_of_cell hg
  simp only at hgl
  have HK := Lib.hid (Bk.new w 5 #[.int .u8 (size : Nat)])
  have KO := Lib.hid (onlyBx_any A c bs 50 #[.pointer (some ⟨w.heap.size, 0, none⟩)] (reefB size) _ (hb.on hb0) hbl Try.call50 (fun x w' _ hb' => demand11 x size _ w' ((HK.out.below hb' HK.out.lt).cell 0)))
  have HB0 := Lib.hid hb0
  clear hb hb0 HK
  generalize bs.filter (reefB size) = fl at *
  go_enter Try.func48, Try.ntmps48
  go_wp2_with fail
  refine KO.out.mono ?_
  rintro e w3 ⟨v, rfl, hv, hb3⟩
  simp only
  obtain ⟨AF, cF, rfl, _, _, _⟩ := OwnT.sl hv
  have HB3 := Lib.hid (HB0.out.trans (hb3.mono HB0.out.size))
  clear KO hb3 HB0 hv
  go_wp2_with fail
  go_ret
  exact ⟨rfl, HB3.out⟩
set_option maxRecDepth 100000 in
set_option maxHeartbeats 4000000 in
theorem pDemand_any (A : Option Addr) (c : Nat) (bs : List Bx) (w : World) (hb : SlT tBx w (Lt w.heap.size) A bs) (hbl : bs.length ≤ 1000000) :
    Calls Try.prog 21 #[.slice A bs.length c] w (Ret w (.int .i64 (demF bs))) := by
  have hb0 := ba1 w (.cells #[.slice A bs.length c] 38)
  have HK := Lib.hid (Bk.new w 38 #[.slice A bs.length c])
  have KD : Hid (∀ (size : Nat) (V : World), Below (w.alloc (.cells #[.slice A bs.length c] 38)).heap.size (w.alloc (.cells #[.slice A bs.length c] 38)) V → Calls Try.prog 48 #[.int .u8 (size : Nat), .pointer (some ⟨w.heap.size, 0, none⟩)] V (Ret V (.int .i64 ((bs.filter (reefB size)).length : Nat)))) := Lib.hid fun size V hV => demand1 A c bs size _ V ((hb.on hb0).on hV) hbl ((HK.out.below hV HK.out.lt).cell 0)
  have HB0 := Lib.hid hb0
  have hl1 := List.length_filter_le (reefB 40) bs
  have hl2 := List.length_filter_le (reefB 20) bs
  unfold demF
  clear hb hb0 HK
  have K1 := Lib.hid (KD.out 40 _ (Below.refl _ _))
  have K2 := Lib.hid (KD.out 20)
  clear KD
  generalize (bs.filter (reefB 40)).length = n1 at *
  generalize (bs.filter (reefB 20)).length = n2 at *
  go_enter Try.func21, Try.ntmps21
  go_wp2_with fail
  refine K1.out.mono ?_
  rintro e w3 ⟨rfl, hb3⟩
  simp only
  have HB3 := Lib.hid (HB0.out.trans (hb3.mono HB0.out.size))
  have K3 := Lib.hid (K2.out w3 hb3)
  clear K1 K2 HB0 hb3
  go_wp2_with fail
  refine K3.out.mono ?_
  rintro e w4 ⟨rfl, hb4⟩
  simp only
  clear K3
  go_wp2_with fail
  go_ret
  exact ⟨rfl, HB3.out.trans (hb4.mono HB3.out.size)⟩
set_option maxRecDepth 100000 in
set_option maxHeartbeats 4000000 in
theorem pCold_any (A : Option Addr) (c : Nat) (bs : List Bx) (A2 : Option Addr) (c2 : Nat) (st : List Stw) (w : World) (hb : SlT tBx w (Lt w.heap.size) A bs) (hbl : bs.length ≤ 1000000)
    (hs : SlT tStw w (Lt w.heap.size) A2 st) (hl : st.length ≤ 1000000) :
    Calls Try.prog 12 #[.slice A bs.length c, .slice A2 st.length c2] w (OwnL tBx 51 w (coldF bs st)) := by
  have hb0 := ba1 w (.cells #[.slice A bs.length c] 38)
  have HBB := Lib.hid (Bk.new w 38 #[.slice A bs.length c])
  have HBX := Lib.hid (hb.on hb0)
  have HST := Lib.hid (hs.on hb0)
  have HB0 := Lib.hid hb0
  have hlf := List.length_filter_le (coldB bs) st
  clear hb hs hb0
  have KO := Lib.hid (onlyStw_any A2 c2 st 32 #[.pointer (some ⟨w.heap.size, 0, none⟩)] (coldB bs) _ HST.out hl Try.call32 (fun x w' _ hb' => pcold1 A c bs x _ w' (HBX.out.on hb') hbl ((HBB.out.below hb' HBB.out.lt).cell 0)))
  go_enter Try.func12, Try.ntmps12
  go_wp2_with fail
  refine KO.out.mono ?_
  rintro e w2 ⟨v, rfl, hv, hb2⟩
  simp only
  obtain ⟨AF, cF, rfl, _, _, hsF⟩ := OwnT.sl hv
  have HSF := Lib.hid hsF
  have HB2 := Lib.hid (HB0.out.trans (hb2.mono HB0.out.size))
  have HBB2 := Lib.hid (HBB.out.below hb2 HBB.out.lt)
  have HBX2 := Lib.hid (HBX.out.on hb2)
  have HVF : Hid (coldF bs st = (st.filter (coldB bs)).map fun x => (findBx bs x.box).1) := Lib.hid rfl
  clear KO HB0 HST HBB HBX hv hb2 hsF
  have hwz : w.heap.size < w2.heap.size := HBB2.out.lt
  generalize coldF bs st = R at *
  generalize st.filter (coldB bs) = fl at *
  go_wp2_with fail
  go_loopw [5, 14] (fun v i wr => ∃ (k : Nat) (m : List Bx), k ≤ fl.length ∧ i = .int .i64 k ∧ m.length = k ∧ Hid (m = (fl.take k).map fun x => (findBx bs x.box).1) ∧ OwnT tBx 51 wr w2.heap.size v m ∧ Below w2.heap.size w2 wr) (fun _ i _ => fl.length - (intOf i).toNat)
  case atStart => exact ⟨0, [], Nat.zero_le _, rfl, by simp, Lib.hid (by simp), OwnT.nil, Below.refl _ _⟩
  case round =>
    obtain ⟨k, m, hk, rfl, hm, HMM, hown, hb⟩ := hrel
    obtain ⟨V, rfl⟩ : ∃ V, V = wr := ⟨_, rfl⟩
    by_cases hlt : k < fl.length
    · obtain ⟨b, off, rfl, hbB, c0, c1, c2', c3⟩ := (HSF.out.below hb).stw hlt
      have HP : Hid ((fl.take (k + 1)).map (fun x => (findBx bs x.box).1) = (fl.take k).map (fun x => (findBx bs x.box).1) ++ [(findBx bs (fl.getD k default).box).1]) := Lib.hid (by rw [List.take_succ_eq_append_getElem hlt, List.map_append]; simp [hlt])
      have hk0 : (0 : Int) ≤ (k : Int) := by omega
      have hk1 : (k : Int) < (fl.length : Int) := by omega
      generalize fl.getD k default = x at *
      obtain ⟨x0, x1, x2, x3⟩ := x
      simp only at c0 c1 c2' c3 HP
      have hown' := hown.below (ba1 V (.cells #[.int .i64 x0, .int .i64 x1, .int .i64 x2, .int .u8 (x3 : Nat)] 49))
      have hx := Bk.new V 49 #[.int .i64 x0, .int .i64 x1, .int .i64 x2, .int .u8 (x3 : Nat)]
      have hbW := hb.trans ((ba1 V (.cells #[.int .i64 x0, .int .i64 x1, .int .i64 x2, .int .u8 (x3 : Nat)] 49)).mono hb.size)
      go_upto_region 5 with fail
      clear hown c0 c1 c2' c3 hb
      generalize V.heap.size = gx at *
      generalize (V.alloc _) = W at *
      try clear V
      have y0 : W.cell? ⟨gx, 0, none⟩ = some (.int .i64 x0) := hx.cell 0
      have z0 : W.cell? ⟨w.heap.size, 0, none⟩ = some (.slice A bs.length c) := (HBB2.out.below hbW HBB2.out.lt).cell 0
      have KF := Lib.hid (stowFind_any A c bs x0 W (HBX2.out.on hbW) hbl)
      clear hx
      generalize findBx bs x0 = fb at *
      obtain ⟨⟨b0, b1, b2, b3, b4, b5, b6, b7, b8⟩, ok⟩ := fb
      unfold bxL at KF
      simp only at KF HP
      go_wp2_with fail
      refine KF.out.mono ?_
      rintro e w3 ⟨rfl, hb3⟩
      simp only
      have hB4 := hbW.trans ((hb3.trans ((ba1 w3 (.cells #[.int .i64 b0, .string b1, .int .u8 (b2 : Nat), .bool b3, .int .i64 b4, .int .i64 b5, .int .i64 b6, .int .u8 (b7 : Nat), .bool b8] 51)).mono hb3.size)).mono hbW.size)
      have hown2 := (hown'.below hb3).below (ba1 w3 (.cells #[.int .i64 b0, .string b1, .int .u8 (b2 : Nat), .bool b3, .int .i64 b4, .int .i64 b5, .int .i64 b6, .int .u8 (b7 : Nat), .bool b8] 51))
      have hy := Bk.new w3 51 #[.int .i64 b0, .string b1, .int .u8 (b2 : Nat), .bool b3, .int .i64 b4, .int .i64 b5, .int .i64 b6, .int .u8 (b7 : Nat), .bool b8]
      clear KF y0 z0 hown' hb3 hbW
      go_upto_region 6 with fail
      generalize w3.heap.size = gy at *
      generalize (w3.alloc _) = W4 at *
      try clear w3
      have y0 : W4.cell? ⟨gy, 0, none⟩ = some (.int .i64 b0) := hy.cell 0
      have y1 : W4.cell? ⟨gy, 1, none⟩ = some (.string b1) := hy.cell 1
      have y2 : W4.cell? ⟨gy, 2, none⟩ = some (.int .u8 (b2 : Nat)) := hy.cell 2
      have y3 : W4.cell? ⟨gy, 3, none⟩ = some (.bool b3) := hy.cell 3
      have y4 : W4.cell? ⟨gy, 4, none⟩ = some (.int .i64 b4) := hy.cell 4
      have y5 : W4.cell? ⟨gy, 5, none⟩ = some (.int .i64 b5) := hy.cell 5
      have y6 : W4.cell? ⟨gy, 6, none⟩ = some (.int .i64 b6) := hy.cell 6
      have y7 : W4.cell? ⟨gy, 7, none⟩ = some (.int .u8 (b7 : Nat)) := hy.cell 7
      have y8 : W4.cell? ⟨gy, 8, none⟩ = some (.bool b8) := hy.cell 8
      clear hy
      obtain ⟨xs, ho, hfl⟩ := hown2
      have hz0 := hB4.size
      go_wp2_with (at_builtin; (refine wpList_append1 el_bx rfl (.tmp 25) (.tmp 27) rfl w2.heap.size _ m.length xs rfl ho #[.int .i64 b0, .string b1, .int .u8 (b2 : Nat), .bool b3, .int .i64 b4, .int .i64 b5, .int .i64 b6, .int .u8 (b7 : Nat), .bool b8] _ rfl rfl rfl ?c1 ?c2 ?c3 ?_))
      case c1 => unfold maxLen; omega
      case c2 => omega
      case c3 => omega
      intro v' w3 hown' hgr hd3 hbel
      have HM2 : Hid (m ++ [(⟨b0, b1, b2, b3, b4, b5, b6, b7, b8⟩ : Bx)] = (fl.take (k + 1)).map fun x => (findBx bs x.box).1) := Lib.hid (by rw [HP.out, HMM.out])
      go_wp2
      go_roundw
      case rel => (repeat apply Exists.intro); (first | exact ⟨⟨k + 1, m ++ [(⟨b0, b1, b2, b3, b4, b5, b6, b7, b8⟩ : Bx)], by omega, by go_num, by simp; omega, HM2, OwnT.append1 (T := tBx) (x := ⟨b0, b1, b2, b3, b4, b5, b6, b7, b8⟩) hfl (cs := bxL ⟨b0, b1, b2, b3, b4, b5, b6, b7, b8⟩) rfl (by rw [hm]; exact hown') hgr hd3, hB4.trans hbel⟩, rfl⟩ | exact ⟨by omega, by go_num, by simp; omega, HM2, OwnT.append1 (T := tBx) (x := ⟨b0, b1, b2, b3, b4, b5, b6, b7, b8⟩) hfl (cs := bxL ⟨b0, b1, b2, b3, b4, b5, b6, b7, b8⟩) rfl (by rw [hm]; exact hown') hgr hd3, hB4.trans hbel⟩)
      case measure => simp [intOf]; omega
    · have hkn : m = R := by rw [HMM.out, HVF.out, List.take_of_length_le (by omega)]
      subst hkn
      go_wp2
      go_ret
      exact ⟨_, rfl, hown.down HB2.out.size, HB2.out.trans (hb.mono HB2.out.size)⟩
end Go.Proofs.Ythijgmkflfaccaa
