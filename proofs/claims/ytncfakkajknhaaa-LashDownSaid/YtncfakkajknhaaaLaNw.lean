/-
  The walk of the statement LashDown.
-/
import Derived.Test.YtncfakkajknhaaaLaNp
namespace Go.Proofs.Ytncfakkajknhaaa
open Go.RowKit

/-- The worlds of the region that exchanges two boxes. -/
structure NC (Z V : World) (vN : Value) (st : List Stw) (i k : Nat) (xb yb : Int) : Prop where
  be : Cb Z V
  own : ∃ u v : Stw, u.box = xb ∧ v.box = yb ∧ OwnS tStw 61 V Z.heap.size (Lt Z.heap.size) vN ((st.set i u).set k v)
theorem NC.grow {Z V V' : World} {vN : Value} {st : List Stw} {i k : Nat} {xb yb : Int} (h : NC Z V vN st i k xb yb) (hb : Below V.heap.size V V') : NC Z V' vN st i k xb yb := by
  obtain ⟨u, v, e1, e2, ho⟩ := h.own
  have hbe : Below Z.heap.size Z V := h.be
  exact ⟨hbe.trans (hb.mono hbe.size), u, v, e1, e2, ho.below hb⟩
theorem rd_s {V : World} {S : Nat → Prop} {x x' : Stw} (j : Nat) (u : Value) (hc : (stwL x).set j u = stwL x') : ∀ cs, tStw.rd V S cs x → tStw.rd V S (cs.set j u) x' := by
  rintro cs rfl
  exact hc
theorem own_slot {V : World} {B b c : Nat} {S : Nat → Prop} {l : List Stw} {i : Nat} {x : Stw} (h : OwnS tStw 61 V B S (.slice (some ⟨b, 0, none⟩) l.length c) l) (hx : l[i]? = some x) (y : Slt) :
    OwnS tStw 61 (((V.setCell ⟨b, i * 4 + 1, none⟩ (.int .i64 y.col)).setCell ⟨b, i * 4 + 2, none⟩ (.int .i64 y.tier)).setCell ⟨b, i * 4 + 3, none⟩ (.int .u8 (y.half : Nat))) B S (.slice (some ⟨b, 0, none⟩) l.length c) (l.set i ⟨x.box, y⟩) := by
  obtain ⟨xb, xc, xt, xh⟩ := x
  obtain ⟨yc, yt, yh⟩ := y
  have hi : i < l.length := by
    rcases Nat.lt_or_ge i l.length with h | h
    · exact h
    · rw [List.getElem?_eq_none h] at hx; cases hx
  have h1 := OwnS.set (T := tStw) (x' := ⟨xb, yc, xt, xh⟩) (j := 1) (u := .int .i64 yc) h hx (by decide) (rd_s 1 _ rfl)
  have h2 := OwnS.set (T := tStw) (x' := ⟨xb, yc, yt, xh⟩) (j := 2) (u := .int .i64 yt) h1 (List.getElem?_set_self hi) (by decide) (rd_s 2 _ rfl)
  have h3 := OwnS.set (T := tStw) (x' := ⟨xb, yc, yt, yh⟩) (j := 3) (u := .int .u8 (yh : Nat)) h2 (List.getElem?_set_self (by rw [List.length_set]; exact hi)) (by decide) (rd_s 3 _ rfl)
  rw [List.set_set, List.set_set, List.length_set] at h3
  exact h3
theorem set_same {l : List Stw} {i : Nat} (hi : i < l.length) : l.set i (l.getD i default) = l := by
  rw [show l.getD i default = l[i] by simp [hi]]
  exact List.set_getElem_self hi
set_option maxRecDepth 100000 in
set_option maxHeartbeats 8000000 in
theorem lashDown_any (A : Option Addr) (c : Nat) (pl : List (Nat × Nat × Nat × Bool)) (covers : Nat) (A2 : Option Addr) (c2 : Nat) (ds : List Drp) (fi se : Nat) (hfi : fi < 256) (hse : se < 256) (w : World)
    (hs : SlT tPl w (Lt w.heap.size) A pl) (hl : ∀ p ∈ pl, p.1 < 256 ∧ p.2.1 < 256 ∧ p.2.2.1 < 256) (hc : pl.length ≤ c) (hcm : c ≤ maxLen)
    (hs2 : SlT tDrp w (Lt w.heap.size) A2 ds) (hd : ∀ d ∈ ds, d.col < 256 ∧ d.kilos < 256) (hc2 : ds.length ≤ c2) (hcm2 : c2 ≤ maxLen) :
    Calls Try.prog 9 #[.slice A pl.length c, .int .u32 covers, .slice A2 ds.length c2, .int .u8 (fi : Nat), .int .u8 (se : Nat)] w (TrueRet w) := by
  have HC := Lib.hid (lashedShipB_any A c pl covers 0 (by decide) A2 c2 ds w hs hl hc hcm hs2 hd hc2 hcm2)
  clear hs hl hc hcm hs2 hd hc2 hcm2
  go_enter Try.func9, Try.ntmps9
  go_wp2_with fail
  refine HC.out.mono ?_
  rintro e w1 ⟨s, h, v1, v2, bs, st, rfl, hLm, hLd, hLow, hrd, ob, os, hb1⟩
  simp only
  clear HC
  obtain ⟨A1, q1, rfl, hq1, hqm1, hsb⟩ := OwnS.sl' ob
  obtain ⟨A3, q3, rfl, hq3, hqm3, hss⟩ := OwnS.sl' os
  have hW : WW w (w1.alloc (.cells (shpA s h) 37)) w1.heap.size s h A1 bs A3 st := by
    have hx := ba1 w1 (.cells (shpA s h) 37)
    exact ⟨Bk.new w1 _ _, (hrd.more fun x hx => hx.1).on hx, hsb.on hx, hss.on hx, hb1.trans (hx.mono hb1.size)⟩
  have HW := Lib.hid hW
  have HLOW := Lib.hid hLow
  have HLM := Lib.hid hLm
  have HLD := Lib.hid hLd
  have HQ3 := Lib.hid hq3
  have HLH : Hid (∀ c ∈ s.cols, c.lash ≤ 1000000000000000) := Lib.hid fun c hc => by have := hLm.col c hc; omega
  have HKL : Hid (KgL bs) := Lib.hid fun b hb => by have := (hLd.box b hb).2; omega
  have HIN : Hid (∀ x ∈ st, 0 ≤ x.slot.tier ∧ x.slot.tier < 5 ∧ 0 ≤ x.slot.col ∧ x.slot.col < s.cols.length ∧ x.slot.half < 3) := Lib.hid fun x hx => hLd.tier hLm hx
  have hbl := hLd.nine
  have hsl := hLd.stlen
  have hc1 := hLm.one
  have hc12 := hLm.twelve
  clear hW ob os hsb hss hrd hb1 hLm hLd hLow hq1 hq3
  unfold maxLen at hqm1 hqm3
  unfold shpA at HW ⊢
  go_upto_region 2 with fail
  generalize w1.heap.size = g at *
  generalize (w1.alloc _) = V at *
  clear w1
  by_cases hn : st.length = 0
  · have hnb : ((st.length : Int) == 0) = true := by rw [hn]; rfl
    have HW9 := Lib.hid HW.out.be
    clear HW HIN HLH HKL HLM HLD HLOW hn
    go_wp2_with fail
    refine (awake11_true _).mono ?_
    rintro e W9 ⟨rfl, hb⟩
    simp only
    go_wp2_with fail
    go_ret
    exact ⟨rfl, HW9.out.trans (hb.mono HW9.out.size)⟩
  · have hnb : ((st.length : Int) == 0) = false := by simpa using hn
    have hpos : 0 < st.length := by omega
    obtain ⟨b3, off3, rfl, hbB3, _⟩ := HW.out.sx.stw (j := 0) hpos
    obtain ⟨ii, hii⟩ : ∃ ii, ii = fi % st.length := ⟨_, rfl⟩
    obtain ⟨kk, hkk⟩ : ∃ kk, kk = se % st.length := ⟨_, rfl⟩
    have hi : ii < st.length := by rw [hii]; exact Nat.mod_lt _ hpos
    have hk : kk < st.length := by rw [hkk]; exact Nat.mod_lt _ hpos
    have HRI : Hid ((fi : Int) % (st.length : Int) = (ii : Int)) := Lib.hid (by rw [hii]; rfl)
    have HRK : Hid ((se : Int) % (st.length : Int) = (kk : Int)) := Lib.hid (by rw [hkk]; rfl)
    clear hii hkk hn
    have HXX : Hid (∃ x, st.getD ii default = x) := Lib.hid ⟨_, rfl⟩
    obtain ⟨x, hx⟩ := HXX.out
    have HYY : Hid (∃ y, st.getD kk default = y) := Lib.hid ⟨_, rfl⟩
    obtain ⟨y, hy⟩ := HYY.out
    have HAA := Lib.hid (HLD.out.box_at (getD_memD hi default)).1
    have HBB := Lib.hid (HLD.out.box_at (getD_memD hk default)).1
    rw [hx] at HAA
    rw [hy] at HBB
    obtain ⟨xb, xc, xt, xh⟩ := x
    obtain ⟨yb, yc, yt, yh⟩ := y
    simp only at HAA HBB
    have HXI := Lib.hid hx
    have HYI := Lib.hid hy
    clear hx hy HXX HYY
    have HFX : Hid (∃ a, findBx bs xb = a) := Lib.hid ⟨_, rfl⟩
    obtain ⟨a, ha⟩ := HFX.out
    have HFY : Hid (∃ b, findBx bs yb = b) := Lib.hid ⟨_, rfl⟩
    obtain ⟨b, hb0⟩ := HFY.out
    rw [ha] at HAA
    rw [hb0] at HBB
    obtain ⟨⟨a0, a1, a2, a3, a4, a5, a6, a7, a8⟩, oka⟩ := a
    obtain ⟨⟨b0, b1, b2, b3z, b4, b5, b6, b7, b8⟩, okb⟩ := b
    obtain rfl : oka = true := HAA.out
    obtain rfl : okb = true := HBB.out
    have HFA := Lib.hid ha
    have HFB := Lib.hid hb0
    clear ha hb0 HAA HBB HFX HFY
    have HCXE := HXI.out
    have HCYE := HYI.out
    have HCX : Hid (∀ X : World, Below V.heap.size V X → X.cell? ⟨b3, off3 + ii * 4, none⟩ = some (.int .i64 xb) ∧ X.cell? ⟨b3, off3 + ii * 4 + 1, none⟩ = some (.int .i64 xc) ∧ X.cell? ⟨b3, off3 + ii * 4 + 2, none⟩ = some (.int .i64 xt) ∧ X.cell? ⟨b3, off3 + ii * 4 + 3, none⟩ = some (.int .u8 (xh : Nat))) := Lib.hid fun X hX => by
      obtain ⟨b', off', hA3, _, q0, q1, q2, q3⟩ := (HW.out.on hX).sx.stw (j := ii) hi
      injection hA3 with hA3
      injection hA3 with hA3 hA4 _
      subst hA3 hA4
      rw [HCXE] at q0 q1 q2 q3
      exact ⟨q0, q1, q2, q3⟩
    have HCY : Hid (∀ X : World, Below V.heap.size V X → X.cell? ⟨b3, off3 + kk * 4, none⟩ = some (.int .i64 yb) ∧ X.cell? ⟨b3, off3 + kk * 4 + 1, none⟩ = some (.int .i64 yc) ∧ X.cell? ⟨b3, off3 + kk * 4 + 2, none⟩ = some (.int .i64 yt) ∧ X.cell? ⟨b3, off3 + kk * 4 + 3, none⟩ = some (.int .u8 (yh : Nat))) := Lib.hid fun X hX => by
      obtain ⟨b', off', hA3, _, q0, q1, q2, q3⟩ := (HW.out.on hX).sx.stw (j := kk) hk
      injection hA3 with hA3
      injection hA3 with hA3 hA4 _
      subst hA3 hA4
      rw [HCYE] at q0 q1 q2 q3
      exact ⟨q0, q1, q2, q3⟩
    clear HCXE HCYE
    have KFA : Hid (∀ X : World, Below V.heap.size V X → Calls Try.prog 21 #[.slice A1 bs.length q1, .int .i64 xb] X (Ret X (.tuple #[.agg #[.int .i64 a0, .string a1, .int .u8 (a2 : Nat), .bool a3, .int .i64 a4, .int .i64 a5, .int .i64 a6, .int .u8 (a7 : Nat), .bool a8], .bool true]))) := Lib.hid fun X hX => by
      have k1 := stowFind_any A1 q1 bs xb X (HW.out.on hX).bx HLD.out.bl
      rw [HFA.out] at k1
      exact k1
    have KFB : Hid (∀ X : World, Below V.heap.size V X → Calls Try.prog 21 #[.slice A1 bs.length q1, .int .i64 yb] X (Ret X (.tuple #[.agg #[.int .i64 b0, .string b1, .int .u8 (b2 : Nat), .bool b3z, .int .i64 b4, .int .i64 b5, .int .i64 b6, .int .u8 (b7 : Nat), .bool b8], .bool true]))) := Lib.hid fun X hX => by
      have k1 := stowFind_any A1 q1 bs yb X (HW.out.on hX).bx HLD.out.bl
      rw [HFB.out] at k1
      exact k1
    have i0 : (0 : Int) ≤ (ii : Int) := by omega
    have i1 : (ii : Int) < (st.length : Int) := by omega
    have k0 : (0 : Int) ≤ (kk : Int) := by omega
    have k1 : (kk : Int) < (st.length : Int) := by omega
    go_upto_region 4 with fail
    refine wp_region_gr (by kernel_rfl) (by kernel_rfl) ?_
    repeat (go_big_quiet_step (fail))
    refine wpQuiet_nil ?_
    rintro Y ⟨⟨_, hbY⟩, rfl⟩
    simp only [HRI.out, HRK.out]
    have HBY := Lib.hid hbY
    clear hbY HRI HRK hnb
    obtain ⟨c0, c1, c2', c3⟩ := HCX.out Y HBY.out
    have K1 := Lib.hid (KFA.out Y HBY.out)
    clear c1 c2' c3
    go_wp2_with fail
    refine K1.out.mono ?_
    rintro e Y1 ⟨rfl, hb⟩
    simp only
    clear K1 c0 KFA
    have hY := hb.trans ((ba1 Y1 (.cells #[.int .i64 a0, .string a1, .int .u8 (a2 : Nat), .bool a3, .int .i64 a4, .int .i64 a5, .int .i64 a6, .int .u8 (a7 : Nat), .bool a8] 43)).mono hb.size)
    have HKA := Lib.hid (Bk.new Y1 43 #[.int .i64 a0, .string a1, .int .u8 (a2 : Nat), .bool a3, .int .i64 a4, .int .i64 a5, .int .i64 a6, .int .u8 (a7 : Nat), .bool a8])
    have HB1 := Lib.hid (HBY.out.trans (hY.mono HBY.out.size))
    clear hY hb HBY
    try clear Y
    go_upto_region 6 with fail
    generalize Y1.heap.size = ga at *
    generalize (Y1.alloc _) = Y at *
    try clear Y1
    obtain ⟨c0, c1, c2', c3⟩ := HCY.out Y HB1.out
    have K1 := Lib.hid (KFB.out Y HB1.out)
    clear c1 c2' c3
    go_wp2_with fail
    refine K1.out.mono ?_
    rintro e Y1 ⟨rfl, hb⟩
    simp only
    clear K1 c0 KFB
    have hY := hb.trans ((ba1 Y1 (.cells #[.int .i64 b0, .string b1, .int .u8 (b2 : Nat), .bool b3z, .int .i64 b4, .int .i64 b5, .int .i64 b6, .int .u8 (b7 : Nat), .bool b8] 43)).mono hb.size)
    have HKB := Lib.hid (Bk.new Y1 43 #[.int .i64 b0, .string b1, .int .u8 (b2 : Nat), .bool b3z, .int .i64 b4, .int .i64 b5, .int .i64 b6, .int .u8 (b7 : Nat), .bool b8])
    have HKA1 := Lib.hid (HKA.out.below hY HKA.out.lt)
    have HB2 := Lib.hid (HB1.out.trans (hY.mono HB1.out.size))
    clear hY hb HB1 HKA
    try clear Y
    go_upto_region 7 with fail
    generalize Y1.heap.size = gb at *
    generalize (Y1.alloc _) = W at *
    try clear Y1
    obtain ⟨_, c1, c2', c3⟩ := HCX.out W HB2.out
    obtain ⟨_, d1, d2, d3⟩ := HCY.out W HB2.out
    have hlt3 : b3 < W.heap.size := Nat.lt_of_lt_of_le hbB3 HB2.out.size
    go_cut [20, 21, 70, 71, 72, 73, 74, 75, 76, 77, 78, 79] (fun v20 v21 _ _ _ _ _ _ _ _ _ _ wz => ∃ gx gy : Nat, v20 = .pointer (some ⟨gx, 0, none⟩) ∧ v21 = .pointer (some ⟨gy, 0, none⟩) ∧ Hid (Bk wz gx 47 #[.int .i64 xc, .int .i64 xt, .int .u8 (xh : Nat)]) ∧ Hid (Bk wz gy 47 #[.int .i64 yc, .int .i64 yt, .int .u8 (yh : Nat)]) ∧ Hid (Below W.heap.size W wz))
    case first =>
      go_region
      all_goals (go_wp2_with fail; go_meet; refine ⟨_, _, rfl, rfl, Lib.hid ?_, Lib.hid ?_, Lib.hid ?_⟩)
      all_goals (first | exact (Bk.new W _ _).alloc _ | exact Bk.at_ _ _ (by simp) | exact below_drewN (ba2 W _ _) 1 | exact ba2 W _ _)
    case rest =>
      obtain ⟨gx, gy, rfl, rfl, HKX, HKY, HBZ⟩ := hcut
      obtain ⟨Z, rfl⟩ : ∃ V, V = wc := ⟨_, rfl⟩
      have HKA2 : Hid (Bk Z ga 43 #[.int .i64 a0, .string a1, .int .u8 (a2 : Nat), .bool a3, .int .i64 a4, .int .i64 a5, .int .i64 a6, .int .u8 (a7 : Nat), .bool a8]) := Lib.hid (HKA1.out.below HBZ.out HKA1.out.lt)
      have HKB2 : Hid (Bk Z gb 43 #[.int .i64 b0, .string b1, .int .u8 (b2 : Nat), .bool b3z, .int .i64 b4, .int .i64 b5, .int .i64 b6, .int .u8 (b7 : Nat), .bool b8]) := Lib.hid (HKB.out.below HBZ.out HKB.out.lt)
      have HB3 : Hid (Below V.heap.size V Z) := Lib.hid (HB2.out.trans (HBZ.out.mono HB2.out.size))
      clear HBZ HKA1 HKB HB2 c1 c2' c3 d1 d2 d3
      go_upto_region 8 with fail
      try clear W
      have HW9 := Lib.hid (HW.out.on HB3.out).be
      have x0 : Z.cell? ⟨gx, 0, none⟩ = some (.int .i64 xc) := HKX.out.cell 0
      have x1 : Z.cell? ⟨gx, 1, none⟩ = some (.int .i64 xt) := HKX.out.cell 1
      have x2 : Z.cell? ⟨gx, 2, none⟩ = some (.int .u8 (xh : Nat)) := HKX.out.cell 2
      have y0 : Z.cell? ⟨gy, 0, none⟩ = some (.int .i64 yc) := HKY.out.cell 0
      have y1 : Z.cell? ⟨gy, 1, none⟩ = some (.int .i64 yt) := HKY.out.cell 1
      have y2 : Z.cell? ⟨gy, 2, none⟩ = some (.int .u8 (yh : Nat)) := HKY.out.cell 2
      have p2 : Z.cell? ⟨ga, 2, none⟩ = some (.int .u8 (a2 : Nat)) := HKA2.out.cell 2
      have p3 : Z.cell? ⟨ga, 3, none⟩ = some (.bool a3) := HKA2.out.cell 3
      have p4 : Z.cell? ⟨ga, 4, none⟩ = some (.int .i64 a4) := HKA2.out.cell 4
      have q2 : Z.cell? ⟨gb, 2, none⟩ = some (.int .u8 (b2 : Nat)) := HKB2.out.cell 2
      have q3' : Z.cell? ⟨gb, 3, none⟩ = some (.bool b3z) := HKB2.out.cell 3
      have q4 : Z.cell? ⟨gb, 4, none⟩ = some (.int .i64 b4) := HKB2.out.cell 4
      by_cases m1 : xc = yc
      rotate_left
      · have u1 : (xc != yc) = true := bne_iff_ne.2 m1
        have u2 : (xc == yc) = false := beq_eq_false_iff_ne.2 m1
        clear HW HIN HLH HKL HLM HLD HLOW
        go_wp2_with fail
        refine (awake11_true _).mono ?_
        rintro e W9 ⟨rfl, hb⟩
        simp only
        go_wp2_with fail
        go_ret
        exact ⟨rfl, HW9.out.trans (hb.mono HW9.out.size)⟩
      subst m1
      by_cases m2 : xh = yh
      rotate_left
      · have v0 : (xh : Int) ≠ (yh : Int) := by omega
        have u1 : ((xh : Int) != (yh : Int)) = true := bne_iff_ne.2 v0
        have u2 : ((xh : Int) == (yh : Int)) = false := beq_eq_false_iff_ne.2 v0
        have u3 : (xh != yh) = true := bne_iff_ne.2 m2
        have u4 : (xh == yh) = false := beq_eq_false_iff_ne.2 m2
        clear v0
        clear HW HIN HLH HKL HLM HLD HLOW
        go_wp2_with fail
        refine (awake11_true _).mono ?_
        rintro e W9 ⟨rfl, hb⟩
        simp only
        go_wp2_with fail
        go_ret
        exact ⟨rfl, HW9.out.trans (hb.mono HW9.out.size)⟩
      subst m2
      by_cases m3 : a2 = b2
      rotate_left
      · have v0 : (a2 : Int) ≠ (b2 : Int) := by omega
        have u1 : ((a2 : Int) != (b2 : Int)) = true := bne_iff_ne.2 v0
        have u2 : ((a2 : Int) == (b2 : Int)) = false := beq_eq_false_iff_ne.2 v0
        have u3 : (a2 != b2) = true := bne_iff_ne.2 m3
        have u4 : (a2 == b2) = false := beq_eq_false_iff_ne.2 m3
        clear v0
        clear HW HIN HLH HKL HLM HLD HLOW
        go_wp2_with fail
        refine (awake11_true _).mono ?_
        rintro e W9 ⟨rfl, hb⟩
        simp only
        go_wp2_with fail
        go_ret
        exact ⟨rfl, HW9.out.trans (hb.mono HW9.out.size)⟩
      subst m3
      by_cases m4 : a3 = b3z
      rotate_left
      · have u1 : (a3 != b3z) = true := bne_iff_ne.2 m4
        have u2 : (a3 == b3z) = false := beq_eq_false_iff_ne.2 m4
        clear HW HIN HLH HKL HLM HLD HLOW
        go_wp2_with fail
        refine (awake11_true _).mono ?_
        rintro e W9 ⟨rfl, hb⟩
        simp only
        go_wp2_with fail
        go_ret
        exact ⟨rfl, HW9.out.trans (hb.mono HW9.out.size)⟩
      subst m4
      by_cases m5 : yt ≤ xt
      · clear HW HIN HLH HKL HLM HLD HLOW
        go_wp2_with fail
        refine (awake11_true _).mono ?_
        rintro e W9 ⟨rfl, hb⟩
        simp only
        go_wp2_with fail
        go_ret
        exact ⟨rfl, HW9.out.trans (hb.mono HW9.out.size)⟩
      by_cases m6 : b4 ≤ a4
      · clear HW HIN HLH HKL HLM HLD HLOW
        go_wp2_with fail
        refine (awake11_true _).mono ?_
        rintro e W9 ⟨rfl, hb⟩
        simp only
        go_wp2_with fail
        go_ret
        exact ⟨rfl, HW9.out.trans (hb.mono HW9.out.size)⟩
      have KR : Hid (Calls Try.prog 18 #[.agg (shpA s h), .slice A1 bs.length q1, .slice (some ⟨b3, off3, none⟩) st.length q3] Z (Ret Z (.bool true))) := Lib.hid (by
        have r := HW.out.on HB3.out
        have k := stowRight_any s h A1 q1 bs (some ⟨b3, off3, none⟩) q3 st Z r.rd HLM.out.few HLM.out.ints HLM.out.short r.bx HLD.out.bl r.sx HLD.out.sl HQ3.out (HLD.out.max HLM.out)
        rw [HLD.out.right] at k
        exact k)
      have SC := (HW.out.on HB3.out).bk
      unfold shpA at KR
      have e0 : Z.cell? ⟨g, 0, none⟩ = some (.slice h.A1 s.cols.length h.c1) := SC.cell 0
      have e1 : Z.cell? ⟨g, 1, none⟩ = some (.slice h.A2 s.covs.length h.c2) := SC.cell 1
      have e2 : Z.cell? ⟨g, 2, none⟩ = some (.int .i64 s.l0) := SC.cell 2
      have e3 : Z.cell? ⟨g, 3, none⟩ = some (.int .i64 s.l1) := SC.cell 3
      have e4 : Z.cell? ⟨g, 4, none⟩ = some (.int .i64 s.l2) := SC.cell 4
      have e5 : Z.cell? ⟨g, 5, none⟩ = some (.int .i64 s.l3) := SC.cell 5
      have e6 : Z.cell? ⟨g, 6, none⟩ = some (.slice h.A3 s.rows.length h.c3) := SC.cell 6
      have e7 : Z.cell? ⟨g, 7, none⟩ = some (.slice h.A4 s.frames.length h.c4) := SC.cell 7
      have e8 : Z.cell? ⟨g, 8, none⟩ = some (.slice h.A5 s.tanks.length h.c5) := SC.cell 8
      have e9 : Z.cell? ⟨g, 9, none⟩ = some (.int .i64 s.m0) := SC.cell 9
      have e10 : Z.cell? ⟨g, 10, none⟩ = some (.int .i64 s.m1) := SC.cell 10
      have e11 : Z.cell? ⟨g, 11, none⟩ = some (.int .i64 s.m2) := SC.cell 11
      have e12 : Z.cell? ⟨g, 12, none⟩ = some (.int .i64 s.m3) := SC.cell 12
      clear SC
      go_wp2_with fail
      refine KR.out.mono ?_
      rintro e Z1 ⟨rfl, hb⟩
      simp only
      clear KR x0 x1 x2 y0 y1 y2 p2 p3 p4 q2 q3' q4
      clear e0 e1 e2 e3 e4 e5 e6 e7 e8 e9 e10 e11 e12
      have HB4 := Lib.hid (HB3.out.trans (hb.mono HB3.out.size))
      have HKX1 := Lib.hid (HKX.out.below hb HKX.out.lt)
      have HKY1 := Lib.hid (HKY.out.below hb HKY.out.lt)
      clear hb HB3 HKX HKY HKA2 HKB2 HW9
      try clear Z
      go_upto_region 10 with fail
      have hne : ii ≠ kk := fun e => by
        have h1 := HXI.out
        rw [e, HYI.out] at h1
        injection h1 with _ h2
        injection h2 with _ h3 _
        omega
      have HSW := Lib.hid (swap_right HLM.out HLD.out hne hi hk (by rw [HXI.out, HYI.out]; simp only; rw [HFA.out, HFB.out]))
      have HMM : Hid (∀ hf : Nat, if xh = hf ∨ xh = 0 then momentF bs (swapL st ii kk) xc hf < momentF bs st xc hf else momentF bs (swapL st ii kk) xc hf = momentF bs st xc hf) := Lib.hid fun hf => by
        have := swap_moment HLM.out HLD.out HLOW.out hi hk (by rw [HXI.out, HYI.out]) (by rw [HXI.out, HYI.out]) (by rw [HXI.out, HYI.out]; simp only; omega) (by rw [HXI.out, HYI.out]; simp only; rw [HFA.out, HFB.out]) (by rw [HXI.out, HYI.out]; simp only; rw [HFA.out, HFB.out]; simp only; omega) hf
        rw [HXI.out] at this
        exact this
      clear HFA HFB
      have HSRC : Hid (∀ U : World, Below Z1.heap.size Z1 U → Src tStw U (Lt Z1.heap.size) (some ⟨b3, off3, none⟩) st.length st) := Lib.hid fun U hU => ((HW.out.on HB4.out).sx.below hU).src rfl (fun b hb => Nat.lt_of_lt_of_le hb hU.size)
      go_wp2_with (at_builtin; (refine wpList_append_R el_stw rfl (.tmp 128) (.tmp 129) rfl Z1.heap.size (Lt Z1.heap.size) _ [] rfl (OwnS.empty tStw 61 Z1 Z1.heap.size (Lt Z1.heap.size) (Nat.le_refl _) (fun b hb => hb)) _ st.length _ st rfl rfl (HSRC.out _ (ba1 Z1 _)) ?c1 ?c2 ?c3 ?_))
      case c1 => unfold maxLen; simp; omega
      case c2 => simp; omega
      case c3 => exact (ba1 Z1 _).size
      intro v' U hown hgr hbel
      obtain ⟨bn, cn, rfl, hbn, hcn, _⟩ := OwnS.form hown hpos
      have HON : Hid (OwnS tStw 61 U Z1.heap.size (Lt Z1.heap.size) (.slice (some ⟨bn, 0, none⟩) st.length cn) st) := Lib.hid hown
      have HBU : Hid (Below Z1.heap.size Z1 U) := Lib.hid ((ba1 Z1 _).trans hbel)
      clear hgr hown hbel HSRC
      go_upto_region 11 with fail
      have HC0 : Hid (NC Z1 (U.drewN 1) (.slice (some ⟨bn, 0, none⟩) st.length cn) st ii kk xb yb) := Lib.hid ⟨below_drewN HBU.out 1, st.getD ii default, st.getD kk default, by rw [HXI.out], by rw [HYI.out], by rw [set_same hi, set_same hk]; exact HON.out.below (below_drewN (Below.refl _ _) 1)⟩
      have x0 : Z1.cell? ⟨gx, 0, none⟩ = some (.int .i64 xc) := HKX1.out.cell 0
      have x1 : Z1.cell? ⟨gx, 1, none⟩ = some (.int .i64 xt) := HKX1.out.cell 1
      have x2 : Z1.cell? ⟨gx, 2, none⟩ = some (.int .u8 (xh : Nat)) := HKX1.out.cell 2
      have y0 : Z1.cell? ⟨gy, 0, none⟩ = some (.int .i64 xc) := HKY1.out.cell 0
      have y1 : Z1.cell? ⟨gy, 1, none⟩ = some (.int .i64 yt) := HKY1.out.cell 1
      have y2 : Z1.cell? ⟨gy, 2, none⟩ = some (.int .u8 (xh : Nat)) := HKY1.out.cell 2
      refine wp_region_og [.val 0 (.slice (some ⟨bn, 0, none⟩) st.length cn),
        .val 1 (.int .i64 (ii : Nat)),
        .val 2 (.slice (some ⟨bn, 0, none⟩) st.length cn),
        .val 3 (.int .i64 (kk : Nat)),
        .val 4 (.agg #[.int .i64 xc, .int .i64 yt, .int .u8 (xh : Nat)]),
        .val 5 (.agg #[.int .i64 xc, .int .i64 xt, .int .u8 (xh : Nat)]),
        .val 6 (.pointer (some ⟨bn, ii * 4, none⟩)),
        .val 7 (.pointer (some ⟨bn, ii * 4 + 1, none⟩)),
        (⟨[], fun _ V => ∃ v : Stw, v.box = yb ∧ OwnS tStw 61 V Z1.heap.size (Lt Z1.heap.size) (.slice (some ⟨bn, 0, none⟩) st.length cn) ((st.set ii ⟨xb, xc, yt, xh⟩).set kk v), fun _ h => h, fun hb h => by obtain ⟨v, e, ho⟩ := h; exact ⟨v, e, ho.below hb⟩⟩ : As),
        .val 9 (.pointer (some ⟨bn, kk * 4, none⟩)),
        .val 10 (.pointer (some ⟨bn, kk * 4 + 1, none⟩)),
        (⟨[], fun _ V => OwnS tStw 61 V Z1.heap.size (Lt Z1.heap.size) (.slice (some ⟨bn, 0, none⟩) st.length cn) (swapL st ii kk), fun _ h => h, fun hb h => h.below hb⟩ : As)]
        [[], [], [], [], [], [], [0, 1], [6], [7, 4], [2, 3], [9], [10, 5, 8]] [11] (fun V => NC Z1 V (.slice (some ⟨bn, 0, none⟩) st.length cn) st ii kk xb yb) (by kernel_rfl) (by kernel_rfl) HC0.out ⟨?_, ?_, ?_, ?_, ?_, ?_, ?_, ?_, ?_, ?_, ?_, ?_, trivial⟩ ?_
      case refine_1 =>
        refine StepL.grow NC.grow fun x V hV hu K Q hK => ?_
        clear hu
        rw [owp_eq]
        go_big_op
        exact hK _ _ (Below.refl _ _) rfl
      case refine_2 =>
        refine StepL.grow NC.grow fun x V hV hu K Q hK => ?_
        clear hu
        simp only [putL, List.set_cons_zero, List.set_cons_succ] at hK ⊢
        rw [owp_eq]
        go_big_op
        exact hK _ _ (Below.refl _ _) rfl
      case refine_3 =>
        refine StepL.grow NC.grow fun x V hV hu K Q hK => ?_
        clear hu
        simp only [putL, List.set_cons_zero, List.set_cons_succ] at hK ⊢
        rw [owp_eq]
        go_big_op
        exact hK _ _ (Below.refl _ _) rfl
      case refine_4 =>
        refine StepL.grow NC.grow fun x V hV hu K Q hK => ?_
        clear hu
        simp only [putL, List.set_cons_zero, List.set_cons_succ] at hK ⊢
        rw [owp_eq]
        go_big_op
        exact hK _ _ (Below.refl _ _) rfl
      case refine_5 =>
        refine StepL.grow NC.grow fun x V hV hu K Q hK => ?_
        have fy0 := hV.be.cell y0
        have fy1 := hV.be.cell y1
        have fy2 := hV.be.cell y2
        clear hu
        simp only [putL, List.set_cons_zero, List.set_cons_succ] at hK ⊢
        rw [owp_eq]
        go_big_op
        exact hK _ _ (Below.refl _ _) rfl
      case refine_6 =>
        refine StepL.grow NC.grow fun x V hV hu K Q hK => ?_
        have fx0 := hV.be.cell x0
        have fx1 := hV.be.cell x1
        have fx2 := hV.be.cell x2
        clear hu
        simp only [putL, List.set_cons_zero, List.set_cons_succ] at hK ⊢
        rw [owp_eq]
        go_big_op
        exact hK _ _ (Below.refl _ _) rfl
      case refine_7 =>
        refine StepL.grow NC.grow fun x V hV hu K Q hK => ?_
        have u0 : x 0 = _ := hu 0 (by decide)
        have u1 : x 1 = _ := hu 1 (by decide)
        clear hu
        simp only [putL, List.set_cons_zero, List.set_cons_succ] at hK ⊢
        rw [owp_eq]
        go_big_op
        exact hK _ _ (Below.refl _ _) rfl
      case refine_8 =>
        refine StepL.grow NC.grow fun x V hV hu K Q hK => ?_
        have u6 : x 6 = _ := hu 6 (by decide)
        clear hu
        simp only [putL, List.set_cons_zero, List.set_cons_succ] at hK ⊢
        rw [owp_eq]
        go_big_op
        exact hK _ _ (Below.refl _ _) rfl
      case refine_9 =>
        refine StepL.wr [2, 3, 5] (by kernel_rfl) fun x V hV hu K Q hK => ?_
        have u7 : x 7 = _ := hu 7 (by decide)
        have u4 : x 4 = _ := hu 4 (by decide)
        obtain ⟨u, v, e1, e2, ho⟩ := hV.own
        have hln : ((st.set ii u).set kk v).length = st.length := by simp
        have hlu : ((st.set ii u).set kk v)[ii]? = some u := by rw [List.getElem?_set_ne (Ne.symm hne), List.getElem?_set_self hi]
        have ho' := own_slot (l := (st.set ii u).set kk v) (b := bn) (c := cn) (by rw [hln]; exact ho) hlu ⟨xc, yt, xh⟩
        rw [hln, e1, List.set_comm _ _ hne.symm, List.set_set] at ho'
        have hbe : Below Z1.heap.size Z1 V := hV.be
        obtain ⟨A', c', e', _, _, hs'⟩ := ho.sl'
        obtain ⟨b', off', hA', _, _, q1, q2, q3⟩ := hs'.stw (j := ii) (by rw [hln]; exact hi)
        injection e' with e4 e5 e6
        rw [hA'] at e4
        injection e4 with e4
        injection e4 with e4 e7 _
        subst e4 e7
        obtain ⟨cs, hkb⟩ := ho.blk rfl
        have f1 := hkb.frozen (ii * 4 + 1)
        have f2 := hkb.frozen (ii * 4 + 2)
        have f3 := hkb.frozen (ii * 4 + 3)
        simp only [Nat.zero_add] at q1 q2 q3
        clear hu hs' ho hA' e5 e6
        simp only [putL, List.set_cons_zero, List.set_cons_succ] at hK ⊢
        rw [owp_eq]
        go_big_op
        refine hK undef _ ⟨((hbe.setCell (p := ⟨bn, ii * 4 + 1, none⟩) hbn _).setCell (p := ⟨bn, ii * 4 + 2, none⟩) hbn _).setCell (p := ⟨bn, ii * 4 + 3, none⟩) hbn _, ⟨xb, xc, yt, xh⟩, v, rfl, e2, ho'⟩ ⟨v, e2, ho'⟩ (fun k hk' => by
          simp only [List.mem_cons, List.not_mem_nil, or_false] at hk'
          rcases hk' with rfl | rfl | rfl
          all_goals exact fun h => h)
      case refine_10 =>
        refine StepL.grow NC.grow fun x V hV hu K Q hK => ?_
        have u2 : x 2 = _ := hu 2 (by decide)
        have u3 : x 3 = _ := hu 3 (by decide)
        clear hu
        simp only [putL, List.set_cons_zero, List.set_cons_succ] at hK ⊢
        rw [owp_eq]
        go_big_op
        exact hK _ _ (Below.refl _ _) rfl
      case refine_11 =>
        refine StepL.grow NC.grow fun x V hV hu K Q hK => ?_
        have u9 : x 9 = _ := hu 9 (by decide)
        clear hu
        simp only [putL, List.set_cons_zero, List.set_cons_succ] at hK ⊢
        rw [owp_eq]
        go_big_op
        exact hK _ _ (Below.refl _ _) rfl
      case refine_12 =>
        refine StepL.wr [] (by kernel_rfl) fun x V hV hu K Q hK => ?_
        have u10 : x 10 = _ := hu 10 (by decide)
        have u5 : x 5 = _ := hu 5 (by decide)
        obtain ⟨v, e2, ho⟩ : ∃ v : Stw, v.box = yb ∧ OwnS tStw 61 V Z1.heap.size (Lt Z1.heap.size) (.slice (some ⟨bn, 0, none⟩) st.length cn) ((st.set ii ⟨xb, xc, yt, xh⟩).set kk v) := hu 8 (by decide)
        have hln : ((st.set ii (⟨xb, xc, yt, xh⟩ : Stw)).set kk v).length = st.length := by simp
        have hlu : ((st.set ii (⟨xb, xc, yt, xh⟩ : Stw)).set kk v)[kk]? = some v := List.getElem?_set_self (by rw [List.length_set]; exact hk)
        have ho' := own_slot (l := (st.set ii ⟨xb, xc, yt, xh⟩).set kk v) (b := bn) (c := cn) (by rw [hln]; exact ho) hlu ⟨xc, xt, xh⟩
        rw [hln, e2, List.set_set] at ho'
        have hbe : Below Z1.heap.size Z1 V := hV.be
        obtain ⟨A', c', e', _, _, hs'⟩ := ho.sl'
        obtain ⟨b', off', hA', _, _, q1, q2, q3⟩ := hs'.stw (j := kk) (by rw [hln]; exact hk)
        injection e' with e4 e5 e6
        rw [hA'] at e4
        injection e4 with e4
        injection e4 with e4 e7 _
        subst e4 e7
        obtain ⟨cs, hkb⟩ := ho.blk rfl
        have f1 := hkb.frozen (kk * 4 + 1)
        have f2 := hkb.frozen (kk * 4 + 2)
        have f3 := hkb.frozen (kk * 4 + 3)
        simp only [Nat.zero_add] at q1 q2 q3
        clear hu hs' ho hA' e5 e6
        simp only [putL, List.set_cons_zero, List.set_cons_succ] at hK ⊢
        rw [owp_eq]
        go_big_op
        refine hK undef _ ⟨((hbe.setCell (p := ⟨bn, kk * 4 + 1, none⟩) hbn _).setCell (p := ⟨bn, kk * 4 + 2, none⟩) hbn _).setCell (p := ⟨bn, kk * 4 + 3, none⟩) hbn _, ⟨xb, xc, yt, xh⟩, ⟨yb, xc, xt, xh⟩, rfl, rfl, ho'⟩ ?_ (fun k hk' => absurd hk' (by simp))
        have hsw : swapL st ii kk = (st.set ii ⟨xb, xc, yt, xh⟩).set kk ⟨yb, xc, xt, xh⟩ := by unfold swapL; rw [HXI.out, HYI.out]
        show OwnS tStw 61 _ Z1.heap.size (Lt Z1.heap.size) (.slice (some ⟨bn, 0, none⟩) st.length cn) (swapL st ii kk)
        rw [hsw]
        exact ho'
      case refine_13 =>
        intro x9 Z2 hZ hA
        have h11 : OwnS tStw 61 Z2 Z1.heap.size (Lt Z1.heap.size) (.slice (some ⟨bn, 0, none⟩) st.length cn) (swapL st ii kk) := hA 11 rfl (by decide)
        have HNX : Hid (SlT tStw Z2 (Lt Z2.heap.size) (some ⟨bn, 0, none⟩) (swapL st ii kk)) := Lib.hid (by
          obtain ⟨A', c', e', _, _, hs'⟩ := h11.sl'
          injection e' with e4 e5 e6
          rw [e4]
          exact hs')
        have hbz : Below Z1.heap.size Z1 Z2 := hZ.be
        have HB5 : Hid (Below V.heap.size V Z2) := Lib.hid (HB4.out.trans (hbz.mono HB4.out.size))
        have HKX2 : Hid (Bk Z2 gx 47 #[.int .i64 xc, .int .i64 xt, .int .u8 (xh : Nat)]) := Lib.hid (HKX1.out.below hbz HKX1.out.lt)
        clear hA h11 hZ hbz HON HBU HC0 HKX1 HKY1 HB4 x0 x1 x2 y0 y1 y2
        simp only [layL, putL, List.set_cons_zero, List.set_cons_succ]
        try clear U
        try clear Z1
        have KR : Hid (Calls Try.prog 18 #[.agg (shpA s h), .slice A1 bs.length q1, (.slice (some ⟨bn, 0, none⟩) st.length cn)] Z2 (Ret Z2 (.bool true))) := Lib.hid (by
          have r := HW.out.on HB5.out
          have k := stowRight_any s h A1 q1 bs (some ⟨bn, 0, none⟩) cn (swapL st ii kk) Z2 r.rd HLM.out.few HLM.out.ints HLM.out.short r.bx HLD.out.bl HNX.out (by rw [swap_len]; exact HLD.out.sl) (by rw [swap_len]; exact hcn) (fun y hy => by
            obtain ⟨j, hj, rfl⟩ := getD_ofmem hy default
            rw [swap_len] at hj
            rw [swap_getD hne hj]
            have hmx := HLD.out.max HLM.out _ (getD_memD (sw_lt hi hk hj) default)
            exact hmx)
          rw [HSW.out, swap_len] at k
          exact k)
        have SC := (HW.out.on HB5.out).bk
        unfold shpA at KR
        have e0 : Z2.cell? ⟨g, 0, none⟩ = some (.slice h.A1 s.cols.length h.c1) := SC.cell 0
        have e1 : Z2.cell? ⟨g, 1, none⟩ = some (.slice h.A2 s.covs.length h.c2) := SC.cell 1
        have e2 : Z2.cell? ⟨g, 2, none⟩ = some (.int .i64 s.l0) := SC.cell 2
        have e3 : Z2.cell? ⟨g, 3, none⟩ = some (.int .i64 s.l1) := SC.cell 3
        have e4 : Z2.cell? ⟨g, 4, none⟩ = some (.int .i64 s.l2) := SC.cell 4
        have e5 : Z2.cell? ⟨g, 5, none⟩ = some (.int .i64 s.l3) := SC.cell 5
        have e6 : Z2.cell? ⟨g, 6, none⟩ = some (.slice h.A3 s.rows.length h.c3) := SC.cell 6
        have e7 : Z2.cell? ⟨g, 7, none⟩ = some (.slice h.A4 s.frames.length h.c4) := SC.cell 7
        have e8 : Z2.cell? ⟨g, 8, none⟩ = some (.slice h.A5 s.tanks.length h.c5) := SC.cell 8
        have e9 : Z2.cell? ⟨g, 9, none⟩ = some (.int .i64 s.m0) := SC.cell 9
        have e10 : Z2.cell? ⟨g, 10, none⟩ = some (.int .i64 s.m1) := SC.cell 10
        have e11 : Z2.cell? ⟨g, 11, none⟩ = some (.int .i64 s.m2) := SC.cell 11
        have e12 : Z2.cell? ⟨g, 12, none⟩ = some (.int .i64 s.m3) := SC.cell 12
        clear SC
        go_upto_region 12 with fail
        go_wp2_with fail
        refine KR.out.mono ?_
        rintro e Z3 ⟨rfl, hb⟩
        simp only
        clear e0 e1 e2 e3 e4 e5 e6 e7 e8 e9 e10 e11 e12
        clear KR HSW
        have HB6 := Lib.hid (HB5.out.trans (hb.mono HB5.out.size))
        have HNX3 := Lib.hid (HNX.out.on hb)
        have HKX3 := Lib.hid (HKX2.out.below hb HKX2.out.lt)
        clear hb HB5 HNX HKX2
        try clear Z2
        go_upto_region 14 with fail
        have HK5 : Hid (Bk (Z3.alloc (.cells #[.int .u8 1, .int .u8 2] 5)) Z3.heap.size 5 #[.int .u8 1, .int .u8 2]) := Lib.hid (Bk.new _ _ _)
        have hY := ba1 Z3 (.cells #[.int .u8 1, .int .u8 2] 5)
        have HB7 := Lib.hid (HB6.out.trans (hY.mono HB6.out.size))
        have HNX4 := Lib.hid (HNX3.out.on hY)
        have HKX4 := Lib.hid (HKX3.out.below hY HKX3.out.lt)
        clear hY HB6 HNX3 HKX3
        go_wp2_with fail
        generalize Z3.heap.size = g5 at *
        generalize (Z3.alloc _) = Y1 at *
        try clear Z3
        go_loopw [148] (fun i wx => ∃ j : Nat, j ≤ 2 ∧ i = .int .i64 j ∧ Hid (Below Y1.heap.size Y1 wx)) (fun i _ => 2 - (intOf i).toNat)
        case atStart => exact ⟨0, by omega, rfl, Lib.hid (Below.refl _ _)⟩
        case round =>
          obtain ⟨j, hj, rfl, HBi⟩ := hrel
          obtain ⟨X, rfl⟩ : ∃ V, V = wr := ⟨_, rfl⟩
          have HBX := Lib.hid (HB7.out.trans (HBi.out.mono HB7.out.size))
          by_cases hjl : j < 2
          · have j0 : (0 : Int) ≤ (j : Int) := by omega
            have j1 : (j : Int) < 2 := by omega
            have hj1 : j + 1 ≤ 2 := hjl
            have cH : X.cell? ⟨g5, j, none⟩ = some (.int .u8 ((1 + j : Nat) : Int)) := by
              have kb := HK5.out.below HBi.out HK5.out.lt
              obtain rfl | rfl : j = 0 ∨ j = 1 := by omega
              · exact kb.cell 0
              · exact kb.cell 1
            have HHX : Hid (∃ hf, hf = 1 + j) := Lib.hid ⟨_, rfl⟩
            obtain ⟨hf, hhf⟩ := HHX.out
            rw [← hhf] at cH
            have hf9 : hf < 256 := by omega
            clear hhf HHX
            have hmm := HMM.out hf
            have KM1 : Hid (∀ V' : World, Below X.heap.size X V' → Calls Try.prog 33 #[.slice A1 bs.length q1, .slice (some ⟨b3, off3, none⟩) st.length q3, .int .i64 xc, .int .u8 (hf : Nat)] V' (Ret V' (.int .i64 (momentF bs st xc hf)))) := Lib.hid fun V' hV => by
              have r := (HW.out.on HBX.out).on hV
              exact moment_any A1 q1 bs (some ⟨b3, off3, none⟩) q3 st xc hf V' HKL.out r.bx HLD.out.bl r.sx (by omega)
            have KM2 : Hid (∀ V' : World, Below X.heap.size X V' → Calls Try.prog 33 #[.slice A1 bs.length q1, (.slice (some ⟨bn, 0, none⟩) st.length cn), .int .i64 xc, .int .u8 (hf : Nat)] V' (Ret V' (.int .i64 (momentF bs (swapL st ii kk) xc hf)))) := Lib.hid fun V' hV => by
              have r := (HW.out.on HBX.out).on hV
              have k := moment_any A1 q1 bs (some ⟨bn, 0, none⟩) cn (swapL st ii kk) xc hf V' HKL.out r.bx HLD.out.bl ((HNX4.out.on HBi.out).on hV) (by rw [swap_len]; omega)
              rw [swap_len] at k
              exact k
            generalize momentF bs st xc hf = M1 at *
            generalize momentF bs (swapL st ii kk) xc hf = M2 at *
            have HM := Lib.hid hmm
            clear hmm
            go_upto_region 17 with fail
            clear cH
            have x0 : ∀ p : Gr X, p.W.cell? ⟨gx, 0, none⟩ = some (.int .i64 xc) := Gr.cell ((HKX4.out.below HBi.out HKX4.out.lt).cell 0)
            refine wp_region_gr (by kernel_rfl) (by kernel_rfl) ?_
            repeat (go_big_quiet_step ((first | (with_reducible exact Gr.call _ (fun V' hV => KM1.out V' hV)) | (with_reducible exact Gr.call _ (fun V' hV => KM2.out V' hV)))))
            refine wpQuiet_nil ?_
            rintro Y9 ⟨⟨_, hbY⟩, rfl⟩
            clear x0 KM1 KM2
            have HBi9 := Lib.hid (HBi.out.trans (hbY.mono HBi.out.size))
            have kx := HKX4.out.below HBi9.out HKX4.out.lt
            clear hbY HBX HBi
            go_upto_region 18 with fail
            have x2 : Y9.cell? ⟨gx, 2, none⟩ = some (.int .u8 (xh : Nat)) := kx.cell 2
            clear kx
            by_cases h3 : xh = hf
            · have h3' : ((xh : Int) == (hf : Int)) = true := by rw [int_beq]; exact beq_iff_eq.2 h3
              have hlt2 : M2 < M1 := by
                have h := HM.out
                rw [if_pos (.inl h3)] at h
                exact h
              have hnle : ¬ M1 ≤ M2 := by omega
              clear h3
              go_wp2_with fail
              go_roundw
              case rel => first | exact ⟨j + 1, hj1, by go_num, HBi9⟩ | ((repeat apply Exists.intro); exact ⟨⟨j + 1, hj1, by go_num, HBi9⟩, rfl⟩) | ((repeat apply Exists.intro); exact ⟨hj1, by go_num, HBi9⟩)
              case measure => simp [intOf]; omega
            · have h3' : ((xh : Int) == (hf : Int)) = false := by rw [int_beq]; exact beq_eq_false_iff_ne.2 h3
              by_cases h4 : xh = 0
              · have h4' : ((xh : Int) == 0) = true := by rw [h4]; rfl
                have hlt2 : M2 < M1 := by
                  have h := HM.out
                  rw [if_pos (.inr h4)] at h
                  exact h
                have hnle : ¬ M1 ≤ M2 := by omega
                clear h3 h4
                go_wp2_with fail
                go_roundw
                case rel => first | exact ⟨j + 1, hj1, by go_num, HBi9⟩ | ((repeat apply Exists.intro); exact ⟨⟨j + 1, hj1, by go_num, HBi9⟩, rfl⟩) | ((repeat apply Exists.intro); exact ⟨hj1, by go_num, HBi9⟩)
                case measure => simp [intOf]; omega
              · have h4' : ((xh : Int) == 0) = false := by rw [show (0 : Int) = ((0 : Nat) : Int) from rfl, int_beq]; exact beq_eq_false_iff_ne.2 h4
                obtain rfl : M2 = M1 := by
                  have h := HM.out
                  rw [if_neg (by omega)] at h
                  exact h
                clear h3 h4
                go_wp2_with fail
                go_roundw
                case rel => first | exact ⟨j + 1, hj1, by go_num, HBi9⟩ | ((repeat apply Exists.intro); exact ⟨⟨j + 1, hj1, by go_num, HBi9⟩, rfl⟩) | ((repeat apply Exists.intro); exact ⟨hj1, by go_num, HBi9⟩)
                case measure => simp [intOf]; omega
          · obtain rfl : j = 2 := by omega
            have HW9 := Lib.hid (HW.out.on HBX.out).be
            clear HW HIN HLH HKL HLM HLD HLOW HMM HNX4 HXI HYI HB7 HBi HBX
            go_wp2_with fail
            refine (awake11_true _).mono ?_
            rintro e W9 ⟨rfl, hb⟩
            simp only
            go_wp2_with fail
            go_ret
            exact ⟨rfl, HW9.out.trans (hb.mono HW9.out.size)⟩
end Go.Proofs.Ytncfakkajknhaaa
