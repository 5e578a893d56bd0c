/-
  Walks of the reference of chapter 08: common, Meet, Over, less, Compare, has, Held, Right.
-/
import Derived.Test.YtmhikcleekfbpaaDoorB4
import Derived.IntWalk
namespace Go.Proofs.YtmhikcleekfbpaaDoor
open Go.RowKit

set_option maxHeartbeats 400000 in
theorem refCommon_any (a b : Nat) (w : World) : Calls Tryd.prog 76 #[.int .u8 (a : Nat), .int .u8 (b : Nat)] w fun e w' => e = .returned (.bool (sharesB a b)) ∧ w = w' := by
  have HV : Hid (sharesB a b = (a == b || (a == 0 || b == 0))) := Lib.hid rfl
  have k1 := int_beq a b
  have k2 := int_beq a 0
  have HK3 := Lib.hid (int_beq b 0)
  cases h1 : (a == b) <;> cases h2 : (a == 0)
  all_goals
    rw [h1] at k1
    rw [h2] at k2
    rw [h1, h2] at HV
    clear h1 h2
    simp only [Int.ofNat_zero] at k2
    generalize (a : Int) = A at *
    go_enter Tryd.func76, Tryd.ntmps76
    go_wp2
    go_ret
    exact ⟨by rw [HV.out]; first | rfl | exact ret_bool HK3.out, rfl⟩
set_option maxRecDepth 100000 in
set_option maxHeartbeats 4000000 in
theorem refMeet_any (a b : Slt) (w : World) : Calls Tryd.prog 63 #[.agg (sltL a).toArray, .agg (sltL b).toArray] w (Ret w (.bool (meetB a b))) := by
  obtain ⟨ac, at_, ah⟩ := a
  obtain ⟨bc, bt, bh⟩ := b
  have HV : Hid (meetB ⟨ac, at_, ah⟩ ⟨bc, bt, bh⟩ = (ac == bc && (at_ == bt && sharesB ah bh))) := Lib.hid rfl
  have HS := Lib.hid (fun W => refCommon_any ah bh W)
  generalize sharesB ah bh = r at *
  unfold sltL
  simp only
  cases e1 : (ac == bc) with
  | false =>
    have HW := Lib.hid (HV.out.trans (by rw [e1]; rfl : _ = false))
    clear HV
    go_enter Tryd.func63, Tryd.ntmps63
    go_wp2_with fail
    go_ret
    exact ⟨by rw [HW.out]; rfl, ba2 w _ _⟩
  | true =>
    cases e2 : (at_ == bt) with
    | false =>
      have HW := Lib.hid (HV.out.trans (by rw [e1, e2]; rfl : _ = false))
      clear HV
      go_enter Tryd.func63, Tryd.ntmps63
      go_wp2_with fail
      go_ret
      exact ⟨by rw [HW.out]; rfl, ba2 w _ _⟩
    | true =>
      have HW := Lib.hid (HV.out.trans (by rw [e1, e2]; rfl : _ = r))
      clear HV
      go_enter Tryd.func63, Tryd.ntmps63
      go_wp2_with (go_at_call 76; refine (HS.out _).mono ?_; rintro e w' ⟨rfl, rfl⟩)
      go_ret
      exact ⟨by rw [HW.out]; rfl, ba2 w _ _⟩
def lessB (a b : Slt) : Bool := if a.col = b.col then (if a.tier = b.tier then decide (a.half < b.half) else decide (a.tier < b.tier)) else decide (a.col < b.col)
theorem Bk.nxt8 {w : World} (o : Obj) (t : TypeId) (cs : Array Value) : Bk ((w.alloc o).alloc (.cells cs t)) (w.heap.size + 1) t cs := by
  have h := Bk.new (w.alloc o) t cs
  have e : (w.alloc o).heap.size = w.heap.size + 1 := by simp
  rw [e] at h
  exact h
theorem cmp_less (a b : Slt) : cmpF a b = if lessB a b then -1 else if lessB b a then 1 else 0 := by
  obtain ⟨ac, at_, ah⟩ := a
  obtain ⟨bc, bt, bh⟩ := b
  unfold cmpF orF lessB
  simp only [orF, cmpZ]
  by_cases h1 : ac = bc
  · subst h1
    by_cases h2 : at_ = bt
    · subst h2
      simp
      by_cases h3 : ah < bh
      · simp [h3] <;> omega
      · by_cases h4 : bh < ah
        · simp [h3, h4]
        · simp [h3, h4]
    · simp [h2, Ne.symm h2]
      by_cases h3 : at_ < bt
      · simp [h3]
      · have : bt < at_ := by omega
        simp [h3, this]
  · simp [h1, Ne.symm h1]
    by_cases h3 : ac < bc
    · simp [h3]
    · have : bc < ac := by omega
      simp [h3, this]
set_option maxRecDepth 100000 in
set_option maxHeartbeats 4000000 in
theorem refHas_any (x : Slt) (A : Option Addr) (c : Nat) (l : List Slt) (half : Nat) (w : World) (hs : SlT tSlt w (Lt w.heap.size) A l) (hl : l.length ≤ 2000000) (ht : 0 < x.tier ∧ x.tier ≤ 9223372036854775807) :
    Calls Tryd.prog 75 #[.slice A l.length c, .agg (sltL x).toArray, .int .u8 (half : Nat)] w (Ret w (.bool (hasB x l half))) := by
  obtain ⟨xc, xt, xh⟩ := x
  have HV : Hid (hasB ⟨xc, xt, xh⟩ l half = l.any fun y => sltEq ⟨xc, xt - 1, half⟩ y) := Lib.hid rfl
  generalize hasB ⟨xc, xt, xh⟩ l half = r at *
  simp only at ht
  have hb0 := ba1 w (.cells #[.int .i64 xc, .int .i64 xt, .int .u8 (xh : Nat)] 37)
  have KX := Lib.hid (Bk.new w 37 #[.int .i64 xc, .int .i64 xt, .int .u8 (xh : Nat)])
  have HS := Lib.hid (hs.on hb0)
  have HB0 := Lib.hid hb0
  have sx : IntKind.i64.wrap (xt - 1) = xt - 1 := IntWalk.i64_in _ (by omega)
  clear hs hb0
  unfold sltL
  simp only
  go_enter Tryd.func75, Tryd.ntmps75
  go_upto_region 1 with fail
  generalize hW : (w.alloc _) = W at *
  clear hW
  go_wp2_with fail
  go_loopw [7] (fun i wr => ∃ k : Nat, k ≤ l.length ∧ i = .int .i64 k ∧ Hid ((∀ j, j < k → sltEq ⟨xc, xt - 1, half⟩ (l.getD j default) = false) ∧ Below W.heap.size W wr)) (fun i _ => l.length - (intOf i).toNat)
  case atStart => exact ⟨0, Nat.zero_le _, rfl, Lib.hid (And.intro (fun j hj => absurd hj (by omega)) (Below.refl _ _))⟩
  case round =>
    obtain ⟨k, hk, rfl, HB⟩ := hrel
    obtain ⟨V, rfl⟩ : ∃ V, V = wr := ⟨_, rfl⟩
    by_cases hlt : k < l.length
    · obtain ⟨b1, o1, rfl, _, a0, a1, a2⟩ := (HS.out.on HB.out.2).slt hlt
      have x0 : V.cell? ⟨w.heap.size, 0, none⟩ = some (.int .i64 xc) := (KX.out.below HB.out.2 KX.out.lt).cell 0
      have x1 : V.cell? ⟨w.heap.size, 1, none⟩ = some (.int .i64 xt) := (KX.out.below HB.out.2 KX.out.lt).cell 1
      have i0 : (0 : Int) ≤ (k : Int) := by omega
      have i1 : (k : Int) < (l.length : Int) := by omega
      have HSY : Hid (sltEq ⟨xc, xt - 1, half⟩ (l.getD k default) = ((l.getD k default).col == xc && ((l.getD k default).tier == xt - 1 && (((l.getD k default).half : Int) == (half : Int))))) := Lib.hid (by
        unfold sltEq
        rw [int_beq, BEq.comm (a := xc), BEq.comm (a := xt - 1), BEq.comm (a := half)])
      cases p1 : ((l.getD k default).col == xc) with
      | false =>
        have HQ : Hid (sltEq ⟨xc, xt - 1, half⟩ (l.getD k default) = false) := Lib.hid (by rw [HSY.out, p1]; rfl)
        have HN1 : Hid (∀ j, j < k + 1 → sltEq ⟨xc, xt - 1, half⟩ (l.getD j default) = false) := Lib.hid fun j hj => by
          rcases Nat.lt_succ_iff_lt_or_eq.1 hj with h | h
          · exact HB.out.1 j h
          · rw [h]; exact HQ.out
        have HBV := Lib.hid HB.out.2
        clear HB HQ HSY
        generalize l.getD k default = y at *
        obtain ⟨yc, yt, yh⟩ := y
        simp only at a0 a1 a2 p1
        go_upto_region 4 with fail
        have a0 : ∀ p : Gr V, p.W.cell? ⟨b1, o1 + k * 3, none⟩ = some (.int .i64 yc) := Gr.cell a0
        have a1 : ∀ p : Gr V, p.W.cell? ⟨b1, o1 + k * 3 + 1, none⟩ = some (.int .i64 yt) := Gr.cell a1
        have a2 : ∀ p : Gr V, p.W.cell? ⟨b1, o1 + k * 3 + 2, none⟩ = some (.int .u8 (yh : Nat)) := Gr.cell a2
        have x0 : ∀ p : Gr V, p.W.cell? ⟨w.heap.size, 0, none⟩ = some (.int .i64 xc) := Gr.cell x0
        have x1 : ∀ p : Gr V, p.W.cell? ⟨w.heap.size, 1, none⟩ = some (.int .i64 xt) := Gr.cell x1
        refine wp_region_gr (by kernel_rfl) (by kernel_rfl) ?_
        repeat (go_big_quiet_step (fail))
        refine wpQuiet_nil ?_
        rintro Y ⟨⟨_, hbY⟩, rfl⟩
        have HN := Lib.hid (And.intro HN1.out (HBV.out.trans (hbY.mono HBV.out.size)))
        clear hbY HBV HN1 a0 a1 a2 x0 x1
        go_wp2_with fail
        go_roundw
        case rel => first | exact ⟨k + 1, by omega, by go_num, HN⟩ | ((repeat apply Exists.intro); (first | exact ⟨⟨k + 1, by omega, by go_num, HN⟩, rfl⟩ | exact ⟨by omega, by go_num, HN⟩))
        case measure => simp [intOf]; omega
      | true =>
        cases p2 : ((l.getD k default).tier == xt - 1) with
        | false =>
          have HQ : Hid (sltEq ⟨xc, xt - 1, half⟩ (l.getD k default) = false) := Lib.hid (by rw [HSY.out, p1, p2]; simp)
          have HN1 : Hid (∀ j, j < k + 1 → sltEq ⟨xc, xt - 1, half⟩ (l.getD j default) = false) := Lib.hid fun j hj => by
            rcases Nat.lt_succ_iff_lt_or_eq.1 hj with h | h
            · exact HB.out.1 j h
            · rw [h]; exact HQ.out
          have HBV := Lib.hid HB.out.2
          clear HB HQ HSY
          generalize l.getD k default = y at *
          obtain ⟨yc, yt, yh⟩ := y
          simp only at a0 a1 a2 p1 p2
          go_upto_region 4 with fail
          have a0 : ∀ p : Gr V, p.W.cell? ⟨b1, o1 + k * 3, none⟩ = some (.int .i64 yc) := Gr.cell a0
          have a1 : ∀ p : Gr V, p.W.cell? ⟨b1, o1 + k * 3 + 1, none⟩ = some (.int .i64 yt) := Gr.cell a1
          have a2 : ∀ p : Gr V, p.W.cell? ⟨b1, o1 + k * 3 + 2, none⟩ = some (.int .u8 (yh : Nat)) := Gr.cell a2
          have x0 : ∀ p : Gr V, p.W.cell? ⟨w.heap.size, 0, none⟩ = some (.int .i64 xc) := Gr.cell x0
          have x1 : ∀ p : Gr V, p.W.cell? ⟨w.heap.size, 1, none⟩ = some (.int .i64 xt) := Gr.cell x1
          refine wp_region_gr (by kernel_rfl) (by kernel_rfl) ?_
          repeat (go_big_quiet_step (fail))
          refine wpQuiet_nil ?_
          rintro Y ⟨⟨_, hbY⟩, rfl⟩
          have HN := Lib.hid (And.intro HN1.out (HBV.out.trans (hbY.mono HBV.out.size)))
          clear hbY HBV HN1 a0 a1 a2 x0 x1
          go_wp2_with fail
          go_roundw
          case rel => first | exact ⟨k + 1, by omega, by go_num, HN⟩ | ((repeat apply Exists.intro); (first | exact ⟨⟨k + 1, by omega, by go_num, HN⟩, rfl⟩ | exact ⟨by omega, by go_num, HN⟩))
          case measure => simp [intOf]; omega
        | true =>
          cases p3 : (((l.getD k default).half : Int) == (half : Int)) with
          | false =>
            have HQ : Hid (sltEq ⟨xc, xt - 1, half⟩ (l.getD k default) = false) := Lib.hid (by rw [HSY.out, p1, p2, p3]; rfl)
            have HN1 : Hid (∀ j, j < k + 1 → sltEq ⟨xc, xt - 1, half⟩ (l.getD j default) = false) := Lib.hid fun j hj => by
              rcases Nat.lt_succ_iff_lt_or_eq.1 hj with h | h
              · exact HB.out.1 j h
              · rw [h]; exact HQ.out
            have HBV := Lib.hid HB.out.2
            clear HB HQ HSY
            generalize l.getD k default = y at *
            obtain ⟨yc, yt, yh⟩ := y
            simp only at a0 a1 a2 p1 p2 p3
            go_upto_region 4 with fail
            have a0 : ∀ p : Gr V, p.W.cell? ⟨b1, o1 + k * 3, none⟩ = some (.int .i64 yc) := Gr.cell a0
            have a1 : ∀ p : Gr V, p.W.cell? ⟨b1, o1 + k * 3 + 1, none⟩ = some (.int .i64 yt) := Gr.cell a1
            have a2 : ∀ p : Gr V, p.W.cell? ⟨b1, o1 + k * 3 + 2, none⟩ = some (.int .u8 (yh : Nat)) := Gr.cell a2
            have x0 : ∀ p : Gr V, p.W.cell? ⟨w.heap.size, 0, none⟩ = some (.int .i64 xc) := Gr.cell x0
            have x1 : ∀ p : Gr V, p.W.cell? ⟨w.heap.size, 1, none⟩ = some (.int .i64 xt) := Gr.cell x1
            refine wp_region_gr (by kernel_rfl) (by kernel_rfl) ?_
            repeat (go_big_quiet_step (fail))
            refine wpQuiet_nil ?_
            rintro Y ⟨⟨_, hbY⟩, rfl⟩
            have HN := Lib.hid (And.intro HN1.out (HBV.out.trans (hbY.mono HBV.out.size)))
            clear hbY HBV HN1 a0 a1 a2 x0 x1
            go_wp2_with fail
            go_roundw
            case rel => first | exact ⟨k + 1, by omega, by go_num, HN⟩ | ((repeat apply Exists.intro); (first | exact ⟨⟨k + 1, by omega, by go_num, HN⟩, rfl⟩ | exact ⟨by omega, by go_num, HN⟩))
            case measure => simp [intOf]; omega
          | true =>
            have HQ : Hid (sltEq ⟨xc, xt - 1, half⟩ (l.getD k default) = true) := Lib.hid (by rw [HSY.out, p1, p2, p3]; rfl)
            have HY : Hid (r = true) := Lib.hid (by rw [HV.out]; exact List.any_eq_true.2 ⟨_, getD_memD hlt default, HQ.out⟩)
            have HBV := Lib.hid HB.out.2
            clear HB HQ HSY
            generalize l.getD k default = y at *
            obtain ⟨yc, yt, yh⟩ := y
            simp only at a0 a1 a2 p1 p2 p3
            go_upto_region 4 with fail
            have a0 : ∀ p : Gr V, p.W.cell? ⟨b1, o1 + k * 3, none⟩ = some (.int .i64 yc) := Gr.cell a0
            have a1 : ∀ p : Gr V, p.W.cell? ⟨b1, o1 + k * 3 + 1, none⟩ = some (.int .i64 yt) := Gr.cell a1
            have a2 : ∀ p : Gr V, p.W.cell? ⟨b1, o1 + k * 3 + 2, none⟩ = some (.int .u8 (yh : Nat)) := Gr.cell a2
            have x0 : ∀ p : Gr V, p.W.cell? ⟨w.heap.size, 0, none⟩ = some (.int .i64 xc) := Gr.cell x0
            have x1 : ∀ p : Gr V, p.W.cell? ⟨w.heap.size, 1, none⟩ = some (.int .i64 xt) := Gr.cell x1
            refine wp_region_gr (by kernel_rfl) (by kernel_rfl) ?_
            repeat (go_big_quiet_step (fail))
            refine wpQuiet_nil ?_
            rintro Y ⟨⟨_, hbY⟩, rfl⟩
            have HE := Lib.hid (HB0.out.trans ((HBV.out.trans (hbY.mono HBV.out.size)).mono HB0.out.size))
            clear hbY
            go_wp2_with fail
            go_ret
            exact ⟨by rw [HY.out]; rfl, HE.out⟩
    · obtain rfl : k = l.length := by omega
      have HY : Hid (r = false) := Lib.hid (by
        rw [HV.out, List.any_eq_false]
        intro y hy
        obtain ⟨j, hj, rfl⟩ := List.getElem_of_mem hy
        have := HB.out.1 j hj
        simpa [hj] using this)
      have HE := Lib.hid (HB0.out.trans (HB.out.2.mono HB0.out.size))
      clear HB
      go_wp2_with fail
      go_ret
      exact ⟨by rw [HY.out]; rfl, HE.out⟩
set_option maxRecDepth 100000 in
set_option maxHeartbeats 4000000 in
theorem refHeld_any (x : Slt) (A : Option Addr) (c : Nat) (l : List Slt) (w : World) (hs : SlT tSlt w (Lt w.heap.size) A l) (hl : l.length ≤ 2000000) (ht : x.tier ≤ 9223372036854775807) :
    Calls Tryd.prog 61 #[.agg (sltL x).toArray, .slice A l.length c] w (Ret w (.bool (heldB x l))) := by
  have hb0 := ba1 w (.cells (sltL x).toArray 37)
  have KX := Lib.hid (Bk.new w 37 (sltL x).toArray)
  have HS := Lib.hid (hs.on hb0)
  have HB0 := Lib.hid hb0
  clear hs hb0
  have HV : Hid (heldB x l = (decide (x.tier ≤ 0) || (hasB x l x.half || (x.half == 0 && (hasB x l 1 && hasB x l 2))))) := Lib.hid rfl
  generalize heldB x l = r at *
  by_cases h0 : x.tier ≤ 0
  · have HY : Hid (r = true) := Lib.hid (by rw [HV.out, decide_eq_true h0]; rfl)
    have d0 : decide (x.tier ≤ 0) = true := decide_eq_true h0
    clear HV h0
    obtain ⟨xc, xt, xh⟩ := x
    unfold sltL at *
    simp only at *
    go_enter Tryd.func61, Tryd.ntmps61
    go_wp2_with fail
    go_ret
    exact ⟨by rw [HY.out]; rfl, HB0.out⟩
  · have KH : ∀ half : Nat, Hid (∀ V, Below (w.alloc (.cells (sltL x).toArray 37)).heap.size (w.alloc (.cells (sltL x).toArray 37)) V → Calls Tryd.prog 75 #[.slice A l.length c, .agg (sltL x).toArray, .int .u8 (half : Nat)] V (Ret V (.bool (hasB x l half)))) := fun half => Lib.hid fun V hV => refHas_any x A c l half V (HS.out.on hV) hl ⟨by omega, ht⟩
    have d0 : decide (x.tier ≤ 0) = false := decide_eq_false h0
    have HV2 : Hid (r = (hasB x l x.half || (x.half == 0 && (hasB x l 1 && hasB x l 2)))) := Lib.hid (by rw [HV.out, d0]; rfl)
    clear HV h0
    by_cases hz : x.half = 0
    · have K0 := KH 0
      have K1 := KH 1
      have K2 := KH 2
      rw [hz] at HV2
      have z1 : ((x.half : Int) == 0) = true := by simp [hz]
      clear KH
      generalize hasB x l 0 = p0 at *
      generalize hasB x l 1 = p1 at *
      generalize hasB x l 2 = p2 at *
      obtain ⟨xc, xt, xh⟩ := x
      simp only at hz z1 d0
      clear hz
      unfold sltL at *
      simp only at *
      go_enter Tryd.func61, Tryd.ntmps61
      go_upto_region 1 with fail
      generalize (w.alloc _) = W at *
      have HW := Lib.hid (Below.refl W.heap.size W)
      have x0 : W.cell? ⟨w.heap.size, 0, none⟩ = some (.int .i64 xc) := (KX.out.below HW.out KX.out.lt).cell 0
      have x1 : W.cell? ⟨w.heap.size, 1, none⟩ = some (.int .i64 xt) := (KX.out.below HW.out KX.out.lt).cell 1
      have x2 : W.cell? ⟨w.heap.size, 2, none⟩ = some (.int .u8 (xh : Nat)) := (KX.out.below HW.out KX.out.lt).cell 2
      go_upto_region 4 with fail
      clear x0 x1 x2
      have x0 : W.cell? ⟨w.heap.size, 0, none⟩ = some (.int .i64 xc) := (KX.out.below HW.out KX.out.lt).cell 0
      have x1 : W.cell? ⟨w.heap.size, 1, none⟩ = some (.int .i64 xt) := (KX.out.below HW.out KX.out.lt).cell 1
      have x2 : W.cell? ⟨w.heap.size, 2, none⟩ = some (.int .u8 (xh : Nat)) := (KX.out.below HW.out KX.out.lt).cell 2
      have KH := Lib.hid (K0.out W HW.out)
      go_wp2_with fail
      refine KH.out.mono ?_
      rintro e V1 ⟨rfl, hb⟩
      simp only
      replace HW := Lib.hid (HW.out.trans (hb.mono HW.out.size))
      clear KH hb x0 x1 x2
      try clear W
      cases p0 with
      | true =>
        have HY : Hid (r = true) := Lib.hid (by rw [HV2.out]; rfl)
        go_wp2_with fail
        go_ret
        exact ⟨by rw [HY.out]; rfl, HB0.out.trans (HW.out.mono HB0.out.size)⟩
      | false =>
        have x0 : V1.cell? ⟨w.heap.size, 0, none⟩ = some (.int .i64 xc) := (KX.out.below HW.out KX.out.lt).cell 0
        have x1 : V1.cell? ⟨w.heap.size, 1, none⟩ = some (.int .i64 xt) := (KX.out.below HW.out KX.out.lt).cell 1
        have x2 : V1.cell? ⟨w.heap.size, 2, none⟩ = some (.int .u8 (xh : Nat)) := (KX.out.below HW.out KX.out.lt).cell 2
        have KH := Lib.hid (K1.out V1 HW.out)
        go_wp2_with fail
        refine KH.out.mono ?_
        rintro e V2 ⟨rfl, hb⟩
        simp only
        replace HW := Lib.hid (HW.out.trans (hb.mono HW.out.size))
        clear KH hb x0 x1 x2
        try clear V1
        cases p1 with
        | false =>
          have HY : Hid (r = false) := Lib.hid (by rw [HV2.out]; rfl)
          go_wp2_with fail
          go_ret
          exact ⟨by rw [HY.out]; rfl, HB0.out.trans (HW.out.mono HB0.out.size)⟩
        | true =>
          have x0 : V2.cell? ⟨w.heap.size, 0, none⟩ = some (.int .i64 xc) := (KX.out.below HW.out KX.out.lt).cell 0
          have x1 : V2.cell? ⟨w.heap.size, 1, none⟩ = some (.int .i64 xt) := (KX.out.below HW.out KX.out.lt).cell 1
          have x2 : V2.cell? ⟨w.heap.size, 2, none⟩ = some (.int .u8 (xh : Nat)) := (KX.out.below HW.out KX.out.lt).cell 2
          have KH := Lib.hid (K2.out V2 HW.out)
          go_wp2_with fail
          refine KH.out.mono ?_
          rintro e V3 ⟨rfl, hb⟩
          simp only
          replace HW := Lib.hid (HW.out.trans (hb.mono HW.out.size))
          clear KH hb x0 x1 x2
          try clear V2
          have HY : Hid (r = p2) := Lib.hid (by rw [HV2.out]; rfl)
          go_wp2_with fail
          go_ret
          exact ⟨by rw [HY.out]; rfl, HB0.out.trans (HW.out.mono HB0.out.size)⟩
    · have K0 := KH x.half
      have hz2 : (x.half == 0) = false := by simp [hz]
      have HV3 : Hid (r = hasB x l x.half) := Lib.hid (by rw [HV2.out, hz2]; simp)
      have z1 : ((x.half : Int) == 0) = false := by simp [hz]
      clear KH hz hz2 HV2
      generalize hasB x l x.half = p0 at *
      obtain ⟨xc, xt, xh⟩ := x
      simp only at z1 d0
      unfold sltL at *
      simp only at *
      go_enter Tryd.func61, Tryd.ntmps61
      go_upto_region 1 with fail
      generalize (w.alloc _) = W at *
      have HW := Lib.hid (Below.refl W.heap.size W)
      have x0 : W.cell? ⟨w.heap.size, 0, none⟩ = some (.int .i64 xc) := (KX.out.below HW.out KX.out.lt).cell 0
      have x1 : W.cell? ⟨w.heap.size, 1, none⟩ = some (.int .i64 xt) := (KX.out.below HW.out KX.out.lt).cell 1
      have x2 : W.cell? ⟨w.heap.size, 2, none⟩ = some (.int .u8 (xh : Nat)) := (KX.out.below HW.out KX.out.lt).cell 2
      have KH := Lib.hid (K0.out W HW.out)
      go_wp2_with fail
      refine KH.out.mono ?_
      rintro e V1 ⟨rfl, hb⟩
      simp only
      replace HW := Lib.hid (HW.out.trans (hb.mono HW.out.size))
      clear KH hb x0 x1 x2
      have HY : Hid (r = p0) := Lib.hid HV3.out
      go_wp2_with fail
      go_ret
      exact ⟨by rw [HY.out]; rfl, HB0.out.trans (HW.out.mono HB0.out.size)⟩
end Go.Proofs.YtmhikcleekfbpaaDoor
