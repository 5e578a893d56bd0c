/-
  Walks of package segregate: rules, Near.
-/
import Derived.Test.YtmhikcleekfbpaaDoorSgC
namespace Go.Proofs.YtmhikcleekfbpaaDoor
open Go.RowKit

@[reducible] def rulA (g : Nat) : Array Value := #[.func (.func 34) #[] #[], .func (.func 35) #[] #[], .func (.func 37) #[] #[.pointer (some ⟨g, 0, none⟩)], .func (.func 40) #[] #[.pointer (some ⟨g, 0, none⟩)]]
theorem info_rul : (Tryd.prog.info? 76).map (·.size) = some 4 := by kernel_rfl
set_option maxHeartbeats 1000000 in
theorem rules_any (s : Shp) (h : Hd) (w : World) : Calls Tryd.prog 23 #[.agg (shpA s h)] w (fun e w' => ∃ g, e = .returned (.agg (rulA g)) ∧ Bk w' g 32 (shpA s h) ∧ Below w.heap.size w w') := by
  have hk := Bk.new w 32 (shpA s h)
  have hst : ∀ (a : Addr) (m : Mode) (f : Fn) (x c : Array Value) (V : World), (store a (.func f x c) m).run Tryd.prog V = stored Tryd.prog V a (.func f x c) m := fun a m f x c V => run_store Tryd.prog V a _ m rfl
  unfold shpA at hk ⊢
  go_enter Tryd.func23, Tryd.ntmps23
  go_wp2
  exact bodyPost_ret (results_row1 rfl _ _ (w.heap.size + 1) 76 (rulA w.heap.size) _ rfl (Bk.nxt14 _ _ _) Tryd.underlying76 rfl info_rul) rfl ⟨w.heap.size, rfl, hk.alloc _, ba2 w _ _⟩
theorem bk14c {w : World} (o1 o2 : Obj) (t : TypeId) (cs : Array Value) : Bk (((w.alloc o1).alloc o2).alloc (.cells cs t)) (w.heap.size + 1 + 1) t cs := by
  have := Bk.new ((w.alloc o1).alloc o2) t cs
  rwa [show ((w.alloc o1).alloc o2).heap.size = w.heap.size + 1 + 1 by simp] at this
theorem ba3y (w : World) (o1 o2 o3 : Obj) : Below w.heap.size w (((w.alloc o1).alloc o2).alloc o3) := (ba2 w o1 o2).trans ((ba1 _ o3).mono (by simp; omega))
set_option maxRecDepth 100000 in
set_option maxHeartbeats 8000000 in
theorem near_any (s : Shp) (h : Hd) (a b : Slt) (code : Nat) (w : World) (hs : ShpR w (Lt w.heap.size) s h) (hl : s.cols.length ≤ 1000000) (hr : ∀ c ∈ s.cols, I64 c.row) (hc : code < 256) :
    Calls Tryd.prog 10 #[.agg (shpA s h), .agg (sltL a).toArray, .agg (sltL b).toArray, .int .u8 (code : Nat)] w (Ret w (.bool (nearF s a b code))) := by
  have HV : Hid (nearF s a b code = ((apartF s a.col b.col).2 && nearTo s a b code 4)) := Lib.hid rfl
  have HT : Hid (∀ k, k < 4 → k ≤ code → ruleN s a b k = true → nearTo s a b code 4 = true) := Lib.hid fun k h1 h2 h3 => nearTo_hit h1 h2 h3
  have HU : Hid (∀ k, (k ≤ code → ruleN s a b k = false) → nearTo s a b code k = false → nearTo s a b code (k + 1) = false) := Lib.hid fun k h1 h2 => by
    rw [nearTo_succ, h2]
    by_cases hk : k ≤ code
    · rw [h1 hk]; simp
    · rw [decide_eq_false hk]; rfl
  have HZ : Hid (nearTo s a b code 0 = false) := Lib.hid rfl
  have HIN := Lib.hid (fun (h : (apartF s a.col b.col).2 = true) => apart_in14 h)
  have H1 := Lib.hid (fun (V : World) => rules1_any a b V)
  have H2 := Lib.hid (fun (V : World) => rules2_any a b V)
  have H4 := Lib.hid (fun (g : Nat) (V : World) => rules4_any s h a b g V)
  have H3 : Hid (∀ (g : Nat) (V : World), ((0 ≤ a.col ∧ a.col < s.cols.length) ∧ 0 ≤ b.col ∧ b.col < s.cols.length) → Bk V g 32 (shpA s h) → ShpR V (Lt V.heap.size) s h → Calls Tryd.prog 37 #[.agg (sltL a).toArray, .agg (sltL b).toArray, .pointer (some ⟨g, 0, none⟩)] V (Ret V (.bool (rule3 s a.col.toNat b.col.toNat)))) := Lib.hid fun g V hi hk hs => by
    have := rules3_any s h a.col.toNat b.col.toNat a.tier b.tier a.half b.half g V hk hs hl hr (by omega) (by omega)
    rw [show ((a.col.toNat : Nat) : Int) = a.col by omega, show ((b.col.toNat : Nat) : Int) = b.col by omega] at this
    exact this
  have HR1 : Hid (ruleN s a b 0 = false) := Lib.hid rfl
  have HR2 : Hid (ruleN s a b 1 = rule2 a b) := Lib.hid rfl
  have HR3 : Hid (ruleN s a b 2 = rule3 s a.col.toNat b.col.toNat) := Lib.hid rfl
  have HR4 : Hid (ruleN s a b 3 = rule4 s a b) := Lib.hid rfl
  have HA := Lib.hid (fun (V : World) (hV : ShpR V (Lt V.heap.size) s h) => apart_any s h a.col b.col V hV)
  have HRU := Lib.hid (fun (V : World) => rules_any s h V)
  generalize nearF s a b code = R at *
  generalize rule2 a b = r2 at *
  generalize rule3 s a.col.toNat b.col.toNat = r3 at *
  generalize rule4 s a b = r4 at *
  generalize ruleN s a b = rn at *
  generalize nearTo s a b code = nt at *
  generalize apartF s a.col b.col = ap at *
  obtain ⟨ac, at_, ah⟩ := a
  obtain ⟨bc, bt, bh⟩ := b
  obtain ⟨an, ao⟩ := ap
  have hb0 := ba3y w (.cells (shpA s h) 32) (.cells #[.int .i64 ac, .int .i64 at_, .int .u8 (ah : Nat)] 37) (.cells #[.int .i64 bc, .int .i64 bt, .int .u8 (bh : Nat)] 37)
  have KE := Lib.hid (((Bk.new w 32 (shpA s h)).alloc (.cells #[.int .i64 ac, .int .i64 at_, .int .u8 (ah : Nat)] 37)).alloc (.cells #[.int .i64 bc, .int .i64 bt, .int .u8 (bh : Nat)] 37))
  have KX := Lib.hid ((Bk.nxt14 (w := w) (.cells (shpA s h) 32) 37 #[.int .i64 ac, .int .i64 at_, .int .u8 (ah : Nat)]).alloc (.cells #[.int .i64 bc, .int .i64 bt, .int .u8 (bh : Nat)] 37))
  have KY := Lib.hid (bk14c (w := w) (.cells (shpA s h) 32) (.cells #[.int .i64 ac, .int .i64 at_, .int .u8 (ah : Nat)] 37) 37 #[.int .i64 bc, .int .i64 bt, .int .u8 (bh : Nat)])
  have HS := Lib.hid (hs.on hb0)
  have HB0 := Lib.hid hb0
  clear hb0 hs hr
  unfold shpA at KE KX KY HS HB0 HA HRU H3 H4
  unfold sltL at H1 H2 H3 H4
  simp only at H1 H2 H3 H4 HA HIN
  unfold shpA sltL
  simp only
  go_enter Tryd.func10, Tryd.ntmps10
  go_upto_region 1 with fail
  generalize ((w.alloc _).alloc _).alloc _ = W at *
  have x0 : W.cell? ⟨w.heap.size + 1, 0, none⟩ = some (.int .i64 ac) := KX.out.cell 0
  have x1 : W.cell? ⟨w.heap.size + 1, 1, none⟩ = some (.int .i64 at_) := KX.out.cell 1
  have x2 : W.cell? ⟨w.heap.size + 1, 2, none⟩ = some (.int .u8 (ah : Nat)) := KX.out.cell 2
  have y0 : W.cell? ⟨w.heap.size + 1 + 1, 0, none⟩ = some (.int .i64 bc) := KY.out.cell 0
  have y1 : W.cell? ⟨w.heap.size + 1 + 1, 1, none⟩ = some (.int .i64 bt) := KY.out.cell 1
  have y2 : W.cell? ⟨w.heap.size + 1 + 1, 2, none⟩ = some (.int .u8 (bh : Nat)) := KY.out.cell 2
  have e0 : W.cell? ⟨w.heap.size, 0, none⟩ = some (Value.slice h.A1 s.cols.length h.c1) := KE.out.cell 0
  have e1 : W.cell? ⟨w.heap.size, 1, none⟩ = some (Value.slice h.A2 s.covs.length h.c2) := KE.out.cell 1
  have e2 : W.cell? ⟨w.heap.size, 2, none⟩ = some (.int .i64 s.l0) := KE.out.cell 2
  have e3 : W.cell? ⟨w.heap.size, 3, none⟩ = some (.int .i64 s.l1) := KE.out.cell 3
  have e4 : W.cell? ⟨w.heap.size, 4, none⟩ = some (.int .i64 s.l2) := KE.out.cell 4
  have e5 : W.cell? ⟨w.heap.size, 5, none⟩ = some (.int .i64 s.l3) := KE.out.cell 5
  have e6 : W.cell? ⟨w.heap.size, 6, none⟩ = some (Value.slice h.A3 s.rows.length h.c3) := KE.out.cell 6
  have e7 : W.cell? ⟨w.heap.size, 7, none⟩ = some (Value.slice h.A4 s.frames.length h.c4) := KE.out.cell 7
  have e8 : W.cell? ⟨w.heap.size, 8, none⟩ = some (Value.slice h.A5 s.tanks.length h.c5) := KE.out.cell 8
  have e9 : W.cell? ⟨w.heap.size, 9, none⟩ = some (.int .i64 s.m0) := KE.out.cell 9
  have e10 : W.cell? ⟨w.heap.size, 10, none⟩ = some (.int .i64 s.m1) := KE.out.cell 10
  have e11 : W.cell? ⟨w.heap.size, 11, none⟩ = some (.int .i64 s.m2) := KE.out.cell 11
  have e12 : W.cell? ⟨w.heap.size, 12, none⟩ = some (.int .i64 s.m3) := KE.out.cell 12
  go_wp2_with fail
  refine (HA.out W HS.out).mono ?_
  rintro e V ⟨rfl, hb⟩
  simp only
  have HBV := Lib.hid hb
  clear hb HA e0 e1 e2 e3 e4 e5 e6 e7 e8 e9 e10 e11 e12 x0 x1 x2 y0 y1 y2
  cases ao with
  | false =>
    have HE := Lib.hid (HB0.out.trans (HBV.out.mono HB0.out.size))
    go_wp2_with fail
    go_ret
    exact ⟨by rw [HV.out]; rfl, HE.out⟩
  | true =>
    have HI := Lib.hid (HIN.out rfl)
    have KEV := Lib.hid (KE.out.below HBV.out KE.out.lt)
    clear HIN
    have e0 : V.cell? ⟨w.heap.size, 0, none⟩ = some (Value.slice h.A1 s.cols.length h.c1) := KEV.out.cell 0
    have e1 : V.cell? ⟨w.heap.size, 1, none⟩ = some (Value.slice h.A2 s.covs.length h.c2) := KEV.out.cell 1
    have e2 : V.cell? ⟨w.heap.size, 2, none⟩ = some (.int .i64 s.l0) := KEV.out.cell 2
    have e3 : V.cell? ⟨w.heap.size, 3, none⟩ = some (.int .i64 s.l1) := KEV.out.cell 3
    have e4 : V.cell? ⟨w.heap.size, 4, none⟩ = some (.int .i64 s.l2) := KEV.out.cell 4
    have e5 : V.cell? ⟨w.heap.size, 5, none⟩ = some (.int .i64 s.l3) := KEV.out.cell 5
    have e6 : V.cell? ⟨w.heap.size, 6, none⟩ = some (Value.slice h.A3 s.rows.length h.c3) := KEV.out.cell 6
    have e7 : V.cell? ⟨w.heap.size, 7, none⟩ = some (Value.slice h.A4 s.frames.length h.c4) := KEV.out.cell 7
    have e8 : V.cell? ⟨w.heap.size, 8, none⟩ = some (Value.slice h.A5 s.tanks.length h.c5) := KEV.out.cell 8
    have e9 : V.cell? ⟨w.heap.size, 9, none⟩ = some (.int .i64 s.m0) := KEV.out.cell 9
    have e10 : V.cell? ⟨w.heap.size, 10, none⟩ = some (.int .i64 s.m1) := KEV.out.cell 10
    have e11 : V.cell? ⟨w.heap.size, 11, none⟩ = some (.int .i64 s.m2) := KEV.out.cell 11
    have e12 : V.cell? ⟨w.heap.size, 12, none⟩ = some (.int .i64 s.m3) := KEV.out.cell 12
    go_wp2_with fail
    refine (HRU.out V).mono ?_
    rintro e X ⟨g, rfl, hg, hb⟩
    simp only
    have HGX := Lib.hid hg
    have HBX := Lib.hid (HBV.out.trans (hb.mono HBV.out.size))
    clear hg hb HRU KEV e0 e1 e2 e3 e4 e5 e6 e7 e8 e9 e10 e11 e12 HBV
    try clear V
    go_wp2_with fail
    go_loopw [26] (fun iv wr => ∃ k : Nat, k ≤ 4 ∧ iv = .int .i64 k ∧ Hid (nt k = false) ∧ Hid (Below W.heap.size W wr) ∧ Hid (Bk wr g 32 (shpA s h))) (fun iv _ => 4 - (intOf iv).toNat)
    case atStart => exact ⟨0, by omega, rfl, HZ, HBX, HGX⟩
    case round =>
      clear HBX HGX HZ
      try clear X
      obtain ⟨k, hk, rfl, HN, HB, HG⟩ := hrel
      obtain ⟨V, rfl⟩ : ∃ V, V = wr := ⟨_, rfl⟩
      have KX1 := Lib.hid (KX.out.below HB.out KX.out.lt)
      have KY1 := Lib.hid (KY.out.below HB.out KY.out.lt)
      have x0 : V.cell? ⟨w.heap.size + 1, 0, none⟩ = some (.int .i64 ac) := KX1.out.cell 0
      have x1 : V.cell? ⟨w.heap.size + 1, 1, none⟩ = some (.int .i64 at_) := KX1.out.cell 1
      have x2 : V.cell? ⟨w.heap.size + 1, 2, none⟩ = some (.int .u8 (ah : Nat)) := KX1.out.cell 2
      have y0 : V.cell? ⟨w.heap.size + 1 + 1, 0, none⟩ = some (.int .i64 bc) := KY1.out.cell 0
      have y1 : V.cell? ⟨w.heap.size + 1 + 1, 1, none⟩ = some (.int .i64 bt) := KY1.out.cell 1
      have y2 : V.cell? ⟨w.heap.size + 1 + 1, 2, none⟩ = some (.int .u8 (bh : Nat)) := KY1.out.cell 2
      by_cases h4 : k = 4
      · subst h4
        have HE := Lib.hid (HB0.out.trans (HB.out.mono HB0.out.size))
        go_wp2_with fail
        go_ret
        exact ⟨by rw [HV.out, HN.out]; rfl, HE.out⟩
      by_cases hk0 : k = 0
      · subst hk0
        have hI : ∀ W9 : World, (Instr.index 76 (.agg (rulA g)) (.int .i64 0)).run Tryd.prog W9 = .ok (.func (.func 34) #[] #[]) W9 := fun W9 => by kernel_rfl
        by_cases hc0 : 0 ≤ code
        · have hci : (0 : Int) ≤ (code : Int) := by omega
          go_step
          go_step
          go_wp2_with fail
          refine (H1.out V).mono ?_
          rintro e X ⟨rfl, hb⟩
          simp only
          have HB9 := Lib.hid (HB.out.trans (hb.mono HB.out.size))
          have HG9 := Lib.hid (HG.out.below hb HG.out.lt)
          clear hb x0 x1 x2 y0 y1 y2
          have HN9 := Lib.hid (HU.out 0 (fun _ => HR1.out) HN.out)
          go_wp2_with fail
          go_roundw
          case rel => (first | exact ⟨1, by omega, by go_num, HN9, HB9, HG9⟩ | ((repeat apply Exists.intro); (first | exact ⟨⟨1, by omega, by go_num, HN9, HB9, HG9⟩, rfl⟩ | exact ⟨by omega, by go_num, HN9, HB9, HG9⟩)))
          case measure => simp [intOf]
        · omega
      by_cases hk1 : k = 1
      · subst hk1
        have hI : ∀ W9 : World, (Instr.index 76 (.agg (rulA g)) (.int .i64 1)).run Tryd.prog W9 = .ok (.func (.func 35) #[] #[]) W9 := fun W9 => by kernel_rfl
        by_cases hc1 : 1 ≤ code
        · have hci : (1 : Int) ≤ (code : Int) := by omega
          go_step
          go_step
          go_wp2_with fail
          refine (H2.out V).mono ?_
          rintro e X ⟨rfl, hb⟩
          simp only
          have HB9 := Lib.hid (HB.out.trans (hb.mono HB.out.size))
          have HG9 := Lib.hid (HG.out.below hb HG.out.lt)
          clear hb x0 x1 x2 y0 y1 y2
          cases r2 with
          | true =>
            have HE := Lib.hid (HB0.out.trans (HB9.out.mono HB0.out.size))
            have HTT := Lib.hid (HT.out 1 (by omega) hc1 HR2.out)
            go_wp2_with fail
            go_ret
            exact ⟨by rw [HV.out, HTT.out]; rfl, HE.out⟩
          | false =>
            have HN9 := Lib.hid (HU.out 1 (fun _ => HR2.out) HN.out)
            go_wp2_with fail
            go_roundw
            case rel => (first | exact ⟨2, by omega, by go_num, HN9, HB9, HG9⟩ | ((repeat apply Exists.intro); (first | exact ⟨⟨2, by omega, by go_num, HN9, HB9, HG9⟩, rfl⟩ | exact ⟨by omega, by go_num, HN9, HB9, HG9⟩)))
            case measure => simp [intOf]
        · have hci : (code : Int) < 1 := by omega
          have hci2 : decide ((1 : Int) ≤ (code : Int)) = false := by simp; omega
          have HN9 := Lib.hid (HU.out 1 (fun h => absurd h hc1) HN.out)
          have HB9 := HB
          have HG9 := HG
          clear HB HG
          go_step
          go_step
          go_wp2_with fail
          go_roundw
          case rel => (first | exact ⟨2, by omega, by go_num, HN9, HB9, HG9⟩ | ((repeat apply Exists.intro); (first | exact ⟨⟨2, by omega, by go_num, HN9, HB9, HG9⟩, rfl⟩ | exact ⟨by omega, by go_num, HN9, HB9, HG9⟩)))
          case measure => simp [intOf]
      by_cases hk2 : k = 2
      · subst hk2
        have hI : ∀ W9 : World, (Instr.index 76 (.agg (rulA g)) (.int .i64 2)).run Tryd.prog W9 = .ok (.func (.func 37) #[] #[.pointer (some ⟨g, 0, none⟩)]) W9 := fun W9 => by kernel_rfl
        by_cases hc2 : 2 ≤ code
        · have hci : (2 : Int) ≤ (code : Int) := by omega
          go_step
          go_step
          go_wp2_with fail
          refine (H3.out g V HI.out HG.out (HS.out.on HB.out)).mono ?_
          rintro e X ⟨rfl, hb⟩
          simp only
          have HB9 := Lib.hid (HB.out.trans (hb.mono HB.out.size))
          have HG9 := Lib.hid (HG.out.below hb HG.out.lt)
          clear hb x0 x1 x2 y0 y1 y2
          cases r3 with
          | true =>
            have HE := Lib.hid (HB0.out.trans (HB9.out.mono HB0.out.size))
            have HTT := Lib.hid (HT.out 2 (by omega) hc2 HR3.out)
            go_wp2_with fail
            go_ret
            exact ⟨by rw [HV.out, HTT.out]; rfl, HE.out⟩
          | false =>
            have HN9 := Lib.hid (HU.out 2 (fun _ => HR3.out) HN.out)
            go_wp2_with fail
            go_roundw
            case rel => (first | exact ⟨3, by omega, by go_num, HN9, HB9, HG9⟩ | ((repeat apply Exists.intro); (first | exact ⟨⟨3, by omega, by go_num, HN9, HB9, HG9⟩, rfl⟩ | exact ⟨by omega, by go_num, HN9, HB9, HG9⟩)))
            case measure => simp [intOf]
        · have hci : (code : Int) < 2 := by omega
          have hci2 : decide ((2 : Int) ≤ (code : Int)) = false := by simp; omega
          have HN9 := Lib.hid (HU.out 2 (fun h => absurd h hc2) HN.out)
          have HB9 := HB
          have HG9 := HG
          clear HB HG
          go_step
          go_step
          go_wp2_with fail
          go_roundw
          case rel => (first | exact ⟨3, by omega, by go_num, HN9, HB9, HG9⟩ | ((repeat apply Exists.intro); (first | exact ⟨⟨3, by omega, by go_num, HN9, HB9, HG9⟩, rfl⟩ | exact ⟨by omega, by go_num, HN9, HB9, HG9⟩)))
          case measure => simp [intOf]
      by_cases hk3 : k = 3
      · subst hk3
        have hI : ∀ W9 : World, (Instr.index 76 (.agg (rulA g)) (.int .i64 3)).run Tryd.prog W9 = .ok (.func (.func 40) #[] #[.pointer (some ⟨g, 0, none⟩)]) W9 := fun W9 => by kernel_rfl
        by_cases hc3 : 3 ≤ code
        · have hci : (3 : Int) ≤ (code : Int) := by omega
          go_step
          go_step
          go_wp2_with fail
          refine (H4.out g V HG.out (HS.out.on HB.out)).mono ?_
          rintro e X ⟨rfl, hb⟩
          simp only
          have HB9 := Lib.hid (HB.out.trans (hb.mono HB.out.size))
          have HG9 := Lib.hid (HG.out.below hb HG.out.lt)
          clear hb x0 x1 x2 y0 y1 y2
          cases r4 with
          | true =>
            have HE := Lib.hid (HB0.out.trans (HB9.out.mono HB0.out.size))
            have HTT := Lib.hid (HT.out 3 (by omega) hc3 HR4.out)
            go_wp2_with fail
            go_ret
            exact ⟨by rw [HV.out, HTT.out]; rfl, HE.out⟩
          | false =>
            have HN9 := Lib.hid (HU.out 3 (fun _ => HR4.out) HN.out)
            go_wp2_with fail
            go_roundw
            case rel => (first | exact ⟨4, by omega, by go_num, HN9, HB9, HG9⟩ | ((repeat apply Exists.intro); (first | exact ⟨⟨4, by omega, by go_num, HN9, HB9, HG9⟩, rfl⟩ | exact ⟨by omega, by go_num, HN9, HB9, HG9⟩)))
            case measure => simp [intOf]
        · have hci : (code : Int) < 3 := by omega
          have hci2 : decide ((3 : Int) ≤ (code : Int)) = false := by simp; omega
          have HN9 := Lib.hid (HU.out 3 (fun h => absurd h hc3) HN.out)
          have HB9 := HB
          have HG9 := HG
          clear HB HG
          go_step
          go_step
          go_wp2_with fail
          go_roundw
          case rel => (first | exact ⟨4, by omega, by go_num, HN9, HB9, HG9⟩ | ((repeat apply Exists.intro); (first | exact ⟨⟨4, by omega, by go_num, HN9, HB9, HG9⟩, rfl⟩ | exact ⟨by omega, by go_num, HN9, HB9, HG9⟩)))
          case measure => simp [intOf]
      omega
end Go.Proofs.YtmhikcleekfbpaaDoor
