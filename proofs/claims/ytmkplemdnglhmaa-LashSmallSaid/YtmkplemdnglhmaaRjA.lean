/-
  Walks of the reference of chapter 11: high, Lift, Moment.
-/
import Derived.Test.YtmkplemdnglhmaaRhA
import Derived.Test.YtmkplemdnglhmaaLaZ
namespace Go.Proofs.Ytmkplemdnglhmaa
open Go.RowKit

theorem find_noneZ {boxes : List Bx} {id : Int} (h : (findBx boxes id).2 = false) : (findBx boxes id).1 = zBx := by
  unfold findBx at h ⊢
  split
  · rfl
  · rename_i h2; rw [if_neg h2] at h; cases h
def liftG (boxes : List Bx) (x : Slt) (h : Nat) (y : Stw) : Int := if (y.slot.half == h || y.slot.half == 0) && overB x y.slot then (if (findBx boxes y.box).2 then tallB (findBx boxes y.box).1 else 0) else 0
theorem liftH_sum (boxes : List Bx) (x : Slt) (h : Nat) : ∀ l : List Stw, liftH boxes l x h = (l.map (liftG boxes x h)).sum
  | [] => rfl
  | y :: l => by
    have ih := liftH_sum boxes x h l
    unfold liftH halfL at ih ⊢
    rw [List.map_cons, List.sum_cons, ← ih, List.filterMap_cons]
    unfold halfOf liftG inHalf
    cases hf : (findBx boxes y.box).2 with
    | false => simp
    | true =>
      cases hc : (y.slot.col == x.col) with
      | false =>
        have ho : overB x y.slot = false := by
          unfold overB
          have : (x.col == y.slot.col) = false := by rw [BEq.comm]; exact hc
          simp [this, hc]
        simp [ho]
      | true =>
        cases hh : (y.slot.half == h || y.slot.half == 0) with
        | false => simp
        | true => simp [liftP]
def momG (boxes : List Bx) (l : List Stw) (col : Int) (h : Nat) (y : Stw) : Int := if y.slot.col == col && (y.slot.half == h || y.slot.half == 0) then (findBx boxes y.box).1.kilos * liftF boxes l y.slot else 0
theorem mom_sum (boxes : List Bx) (l0 : List Stw) (col : Int) (h : Nat) : ∀ l : List Stw, ((halfL boxes l col h).map fun p => p.2.kilos * liftF boxes l0 p.1).sum = (l.map (momG boxes l0 col h)).sum
  | [] => rfl
  | y :: l => by
    have ih := mom_sum boxes l0 col h l
    unfold halfL at ih ⊢
    rw [List.map_cons, List.sum_cons, ← ih, List.filterMap_cons]
    unfold halfOf momG inHalf
    cases hf : (findBx boxes y.box).2 with
    | false =>
      have hz := find_noneZ hf
      rw [hz]
      simp [zBx]
    | true =>
      cases hh : (y.slot.col == col && (y.slot.half == h || y.slot.half == 0)) with
      | false => simp
      | true => simp
theorem momentF_sum (boxes : List Bx) (l : List Stw) (col : Int) (h : Nat) : momentF boxes l col h = (l.map (momG boxes l col h)).sum := mom_sum boxes l col h l
theorem liftG_bd (boxes : List Bx) (x : Slt) (h : Nat) (y : Stw) : 0 ≤ liftG boxes x h y ∧ liftG boxes x h y ≤ 2896 := by
  unfold liftG tallB
  (repeat' split) <;> omega
theorem find_kgL {boxes : List Bx} (h : KgL boxes) (id : Int) : -2000000000 ≤ (findBx boxes id).1.kilos ∧ (findBx boxes id).1.kilos ≤ 2000000000 := by
  cases hq : findBx boxes id with
  | mk b ok =>
    cases ok with
    | true => exact h b (find_some hq).1
    | false =>
      have := find_noneZ (boxes := boxes) (id := id) (by rw [hq])
      rw [hq] at this
      simp only at this ⊢
      rw [this]; decide
theorem momG_bd {boxes : List Bx} {l : List Stw} (hk : KgL boxes) (hl : l.length ≤ 1000) (col : Int) (h : Nat) (y : Stw) : -5792000000000000 ≤ momG boxes l col h y ∧ momG boxes l col h y ≤ 5792000000000000 := by
  unfold momG
  split
  · have h1 := find_kgL hk y.box
    have h2 := lift_bd boxes hl y.slot
    exact mul_bd h1.1 h1.2 h2.1 h2.2
  · decide
theorem lift_half {boxes : List Bx} {l : List Stw} {x : Slt} (h : x.half ≠ 0) : liftF boxes l x = liftH boxes l x x.half := by
  have h1 := (liftH_bd boxes l x x.half).1
  unfold liftF liftTo hvL
  rw [if_neg h]
  simp only [List.length_cons, List.length_nil, List.take_succ_cons, List.take_zero, List.foldl_cons, List.foldl_nil]
  split <;> omega
theorem lift_whole {boxes : List Bx} {l : List Stw} {x : Slt} (h : x.half = 0) : liftF boxes l x = if liftH boxes l x 2 < liftH boxes l x 1 then liftH boxes l x 1 else liftH boxes l x 2 := by
  have h1 := (liftH_bd boxes l x 1).1
  have h2 := (liftH_bd boxes l x 2).1
  unfold liftF liftTo hvL
  rw [if_pos h]
  simp only [List.length_cons, List.length_nil, List.take_succ_cons, List.take_zero, List.foldl_cons, List.foldl_nil]
  (repeat' split) <;> omega
set_option maxRecDepth 100000 in
set_option maxHeartbeats 4000000 in
theorem refHigh11_any (A : Option Addr) (c : Nat) (boxes : List Bx) (A2 : Option Addr) (c2 : Nat) (l : List Stw) (x : Slt) (half : Nat) (w : World) (hb : SlT tBx w (Lt w.heap.size) A boxes) (hbl : boxes.length ≤ 1000000) (hs : SlT tStw w (Lt w.heap.size) A2 l) (hl : l.length ≤ 1000) :
    Calls Try.prog 95 #[.slice A boxes.length c, .slice A2 l.length c2, .agg (sltL x).toArray, .int .u8 (half : Nat)] w (Ret w (.int .i64 (liftH boxes l x half))) := by
  rw [liftH_sum]
  obtain ⟨xc, xt, xh⟩ := x
  have hb0 := ba1 w (.cells #[.int .i64 xc, .int .i64 xt, .int .u8 (xh : Nat)] 40)
  have KX := Lib.hid (Bk.new w 40 #[.int .i64 xc, .int .i64 xt, .int .u8 (xh : Nat)])
  have HS := Lib.hid (hs.on hb0)
  have HBX := Lib.hid (hb.on hb0)
  have HB0 := Lib.hid hb0
  clear hs hb hb0
  unfold sltL
  simp only
  go_enter Try.func95, Try.ntmps95
  go_upto_region 1 with fail
  generalize (w.alloc _) = W at *
  go_wp2_with fail
  go_loopw [9, 10] (fun v i wr => ∃ (k : Nat) (n : Int), k ≤ l.length ∧ i = .int .i64 k ∧ v = .int .i64 n ∧ Hid (n = ((l.take k).map (liftG boxes ⟨xc, xt, xh⟩ half)).sum) ∧ Hid (Below W.heap.size W wr)) (fun _ i _ => l.length - (intOf i).toNat)
  case atStart => exact ⟨0, 0, Nat.zero_le _, rfl, rfl, Lib.hid (by simp), Lib.hid (Below.refl _ _)⟩
  case round =>
    obtain ⟨k, n, hk, rfl, rfl, HN, HB⟩ := hrel
    obtain ⟨V, rfl⟩ : ∃ V, V = wr := ⟨_, rfl⟩
    by_cases hlt : k < l.length
    · obtain ⟨b, off, rfl, hbB, a0, a1, a2, a3⟩ := (HS.out.on HB.out).stw hlt
      have HP := Lib.hid (sum_take_succ (liftG boxes ⟨xc, xt, xh⟩ half) l hlt default)
      have hbd := sum_bd (liftG boxes ⟨xc, xt, xh⟩ half) 2896 (l.take k) (fun y _ => liftG_bd boxes ⟨xc, xt, xh⟩ half y)
      rw [← HN.out] at hbd
      have hlk : (l.take k).length = k := by simp; omega
      rw [hlk] at hbd
      clear hlk
      have i0 : (0 : Int) ≤ (k : Int) := by omega
      have i1 : (k : Int) < (l.length : Int) := by omega
      obtain ⟨hn0, hn1⟩ := hbd
      have hn2 : n ≤ 2896000000 := by omega
      clear hn1
      have hbb : b < V.heap.size := hbB
      clear hbB
      generalize l.getD k default = y at *
      obtain ⟨yb, yc, yt, yh⟩ := y
      simp only at a0 a1 a2 a3
      have HG : Hid (liftG boxes ⟨xc, xt, xh⟩ half ⟨yb, ⟨yc, yt, yh⟩⟩ = if (((yh : Int) == (half : Int)) || ((yh : Int) == 0)) && overB ⟨xc, xt, xh⟩ ⟨yc, yt, yh⟩ then (if (findBx boxes yb).2 then tallB (findBx boxes yb).1 else 0) else 0) := Lib.hid (by
        rw [int_beq, show ((yh : Int) == 0) = (yh == 0) from int_beq yh 0]
        rfl)
      have hby := ba1 V (.cells #[.int .i64 yc, .int .i64 yt, .int .u8 (yh : Nat)] 40)
      have KY := Lib.hid (Bk.new V 40 #[.int .i64 yc, .int .i64 yt, .int .u8 (yh : Nat)])
      have HB2 := Lib.hid (HB.out.trans (hby.mono HB.out.size))
      have KF := Lib.hid (fun (U : World) (hU : Below (V.alloc (.cells #[.int .i64 yc, .int .i64 yt, .int .u8 (yh : Nat)] 40)).heap.size (V.alloc (.cells #[.int .i64 yc, .int .i64 yt, .int .u8 (yh : Nat)] 40)) U) => refFindBx_any A c boxes yb U (HBX.out.on (HB2.out.trans (hU.mono HB2.out.size))) hbl)
      have KO := Lib.hid (fun U => refOver_any ⟨xc, xt, xh⟩ ⟨yc, yt, yh⟩ U)
      unfold sltL at KO
      simp only at KO
      generalize overB ⟨xc, xt, xh⟩ ⟨yc, yt, yh⟩ = ov at *
      generalize findBx boxes yb = fb at *
      obtain ⟨⟨b0, b1, b2, b3, b4, b5, b6, b7, b8⟩, ok⟩ := fb
      unfold bxL at KF
      simp only at KF HG
      go_step
      go_step
      go_upto_region 6 with fail
      replace a0 := (hby.cell (p := ⟨b, off + k * 4, none⟩) hbb).trans a0
      have hbb2 : b < (V.alloc (.cells #[.int .i64 yc, .int .i64 yt, .int .u8 (yh : Nat)] 40)).heap.size := by simp; omega
      clear hbb
      have hbb := hbb2
      clear hbb2
      obtain ⟨gy, hgy⟩ : ∃ gy, gy = V.heap.size := ⟨_, rfl⟩
      rw [← hgy] at KY ⊢
      clear hby HB a1 a2 a3
      clear hgy
      generalize (V.alloc _) = W2 at *
      have y0 : W2.cell? ⟨gy, 0, none⟩ = some (.int .i64 yc) := KY.out.cell 0
      have y1 : W2.cell? ⟨gy, 1, none⟩ = some (.int .i64 yt) := KY.out.cell 1
      have y2 : W2.cell? ⟨gy, 2, none⟩ = some (.int .u8 (yh : Nat)) := KY.out.cell 2
      have x0 : W2.cell? ⟨w.heap.size, 0, none⟩ = some (.int .i64 xc) := (KX.out.below HB2.out KX.out.lt).cell 0
      have x1 : W2.cell? ⟨w.heap.size, 1, none⟩ = some (.int .i64 xt) := (KX.out.below HB2.out KX.out.lt).cell 1
      have x2 : W2.cell? ⟨w.heap.size, 2, none⟩ = some (.int .u8 (xh : Nat)) := (KX.out.below HB2.out KX.out.lt).cell 2
      clear KY
      cases q1 : ((yh : Int) == (half : Int)) with
      | true =>
        have r1 : ((yh : Int) != (half : Int)) = false := by unfold bne; rw [q1]; rfl
        cases ov with
        | false =>
          have x0 : ∀ gp : Gr W2, gp.W.cell? ⟨w.heap.size, 0, none⟩ = some (.int .i64 xc) := Gr.cell x0
          have x1 : ∀ gp : Gr W2, gp.W.cell? ⟨w.heap.size, 1, none⟩ = some (.int .i64 xt) := Gr.cell x1
          have x2 : ∀ gp : Gr W2, gp.W.cell? ⟨w.heap.size, 2, none⟩ = some (.int .u8 (xh : Nat)) := Gr.cell x2
          have y0 : ∀ gp : Gr W2, gp.W.cell? ⟨gy, 0, none⟩ = some (.int .i64 yc) := Gr.cell y0
          have y1 : ∀ gp : Gr W2, gp.W.cell? ⟨gy, 1, none⟩ = some (.int .i64 yt) := Gr.cell y1
          have y2 : ∀ gp : Gr W2, gp.W.cell? ⟨gy, 2, none⟩ = some (.int .u8 (yh : Nat)) := Gr.cell y2
          refine wp_region_grs ?_
          repeat (go_big_quiet_step ((with_reducible exact Gr.call _ (fun V _ => KO.out V))))
          refine wpQuiet_nil ?_
          rintro Y ⟨⟨_, hbY⟩, rfl⟩
          have HB3 := Lib.hid (HB2.out.trans (hbY.mono HB2.out.size))
          have HM : Hid (n = ((l.take (k + 1)).map (liftG boxes ⟨xc, xt, xh⟩ half)).sum) := Lib.hid (by rw [HP.out, ← HN.out, show liftG boxes ⟨xc, xt, xh⟩ half ⟨yb, ⟨yc, yt, yh⟩⟩ = 0 from by rw [HG.out]; simp only [q1, Bool.true_or, Bool.true_and]; rfl]; simp)
          clear HG HP HN
          clear hbY HB2 a0 KF KO x0 x1 x2 y0 y1 y2
          go_wp2_with fail
          go_roundw
          case rel => first | exact ⟨k + 1, _, by omega, by go_num, rfl, HM, HB3⟩ | ((repeat apply Exists.intro); (first | exact ⟨⟨k + 1, _, by omega, by go_num, rfl, HM, HB3⟩, rfl⟩ | exact ⟨by omega, by go_num, rfl, HM, HB3⟩))
          case measure => simp [intOf]; omega
        | true =>
          have x0 : ∀ gp : Gr W2, gp.W.cell? ⟨w.heap.size, 0, none⟩ = some (.int .i64 xc) := Gr.cell x0
          have x1 : ∀ gp : Gr W2, gp.W.cell? ⟨w.heap.size, 1, none⟩ = some (.int .i64 xt) := Gr.cell x1
          have x2 : ∀ gp : Gr W2, gp.W.cell? ⟨w.heap.size, 2, none⟩ = some (.int .u8 (xh : Nat)) := Gr.cell x2
          have y0 : ∀ gp : Gr W2, gp.W.cell? ⟨gy, 0, none⟩ = some (.int .i64 yc) := Gr.cell y0
          have y1 : ∀ gp : Gr W2, gp.W.cell? ⟨gy, 1, none⟩ = some (.int .i64 yt) := Gr.cell y1
          have y2 : ∀ gp : Gr W2, gp.W.cell? ⟨gy, 2, none⟩ = some (.int .u8 (yh : Nat)) := Gr.cell y2
          refine wp_region_grs ?_
          repeat (go_big_quiet_step ((with_reducible exact Gr.call _ (fun V _ => KO.out V))))
          refine wpQuiet_nil ?_
          rintro Y ⟨⟨_, hbY⟩, rfl⟩
          have HB3 := Lib.hid (HB2.out.trans (hbY.mono HB2.out.size))
          have a0 : Y.cell? ⟨b, off + k * 4, none⟩ = some (.int .i64 yb) := (hbY.cell (p := ⟨b, off + k * 4, none⟩) hbb).trans a0
          have KFY := Lib.hid (KF.out Y hbY)
          clear hbY HB2 KF KO x0 x1 x2 y0 y1 y2
          go_wp2_with fail
          refine KFY.out.mono ?_
          rintro e Y1 ⟨rfl, hb1⟩
          simp only
          have KBX := Lib.hid (Bk.new Y1 37 #[.int .i64 b0, .string b1, .int .u8 (b2 : Nat), .bool b3, .int .i64 b4, .int .i64 b5, .int .i64 b6, .int .u8 (b7 : Nat), .bool b8])
          have hbx := ba1 Y1 (.cells #[.int .i64 b0, .string b1, .int .u8 (b2 : Nat), .bool b3, .int .i64 b4, .int .i64 b5, .int .i64 b6, .int .u8 (b7 : Nat), .bool b8] 37)
          have HB4 := Lib.hid (HB3.out.trans ((hb1.trans (hbx.mono hb1.size)).mono HB3.out.size))
          go_upto_region 8 with fail
          obtain ⟨gx, hgx⟩ : ∃ gx, gx = Y1.heap.size := ⟨_, rfl⟩
          rw [← hgx] at KBX ⊢
          clear hgx hbx hb1 KFY a0 HB3
          generalize (Y1.alloc _) = Y2 at *
          have z3 : Y2.cell? ⟨gx, 3, none⟩ = some (.bool b3) := KBX.out.cell 3
          cases ok with
          | false =>
            have HM : Hid (n = ((l.take (k + 1)).map (liftG boxes ⟨xc, xt, xh⟩ half)).sum) := Lib.hid (by rw [HP.out, ← HN.out, show liftG boxes ⟨xc, xt, xh⟩ half ⟨yb, ⟨yc, yt, yh⟩⟩ = 0 from by rw [HG.out]; simp only [q1, Bool.true_or, Bool.true_and]; rfl]; simp)
            clear HG HP HN
            go_wp2_with fail
            clear z3 KBX
            go_roundw
            case rel => first | exact ⟨k + 1, _, by omega, by go_num, rfl, HM, HB4⟩ | ((repeat apply Exists.intro); (first | exact ⟨⟨k + 1, _, by omega, by go_num, rfl, HM, HB4⟩, rfl⟩ | exact ⟨by omega, by go_num, rfl, HM, HB4⟩))
            case measure => simp [intOf]; omega
          | true =>
            cases b3 with
            | true =>
              have HM : Hid (n + 2896 = ((l.take (k + 1)).map (liftG boxes ⟨xc, xt, xh⟩ half)).sum) := Lib.hid (by rw [HP.out, ← HN.out, show liftG boxes ⟨xc, xt, xh⟩ half ⟨yb, ⟨yc, yt, yh⟩⟩ = 2896 from by rw [HG.out]; simp only [q1, Bool.true_or, Bool.true_and]; rfl])
              clear HG HP HN
              go_wp2_with fail
              clear z3 KBX
              go_roundw
              case rel => first | exact ⟨k + 1, _, by omega, by go_num, rfl, HM, HB4⟩ | ((repeat apply Exists.intro); (first | exact ⟨⟨k + 1, _, by omega, by go_num, rfl, HM, HB4⟩, rfl⟩ | exact ⟨by omega, by go_num, rfl, HM, HB4⟩))
              case measure => simp [intOf]; omega
            | false =>
              have HM : Hid (n + 2591 = ((l.take (k + 1)).map (liftG boxes ⟨xc, xt, xh⟩ half)).sum) := Lib.hid (by rw [HP.out, ← HN.out, show liftG boxes ⟨xc, xt, xh⟩ half ⟨yb, ⟨yc, yt, yh⟩⟩ = 2591 from by rw [HG.out]; simp only [q1, Bool.true_or, Bool.true_and]; rfl])
              clear HG HP HN
              go_wp2_with fail
              clear z3 KBX
              go_roundw
              case rel => first | exact ⟨k + 1, _, by omega, by go_num, rfl, HM, HB4⟩ | ((repeat apply Exists.intro); (first | exact ⟨⟨k + 1, _, by omega, by go_num, rfl, HM, HB4⟩, rfl⟩ | exact ⟨by omega, by go_num, rfl, HM, HB4⟩))
              case measure => simp [intOf]; omega
      | false =>
        have r1 : ((yh : Int) != (half : Int)) = true := by unfold bne; rw [q1]; rfl
        cases q2 : ((yh : Int) == 0) with
        | true =>
          have r2 : ((yh : Int) != 0) = false := by unfold bne; rw [q2]; rfl
          cases ov with
          | false =>
            have x0 : ∀ gp : Gr W2, gp.W.cell? ⟨w.heap.size, 0, none⟩ = some (.int .i64 xc) := Gr.cell x0
            have x1 : ∀ gp : Gr W2, gp.W.cell? ⟨w.heap.size, 1, none⟩ = some (.int .i64 xt) := Gr.cell x1
            have x2 : ∀ gp : Gr W2, gp.W.cell? ⟨w.heap.size, 2, none⟩ = some (.int .u8 (xh : Nat)) := Gr.cell x2
            have y0 : ∀ gp : Gr W2, gp.W.cell? ⟨gy, 0, none⟩ = some (.int .i64 yc) := Gr.cell y0
            have y1 : ∀ gp : Gr W2, gp.W.cell? ⟨gy, 1, none⟩ = some (.int .i64 yt) := Gr.cell y1
            have y2 : ∀ gp : Gr W2, gp.W.cell? ⟨gy, 2, none⟩ = some (.int .u8 (yh : Nat)) := Gr.cell y2
            refine wp_region_grs ?_
            repeat (go_big_quiet_step ((with_reducible exact Gr.call _ (fun V _ => KO.out V))))
            refine wpQuiet_nil ?_
            rintro Y ⟨⟨_, hbY⟩, rfl⟩
            have HB3 := Lib.hid (HB2.out.trans (hbY.mono HB2.out.size))
            have HM : Hid (n = ((l.take (k + 1)).map (liftG boxes ⟨xc, xt, xh⟩ half)).sum) := Lib.hid (by rw [HP.out, ← HN.out, show liftG boxes ⟨xc, xt, xh⟩ half ⟨yb, ⟨yc, yt, yh⟩⟩ = 0 from by rw [HG.out]; simp only [q1, q2, Bool.false_or, Bool.true_and]; rfl]; simp)
            clear HG HP HN
            clear hbY HB2 a0 KF KO x0 x1 x2 y0 y1 y2
            go_wp2_with fail
            go_roundw
            case rel => first | exact ⟨k + 1, _, by omega, by go_num, rfl, HM, HB3⟩ | ((repeat apply Exists.intro); (first | exact ⟨⟨k + 1, _, by omega, by go_num, rfl, HM, HB3⟩, rfl⟩ | exact ⟨by omega, by go_num, rfl, HM, HB3⟩))
            case measure => simp [intOf]; omega
          | true =>
            have x0 : ∀ gp : Gr W2, gp.W.cell? ⟨w.heap.size, 0, none⟩ = some (.int .i64 xc) := Gr.cell x0
            have x1 : ∀ gp : Gr W2, gp.W.cell? ⟨w.heap.size, 1, none⟩ = some (.int .i64 xt) := Gr.cell x1
            have x2 : ∀ gp : Gr W2, gp.W.cell? ⟨w.heap.size, 2, none⟩ = some (.int .u8 (xh : Nat)) := Gr.cell x2
            have y0 : ∀ gp : Gr W2, gp.W.cell? ⟨gy, 0, none⟩ = some (.int .i64 yc) := Gr.cell y0
            have y1 : ∀ gp : Gr W2, gp.W.cell? ⟨gy, 1, none⟩ = some (.int .i64 yt) := Gr.cell y1
            have y2 : ∀ gp : Gr W2, gp.W.cell? ⟨gy, 2, none⟩ = some (.int .u8 (yh : Nat)) := Gr.cell y2
            refine wp_region_grs ?_
            repeat (go_big_quiet_step ((with_reducible exact Gr.call _ (fun V _ => KO.out V))))
            refine wpQuiet_nil ?_
            rintro Y ⟨⟨_, hbY⟩, rfl⟩
            have HB3 := Lib.hid (HB2.out.trans (hbY.mono HB2.out.size))
            have a0 : Y.cell? ⟨b, off + k * 4, none⟩ = some (.int .i64 yb) := (hbY.cell (p := ⟨b, off + k * 4, none⟩) hbb).trans a0
            have KFY := Lib.hid (KF.out Y hbY)
            clear hbY HB2 KF KO x0 x1 x2 y0 y1 y2
            go_wp2_with fail
            refine KFY.out.mono ?_
            rintro e Y1 ⟨rfl, hb1⟩
            simp only
            have KBX := Lib.hid (Bk.new Y1 37 #[.int .i64 b0, .string b1, .int .u8 (b2 : Nat), .bool b3, .int .i64 b4, .int .i64 b5, .int .i64 b6, .int .u8 (b7 : Nat), .bool b8])
            have hbx := ba1 Y1 (.cells #[.int .i64 b0, .string b1, .int .u8 (b2 : Nat), .bool b3, .int .i64 b4, .int .i64 b5, .int .i64 b6, .int .u8 (b7 : Nat), .bool b8] 37)
            have HB4 := Lib.hid (HB3.out.trans ((hb1.trans (hbx.mono hb1.size)).mono HB3.out.size))
            go_upto_region 8 with fail
            obtain ⟨gx, hgx⟩ : ∃ gx, gx = Y1.heap.size := ⟨_, rfl⟩
            rw [← hgx] at KBX ⊢
            clear hgx hbx hb1 KFY a0 HB3
            generalize (Y1.alloc _) = Y2 at *
            have z3 : Y2.cell? ⟨gx, 3, none⟩ = some (.bool b3) := KBX.out.cell 3
            cases ok with
            | false =>
              have HM : Hid (n = ((l.take (k + 1)).map (liftG boxes ⟨xc, xt, xh⟩ half)).sum) := Lib.hid (by rw [HP.out, ← HN.out, show liftG boxes ⟨xc, xt, xh⟩ half ⟨yb, ⟨yc, yt, yh⟩⟩ = 0 from by rw [HG.out]; simp only [q1, q2, Bool.false_or, Bool.true_and]; rfl]; simp)
              clear HG HP HN
              go_wp2_with fail
              clear z3 KBX
              go_roundw
              case rel => first | exact ⟨k + 1, _, by omega, by go_num, rfl, HM, HB4⟩ | ((repeat apply Exists.intro); (first | exact ⟨⟨k + 1, _, by omega, by go_num, rfl, HM, HB4⟩, rfl⟩ | exact ⟨by omega, by go_num, rfl, HM, HB4⟩))
              case measure => simp [intOf]; omega
            | true =>
              cases b3 with
              | true =>
                have HM : Hid (n + 2896 = ((l.take (k + 1)).map (liftG boxes ⟨xc, xt, xh⟩ half)).sum) := Lib.hid (by rw [HP.out, ← HN.out, show liftG boxes ⟨xc, xt, xh⟩ half ⟨yb, ⟨yc, yt, yh⟩⟩ = 2896 from by rw [HG.out]; simp only [q1, q2, Bool.false_or, Bool.true_and]; rfl])
                clear HG HP HN
                go_wp2_with fail
                clear z3 KBX
                go_roundw
                case rel => first | exact ⟨k + 1, _, by omega, by go_num, rfl, HM, HB4⟩ | ((repeat apply Exists.intro); (first | exact ⟨⟨k + 1, _, by omega, by go_num, rfl, HM, HB4⟩, rfl⟩ | exact ⟨by omega, by go_num, rfl, HM, HB4⟩))
                case measure => simp [intOf]; omega
              | false =>
                have HM : Hid (n + 2591 = ((l.take (k + 1)).map (liftG boxes ⟨xc, xt, xh⟩ half)).sum) := Lib.hid (by rw [HP.out, ← HN.out, show liftG boxes ⟨xc, xt, xh⟩ half ⟨yb, ⟨yc, yt, yh⟩⟩ = 2591 from by rw [HG.out]; simp only [q1, q2, Bool.false_or, Bool.true_and]; rfl])
                clear HG HP HN
                go_wp2_with fail
                clear z3 KBX
                go_roundw
                case rel => first | exact ⟨k + 1, _, by omega, by go_num, rfl, HM, HB4⟩ | ((repeat apply Exists.intro); (first | exact ⟨⟨k + 1, _, by omega, by go_num, rfl, HM, HB4⟩, rfl⟩ | exact ⟨by omega, by go_num, rfl, HM, HB4⟩))
                case measure => simp [intOf]; omega
        | false =>
          have r2 : ((yh : Int) != 0) = true := by unfold bne; rw [q2]; rfl
          have x0 : ∀ gp : Gr W2, gp.W.cell? ⟨w.heap.size, 0, none⟩ = some (.int .i64 xc) := Gr.cell x0
          have x1 : ∀ gp : Gr W2, gp.W.cell? ⟨w.heap.size, 1, none⟩ = some (.int .i64 xt) := Gr.cell x1
          have x2 : ∀ gp : Gr W2, gp.W.cell? ⟨w.heap.size, 2, none⟩ = some (.int .u8 (xh : Nat)) := Gr.cell x2
          have y0 : ∀ gp : Gr W2, gp.W.cell? ⟨gy, 0, none⟩ = some (.int .i64 yc) := Gr.cell y0
          have y1 : ∀ gp : Gr W2, gp.W.cell? ⟨gy, 1, none⟩ = some (.int .i64 yt) := Gr.cell y1
          have y2 : ∀ gp : Gr W2, gp.W.cell? ⟨gy, 2, none⟩ = some (.int .u8 (yh : Nat)) := Gr.cell y2
          refine wp_region_grs ?_
          repeat (go_big_quiet_step (fail))
          refine wpQuiet_nil ?_
          rintro Y ⟨⟨_, hbY⟩, rfl⟩
          have HB3 := Lib.hid (HB2.out.trans (hbY.mono HB2.out.size))
          have HM : Hid (n = ((l.take (k + 1)).map (liftG boxes ⟨xc, xt, xh⟩ half)).sum) := Lib.hid (by rw [HP.out, ← HN.out, show liftG boxes ⟨xc, xt, xh⟩ half ⟨yb, ⟨yc, yt, yh⟩⟩ = 0 from by rw [HG.out]; simp only [q1, q2, Bool.or_self, Bool.false_and]; rfl]; simp)
          clear HG HP HN
          clear hbY HB2 a0 KF KO x0 x1 x2 y0 y1 y2
          go_wp2_with fail
          go_roundw
          case rel => first | exact ⟨k + 1, _, by omega, by go_num, rfl, HM, HB3⟩ | ((repeat apply Exists.intro); (first | exact ⟨⟨k + 1, _, by omega, by go_num, rfl, HM, HB3⟩, rfl⟩ | exact ⟨by omega, by go_num, rfl, HM, HB3⟩))
          case measure => simp [intOf]; omega
    · obtain rfl : k = l.length := by omega
      have HE : Hid (n = (l.map (liftG boxes ⟨xc, xt, xh⟩ half)).sum) := Lib.hid (by rw [HN.out, List.take_length])
      go_wp2_with fail
      go_ret
      exact ⟨by rw [HE.out]; rfl, HB0.out.trans (HB.out.mono HB0.out.size)⟩
set_option maxRecDepth 100000 in
set_option maxHeartbeats 4000000 in
theorem refLift_any (A : Option Addr) (c : Nat) (boxes : List Bx) (A2 : Option Addr) (c2 : Nat) (l : List Stw) (x : Slt) (w : World) (hb : SlT tBx w (Lt w.heap.size) A boxes) (hbl : boxes.length ≤ 1000000) (hs : SlT tStw w (Lt w.heap.size) A2 l) (hl : l.length ≤ 1000) :
    Calls Try.prog 49 #[.slice A boxes.length c, .slice A2 l.length c2, .agg (sltL x).toArray] w (Ret w (.int .i64 (liftF boxes l x))) := by
  have hb0 := ba1 w (.cells (sltL x).toArray 40)
  have KX := Lib.hid (Bk.new w 40 (sltL x).toArray)
  have HS := Lib.hid (hs.on hb0)
  have HBX := Lib.hid (hb.on hb0)
  have HB0 := Lib.hid hb0
  clear hs hb hb0
  obtain ⟨r, hr⟩ : ∃ r, liftF boxes l x = r := ⟨_, rfl⟩
  rw [hr]
  have HR := Lib.hid hr
  clear hr
  by_cases h0 : x.half = 0
  · have HV : Hid (r = if liftH boxes l x 2 < liftH boxes l x 1 then liftH boxes l x 1 else liftH boxes l x 2) := Lib.hid (by rw [← HR.out]; exact lift_whole h0)
    have K1 : Hid (∀ U, Below (w.alloc (.cells (sltL x).toArray 40)).heap.size (w.alloc (.cells (sltL x).toArray 40)) U → Calls Try.prog 95 #[.slice A boxes.length c, .slice A2 l.length c2, .agg (sltL x).toArray, .int .u8 1] U (Ret U (.int .i64 (liftH boxes l x 1)))) := Lib.hid fun U hU => refHigh11_any A c boxes A2 c2 l x 1 U (HBX.out.on hU) hbl (HS.out.on hU) hl
    have K2 : Hid (∀ U, Below (w.alloc (.cells (sltL x).toArray 40)).heap.size (w.alloc (.cells (sltL x).toArray 40)) U → Calls Try.prog 95 #[.slice A boxes.length c, .slice A2 l.length c2, .agg (sltL x).toArray, .int .u8 2] U (Ret U (.int .i64 (liftH boxes l x 2)))) := Lib.hid fun U hU => refHigh11_any A c boxes A2 c2 l x 2 U (HBX.out.on hU) hbl (HS.out.on hU) hl
    clear HR HBX HS
    generalize liftH boxes l x 1 = n1 at *
    generalize liftH boxes l x 2 = n2 at *
    have z0 : ((x.half : Int) != 0) = false := by rw [h0]; rfl
    obtain ⟨xc, xt, xh⟩ := x
    simp only at h0 z0
    clear h0
    unfold sltL at *
    simp only at *
    go_enter Try.func49, Try.ntmps49
    go_upto_region 1 with fail
    generalize (w.alloc _) = W at *
    have x0 : W.cell? ⟨w.heap.size, 0, none⟩ = some (.int .i64 xc) := KX.out.cell 0
    have x1 : W.cell? ⟨w.heap.size, 1, none⟩ = some (.int .i64 xt) := KX.out.cell 1
    have x2 : W.cell? ⟨w.heap.size, 2, none⟩ = some (.int .u8 (xh : Nat)) := KX.out.cell 2
    go_wp2_with fail
    refine (K1.out W (Below.refl _ _)).mono ?_
    rintro e V ⟨rfl, hb⟩
    simp only
    have HV1 := Lib.hid hb
    clear hb K1 x0 x1 x2
    have x0 : V.cell? ⟨w.heap.size, 0, none⟩ = some (.int .i64 xc) := (KX.out.below HV1.out KX.out.lt).cell 0
    have x1 : V.cell? ⟨w.heap.size, 1, none⟩ = some (.int .i64 xt) := (KX.out.below HV1.out KX.out.lt).cell 1
    have x2 : V.cell? ⟨w.heap.size, 2, none⟩ = some (.int .u8 (xh : Nat)) := (KX.out.below HV1.out KX.out.lt).cell 2
    go_wp2_with fail
    refine (K2.out V HV1.out).mono ?_
    rintro e V2 ⟨rfl, hb⟩
    simp only
    have HE := Lib.hid (HB0.out.trans ((HV1.out.trans (hb.mono HV1.out.size)).mono HB0.out.size))
    clear hb K2 x0 x1 x2 HV1
    cases p : decide (n2 < n1) with
    | true =>
      have HY : Hid (r = n1) := Lib.hid (by rw [HV.out, if_pos (of_decide_eq_true p)])
      go_wp2_with fail
      go_ret
      exact ⟨by rw [HY.out]; rfl, HE.out⟩
    | false =>
      have HY : Hid (r = n2) := Lib.hid (by rw [HV.out, if_neg (of_decide_eq_false p)])
      go_wp2_with fail
      go_ret
      exact ⟨by rw [HY.out]; rfl, HE.out⟩
  · have HV : Hid (r = liftH boxes l x x.half) := Lib.hid (by rw [← HR.out]; exact lift_half h0)
    have K1 := Lib.hid (fun U (hU : Below (w.alloc (.cells (sltL x).toArray 40)).heap.size (w.alloc (.cells (sltL x).toArray 40)) U) => refHigh11_any A c boxes A2 c2 l x x.half U (HBX.out.on hU) hbl (HS.out.on hU) hl)
    clear HR HBX HS
    generalize liftH boxes l x x.half = n1 at *
    have z0 : ((x.half : Int) != 0) = true := by simp; omega
    obtain ⟨xc, xt, xh⟩ := x
    simp only at h0 z0
    clear h0
    unfold sltL at *
    simp only at *
    go_enter Try.func49, Try.ntmps49
    go_upto_region 1 with fail
    generalize (w.alloc _) = W at *
    have x0 : W.cell? ⟨w.heap.size, 0, none⟩ = some (.int .i64 xc) := KX.out.cell 0
    have x1 : W.cell? ⟨w.heap.size, 1, none⟩ = some (.int .i64 xt) := KX.out.cell 1
    have x2 : W.cell? ⟨w.heap.size, 2, none⟩ = some (.int .u8 (xh : Nat)) := KX.out.cell 2
    go_wp2_with fail
    refine (K1.out W (Below.refl _ _)).mono ?_
    rintro e V ⟨rfl, hb⟩
    simp only
    have HE := Lib.hid (HB0.out.trans (hb.mono HB0.out.size))
    clear hb K1 x0 x1 x2
    go_wp2_with fail
    go_ret
    exact ⟨by rw [HV.out]; rfl, HE.out⟩
set_option maxRecDepth 100000 in
set_option maxHeartbeats 4000000 in
theorem refMoment_any (A : Option Addr) (c : Nat) (boxes : List Bx) (A2 : Option Addr) (c2 : Nat) (l : List Stw) (col : Int) (half : Nat) (w : World) (hk : KgL boxes) (hb : SlT tBx w (Lt w.heap.size) A boxes) (hbl : boxes.length ≤ 1000000) (hs : SlT tStw w (Lt w.heap.size) A2 l) (hl : l.length ≤ 1000) :
    Calls Try.prog 53 #[.slice A boxes.length c, .slice A2 l.length c2, .int .i64 col, .int .u8 (half : Nat)] w (Ret w (.int .i64 (momentF boxes l col half))) := by
  rw [momentF_sum]
  have HS := Lib.hid hs
  have HBX := Lib.hid hb
  have HKG := Lib.hid hk
  clear hs hb hk
  go_enter Try.func53, Try.ntmps53
  go_wp2_with fail
  go_loopw [9, 10] (fun v i wr => ∃ (k : Nat) (n : Int), k ≤ l.length ∧ i = .int .i64 k ∧ v = .int .i64 n ∧ Hid (n = ((l.take k).map (momG boxes l col half)).sum) ∧ Hid (Below w.heap.size w wr)) (fun _ i _ => l.length - (intOf i).toNat)
  case atStart => exact ⟨0, 0, Nat.zero_le _, rfl, rfl, Lib.hid (by simp), Lib.hid (Below.refl _ _)⟩
  case round =>
    obtain ⟨k, n, hk, rfl, rfl, HN, HB⟩ := hrel
    obtain ⟨V, rfl⟩ : ∃ V, V = wr := ⟨_, rfl⟩
    by_cases hlt : k < l.length
    · obtain ⟨b, off, rfl, hbB, a0, a1, a2, a3⟩ := (HS.out.on HB.out).stw hlt
      have HP := Lib.hid (sum_take_succ (momG boxes l col half) l hlt default)
      have hbd := sum_bd2 (momG boxes l col half) 5792000000000000 (l.take k) (fun y _ => momG_bd HKG.out hl col half y)
      rw [← HN.out] at hbd
      have hlk : (l.take k).length = k := by simp; omega
      rw [hlk] at hbd
      clear hlk
      have i0 : (0 : Int) ≤ (k : Int) := by omega
      have i1 : (k : Int) < (l.length : Int) := by omega
      obtain ⟨hn1, hn2⟩ := (show -5786208000000000000 ≤ n ∧ n ≤ 5786208000000000000 from ⟨by omega, by omega⟩)
      clear hbd
      have hbb : b < V.heap.size := hbB
      clear hbB
      generalize l.getD k default = y at *
      obtain ⟨yb, yc, yt, yh⟩ := y
      simp only at a0 a1 a2 a3
      have HG : Hid (momG boxes l col half ⟨yb, ⟨yc, yt, yh⟩⟩ = if (yc == col) && (((yh : Int) == (half : Int)) || ((yh : Int) == 0)) then (findBx boxes yb).1.kilos * liftF boxes l ⟨yc, yt, yh⟩ else 0) := Lib.hid (by
        rw [int_beq, show ((yh : Int) == 0) = (yh == 0) from int_beq yh 0]
        rfl)
      have hby := ba1 V (.cells #[.int .i64 yc, .int .i64 yt, .int .u8 (yh : Nat)] 40)
      have KY := Lib.hid (Bk.new V 40 #[.int .i64 yc, .int .i64 yt, .int .u8 (yh : Nat)])
      have HB2 := Lib.hid (HB.out.trans (hby.mono HB.out.size))
      have KF := Lib.hid (fun (U : World) (hU : Below (V.alloc (.cells #[.int .i64 yc, .int .i64 yt, .int .u8 (yh : Nat)] 40)).heap.size (V.alloc (.cells #[.int .i64 yc, .int .i64 yt, .int .u8 (yh : Nat)] 40)) U) => refFindBx_any A c boxes yb U (HBX.out.on (HB2.out.trans (hU.mono HB2.out.size))) hbl)
      have KL := Lib.hid (fun (U : World) (hU : Below (V.alloc (.cells #[.int .i64 yc, .int .i64 yt, .int .u8 (yh : Nat)] 40)).heap.size (V.alloc (.cells #[.int .i64 yc, .int .i64 yt, .int .u8 (yh : Nat)] 40)) U) => refLift_any A c boxes (some ⟨b, off, none⟩) c2 l ⟨yc, yt, yh⟩ U (HBX.out.on (HB2.out.trans (hU.mono HB2.out.size))) hbl (HS.out.on (HB2.out.trans (hU.mono HB2.out.size))) hl)
      unfold sltL at KL
      simp only at KL
      obtain ⟨g1, g2⟩ := find_kgL HKG.out yb
      obtain ⟨g3, g4⟩ := lift_bd boxes hl ⟨yc, yt, yh⟩
      generalize liftF boxes l ⟨yc, yt, yh⟩ = lf at *
      generalize findBx boxes yb = fb at *
      obtain ⟨⟨b0, b1, b2, b3, b4, b5, b6, b7, b8⟩, ok⟩ := fb
      unfold bxL at KF
      simp only at KF HG g1 g2
      obtain ⟨g5, g6⟩ := mul_bd g1 g2 g3 g4
      obtain ⟨P, hP⟩ : ∃ P, b4 * lf = P := ⟨_, rfl⟩
      have HPP := Lib.hid hP
      have s1 : IntKind.i64.wrap (b4 * lf) = P := by rw [hP]; rw [hP] at g5 g6; exact IntWalk.i64_in _ (by omega)
      have s2 : wrap64 (b4 * lf) = P := by rw [← s1]; exact (IntWalk.i64_left _).symm
      rw [hP] at g5 g6
      clear hP
      go_step
      go_step
      go_upto_region 6 with fail
      replace a0 := (hby.cell (p := ⟨b, off + k * 4, none⟩) hbb).trans a0
      obtain ⟨gy, hgy⟩ : ∃ gy, gy = V.heap.size := ⟨_, rfl⟩
      rw [← hgy] at KY ⊢
      clear hby HB a1 a2 a3
      clear hgy
      generalize (V.alloc _) = W2 at *
      have y0 : W2.cell? ⟨gy, 0, none⟩ = some (.int .i64 yc) := KY.out.cell 0
      have y1 : W2.cell? ⟨gy, 1, none⟩ = some (.int .i64 yt) := KY.out.cell 1
      have y2 : W2.cell? ⟨gy, 2, none⟩ = some (.int .u8 (yh : Nat)) := KY.out.cell 2
      cases p1 : (yc == col) with
      | false =>
        have HM : Hid (n = ((l.take (k + 1)).map (momG boxes l col half)).sum) := Lib.hid (by rw [HP.out, ← HN.out, show momG boxes l col half ⟨yb, ⟨yc, yt, yh⟩⟩ = 0 from by rw [HG.out]; simp only [p1, Bool.false_and]; rfl]; simp)
        clear HG HP HN
        go_wp2_with fail
        clear a0 y0 y1 y2 KF KL
        go_roundw
        case rel => first | exact ⟨k + 1, _, by omega, by go_num, rfl, HM, HB2⟩ | ((repeat apply Exists.intro); (first | exact ⟨⟨k + 1, _, by omega, by go_num, rfl, HM, HB2⟩, rfl⟩ | exact ⟨by omega, by go_num, rfl, HM, HB2⟩))
        case measure => simp [intOf]; omega
      | true =>
        cases q1 : ((yh : Int) == (half : Int)) with
        | true =>
          go_upto_region 7 with fail
          go_wp2_with fail
          refine (KF.out W2 (Below.refl _ _)).mono ?_
          rintro e Y1 ⟨rfl, hb1⟩
          simp only
          have KBX := Lib.hid (Bk.new Y1 37 #[.int .i64 b0, .string b1, .int .u8 (b2 : Nat), .bool b3, .int .i64 b4, .int .i64 b5, .int .i64 b6, .int .u8 (b7 : Nat), .bool b8])
          have hbx := hb1.trans ((ba1 Y1 (.cells #[.int .i64 b0, .string b1, .int .u8 (b2 : Nat), .bool b3, .int .i64 b4, .int .i64 b5, .int .i64 b6, .int .u8 (b7 : Nat), .bool b8] 37)).mono hb1.size)
          have HB4 := Lib.hid (HB2.out.trans (hbx.mono HB2.out.size))
          have KYX := Lib.hid (KY.out.below hbx KY.out.lt)
          have KLX := Lib.hid (fun (U : World) (hU : Below (Y1.alloc (.cells #[.int .i64 b0, .string b1, .int .u8 (b2 : Nat), .bool b3, .int .i64 b4, .int .i64 b5, .int .i64 b6, .int .u8 (b7 : Nat), .bool b8] 37)).heap.size (Y1.alloc (.cells #[.int .i64 b0, .string b1, .int .u8 (b2 : Nat), .bool b3, .int .i64 b4, .int .i64 b5, .int .i64 b6, .int .u8 (b7 : Nat), .bool b8] 37)) U) => KL.out U (hbx.trans (hU.mono hbx.size)))
          go_upto_region 8 with fail
          obtain ⟨gx, hgx⟩ : ∃ gx, gx = Y1.heap.size := ⟨_, rfl⟩
          rw [← hgx] at KBX ⊢
          clear hgx hbx hb1 KF KL a0 HB2 KY y0 y1 y2
          generalize (Y1.alloc _) = Y2 at *
          have z4 : ∀ gp : Gr Y2, gp.W.cell? ⟨gx, 4, none⟩ = some (.int .i64 b4) := Gr.cell (KBX.out.cell 4)
          have y0 : ∀ gp : Gr Y2, gp.W.cell? ⟨gy, 0, none⟩ = some (.int .i64 yc) := Gr.cell (KYX.out.cell 0)
          have y1 : ∀ gp : Gr Y2, gp.W.cell? ⟨gy, 1, none⟩ = some (.int .i64 yt) := Gr.cell (KYX.out.cell 1)
          have y2 : ∀ gp : Gr Y2, gp.W.cell? ⟨gy, 2, none⟩ = some (.int .u8 (yh : Nat)) := Gr.cell (KYX.out.cell 2)
          refine wp_region_gr (by kernel_rfl) (by kernel_rfl) ?_
          repeat (go_big_quiet_step ((with_reducible exact Gr.call _ (fun V hV => KLX.out V hV))))
          refine wpQuiet_nil ?_
          rintro Y ⟨⟨_, hbY⟩, rfl⟩
          have HB5 := Lib.hid (HB4.out.trans (hbY.mono HB4.out.size))
          have HM : Hid (n + P = ((l.take (k + 1)).map (momG boxes l col half)).sum) := Lib.hid (by rw [HP.out, ← HN.out, show momG boxes l col half ⟨yb, ⟨yc, yt, yh⟩⟩ = P from by rw [HG.out]; simp only [p1, q1, Bool.true_or, Bool.and_self, if_true]; exact HPP.out])
          clear HG HP HN
          clear hbY HB4 KLX KYX KBX z4 y0 y1 y2 s1 s2
          go_wp2_with fail
          go_roundw
          case rel => first | exact ⟨k + 1, _, by omega, by go_num, rfl, HM, HB5⟩ | ((repeat apply Exists.intro); (first | exact ⟨⟨k + 1, _, by omega, by go_num, rfl, HM, HB5⟩, rfl⟩ | exact ⟨by omega, by go_num, rfl, HM, HB5⟩))
          case measure => simp [intOf]; omega
        | false =>
          cases q2 : ((yh : Int) == 0) with
          | true =>
            go_upto_region 7 with fail
            go_wp2_with fail
            refine (KF.out W2 (Below.refl _ _)).mono ?_
            rintro e Y1 ⟨rfl, hb1⟩
            simp only
            have KBX := Lib.hid (Bk.new Y1 37 #[.int .i64 b0, .string b1, .int .u8 (b2 : Nat), .bool b3, .int .i64 b4, .int .i64 b5, .int .i64 b6, .int .u8 (b7 : Nat), .bool b8])
            have hbx := hb1.trans ((ba1 Y1 (.cells #[.int .i64 b0, .string b1, .int .u8 (b2 : Nat), .bool b3, .int .i64 b4, .int .i64 b5, .int .i64 b6, .int .u8 (b7 : Nat), .bool b8] 37)).mono hb1.size)
            have HB4 := Lib.hid (HB2.out.trans (hbx.mono HB2.out.size))
            have KYX := Lib.hid (KY.out.below hbx KY.out.lt)
            have KLX := Lib.hid (fun (U : World) (hU : Below (Y1.alloc (.cells #[.int .i64 b0, .string b1, .int .u8 (b2 : Nat), .bool b3, .int .i64 b4, .int .i64 b5, .int .i64 b6, .int .u8 (b7 : Nat), .bool b8] 37)).heap.size (Y1.alloc (.cells #[.int .i64 b0, .string b1, .int .u8 (b2 : Nat), .bool b3, .int .i64 b4, .int .i64 b5, .int .i64 b6, .int .u8 (b7 : Nat), .bool b8] 37)) U) => KL.out U (hbx.trans (hU.mono hbx.size)))
            go_upto_region 8 with fail
            obtain ⟨gx, hgx⟩ : ∃ gx, gx = Y1.heap.size := ⟨_, rfl⟩
            rw [← hgx] at KBX ⊢
            clear hgx hbx hb1 KF KL a0 HB2 KY y0 y1 y2
            generalize (Y1.alloc _) = Y2 at *
            have z4 : ∀ gp : Gr Y2, gp.W.cell? ⟨gx, 4, none⟩ = some (.int .i64 b4) := Gr.cell (KBX.out.cell 4)
            have y0 : ∀ gp : Gr Y2, gp.W.cell? ⟨gy, 0, none⟩ = some (.int .i64 yc) := Gr.cell (KYX.out.cell 0)
            have y1 : ∀ gp : Gr Y2, gp.W.cell? ⟨gy, 1, none⟩ = some (.int .i64 yt) := Gr.cell (KYX.out.cell 1)
            have y2 : ∀ gp : Gr Y2, gp.W.cell? ⟨gy, 2, none⟩ = some (.int .u8 (yh : Nat)) := Gr.cell (KYX.out.cell 2)
            refine wp_region_gr (by kernel_rfl) (by kernel_rfl) ?_
            repeat (go_big_quiet_step ((with_reducible exact Gr.call _ (fun V hV => KLX.out V hV))))
            refine wpQuiet_nil ?_
            rintro Y ⟨⟨_, hbY⟩, rfl⟩
            have HB5 := Lib.hid (HB4.out.trans (hbY.mono HB4.out.size))
            have HM : Hid (n + P = ((l.take (k + 1)).map (momG boxes l col half)).sum) := Lib.hid (by rw [HP.out, ← HN.out, show momG boxes l col half ⟨yb, ⟨yc, yt, yh⟩⟩ = P from by rw [HG.out]; simp only [p1, q1, q2, Bool.or_true, Bool.and_self, if_true]; exact HPP.out])
            clear HG HP HN
            clear hbY HB4 KLX KYX KBX z4 y0 y1 y2 s1 s2
            go_wp2_with fail
            go_roundw
            case rel => first | exact ⟨k + 1, _, by omega, by go_num, rfl, HM, HB5⟩ | ((repeat apply Exists.intro); (first | exact ⟨⟨k + 1, _, by omega, by go_num, rfl, HM, HB5⟩, rfl⟩ | exact ⟨by omega, by go_num, rfl, HM, HB5⟩))
            case measure => simp [intOf]; omega
          | false =>
            have HM : Hid (n = ((l.take (k + 1)).map (momG boxes l col half)).sum) := Lib.hid (by rw [HP.out, ← HN.out, show momG boxes l col half ⟨yb, ⟨yc, yt, yh⟩⟩ = 0 from by rw [HG.out]; simp only [p1, q1, q2, Bool.or_self, Bool.and_false]; rfl]; simp)
            clear HG HP HN
            go_wp2_with fail
            clear a0 y0 y1 y2 KF KL
            go_roundw
            case rel => first | exact ⟨k + 1, _, by omega, by go_num, rfl, HM, HB2⟩ | ((repeat apply Exists.intro); (first | exact ⟨⟨k + 1, _, by omega, by go_num, rfl, HM, HB2⟩, rfl⟩ | exact ⟨by omega, by go_num, rfl, HM, HB2⟩))
            case measure => simp [intOf]; omega
    · obtain rfl : k = l.length := by omega
      have HE : Hid (n = (l.map (momG boxes l col half)).sum) := Lib.hid (by rw [HN.out, List.take_length])
      go_wp2_with fail
      go_ret
      exact ⟨by rw [HE.out]; rfl, HB.out⟩
end Go.Proofs.Ytmkplemdnglhmaa
