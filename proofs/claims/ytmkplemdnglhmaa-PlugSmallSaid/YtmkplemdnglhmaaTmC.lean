/-
  Walks: SameBoxes, OverBoxes of twistlockkit; tells of the law file of chapter 12.
-/
import Derived.Test.YtmkplemdnglhmaaRkB
import Derived.Test.YtmkplemdnglhmaaFw12
import Derived.Test.YtmkplemdnglhmaaSame
import Derived.Test.YtmkplemdnglhmaaSlTs
namespace Go.Proofs.Ytmkplemdnglhmaa
open Go.RowKit

theorem run_neq_bxK (a : Int) (b : ByteArray) (c : Nat) (d : Bool) (e f g : Int) (i : Nat) (j : Bool) (W : World) : (binOp .neq 37 (.agg #[.int .i64 a, .string b, .int .u8 (c : Nat), .bool d, .int .i64 e, .int .i64 f, .int .i64 g, .int .u8 (i : Nat), .bool j]) (.agg #[.int .i64 a, .string b, .int .u8 (c : Nat), .bool d, .int .i64 e, .int .i64 f, .int .i64 g, .int .u8 (i : Nat), .bool j])).run Try.prog W = .ok (.bool false) W := by
  simp [go_sem]
set_option maxRecDepth 100000 in
set_option maxHeartbeats 4000000 in
theorem sameBoxes_any (A1 A2 : Option Addr) (c1 c2 : Nat) (l : List Bx) (w : World) (h1 : SlT tBx w (Lt w.heap.size) A1 l) (h2 : SlT tBx w (Lt w.heap.size) A2 l) (hl : l.length ≤ 1000000) :
    Calls Try.prog 45 #[.slice A1 l.length c1, .slice A2 l.length c2] w (Ret w (.bool true)) := by
  have HS1 := Lib.hid h1
  have HS2 := Lib.hid h2
  clear h1 h2
  have hb0 : ((l.length : Int) != (l.length : Int)) = false := by simp
  go_enter Try.func45, Try.ntmps45
  go_wp2_with fail
  go_loopw [5] (fun i wr => ∃ k : Nat, k ≤ l.length ∧ i = .int .i64 k ∧ Hid (Below w.heap.size w wr)) (fun i _ => l.length - (intOf i).toNat)
  case atStart => exact ⟨0, Nat.zero_le _, rfl, Lib.hid (Below.refl _ _)⟩
  case round =>
    obtain ⟨k, hk, rfl, HB⟩ := hrel
    obtain ⟨V, rfl⟩ : ∃ V, V = wr := ⟨_, rfl⟩
    by_cases hlt : k < l.length
    · obtain ⟨b1, o1, rfl, _, ha⟩ := (HS1.out.on HB.out).bx hlt
      obtain ⟨b2, o2, rfl, _, hd⟩ := (HS2.out.on HB.out).bx hlt
      have i0 : (0 : Int) ≤ (k : Int) := by omega
      have i1 : (k : Int) < (l.length : Int) := by omega
      generalize l.getD k zBx = x at *
      obtain ⟨y0, y1, y2, y3, y4, y5, y6, y7, y8⟩ := x
      unfold bxL at ha hd
      simp only at ha hd
      have hrun := run_neq_bxK y0 y1 y2 y3 y4 y5 y6 y7 y8
      go_step
      go_step
      go_upto_region 6 with fail
      have a0 : ∀ gp : Gr V, gp.W.cell? ⟨b1, o1 + k * 9, none⟩ = some (.int .i64 y0) := Gr.cell (by simpa using ha 0 _ rfl)
      have a1 : ∀ gp : Gr V, gp.W.cell? ⟨b1, o1 + k * 9 + 1, none⟩ = some (.string y1) := Gr.cell (by simpa using ha 1 _ rfl)
      have a2 : ∀ gp : Gr V, gp.W.cell? ⟨b1, o1 + k * 9 + 2, none⟩ = some (.int .u8 (y2 : Nat)) := Gr.cell (by simpa using ha 2 _ rfl)
      have a3 : ∀ gp : Gr V, gp.W.cell? ⟨b1, o1 + k * 9 + 3, none⟩ = some (.bool y3) := Gr.cell (by simpa using ha 3 _ rfl)
      have a4 : ∀ gp : Gr V, gp.W.cell? ⟨b1, o1 + k * 9 + 4, none⟩ = some (.int .i64 y4) := Gr.cell (by simpa using ha 4 _ rfl)
      have a5 : ∀ gp : Gr V, gp.W.cell? ⟨b1, o1 + k * 9 + 5, none⟩ = some (.int .i64 y5) := Gr.cell (by simpa using ha 5 _ rfl)
      have a6 : ∀ gp : Gr V, gp.W.cell? ⟨b1, o1 + k * 9 + 6, none⟩ = some (.int .i64 y6) := Gr.cell (by simpa using ha 6 _ rfl)
      have a7 : ∀ gp : Gr V, gp.W.cell? ⟨b1, o1 + k * 9 + 7, none⟩ = some (.int .u8 (y7 : Nat)) := Gr.cell (by simpa using ha 7 _ rfl)
      have a8 : ∀ gp : Gr V, gp.W.cell? ⟨b1, o1 + k * 9 + 8, none⟩ = some (.bool y8) := Gr.cell (by simpa using ha 8 _ rfl)
      have d0 : ∀ gp : Gr V, gp.W.cell? ⟨b2, o2 + k * 9, none⟩ = some (.int .i64 y0) := Gr.cell (by simpa using hd 0 _ rfl)
      have d1 : ∀ gp : Gr V, gp.W.cell? ⟨b2, o2 + k * 9 + 1, none⟩ = some (.string y1) := Gr.cell (by simpa using hd 1 _ rfl)
      have d2 : ∀ gp : Gr V, gp.W.cell? ⟨b2, o2 + k * 9 + 2, none⟩ = some (.int .u8 (y2 : Nat)) := Gr.cell (by simpa using hd 2 _ rfl)
      have d3 : ∀ gp : Gr V, gp.W.cell? ⟨b2, o2 + k * 9 + 3, none⟩ = some (.bool y3) := Gr.cell (by simpa using hd 3 _ rfl)
      have d4 : ∀ gp : Gr V, gp.W.cell? ⟨b2, o2 + k * 9 + 4, none⟩ = some (.int .i64 y4) := Gr.cell (by simpa using hd 4 _ rfl)
      have d5 : ∀ gp : Gr V, gp.W.cell? ⟨b2, o2 + k * 9 + 5, none⟩ = some (.int .i64 y5) := Gr.cell (by simpa using hd 5 _ rfl)
      have d6 : ∀ gp : Gr V, gp.W.cell? ⟨b2, o2 + k * 9 + 6, none⟩ = some (.int .i64 y6) := Gr.cell (by simpa using hd 6 _ rfl)
      have d7 : ∀ gp : Gr V, gp.W.cell? ⟨b2, o2 + k * 9 + 7, none⟩ = some (.int .u8 (y7 : Nat)) := Gr.cell (by simpa using hd 7 _ rfl)
      have d8 : ∀ gp : Gr V, gp.W.cell? ⟨b2, o2 + k * 9 + 8, none⟩ = some (.bool y8) := Gr.cell (by simpa using hd 8 _ rfl)
      refine wp_region_gr (by kernel_rfl) (by kernel_rfl) ?_
      repeat (go_big_quiet_step (fail))
      refine wpQuiet_nil ?_
      rintro Y ⟨⟨_, hbY⟩, rfl⟩
      have HN := Lib.hid (HB.out.trans (hbY.mono HB.out.size))
      clear hbY HB hrun ha hd
      clear a0 a1 a2 a3 a4 a5 a6 a7 a8 d0 d1 d2 d3 d4 d5 d6 d7 d8
      go_wp2_with fail
      go_roundw
      case rel => first | exact ⟨k + 1, by omega, by go_num, HN⟩ | ((repeat apply Exists.intro); (first | exact ⟨⟨k + 1, by omega, by go_num, HN⟩, rfl⟩ | exact ⟨by omega, by go_num, HN⟩))
      case measure => simp [intOf]; omega
    · obtain rfl : k = l.length := by omega
      go_wp2_with fail
      go_ret
      exact ⟨rfl, HB.out⟩
def mk2b (i : Nat) : Int := 9000027 + i
theorem rets_ret {w w' : World} {v : Value} {e : Ending} (h : Rets w v e w') : Ret w v e w' := by
  obtain ⟨h1, m, rfl⟩ := h
  exact ⟨h1, drew_below w m⟩
theorem grown_below {w w' : World} {row : Option Nat} (hb : Below w.heap.size w w') : w.grownBy w' row := ⟨hb.os, hb.tape, hb.output, hb.size, fun i hi _ => hb.block i hi⟩
/-- The nine cells at a place of a block. -/
theorem nine {W : World} {g : Nat} {e : TypeId} {cs : Array Value} (h : Bk W g e cs) (o : Nat) (ho : o + 9 ≤ cs.size) : ∃ u0 u1 u2 u3 u4 u5 u6 u7 u8, W.cell? ⟨g, o, none⟩ = some u0 ∧ W.cell? ⟨g, o + 1, none⟩ = some u1 ∧ W.cell? ⟨g, o + 2, none⟩ = some u2 ∧ W.cell? ⟨g, o + 3, none⟩ = some u3 ∧ W.cell? ⟨g, o + 4, none⟩ = some u4 ∧ W.cell? ⟨g, o + 5, none⟩ = some u5 ∧ W.cell? ⟨g, o + 6, none⟩ = some u6 ∧ W.cell? ⟨g, o + 7, none⟩ = some u7 ∧ W.cell? ⟨g, o + 8, none⟩ = some u8 := by
  have k : ∀ j, j < cs.size → ∃ u, W.cell? ⟨g, j, none⟩ = some u := fun j hj => ⟨cs[j], by rw [h.cell j]; simp [hj]⟩
  obtain ⟨u0, h0⟩ := k o (by omega)
  obtain ⟨u1, h1⟩ := k (o + 1) (by omega)
  obtain ⟨u2, h2⟩ := k (o + 2) (by omega)
  obtain ⟨u3, h3⟩ := k (o + 3) (by omega)
  obtain ⟨u4, h4⟩ := k (o + 4) (by omega)
  obtain ⟨u5, h5⟩ := k (o + 5) (by omega)
  obtain ⟨u6, h6⟩ := k (o + 6) (by omega)
  obtain ⟨u7, h7⟩ := k (o + 7) (by omega)
  obtain ⟨u8, h8⟩ := k (o + 8) (by omega)
  exact ⟨u0, u1, u2, u3, u4, u5, u6, u7, u8, h0, h1, h2, h3, h4, h5, h6, h7, h8⟩
def BkN (W : World) (g n : Nat) : Prop := ∃ cs, Bk W g 37 cs ∧ cs.size = n
theorem BkN.set {W : World} {g n : Nat} (h : BkN W g n) (o : Nat) (u : Value) : BkN (W.setCell ⟨g, o, none⟩ u) g n := by
  obtain ⟨cs, h1, h2⟩ := h
  exact ⟨_, h1.set_ o u, by simp [h2]⟩
theorem BkN.on {W W' : World} {g n : Nat} (h : BkN W g n) (hb : Below W.heap.size W W') : BkN W' g n := by
  obtain ⟨cs, h1, h2⟩ := h
  exact ⟨cs, h1.below hb h1.lt, h2⟩
set_option maxRecDepth 100000 in
set_option maxHeartbeats 16000000 in
theorem tells12_any (s : Shp) (h : Hd) (A : Option Addr) (c : Nat) (boxes : List Bx) (A2 : Option Addr) (c2 : Nat) (l : List Stw) (x : Slt) (size : Nat) (w : World) (hsh : ShpR w (Lt w.heap.size) s h) (hi : Ints s) (hb : SlT tBx w (Lt w.heap.size) A boxes) (hs : SlT tStw w (Lt w.heap.size) A2 l) (hlc : l.length ≤ c2)
    (hP : fewP12 s boxes l) (hsz : ∀ b ∈ boxes, b.size < 256) (hti : ∀ y ∈ l, I64 y.slot.col ∧ I64 y.slot.tier) (ht : I64 x.col ∧ I64 x.tier) (hze : size < 256) :
    Calls Try.prog 12 #[.agg (shpA s h), .slice A boxes.length c, .slice A2 l.length c2, .agg (sltL x).toArray, .int .u8 (size : Nat)] w (Ret w (.bool true)) := by
  have hf : Few s := ⟨by have := hP.cols; omega, by have := hP.covs; omega, fun x hx => by have := hP.rows x hx; omega, fun c hc => by have := (hP.each c hc).1; omega⟩
  have hcl := hP.cols
  have hnb := hP.nbx
  have hnl := hP.nst
  have hT12 : ∀ c ∈ s.cols, c.tiers ≤ 12 := fun c hc => (hP.each c hc).2
  have hTN : ∀ c, tiersN s c ≤ 12 := fun c => by
    unfold tiersN
    by_cases hc : c < s.cols.length
    · have := hT12 _ (getD_memD hc default); omega
    · rw [List.getD_eq_getElem?_getD, List.getElem?_eq_none (by omega)]
      decide
  have hLA : (allF s size).length ≤ 1440 := by
    have := colsT_len s size hTN s.cols.length
    unfold allF
    omega
  obtain ⟨xc, xt, xh⟩ := x
  have hb0 := ba2 w (.cells (shpA s h) 32) (.cells #[.int .i64 xc, .int .i64 xt, .int .u8 (xh : Nat)] 40)
  have KE := Lib.hid ((Bk.new w 32 (shpA s h)).alloc (.cells #[.int .i64 xc, .int .i64 xt, .int .u8 (xh : Nat)] 40))
  have KX := Lib.hid (Bk.nxt8 (w := w) (.cells (shpA s h) 32) 40 #[.int .i64 xc, .int .i64 xt, .int .u8 (xh : Nat)])
  have HB0 := Lib.hid hb0
  generalize hW : (w.alloc (.cells (shpA s h) 32)).alloc (.cells #[.int .i64 xc, .int .i64 xt, .int .u8 (xh : Nat)] 40) = W at *
  have HSH := Lib.hid (hsh.on hb0)
  have HBX := Lib.hid (hb.on hb0)
  have HST := Lib.hid (hs.on hb0)
  have hti2 : ∀ y ∈ l, y.slot.tier ≤ 9223372036854775807 := fun y hy => (hti y hy).2.2
  have KC1 : Hid (∀ U : World, Below W.heap.size W U → Calls Try.prog 31 #[.agg (shpA s h), .slice A boxes.length c, .slice A2 l.length c2] U (fun e w' => Below U.heap.size U w' ∧ ∃ v, e = .returned (.tuple #[v, .int .i64 (if stowRight s boxes l then 0 else 2)]) ∧ OwnT tInt 3 w' U.heap.size v (if stowRight s boxes l then pfF s boxes l else []))) := Lib.hid fun U hU => pCheck_any s h A c boxes A2 c2 l U (HSH.out.on hU) hf hi (by omega) (HBX.out.on hU) (by omega) (HST.out.on hU) (by omega) hlc hti
  have KC2 : Hid (∀ U : World, Below W.heap.size W U → Calls Try.prog 32 #[.agg (shpA s h), .slice A boxes.length c, .slice A2 l.length c2] U (fun e w' => Below U.heap.size U w' ∧ ∃ v, e = .returned (.tuple #[v, .int .i64 (if stowRight s boxes l then 0 else 2)]) ∧ OwnT tInt 3 w' U.heap.size v (if stowRight s boxes l then pfF s boxes l else []))) := Lib.hid fun U hU => refPCheck_any s h A c boxes A2 c2 l U (HSH.out.on hU) hf (by omega) (HBX.out.on hU) (by omega) (HST.out.on hU) (by omega) hti2 hsz
  have KF1 : Hid (∀ U : World, Below W.heap.size W U → Calls Try.prog 34 #[.agg (shpA s h), .slice A boxes.length c, .slice A2 l.length c2] U (fun e w' => ∃ A c, e = .returned (.slice A (pfF s boxes l).length c) ∧ (pfF s boxes l).length ≤ c ∧ SlT tInt w' (Lt w'.heap.size) A (pfF s boxes l) ∧ Below U.heap.size U w')) := Lib.hid fun U hU => by
    refine (pFaults_any s h A c boxes A2 c2 l U (HSH.out.on hU) hf hi (HBX.out.on hU) (by omega) (HST.out.on hU) (by omega) hti).mono ?_
    rintro e w' ⟨v, rfl, ho, hb⟩
    obtain ⟨A, c, rfl, hc, _, hs⟩ := ho.sl
    exact ⟨A, c, rfl, hc, hs, hb⟩
  have KF2 : Hid (∀ U : World, Below W.heap.size W U → Calls Try.prog 35 #[.agg (shpA s h), .slice A boxes.length c, .slice A2 l.length c2] U (fun e w' => ∃ A c, e = .returned (.slice A (pfF s boxes l).length c) ∧ (pfF s boxes l).length ≤ c ∧ SlT tInt w' (Lt w'.heap.size) A (pfF s boxes l) ∧ Below U.heap.size U w')) := Lib.hid fun U hU => by
    refine (refPFaults_any s h A c boxes A2 c2 l U (HSH.out.on hU) hf (HBX.out.on hU) (by omega) (HST.out.on hU) (by omega)).mono ?_
    rintro e w' ⟨v, rfl, ho, hb⟩
    obtain ⟨A, c, rfl, hc, _, hs⟩ := ho.sl
    exact ⟨A, c, rfl, hc, hs, hb⟩
  have KA1 : Hid (∀ U : World, Below W.heap.size W U → Calls Try.prog 36 #[.agg (shpA s h), .agg #[.int .i64 xc, .int .i64 xt, .int .u8 (xh : Nat)]] U (Ret U (.bool (atF s ⟨xc, xt, xh⟩)))) := Lib.hid fun U hU => pAt_any s h ⟨xc, xt, xh⟩ U (HSH.out.on hU) hf hi ht
  have KA2 : Hid (∀ U : World, Below W.heap.size W U → Calls Try.prog 37 #[.agg (shpA s h), .agg #[.int .i64 xc, .int .i64 xt, .int .u8 (xh : Nat)]] U (Ret U (.bool (atF s ⟨xc, xt, xh⟩)))) := Lib.hid fun U hU => refAt_any s h ⟨xc, xt, xh⟩ U (HSH.out.on hU) hf
  have KU1 : Hid (∀ U : World, Below W.heap.size W U → Calls Try.prog 38 #[.agg (shpA s h)] U (Ret U (.int .i64 (supF s : Nat)))) := Lib.hid fun U hU => pSupply_any s h U (HSH.out.on hU) hf hi
  have KU2 : Hid (∀ U : World, Below W.heap.size W U → Calls Try.prog 39 #[.agg (shpA s h)] U (Ret U (.int .i64 (supF s : Nat)))) := Lib.hid fun U hU => refSupply_any s h U (HSH.out.on hU) hf (by omega) hT12
  have KM1 : Hid (∀ U : World, Below W.heap.size W U → Calls Try.prog 40 #[.slice A boxes.length c] U (Ret U (.int .i64 (demF boxes)))) := Lib.hid fun U hU => pDemand_any A c boxes U (HBX.out.on hU) (by omega)
  have KM2 : Hid (∀ U : World, Below W.heap.size W U → Calls Try.prog 41 #[.slice A boxes.length c] U (Ret U (.int .i64 (demF boxes)))) := Lib.hid fun U hU => refDemand_any A c boxes U (HBX.out.on hU) (by omega)
  have KS1 : Hid (∀ U : World, Below W.heap.size W U → Calls Try.prog 43 #[.agg (shpA s h), .slice A2 l.length c2, .int .u8 (size : Nat)] U (fun e w' => ∃ A c, e = .returned (.slice A (spareF s l size).length c) ∧ (spareF s l size).length ≤ c ∧ SlT tSlt w' (Lt w'.heap.size) A (spareF s l size) ∧ Below U.heap.size U w')) := Lib.hid fun U hU => by
    refine (pSpare_any s h A2 c2 l size U (HSH.out.on hU) hf hi (by omega) (fun c => by have := hTN c; omega) (by omega) (HST.out.on hU) (by omega)).mono ?_
    rintro e w' ⟨v, rfl, ho, hb⟩
    obtain ⟨A, c, rfl, hc, _, hs⟩ := ho.sl
    exact ⟨A, c, rfl, hc, hs, hb⟩
  have KS2 : Hid (∀ U : World, Below W.heap.size W U → Calls Try.prog 44 #[.agg (shpA s h), .slice A2 l.length c2, .int .i64 (size : Nat)] U (fun e w' => ∃ A c, e = .returned (.slice A (spareF s l size).length c) ∧ (spareF s l size).length ≤ c ∧ SlT tSlt w' (Lt w'.heap.size) A (spareF s l size) ∧ Below U.heap.size U w')) := Lib.hid fun U hU => by
    refine (refSpare_any s h A2 c2 l size U (HSH.out.on hU) hf (by omega) hTN hze (HST.out.on hU) (by omega)).mono ?_
    rintro e w' ⟨v, rfl, ho, hb⟩
    obtain ⟨A, c, rfl, hc, _, hs⟩ := ho.sl
    exact ⟨A, c, rfl, hc, hs, hb⟩
  have KD1 : Hid (∀ U : World, Below W.heap.size W U → Calls Try.prog 46 #[.slice A boxes.length c, .slice A2 l.length c2] U (fun e w' => ∃ A c, e = .returned (.slice A (coldF boxes l).length c) ∧ (coldF boxes l).length ≤ c ∧ SlT tBx w' (Lt w'.heap.size) A (coldF boxes l) ∧ Below U.heap.size U w')) := Lib.hid fun U hU => by
    refine (pCold_any A c boxes A2 c2 l U (HBX.out.on hU) (by omega) (HST.out.on hU) (by omega)).mono ?_
    rintro e w' ⟨v, rfl, ho, hb⟩
    obtain ⟨A, c, rfl, hc, _, hs⟩ := ho.sl
    exact ⟨A, c, rfl, hc, hs, hb⟩
  have KD2 : Hid (∀ U : World, Below W.heap.size W U → Calls Try.prog 47 #[.slice A boxes.length c, .slice A2 l.length c2] U (fun e w' => ∃ A c, e = .returned (.slice A (coldF boxes l).length c) ∧ (coldF boxes l).length ≤ c ∧ SlT tBx w' (Lt w'.heap.size) A (coldF boxes l) ∧ Below U.heap.size U w')) := Lib.hid fun U hU => by
    refine (refCold_any A c boxes A2 c2 l U (HBX.out.on hU) (by omega) (HST.out.on hU) (by omega)).mono ?_
    rintro e w' ⟨v, rfl, ho, hb⟩
    obtain ⟨A, c, rfl, hc, _, hs⟩ := ho.sl
    exact ⟨A, c, rfl, hc, hs, hb⟩
  have hFL : (pfF s boxes l).length ≤ 1000000 := by
    unfold pfF
    rw [List.length_map]
    exact Nat.le_trans (List.length_filter_le _ _) (Nat.le_trans (List.length_filter_le _ _) (by omega))
  have hCL : (if stowRight s boxes l then pfF s boxes l else []).length ≤ 1000000 := by
    split
    · exact hFL
    · simp
  have hSL : (spareF s l size).length ≤ 1000000 := by
    unfold spareF
    exact Nat.le_trans (List.length_filter_le _ _) (by omega)
  have hDL : (coldF boxes l).length ≤ 1000000 := by
    unfold coldF
    rw [List.length_map]
    exact Nat.le_trans (List.length_filter_le _ _) (by omega)
  clear hsh hb hs hf hP hti hti2 ht hsz hi hb0 hT12 hTN hLA
  generalize atF s ⟨xc, xt, xh⟩ = av at *
  generalize supF s = sv at *
  generalize demF boxes = dv at *
  generalize (if stowRight s boxes l then pfF s boxes l else []) = CL at *
  generalize pfF s boxes l = FL at *
  generalize spareF s l size = SL at *
  generalize coldF boxes l = DL at *
  generalize (if stowRight s boxes l then (0 : Int) else 2) = er at *
  have q1 : (av != av) = false := by simp
  have q2 : ((sv : Int) != (sv : Int)) = false := by simp
  have q3 : (dv != dv) = false := by simp
  have q6 : (er != er) = false := by simp
  unfold shpA at *
  unfold sltL
  simp only
  go_enter Try.func12, Try.ntmps12
  go_upto_region 1 with fail
  try rw [hW]
  clear hW
  have e0 : W.cell? ⟨w.heap.size, 0, none⟩ = some (Value.slice h.A1 s.cols.length h.c1) := KE.out.cell 0
  have e1 : W.cell? ⟨w.heap.size, 1, none⟩ = some (Value.slice h.A2 s.covs.length h.c2) := KE.out.cell 1
  have e2 : W.cell? ⟨w.heap.size, 2, none⟩ = some (.int .i64 s.l0) := KE.out.cell 2
  have e3 : W.cell? ⟨w.heap.size, 3, none⟩ = some (.int .i64 s.l1) := KE.out.cell 3
  have e4 : W.cell? ⟨w.heap.size, 4, none⟩ = some (.int .i64 s.l2) := KE.out.cell 4
  have e5 : W.cell? ⟨w.heap.size, 5, none⟩ = some (.int .i64 s.l3) := KE.out.cell 5
  have e6 : W.cell? ⟨w.heap.size, 6, none⟩ = some (.slice h.A3 s.rows.length h.c3) := KE.out.cell 6
  have e7 : W.cell? ⟨w.heap.size, 7, none⟩ = some (.slice h.A4 s.frames.length h.c4) := KE.out.cell 7
  have e8 : W.cell? ⟨w.heap.size, 8, none⟩ = some (.slice h.A5 s.tanks.length h.c5) := KE.out.cell 8
  have e9 : W.cell? ⟨w.heap.size, 9, none⟩ = some (.int .i64 s.m0) := KE.out.cell 9
  have e10 : W.cell? ⟨w.heap.size, 10, none⟩ = some (.int .i64 s.m1) := KE.out.cell 10
  have e11 : W.cell? ⟨w.heap.size, 11, none⟩ = some (.int .i64 s.m2) := KE.out.cell 11
  have e12 : W.cell? ⟨w.heap.size, 12, none⟩ = some (.int .i64 s.m3) := KE.out.cell 12
  go_wp2_with fail
  refine (KC1.out W (Below.refl _ _)).mono ?_
  rintro e V5 ⟨hb5, v5, rfl, ho5⟩
  obtain ⟨A5, c5, rfl, hc5, _, hs5⟩ := ho5.sl
  simp only
  have HB5 := Lib.hid hb5
  have HS5 := Lib.hid hs5
  clear hb5 KC1 ho5 hs5 e0 e1 e2 e3 e4 e5 e6 e7 e8 e9 e10 e11 e12
  have KEY := Lib.hid (KE.out.below HB5.out KE.out.lt)
  have e0 : V5.cell? ⟨w.heap.size, 0, none⟩ = some (Value.slice h.A1 s.cols.length h.c1) := KEY.out.cell 0
  have e1 : V5.cell? ⟨w.heap.size, 1, none⟩ = some (Value.slice h.A2 s.covs.length h.c2) := KEY.out.cell 1
  have e2 : V5.cell? ⟨w.heap.size, 2, none⟩ = some (.int .i64 s.l0) := KEY.out.cell 2
  have e3 : V5.cell? ⟨w.heap.size, 3, none⟩ = some (.int .i64 s.l1) := KEY.out.cell 3
  have e4 : V5.cell? ⟨w.heap.size, 4, none⟩ = some (.int .i64 s.l2) := KEY.out.cell 4
  have e5 : V5.cell? ⟨w.heap.size, 5, none⟩ = some (.int .i64 s.l3) := KEY.out.cell 5
  have e6 : V5.cell? ⟨w.heap.size, 6, none⟩ = some (.slice h.A3 s.rows.length h.c3) := KEY.out.cell 6
  have e7 : V5.cell? ⟨w.heap.size, 7, none⟩ = some (.slice h.A4 s.frames.length h.c4) := KEY.out.cell 7
  have e8 : V5.cell? ⟨w.heap.size, 8, none⟩ = some (.slice h.A5 s.tanks.length h.c5) := KEY.out.cell 8
  have e9 : V5.cell? ⟨w.heap.size, 9, none⟩ = some (.int .i64 s.m0) := KEY.out.cell 9
  have e10 : V5.cell? ⟨w.heap.size, 10, none⟩ = some (.int .i64 s.m1) := KEY.out.cell 10
  have e11 : V5.cell? ⟨w.heap.size, 11, none⟩ = some (.int .i64 s.m2) := KEY.out.cell 11
  have e12 : V5.cell? ⟨w.heap.size, 12, none⟩ = some (.int .i64 s.m3) := KEY.out.cell 12
  go_upto_region 2 with fail
  go_wp2_with fail
  refine (KC2.out V5 HB5.out).mono ?_
  rintro e V6 ⟨hb6, v6, rfl, ho6⟩
  obtain ⟨A6, c6, rfl, hc6, _, hs6⟩ := ho6.sl
  simp only
  have HB6 := Lib.hid (HB5.out.trans (hb6.mono HB5.out.size))
  have HS5' := Lib.hid (HS5.out.on hb6)
  have HS6 := Lib.hid hs6
  clear hb6 KC2 KEY HB5 ho6 hs6 HS5 e0 e1 e2 e3 e4 e5 e6 e7 e8 e9 e10 e11 e12
  go_upto_region 3 with fail
  obtain ⟨V3, rfl⟩ : ∃ V3, V3 = V6 := ⟨_, rfl⟩
  have KE3 := Lib.hid (KE.out.below HB6.out KE.out.lt)
  have e0 : V3.cell? ⟨w.heap.size, 0, none⟩ = some (Value.slice h.A1 s.cols.length h.c1) := KE3.out.cell 0
  have e1 : V3.cell? ⟨w.heap.size, 1, none⟩ = some (Value.slice h.A2 s.covs.length h.c2) := KE3.out.cell 1
  have e2 : V3.cell? ⟨w.heap.size, 2, none⟩ = some (.int .i64 s.l0) := KE3.out.cell 2
  have e3 : V3.cell? ⟨w.heap.size, 3, none⟩ = some (.int .i64 s.l1) := KE3.out.cell 3
  have e4 : V3.cell? ⟨w.heap.size, 4, none⟩ = some (.int .i64 s.l2) := KE3.out.cell 4
  have e5 : V3.cell? ⟨w.heap.size, 5, none⟩ = some (.int .i64 s.l3) := KE3.out.cell 5
  have e6 : V3.cell? ⟨w.heap.size, 6, none⟩ = some (.slice h.A3 s.rows.length h.c3) := KE3.out.cell 6
  have e7 : V3.cell? ⟨w.heap.size, 7, none⟩ = some (.slice h.A4 s.frames.length h.c4) := KE3.out.cell 7
  have e8 : V3.cell? ⟨w.heap.size, 8, none⟩ = some (.slice h.A5 s.tanks.length h.c5) := KE3.out.cell 8
  have e9 : V3.cell? ⟨w.heap.size, 9, none⟩ = some (.int .i64 s.m0) := KE3.out.cell 9
  have e10 : V3.cell? ⟨w.heap.size, 10, none⟩ = some (.int .i64 s.m1) := KE3.out.cell 10
  have e11 : V3.cell? ⟨w.heap.size, 11, none⟩ = some (.int .i64 s.m2) := KE3.out.cell 11
  have e12 : V3.cell? ⟨w.heap.size, 12, none⟩ = some (.int .i64 s.m3) := KE3.out.cell 12
  have KL1 : Hid (∀ U : World, Cb V3 U → Calls Try.prog 33 #[.slice A5 CL.length c5, .slice A6 CL.length c6] U (Ret U (.bool true))) := Lib.hid fun U hU => by
    have := sameInts_any A5 A6 c5 c6 CL CL _ _ U (HS5'.out.on hU) (HS6.out.on hU) (by unfold maxLen; omega)
    rw [decide_eq_true rfl] at this
    exact this.mono fun e w' hh => rets_ret hh
  have KL2 : Hid (∀ (U : World) (B1 : Option Addr) (d1 : Nat) (B2 : Option Addr) (d2 : Nat), SlT tInt U (Lt U.heap.size) B1 FL → SlT tInt U (Lt U.heap.size) B2 FL → Calls Try.prog 33 #[.slice B1 FL.length d1, .slice B2 FL.length d2] U (Ret U (.bool true))) := Lib.hid fun U B1 d1 B2 d2 h1 h2 => by
    have := sameInts_any B1 B2 d1 d2 FL FL _ _ U h1 h2 (by unfold maxLen; omega)
    rw [decide_eq_true rfl] at this
    exact this.mono fun e w' hh => rets_ret hh
  have KL3 : Hid (∀ (U : World) (B1 : Option Addr) (d1 : Nat) (B2 : Option Addr) (d2 : Nat), SlT tSlt U (Lt U.heap.size) B1 SL → SlT tSlt U (Lt U.heap.size) B2 SL → Calls Try.prog 42 #[.slice B1 SL.length d1, .slice B2 SL.length d2] U (Ret U (.bool true))) := Lib.hid fun U B1 d1 B2 d2 h1 h2 => by
    have := sameSlots_any B1 B2 d1 d2 SL SL U h1 h2 (by unfold maxLen; omega)
    rw [decide_eq_true rfl] at this
    exact this
  have KL4 : Hid (∀ (U : World) (B1 : Option Addr) (d1 : Nat) (B2 : Option Addr) (d2 : Nat), SlT tBx U (Lt U.heap.size) B1 DL → SlT tBx U (Lt U.heap.size) B2 DL → Calls Try.prog 45 #[.slice B1 DL.length d1, .slice B2 DL.length d2] U (Ret U (.bool true))) := Lib.hid fun U B1 d1 B2 d2 h1 h2 => sameBoxes_any B1 B2 d1 d2 DL U h1 h2 hDL
  replace KF1 := Lib.hid (fun (U : World) (hU : Below V3.heap.size V3 U) => KF1.out U (HB6.out.trans (hU.mono HB6.out.size)))
  replace KF2 := Lib.hid (fun (U : World) (hU : Below V3.heap.size V3 U) => KF2.out U (HB6.out.trans (hU.mono HB6.out.size)))
  refine wp_region_ogG [.val 0 (.int .i64 er),
    .val 1 (.int .i64 er),
    .val 2 (.bool false),
    .val 3 (.bool false),
    .val 4 (.slice A5 CL.length c5),
    .val 5 (.slice A6 CL.length c6),
    .val 6 (.bool true),
    .val 7 (.bool false),
    .val 8 (.bool false),
    .val 9 (.bool false),
    .val 10 (.agg #[.slice h.A1 s.cols.length h.c1, .slice h.A2 s.covs.length h.c2, .int .i64 s.l0, .int .i64 s.l1, .int .i64 s.l2, .int .i64 s.l3, .slice h.A3 s.rows.length h.c3, .slice h.A4 s.frames.length h.c4, .slice h.A5 s.tanks.length h.c5, .int .i64 s.m0, .int .i64 s.m1, .int .i64 s.m2, .int .i64 s.m3]),
    .val 11 (.slice A boxes.length c),
    .val 12 (.slice A2 l.length c2),
    .slT tInt 13 FL,
    .val 14 (.agg #[.slice h.A1 s.cols.length h.c1, .slice h.A2 s.covs.length h.c2, .int .i64 s.l0, .int .i64 s.l1, .int .i64 s.l2, .int .i64 s.l3, .slice h.A3 s.rows.length h.c3, .slice h.A4 s.frames.length h.c4, .slice h.A5 s.tanks.length h.c5, .int .i64 s.m0, .int .i64 s.m1, .int .i64 s.m2, .int .i64 s.m3]),
    .val 15 (.slice A boxes.length c),
    .val 16 (.slice A2 l.length c2),
    .slT tInt 17 FL,
    .val 18 (.bool true),
    .val 19 (.bool false),
    .val 20 (.bool false)]
    [[], [], [0, 1], [2], [3], [3], [3, 4, 5], [3, 6], [3, 7], [8], [9], [9], [9], [9, 10, 11, 12], [9], [9], [9], [9, 14, 15, 16], [9, 13, 17], [9, 18], [9, 19]] [20] (Cb V3) (by kernel_rfl) (by kernel_rfl) (Cb.drew V3) ⟨?_, ?_, ?_, ?_, ?_, ?_, ?_, ?_, ?_, ?_, ?_, ?_, ?_, ?_, ?_, ?_, ?_, ?_, ?_, ?_, ?_, trivial⟩ ?_
  case refine_1 =>
    refine StepG.of rfl ?_
    refine StepL.up fun x V hV hu K Q hK => ?_
    clear hu
    rw [owp_eq]
    go_big_op
    exact hK _ _ (Below.refl _ _) rfl
  case refine_2 =>
    refine StepG.of rfl ?_
    refine StepL.up fun x V hV hu K Q hK => ?_
    clear hu
    simp only [putL, List.set_cons_zero, List.set_cons_succ] at hK ⊢
    rw [owp_eq]
    go_big_op
    exact hK _ _ (Below.refl _ _) rfl
  case refine_3 =>
    refine StepG.of rfl ?_
    refine StepL.up fun x V hV hu K Q hK => ?_
    have u0 : x 0 = _ := hu 0 (by decide)
    have u1 : x 1 = _ := hu 1 (by decide)
    clear hu
    simp only [putL, List.set_cons_zero, List.set_cons_succ] at hK ⊢
    rw [owp_eq]
    go_big_op
    exact hK _ _ (Below.refl _ _) rfl
  case refine_4 =>
    refine StepG.of rfl ?_
    refine StepL.up fun x V hV hu K Q hK => ?_
    have u2 : x 2 = _ := hu 2 (by decide)
    clear hu
    simp only [putL, List.set_cons_zero, List.set_cons_succ] at hK ⊢
    rw [owp_eq]
    go_big_op
    exact hK _ _ (Below.refl _ _) rfl
  case refine_5 =>
    refine StepG.yes 3 false 32 rfl rfl (fun x => by simp only [putL, List.set_cons_zero, List.set_cons_succ]; rfl) rfl (fun x w h => h) ?_
    refine StepL.up fun x V hV hu K Q hK => ?_
    have u3 : x 3 = _ := hu 3 (by decide)
    clear hu
    simp only [putL, List.set_cons_zero, List.set_cons_succ] at hK ⊢
    rw [owp_eq]
    go_big_op
    exact hK _ _ (Below.refl _ _) rfl
  case refine_6 =>
    refine StepG.yes 3 false 32 rfl rfl (fun x => by simp only [putL, List.set_cons_zero, List.set_cons_succ]; rfl) rfl (fun x w h => h) ?_
    refine StepL.up fun x V hV hu K Q hK => ?_
    have u3 : x 3 = _ := hu 3 (by decide)
    clear hu
    simp only [putL, List.set_cons_zero, List.set_cons_succ] at hK ⊢
    rw [owp_eq]
    go_big_op
    exact hK _ _ (Below.refl _ _) rfl
  case refine_7 =>
    refine StepG.yes 3 false 32 rfl rfl (fun x => by simp only [putL, List.set_cons_zero, List.set_cons_succ]; rfl) rfl (fun x w h => h) ?_
    refine StepL.up fun x V hV hu K Q hK => ?_
    have u3 : x 3 = _ := hu 3 (by decide)
    have u4 : x 4 = _ := hu 4 (by decide)
    have u5 : x 5 = _ := hu 5 (by decide)
    clear hu
    simp only [putL, List.set_cons_zero, List.set_cons_succ] at hK ⊢
    rw [owp_eq]
    go_big_op
    refine (KL1.out V hV).mono ?_
    rintro e V' ⟨rfl, hb⟩
    exact hK _ _ hb rfl
  case refine_8 =>
    refine StepG.yes 3 false 32 rfl rfl (fun x => by simp only [putL, List.set_cons_zero, List.set_cons_succ]; rfl) rfl (fun x w h => h) ?_
    refine StepL.up fun x V hV hu K Q hK => ?_
    have u3 : x 3 = _ := hu 3 (by decide)
    have u6 : x 6 = _ := hu 6 (by decide)
    clear hu
    simp only [putL, List.set_cons_zero, List.set_cons_succ] at hK ⊢
    rw [owp_eq]
    go_big_op
    exact hK _ _ (Below.refl _ _) rfl
  case refine_9 =>
    refine StepG.of rfl ?_
    refine StepL.up fun x V hV hu K Q hK => ?_
    have u3 : x 3 = _ := hu 3 (by decide)
    have u7 : x 7 = _ := hu 7 (by decide)
    clear hu
    simp only [putL, List.set_cons_zero, List.set_cons_succ] at hK ⊢
    rw [owp_eq]
    go_big_op
    exact hK _ _ (Below.refl _ _) rfl
  case refine_10 =>
    refine StepG.of rfl ?_
    refine StepL.up fun x V hV hu K Q hK => ?_
    have u8 : x 8 = _ := hu 8 (by decide)
    clear hu
    simp only [putL, List.set_cons_zero, List.set_cons_succ] at hK ⊢
    rw [owp_eq]
    go_big_op
    exact hK _ _ (Below.refl _ _) rfl
  case refine_11 =>
    refine StepG.yes 9 false 38 rfl rfl (fun x => by simp only [putL, List.set_cons_zero, List.set_cons_succ]; rfl) rfl (fun x w h => h) ?_
    refine StepL.up fun x V hV hu K Q hK => ?_
    have u9 : x 9 = _ := hu 9 (by decide)
    have fe0 := hV.cell e0
    have fe1 := hV.cell e1
    have fe2 := hV.cell e2
    have fe3 := hV.cell e3
    have fe4 := hV.cell e4
    have fe5 := hV.cell e5
    have fe6 := hV.cell e6
    have fe7 := hV.cell e7
    have fe8 := hV.cell e8
    have fe9 := hV.cell e9
    have fe10 := hV.cell e10
    have fe11 := hV.cell e11
    have fe12 := hV.cell e12
    clear hu
    simp only [putL, List.set_cons_zero, List.set_cons_succ] at hK ⊢
    rw [owp_eq]
    go_big_op
    exact hK _ _ (Below.refl _ _) rfl
  case refine_12 =>
    refine StepG.yes 9 false 38 rfl rfl (fun x => by simp only [putL, List.set_cons_zero, List.set_cons_succ]; rfl) rfl (fun x w h => h) ?_
    refine StepL.up fun x V hV hu K Q hK => ?_
    have u9 : x 9 = _ := hu 9 (by decide)
    clear hu
    simp only [putL, List.set_cons_zero, List.set_cons_succ] at hK ⊢
    rw [owp_eq]
    go_big_op
    exact hK _ _ (Below.refl _ _) rfl
  case refine_13 =>
    refine StepG.yes 9 false 38 rfl rfl (fun x => by simp only [putL, List.set_cons_zero, List.set_cons_succ]; rfl) rfl (fun x w h => h) ?_
    refine StepL.up fun x V hV hu K Q hK => ?_
    have u9 : x 9 = _ := hu 9 (by decide)
    clear hu
    simp only [putL, List.set_cons_zero, List.set_cons_succ] at hK ⊢
    rw [owp_eq]
    go_big_op
    exact hK _ _ (Below.refl _ _) rfl
  case refine_14 =>
    refine StepG.yes 9 false 38 rfl rfl (fun x => by simp only [putL, List.set_cons_zero, List.set_cons_succ]; rfl) rfl (fun x w h => h) ?_
    refine StepL.up fun x V hV hu K Q hK => ?_
    have u9 : x 9 = _ := hu 9 (by decide)
    have u10 : x 10 = _ := hu 10 (by decide)
    have u11 : x 11 = _ := hu 11 (by decide)
    have u12 : x 12 = _ := hu 12 (by decide)
    clear hu
    simp only [putL, List.set_cons_zero, List.set_cons_succ] at hK ⊢
    rw [owp_eq]
    go_big_op
    refine (KF1.out V hV).mono ?_
    rintro e V' ⟨A9, c9, rfl, hc9, hs9, hb⟩
    exact hK _ _ hb ⟨A9, c9, rfl, hc9, hs9⟩
  case refine_15 =>
    refine StepG.yes 9 false 38 rfl rfl (fun x => by simp only [putL, List.set_cons_zero, List.set_cons_succ]; rfl) rfl (fun x w h => h) ?_
    refine StepL.up fun x V hV hu K Q hK => ?_
    have u9 : x 9 = _ := hu 9 (by decide)
    have fe0 := hV.cell e0
    have fe1 := hV.cell e1
    have fe2 := hV.cell e2
    have fe3 := hV.cell e3
    have fe4 := hV.cell e4
    have fe5 := hV.cell e5
    have fe6 := hV.cell e6
    have fe7 := hV.cell e7
    have fe8 := hV.cell e8
    have fe9 := hV.cell e9
    have fe10 := hV.cell e10
    have fe11 := hV.cell e11
    have fe12 := hV.cell e12
    clear hu
    simp only [putL, List.set_cons_zero, List.set_cons_succ] at hK ⊢
    rw [owp_eq]
    go_big_op
    exact hK _ _ (Below.refl _ _) rfl
  case refine_16 =>
    refine StepG.yes 9 false 38 rfl rfl (fun x => by simp only [putL, List.set_cons_zero, List.set_cons_succ]; rfl) rfl (fun x w h => h) ?_
    refine StepL.up fun x V hV hu K Q hK => ?_
    have u9 : x 9 = _ := hu 9 (by decide)
    clear hu
    simp only [putL, List.set_cons_zero, List.set_cons_succ] at hK ⊢
    rw [owp_eq]
    go_big_op
    exact hK _ _ (Below.refl _ _) rfl
  case refine_17 =>
    refine StepG.yes 9 false 38 rfl rfl (fun x => by simp only [putL, List.set_cons_zero, List.set_cons_succ]; rfl) rfl (fun x w h => h) ?_
    refine StepL.up fun x V hV hu K Q hK => ?_
    have u9 : x 9 = _ := hu 9 (by decide)
    clear hu
    simp only [putL, List.set_cons_zero, List.set_cons_succ] at hK ⊢
    rw [owp_eq]
    go_big_op
    exact hK _ _ (Below.refl _ _) rfl
  case refine_18 =>
    refine StepG.yes 9 false 38 rfl rfl (fun x => by simp only [putL, List.set_cons_zero, List.set_cons_succ]; rfl) rfl (fun x w h => h) ?_
    refine StepL.up fun x V hV hu K Q hK => ?_
    have u9 : x 9 = _ := hu 9 (by decide)
    have u14 : x 14 = _ := hu 14 (by decide)
    have u15 : x 15 = _ := hu 15 (by decide)
    have u16 : x 16 = _ := hu 16 (by decide)
    clear hu
    simp only [putL, List.set_cons_zero, List.set_cons_succ] at hK ⊢
    rw [owp_eq]
    go_big_op
    refine (KF2.out V hV).mono ?_
    rintro e V' ⟨A9, c9, rfl, hc9, hs9, hb⟩
    exact hK _ _ hb ⟨A9, c9, rfl, hc9, hs9⟩
  case refine_19 =>
    refine StepG.yes 9 false 38 rfl rfl (fun x => by simp only [putL, List.set_cons_zero, List.set_cons_succ]; rfl) rfl (fun x w h => h) ?_
    refine StepL.up fun x V hV hu K Q hK => ?_
    have u9 : x 9 = _ := hu 9 (by decide)
    obtain ⟨A13, c13, u13, hc13, hs13⟩ := hu 13 (by decide)
    obtain ⟨A17, c17, u17, hc17, hs17⟩ := hu 17 (by decide)
    clear hu
    simp only [putL, List.set_cons_zero, List.set_cons_succ] at hK ⊢
    rw [owp_eq]
    go_big_op
    refine (KL2.out V A13 c13 A17 c17 hs13 hs17).mono ?_
    rintro e V' ⟨rfl, hb⟩
    exact hK _ _ hb rfl
  case refine_20 =>
    refine StepG.yes 9 false 38 rfl rfl (fun x => by simp only [putL, List.set_cons_zero, List.set_cons_succ]; rfl) rfl (fun x w h => h) ?_
    refine StepL.up fun x V hV hu K Q hK => ?_
    have u9 : x 9 = _ := hu 9 (by decide)
    have u18 : x 18 = _ := hu 18 (by decide)
    clear hu
    simp only [putL, List.set_cons_zero, List.set_cons_succ] at hK ⊢
    rw [owp_eq]
    go_big_op
    exact hK _ _ (Below.refl _ _) rfl
  case refine_21 =>
    refine StepG.of rfl ?_
    refine StepL.up fun x V hV hu K Q hK => ?_
    have u9 : x 9 = _ := hu 9 (by decide)
    have u19 : x 19 = _ := hu 19 (by decide)
    clear hu
    simp only [putL, List.set_cons_zero, List.set_cons_succ] at hK ⊢
    rw [owp_eq]
    go_big_op
    exact hK _ _ (Below.refl _ _) rfl
  case refine_22 =>
  refine fun x w' hC hx => ?_
  have hx20 : x 20 = _ := hx 20 (by decide) (by decide)
  clear hx
  simp only [layL, putL, List.set_cons_zero, List.set_cons_succ, hx20]
  have HC := Lib.hid (show Below V3.heap.size V3 w' from hC)
  have HBW := Lib.hid (HB6.out.trans (HC.out.mono HB6.out.size))
  clear hC hx20 KL1 KF1 KF2 HS5' HS6 e0 e1 e2 e3 e4 e5 e6 e7 e8 e9 e10 e11 e12 q6
  replace KA1 := Lib.hid (fun (U : World) (hU : Below w'.heap.size w' U) => KA1.out U (HBW.out.trans (hU.mono HBW.out.size)))
  replace KA2 := Lib.hid (fun (U : World) (hU : Below w'.heap.size w' U) => KA2.out U (HBW.out.trans (hU.mono HBW.out.size)))
  replace KU1 := Lib.hid (fun (U : World) (hU : Below w'.heap.size w' U) => KU1.out U (HBW.out.trans (hU.mono HBW.out.size)))
  replace KU2 := Lib.hid (fun (U : World) (hU : Below w'.heap.size w' U) => KU2.out U (HBW.out.trans (hU.mono HBW.out.size)))
  replace KM1 := Lib.hid (fun (U : World) (hU : Below w'.heap.size w' U) => KM1.out U (HBW.out.trans (hU.mono HBW.out.size)))
  replace KM2 := Lib.hid (fun (U : World) (hU : Below w'.heap.size w' U) => KM2.out U (HBW.out.trans (hU.mono HBW.out.size)))
  go_upto_region 5 with fail
  have KE5 := Lib.hid (KE.out.below HBW.out KE.out.lt)
  have KX5 := Lib.hid (KX.out.below HBW.out KX.out.lt)
  have e0 : ∀ p : Gr w', p.W.cell? ⟨w.heap.size, 0, none⟩ = some (Value.slice h.A1 s.cols.length h.c1) := Gr.cell (KE5.out.cell 0)
  have e1 : ∀ p : Gr w', p.W.cell? ⟨w.heap.size, 1, none⟩ = some (Value.slice h.A2 s.covs.length h.c2) := Gr.cell (KE5.out.cell 1)
  have e2 : ∀ p : Gr w', p.W.cell? ⟨w.heap.size, 2, none⟩ = some (.int .i64 s.l0) := Gr.cell (KE5.out.cell 2)
  have e3 : ∀ p : Gr w', p.W.cell? ⟨w.heap.size, 3, none⟩ = some (.int .i64 s.l1) := Gr.cell (KE5.out.cell 3)
  have e4 : ∀ p : Gr w', p.W.cell? ⟨w.heap.size, 4, none⟩ = some (.int .i64 s.l2) := Gr.cell (KE5.out.cell 4)
  have e5 : ∀ p : Gr w', p.W.cell? ⟨w.heap.size, 5, none⟩ = some (.int .i64 s.l3) := Gr.cell (KE5.out.cell 5)
  have e6 : ∀ p : Gr w', p.W.cell? ⟨w.heap.size, 6, none⟩ = some (.slice h.A3 s.rows.length h.c3) := Gr.cell (KE5.out.cell 6)
  have e7 : ∀ p : Gr w', p.W.cell? ⟨w.heap.size, 7, none⟩ = some (.slice h.A4 s.frames.length h.c4) := Gr.cell (KE5.out.cell 7)
  have e8 : ∀ p : Gr w', p.W.cell? ⟨w.heap.size, 8, none⟩ = some (.slice h.A5 s.tanks.length h.c5) := Gr.cell (KE5.out.cell 8)
  have e9 : ∀ p : Gr w', p.W.cell? ⟨w.heap.size, 9, none⟩ = some (.int .i64 s.m0) := Gr.cell (KE5.out.cell 9)
  have e10 : ∀ p : Gr w', p.W.cell? ⟨w.heap.size, 10, none⟩ = some (.int .i64 s.m1) := Gr.cell (KE5.out.cell 10)
  have e11 : ∀ p : Gr w', p.W.cell? ⟨w.heap.size, 11, none⟩ = some (.int .i64 s.m2) := Gr.cell (KE5.out.cell 11)
  have e12 : ∀ p : Gr w', p.W.cell? ⟨w.heap.size, 12, none⟩ = some (.int .i64 s.m3) := Gr.cell (KE5.out.cell 12)
  have x0 : ∀ gp : Gr w', gp.W.cell? ⟨w.heap.size + 1, 0, none⟩ = some (.int .i64 xc) := Gr.cell (KX5.out.cell 0)
  have x1 : ∀ gp : Gr w', gp.W.cell? ⟨w.heap.size + 1, 1, none⟩ = some (.int .i64 xt) := Gr.cell (KX5.out.cell 1)
  have x2 : ∀ gp : Gr w', gp.W.cell? ⟨w.heap.size + 1, 2, none⟩ = some (.int .u8 (xh : Nat)) := Gr.cell (KX5.out.cell 2)
  refine wp_region_gr (by kernel_rfl) (by kernel_rfl) ?_
  repeat (go_big_quiet_step (((first | (with_reducible exact Gr.call _ (fun V hV => KA1.out V hV)) | (with_reducible exact Gr.call _ (fun V hV => KA2.out V hV)) | (with_reducible exact Gr.call _ (fun V hV => KU1.out V hV)) | (with_reducible exact Gr.call _ (fun V hV => KU2.out V hV)) | (with_reducible exact Gr.call _ (fun V hV => KM1.out V hV)) | (with_reducible exact Gr.call _ (fun V hV => KM2.out V hV))))))
  refine wpQuiet_nil ?_
  rintro Y ⟨⟨_, hbY⟩, rfl⟩
  have HB7 := Lib.hid (HBW.out.trans (hbY.mono HBW.out.size))
  have HYC := Lib.hid hbY
  clear hbY KA1 KA2 KU1 KU2 KM1 KM2 e0 e1 e2 e3 e4 e5 e6 e7 e8 e9 e10 e11 e12 x0 x1 x2 q1 q2 q3 KX5 KE5
  go_upto_region 7 with fail
  obtain ⟨V7, rfl⟩ : ∃ V7, V7 = Y := ⟨_, rfl⟩
  have KE7 := Lib.hid (KE.out.below HB7.out KE.out.lt)
  have e0 : V7.cell? ⟨w.heap.size, 0, none⟩ = some (Value.slice h.A1 s.cols.length h.c1) := KE7.out.cell 0
  have e1 : V7.cell? ⟨w.heap.size, 1, none⟩ = some (Value.slice h.A2 s.covs.length h.c2) := KE7.out.cell 1
  have e2 : V7.cell? ⟨w.heap.size, 2, none⟩ = some (.int .i64 s.l0) := KE7.out.cell 2
  have e3 : V7.cell? ⟨w.heap.size, 3, none⟩ = some (.int .i64 s.l1) := KE7.out.cell 3
  have e4 : V7.cell? ⟨w.heap.size, 4, none⟩ = some (.int .i64 s.l2) := KE7.out.cell 4
  have e5 : V7.cell? ⟨w.heap.size, 5, none⟩ = some (.int .i64 s.l3) := KE7.out.cell 5
  have e6 : V7.cell? ⟨w.heap.size, 6, none⟩ = some (.slice h.A3 s.rows.length h.c3) := KE7.out.cell 6
  have e7 : V7.cell? ⟨w.heap.size, 7, none⟩ = some (.slice h.A4 s.frames.length h.c4) := KE7.out.cell 7
  have e8 : V7.cell? ⟨w.heap.size, 8, none⟩ = some (.slice h.A5 s.tanks.length h.c5) := KE7.out.cell 8
  have e9 : V7.cell? ⟨w.heap.size, 9, none⟩ = some (.int .i64 s.m0) := KE7.out.cell 9
  have e10 : V7.cell? ⟨w.heap.size, 10, none⟩ = some (.int .i64 s.m1) := KE7.out.cell 10
  have e11 : V7.cell? ⟨w.heap.size, 11, none⟩ = some (.int .i64 s.m2) := KE7.out.cell 11
  have e12 : V7.cell? ⟨w.heap.size, 12, none⟩ = some (.int .i64 s.m3) := KE7.out.cell 12
  replace KS1 := Lib.hid (fun (U : World) (hU : Below V7.heap.size V7 U) => KS1.out U (HB7.out.trans (hU.mono HB7.out.size)))
  replace KS2 := Lib.hid (fun (U : World) (hU : Below V7.heap.size V7 U) => KS2.out U (HB7.out.trans (hU.mono HB7.out.size)))
  replace KD1 := Lib.hid (fun (U : World) (hU : Below V7.heap.size V7 U) => KD1.out U (HB7.out.trans (hU.mono HB7.out.size)))
  replace KD2 := Lib.hid (fun (U : World) (hU : Below V7.heap.size V7 U) => KD2.out U (HB7.out.trans (hU.mono HB7.out.size)))
  refine wp_region_ogG [.val 0 (.agg #[.slice h.A1 s.cols.length h.c1, .slice h.A2 s.covs.length h.c2, .int .i64 s.l0, .int .i64 s.l1, .int .i64 s.l2, .int .i64 s.l3, .slice h.A3 s.rows.length h.c3, .slice h.A4 s.frames.length h.c4, .slice h.A5 s.tanks.length h.c5, .int .i64 s.m0, .int .i64 s.m1, .int .i64 s.m2, .int .i64 s.m3]),
    .val 1 (.slice A2 l.length c2),
    .val 2 (.int .u8 (size : Nat)),
    .slT tSlt 3 SL,
    .val 4 (.agg #[.slice h.A1 s.cols.length h.c1, .slice h.A2 s.covs.length h.c2, .int .i64 s.l0, .int .i64 s.l1, .int .i64 s.l2, .int .i64 s.l3, .slice h.A3 s.rows.length h.c3, .slice h.A4 s.frames.length h.c4, .slice h.A5 s.tanks.length h.c5, .int .i64 s.m0, .int .i64 s.m1, .int .i64 s.m2, .int .i64 s.m3]),
    .val 5 (.slice A2 l.length c2),
    .val 6 (.int .u8 (size : Nat)),
    .val 7 (.int .i64 (size : Nat)),
    .slT tSlt 8 SL,
    .val 9 (.bool true),
    .val 10 (.bool true),
    .val 11 (.slice A boxes.length c),
    .val 12 (.slice A2 l.length c2),
    .slT tBx 13 DL,
    .val 14 (.slice A boxes.length c),
    .val 15 (.slice A2 l.length c2),
    .slT tBx 16 DL,
    .val 17 (.bool true),
    .val 18 (.bool true),
    .val 19 (.bool true)]
    [[], [], [], [0, 1, 2], [], [], [], [6], [4, 5, 7], [3, 8], [9], [10], [10], [10, 11, 12], [10], [10], [10, 14, 15], [10, 13, 16], [10, 17], [18]] [19] (Cb V7) (by kernel_rfl) (by kernel_rfl) (Cb.drew V7) ⟨?_, ?_, ?_, ?_, ?_, ?_, ?_, ?_, ?_, ?_, ?_, ?_, ?_, ?_, ?_, ?_, ?_, ?_, ?_, ?_, trivial⟩ ?_
  case refine_1 =>
    refine StepG.of rfl ?_
    refine StepL.up fun x V hV hu K Q hK => ?_
    have fe0 := hV.cell e0
    have fe1 := hV.cell e1
    have fe2 := hV.cell e2
    have fe3 := hV.cell e3
    have fe4 := hV.cell e4
    have fe5 := hV.cell e5
    have fe6 := hV.cell e6
    have fe7 := hV.cell e7
    have fe8 := hV.cell e8
    have fe9 := hV.cell e9
    have fe10 := hV.cell e10
    have fe11 := hV.cell e11
    have fe12 := hV.cell e12
    clear hu
    rw [owp_eq]
    go_big_op
    exact hK _ _ (Below.refl _ _) rfl
  case refine_2 =>
    refine StepG.of rfl ?_
    refine StepL.up fun x V hV hu K Q hK => ?_
    clear hu
    simp only [putL, List.set_cons_zero, List.set_cons_succ] at hK ⊢
    rw [owp_eq]
    go_big_op
    exact hK _ _ (Below.refl _ _) rfl
  case refine_3 =>
    refine StepG.of rfl ?_
    refine StepL.up fun x V hV hu K Q hK => ?_
    clear hu
    simp only [putL, List.set_cons_zero, List.set_cons_succ] at hK ⊢
    rw [owp_eq]
    go_big_op
    exact hK _ _ (Below.refl _ _) rfl
  case refine_4 =>
    refine StepG.of rfl ?_
    refine StepL.up fun x V hV hu K Q hK => ?_
    have u0 : x 0 = _ := hu 0 (by decide)
    have u1 : x 1 = _ := hu 1 (by decide)
    have u2 : x 2 = _ := hu 2 (by decide)
    clear hu
    simp only [putL, List.set_cons_zero, List.set_cons_succ] at hK ⊢
    rw [owp_eq]
    go_big_op
    refine (KS1.out V hV).mono ?_
    rintro e V' ⟨A9, c9, rfl, hc9, hs9, hb⟩
    exact hK _ _ hb ⟨A9, c9, rfl, hc9, hs9⟩
  case refine_5 =>
    refine StepG.of rfl ?_
    refine StepL.up fun x V hV hu K Q hK => ?_
    have fe0 := hV.cell e0
    have fe1 := hV.cell e1
    have fe2 := hV.cell e2
    have fe3 := hV.cell e3
    have fe4 := hV.cell e4
    have fe5 := hV.cell e5
    have fe6 := hV.cell e6
    have fe7 := hV.cell e7
    have fe8 := hV.cell e8
    have fe9 := hV.cell e9
    have fe10 := hV.cell e10
    have fe11 := hV.cell e11
    have fe12 := hV.cell e12
    clear hu
    simp only [putL, List.set_cons_zero, List.set_cons_succ] at hK ⊢
    rw [owp_eq]
    go_big_op
    exact hK _ _ (Below.refl _ _) rfl
  case refine_6 =>
    refine StepG.of rfl ?_
    refine StepL.up fun x V hV hu K Q hK => ?_
    clear hu
    simp only [putL, List.set_cons_zero, List.set_cons_succ] at hK ⊢
    rw [owp_eq]
    go_big_op
    exact hK _ _ (Below.refl _ _) rfl
  case refine_7 =>
    refine StepG.of rfl ?_
    refine StepL.up fun x V hV hu K Q hK => ?_
    clear hu
    simp only [putL, List.set_cons_zero, List.set_cons_succ] at hK ⊢
    rw [owp_eq]
    go_big_op
    exact hK _ _ (Below.refl _ _) rfl
  case refine_8 =>
    refine StepG.of rfl ?_
    refine StepL.up fun x V hV hu K Q hK => ?_
    have u6 : x 6 = _ := hu 6 (by decide)
    clear hu
    simp only [putL, List.set_cons_zero, List.set_cons_succ] at hK ⊢
    rw [owp_eq]
    go_big_op
    exact hK _ _ (Below.refl _ _) rfl
  case refine_9 =>
    refine StepG.of rfl ?_
    refine StepL.up fun x V hV hu K Q hK => ?_
    have u4 : x 4 = _ := hu 4 (by decide)
    have u5 : x 5 = _ := hu 5 (by decide)
    have u7 : x 7 = _ := hu 7 (by decide)
    clear hu
    simp only [putL, List.set_cons_zero, List.set_cons_succ] at hK ⊢
    rw [owp_eq]
    go_big_op
    refine (KS2.out V hV).mono ?_
    rintro e V' ⟨A9, c9, rfl, hc9, hs9, hb⟩
    exact hK _ _ hb ⟨A9, c9, rfl, hc9, hs9⟩
  case refine_10 =>
    refine StepG.of rfl ?_
    refine StepL.up fun x V hV hu K Q hK => ?_
    obtain ⟨A3, c3, u3, hc3, hs3⟩ := hu 3 (by decide)
    obtain ⟨A8, c8, u8, hc8, hs8⟩ := hu 8 (by decide)
    clear hu
    simp only [putL, List.set_cons_zero, List.set_cons_succ] at hK ⊢
    rw [owp_eq]
    go_big_op
    refine (KL3.out V A3 c3 A8 c8 hs3 hs8).mono ?_
    rintro e V' ⟨rfl, hb⟩
    exact hK _ _ hb rfl
  case refine_11 =>
    refine StepG.of rfl ?_
    refine StepL.up fun x V hV hu K Q hK => ?_
    have u9 : x 9 = _ := hu 9 (by decide)
    clear hu
    simp only [putL, List.set_cons_zero, List.set_cons_succ] at hK ⊢
    rw [owp_eq]
    go_big_op
    exact hK _ _ (Below.refl _ _) rfl
  case refine_12 =>
    refine StepG.yes 10 true 81 rfl rfl (fun x => by simp only [putL, List.set_cons_zero, List.set_cons_succ]; rfl) rfl (fun x w h => h) ?_
    refine StepL.up fun x V hV hu K Q hK => ?_
    have u10 : x 10 = _ := hu 10 (by decide)
    clear hu
    simp only [putL, List.set_cons_zero, List.set_cons_succ] at hK ⊢
    rw [owp_eq]
    go_big_op
    exact hK _ _ (Below.refl _ _) rfl
  case refine_13 =>
    refine StepG.yes 10 true 81 rfl rfl (fun x => by simp only [putL, List.set_cons_zero, List.set_cons_succ]; rfl) rfl (fun x w h => h) ?_
    refine StepL.up fun x V hV hu K Q hK => ?_
    have u10 : x 10 = _ := hu 10 (by decide)
    clear hu
    simp only [putL, List.set_cons_zero, List.set_cons_succ] at hK ⊢
    rw [owp_eq]
    go_big_op
    exact hK _ _ (Below.refl _ _) rfl
  case refine_14 =>
    refine StepG.yes 10 true 81 rfl rfl (fun x => by simp only [putL, List.set_cons_zero, List.set_cons_succ]; rfl) rfl (fun x w h => h) ?_
    refine StepL.up fun x V hV hu K Q hK => ?_
    have u10 : x 10 = _ := hu 10 (by decide)
    have u11 : x 11 = _ := hu 11 (by decide)
    have u12 : x 12 = _ := hu 12 (by decide)
    clear hu
    simp only [putL, List.set_cons_zero, List.set_cons_succ] at hK ⊢
    rw [owp_eq]
    go_big_op
    refine (KD1.out V hV).mono ?_
    rintro e V' ⟨A9, c9, rfl, hc9, hs9, hb⟩
    exact hK _ _ hb ⟨A9, c9, rfl, hc9, hs9⟩
  case refine_15 =>
    refine StepG.yes 10 true 81 rfl rfl (fun x => by simp only [putL, List.set_cons_zero, List.set_cons_succ]; rfl) rfl (fun x w h => h) ?_
    refine StepL.up fun x V hV hu K Q hK => ?_
    have u10 : x 10 = _ := hu 10 (by decide)
    clear hu
    simp only [putL, List.set_cons_zero, List.set_cons_succ] at hK ⊢
    rw [owp_eq]
    go_big_op
    exact hK _ _ (Below.refl _ _) rfl
  case refine_16 =>
    refine StepG.yes 10 true 81 rfl rfl (fun x => by simp only [putL, List.set_cons_zero, List.set_cons_succ]; rfl) rfl (fun x w h => h) ?_
    refine StepL.up fun x V hV hu K Q hK => ?_
    have u10 : x 10 = _ := hu 10 (by decide)
    clear hu
    simp only [putL, List.set_cons_zero, List.set_cons_succ] at hK ⊢
    rw [owp_eq]
    go_big_op
    exact hK _ _ (Below.refl _ _) rfl
  case refine_17 =>
    refine StepG.yes 10 true 81 rfl rfl (fun x => by simp only [putL, List.set_cons_zero, List.set_cons_succ]; rfl) rfl (fun x w h => h) ?_
    refine StepL.up fun x V hV hu K Q hK => ?_
    have u10 : x 10 = _ := hu 10 (by decide)
    have u14 : x 14 = _ := hu 14 (by decide)
    have u15 : x 15 = _ := hu 15 (by decide)
    clear hu
    simp only [putL, List.set_cons_zero, List.set_cons_succ] at hK ⊢
    rw [owp_eq]
    go_big_op
    refine (KD2.out V hV).mono ?_
    rintro e V' ⟨A9, c9, rfl, hc9, hs9, hb⟩
    exact hK _ _ hb ⟨A9, c9, rfl, hc9, hs9⟩
  case refine_18 =>
    refine StepG.yes 10 true 81 rfl rfl (fun x => by simp only [putL, List.set_cons_zero, List.set_cons_succ]; rfl) rfl (fun x w h => h) ?_
    refine StepL.up fun x V hV hu K Q hK => ?_
    have u10 : x 10 = _ := hu 10 (by decide)
    obtain ⟨A13, c13, u13, hc13, hs13⟩ := hu 13 (by decide)
    obtain ⟨A16, c16, u16, hc16, hs16⟩ := hu 16 (by decide)
    clear hu
    simp only [putL, List.set_cons_zero, List.set_cons_succ] at hK ⊢
    rw [owp_eq]
    go_big_op
    refine (KL4.out V A13 c13 A16 c16 hs13 hs16).mono ?_
    rintro e V' ⟨rfl, hb⟩
    exact hK _ _ hb rfl
  case refine_19 =>
    refine StepG.of rfl ?_
    refine StepL.up fun x V hV hu K Q hK => ?_
    have u10 : x 10 = _ := hu 10 (by decide)
    have u17 : x 17 = _ := hu 17 (by decide)
    clear hu
    simp only [putL, List.set_cons_zero, List.set_cons_succ] at hK ⊢
    rw [owp_eq]
    go_big_op
    exact hK _ _ (Below.refl _ _) rfl
  case refine_20 =>
    refine StepG.of rfl ?_
    refine StepL.up fun x V hV hu K Q hK => ?_
    have u18 : x 18 = _ := hu 18 (by decide)
    clear hu
    simp only [putL, List.set_cons_zero, List.set_cons_succ] at hK ⊢
    rw [owp_eq]
    go_big_op
    exact hK _ _ (Below.refl _ _) rfl
  case refine_21 =>
  refine fun x w2 hC hx => ?_
  have hx19 : x 19 = _ := hx 19 (by decide) (by decide)
  clear hx
  simp only [layL, putL, List.set_cons_zero, List.set_cons_succ, hx19]
  have HE := Lib.hid (HB0.out.trans ((HB7.out.trans (hC.mono HB7.out.size)).mono HB0.out.size))
  clear hC hx19 e0 e1 e2 e3 e4 e5 e6 e7 e8 e9 e10 e11 e12
  go_wp2_with fail
  go_ret
  exact ⟨rfl, HE.out⟩
end Go.Proofs.Ytmkplemdnglhmaa
