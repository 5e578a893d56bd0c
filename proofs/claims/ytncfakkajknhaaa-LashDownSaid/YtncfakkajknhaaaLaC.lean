/-
  Walks of package lash: tall, halves, Lift.
-/
import Derived.Test.YtncfakkajknhaaaLaB
namespace Go.Proofs.Ytncfakkajknhaaa
open Go.RowKit

set_option maxRecDepth 100000 in
theorem lashTall_any (b : Bx) (w : World) : Calls Try.prog 67 #[.agg (bxL b).toArray] w (Ret w (.int .i64 (tallB b))) := by
  obtain ⟨b0, b1, b2, b3, b4, b5, b6, b7, b8⟩ := b
  unfold bxL tallB
  simp only
  cases b3
  all_goals
    go_enter Try.func67, Try.ntmps67
    go_wp2
    go_ret
    exact ⟨rfl, ba1 w _⟩
def hvL (x : Slt) : List Nat := if x.half = 0 then [1, 2] else [x.half]
theorem hv_len (x : Slt) : (hvL x).length ≤ 2 := by unfold hvL; split <;> simp
set_option maxRecDepth 100000 in
set_option maxHeartbeats 1000000 in
theorem lashHalves_any (x : Slt) (w : World) : Calls Try.prog 61 #[.agg (sltL x).toArray] w (OwnU8 w (hvL x)) := by
  obtain ⟨xc, xt, xh⟩ := x
  have hx := ba1 w (.cells #[.int .i64 xc, .int .i64 xt, .int .u8 (xh : Nat)] 47)
  have HX := Lib.hid hx
  clear hx
  unfold sltL hvL
  simp only
  by_cases h0 : xh = 0
  · subst h0
    rw [if_pos rfl]
    go_enter Try.func61, Try.ntmps61
    go_upto_region 1 with fail
    have x2 : (w.alloc (.cells #[.int .i64 xc, .int .i64 xt, .int .u8 0] 47)).cell? ⟨w.heap.size, 2, none⟩ = some (.int .u8 0) := (Bk.new w 47 #[.int .i64 xc, .int .i64 xt, .int .u8 0]).cell 2
    replace HX : Hid (Below w.heap.size w (w.alloc (.cells #[.int .i64 xc, .int .i64 xt, .int .u8 0] 47))) := HX
    go_wp2_with fail
    go_ret
    exact ⟨_, _, rfl, sl_u8s (l := [1, 2]) (Bk.at_ _ _ (by simp)), (HX.out).trans ((ba1 _ _).mono HX.out.size)⟩
  · rw [if_neg h0]
    have hn : ((xh : Nat) : Int) ≠ 0 := by omega
    go_enter Try.func61, Try.ntmps61
    go_wp2_with fail
    go_ret
    exact ⟨_, _, rfl, sl_u8s (l := [xh]) (Bk.at_ _ _ (by simp)), (HX.out).trans ((ba1 _ _).mono HX.out.size)⟩
def liftP (x : Slt) (p : Slt × Bx) : Int := if overB x p.1 then tallB p.2 else 0
theorem liftP_bd (x : Slt) (p : Slt × Bx) : 0 ≤ liftP x p ∧ liftP x p ≤ 2896 := by
  unfold liftP tallB
  (repeat' split) <;> omega
def liftH (boxes : List Bx) (l : List Stw) (x : Slt) (h : Nat) : Int := ((halfL boxes l x.col h).map (liftP x)).sum
theorem liftH_bd (boxes : List Bx) (l : List Stw) (x : Slt) (h : Nat) : 0 ≤ liftH boxes l x h ∧ liftH boxes l x h ≤ 2896 * l.length := by
  have h1 := sum_bd (liftP x) 2896 (halfL boxes l x.col h) (fun p _ => liftP_bd x p)
  have h2 := halfL_len boxes l x.col h
  unfold liftH
  omega
def liftTo (boxes : List Bx) (l : List Stw) (x : Slt) (k : Nat) : Int := ((hvL x).take k).foldl (fun a h => if a < liftH boxes l x h then liftH boxes l x h else a) 0
theorem liftTo_succ (boxes : List Bx) (l : List Stw) (x : Slt) {k : Nat} (h : k < (hvL x).length) : liftTo boxes l x (k + 1) = if liftTo boxes l x k < liftH boxes l x ((hvL x).getD k 0) then liftH boxes l x ((hvL x).getD k 0) else liftTo boxes l x k := by
  unfold liftTo
  rw [List.take_succ_eq_append_getElem h, List.foldl_append]
  simp [h]
theorem liftTo_bd (boxes : List Bx) (l : List Stw) (x : Slt) : ∀ k, 0 ≤ liftTo boxes l x k ∧ liftTo boxes l x k ≤ 2896 * l.length := fun k => by
  have key : ∀ (m : List Nat) (a : Int), 0 ≤ a → a ≤ 2896 * l.length → 0 ≤ m.foldl (fun a h => if a < liftH boxes l x h then liftH boxes l x h else a) a ∧ m.foldl (fun a h => if a < liftH boxes l x h then liftH boxes l x h else a) a ≤ 2896 * l.length := fun m => by
    induction m with
    | nil => intro a h1 h2; exact ⟨h1, h2⟩
    | cons h m ih =>
      intro a h1 h2
      have h3 := liftH_bd boxes l x h
      simp only [List.foldl_cons]
      split
      · exact ih _ h3.1 h3.2
      · exact ih _ h1 h2
  exact key _ 0 (by omega) (by omega)
def liftF (boxes : List Bx) (l : List Stw) (x : Slt) : Int := liftTo boxes l x (hvL x).length
theorem lift_eq (boxes : List Bx) (l : List Stw) (x : Slt) (h : Nat) (hl : l.length ≤ 1000) : sumW (liftP x) (halfL boxes l x.col h) = liftH boxes l x h :=
  sumW_eq (liftP x) 2896 (by omega) 1000 (by omega) _ (Nat.le_trans (halfL_len boxes l x.col h) hl) (fun p _ => by have := liftP_bd x p; omega)
set_option maxRecDepth 100000 in
set_option maxHeartbeats 1000000 in
theorem lift1_any (x y : Slt) (b : Bx) (gx : Nat) (w : World) (hx : Bk w gx 47 (sltL x).toArray) :
    Calls Try.prog 66 #[.agg (sltL y).toArray, .agg (bxL b).toArray, .pointer (some ⟨gx, 0, none⟩)] w (Ret w (.int .i64 (liftP x (y, b)))) := by
  obtain ⟨xc, xt, xh⟩ := x
  obtain ⟨yc, yt, yh⟩ := y
  obtain ⟨z0, z1, z2, z3, z4, z5, z6, z7, z8⟩ := b
  have hbs := ba2 w (.cells (sltL ⟨yc, yt, yh⟩).toArray 47) (.cells (bxL ⟨z0, z1, z2, z3, z4, z5, z6, z7, z8⟩).toArray 43)
  have kY := (Bk.new w 47 (sltL ⟨yc, yt, yh⟩).toArray).alloc (.cells (bxL ⟨z0, z1, z2, z3, z4, z5, z6, z7, z8⟩).toArray 43)
  have kB : Bk ((w.alloc (.cells (sltL ⟨yc, yt, yh⟩).toArray 47)).alloc (.cells (bxL ⟨z0, z1, z2, z3, z4, z5, z6, z7, z8⟩).toArray 43)) (w.heap.size + 1) 43 (bxL ⟨z0, z1, z2, z3, z4, z5, z6, z7, z8⟩).toArray := Bk.at_ _ _ (by simp)
  have kX := hx.below hbs hx.lt
  have HBE := Lib.hid hbs
  have KO := Lib.hid (fun V => over_any ⟨xc, xt, xh⟩ ⟨yc, yt, yh⟩ V)
  have KT := Lib.hid (fun V => lashTall_any ⟨z0, z1, z2, z3, z4, z5, z6, z7, z8⟩ V)
  have HV : Hid (liftP ⟨xc, xt, xh⟩ (⟨yc, yt, yh⟩, ⟨z0, z1, z2, z3, z4, z5, z6, z7, z8⟩) = if overB ⟨xc, xt, xh⟩ ⟨yc, yt, yh⟩ then tallB ⟨z0, z1, z2, z3, z4, z5, z6, z7, z8⟩ else 0) := Lib.hid rfl
  generalize liftP ⟨xc, xt, xh⟩ (⟨yc, yt, yh⟩, ⟨z0, z1, z2, z3, z4, z5, z6, z7, z8⟩) = v at *
  generalize tallB ⟨z0, z1, z2, z3, z4, z5, z6, z7, z8⟩ = tl at *
  generalize overB ⟨xc, xt, xh⟩ ⟨yc, yt, yh⟩ = ob at *
  unfold sltL bxL at kX kY kB HBE
  unfold sltL at KO
  unfold bxL at KT
  simp only at kY kB HBE KO kX KT
  have HKB := Lib.hid kB
  unfold sltL bxL
  simp only
  go_enter Try.func66, Try.ntmps66
  go_upto_region 1 with fail
  clear hx hbs kB
  obtain ⟨gy, hgy⟩ : ∃ gy, gy = w.heap.size := ⟨_, rfl⟩
  rw [← hgy] at kY HKB ⊢
  have HGY := Lib.hid hgy
  clear hgy
  generalize (World.alloc _ _) = W at *
  have x0 : W.cell? ⟨gx, 0, none⟩ = some (.int .i64 xc) := kX.cell 0
  have x1 : W.cell? ⟨gx, 1, none⟩ = some (.int .i64 xt) := kX.cell 1
  have x2 : W.cell? ⟨gx, 2, none⟩ = some (.int .u8 (xh : Nat)) := kX.cell 2
  have y0 : W.cell? ⟨gy, 0, none⟩ = some (.int .i64 yc) := kY.cell 0
  have y1 : W.cell? ⟨gy, 1, none⟩ = some (.int .i64 yt) := kY.cell 1
  have y2 : W.cell? ⟨gy, 2, none⟩ = some (.int .u8 (yh : Nat)) := kY.cell 2
  clear kX kY
  go_wp2_with fail
  refine (KO.out _).mono ?_
  rintro e W1 ⟨rfl, hb⟩
  simp only
  clear KO x0 x1 x2 y0 y1 y2
  have HB1 := Lib.hid hb
  have KB := HKB.out.below hb HKB.out.lt
  clear hb
  cases ob with
  | false =>
    clear KB
    go_wp2_with fail
    go_ret
    exact ⟨by rw [HV.out]; rfl, HBE.out.trans (HB1.out.mono HBE.out.size)⟩
  | true =>
    have c0 : W1.cell? ⟨gy + 1, 0, none⟩ = some (.int .i64 z0) := KB.cell 0
    have c1 : W1.cell? ⟨gy + 1, 1, none⟩ = some (.string z1) := KB.cell 1
    have c2 : W1.cell? ⟨gy + 1, 2, none⟩ = some (.int .u8 (z2 : Nat)) := KB.cell 2
    have c3 : W1.cell? ⟨gy + 1, 3, none⟩ = some (.bool z3) := KB.cell 3
    have c4 : W1.cell? ⟨gy + 1, 4, none⟩ = some (.int .i64 z4) := KB.cell 4
    have c5 : W1.cell? ⟨gy + 1, 5, none⟩ = some (.int .i64 z5) := KB.cell 5
    have c6 : W1.cell? ⟨gy + 1, 6, none⟩ = some (.int .i64 z6) := KB.cell 6
    have c7 : W1.cell? ⟨gy + 1, 7, none⟩ = some (.int .u8 (z7 : Nat)) := KB.cell 7
    have c8 : W1.cell? ⟨gy + 1, 8, none⟩ = some (.bool z8) := KB.cell 8
    clear KB
    go_wp2_with fail
    refine (KT.out _).mono ?_
    rintro e W2 ⟨rfl, hb⟩
    simp only
    clear KT c0 c1 c2 c3 c4 c5 c6 c7 c8
    go_wp2_with fail
    go_ret
    exact ⟨by rw [HV.out]; rfl, HBE.out.trans ((HB1.out.trans (hb.mono HB1.out.size)).mono HBE.out.size)⟩
set_option maxRecDepth 100000 in
set_option maxHeartbeats 4000000 in
theorem lift_any (A : Option Addr) (c : Nat) (boxes : List Bx) (A2 : Option Addr) (c2 : Nat) (l : List Stw) (x : Slt) (w : World)
    (hb : SlT tBx w (Lt w.heap.size) A boxes) (hbl : boxes.length ≤ 1000000) (hs : SlT tStw w (Lt w.heap.size) A2 l) (hl : l.length ≤ 1000) :
    Calls Try.prog 34 #[.slice A boxes.length c, .slice A2 l.length c2, .agg (sltL x).toArray] w (Ret w (.int .i64 (liftF boxes l x))) := by
  have bx := ba1 w (.cells (sltL x).toArray 47)
  have HB := Lib.hid (hb.on bx)
  have HS := Lib.hid (hs.on bx)
  have HX := Lib.hid (Bk.new w 47 (sltL x).toArray)
  have HBE := Lib.hid bx
  have KH := Lib.hid (fun V => lashHalves_any x V)
  have hhl := hv_len x
  have HVF : Hid (liftF boxes l x = liftTo boxes l x (hvL x).length) := Lib.hid rfl
  have HVL : Hid (∀ k, k < (hvL x).length → liftTo boxes l x (k + 1) = if liftTo boxes l x k < liftH boxes l x ((hvL x).getD k 0) then liftH boxes l x ((hvL x).getD k 0) else liftTo boxes l x k) := Lib.hid fun k hk => liftTo_succ boxes l x hk
  have HEQ : Hid (∀ h, sumW (liftP x) (halfL boxes l x.col h) = liftH boxes l x h) := Lib.hid fun h => lift_eq boxes l x h hl
  have HBD : Hid (∀ k, 0 ≤ liftTo boxes l x k ∧ liftTo boxes l x k ≤ 2896 * l.length) := Lib.hid (liftTo_bd boxes l x)
  have HBH : Hid (∀ k, 0 ≤ liftH boxes l x k ∧ liftH boxes l x k ≤ 2896 * l.length) := Lib.hid (liftH_bd boxes l x)
  have H0 : Hid (liftTo boxes l x 0 = 0) := Lib.hid rfl
  clear hb hs bx
  generalize liftF boxes l x = RF at *
  generalize liftTo boxes l x = LT at *
  generalize hLH : liftH boxes l x = LH at *
  clear hLH
  have HP : Hid (∀ (gx : Nat) (V : World), Bk V gx 47 (sltL x).toArray → SBFn V 66 #[.pointer (some ⟨gx, 0, none⟩)] (liftP x)) := Lib.hid fun gx V hk p w' hw => lift1_any x p.1 p.2 gx w' (hk.below hw hk.lt)
  obtain ⟨xc, xt, xh⟩ := x
  unfold sltL at HX HBE KH HB HS
  simp only at HX HBE KH HEQ HB HS
  unfold sltL
  simp only
  go_enter Try.func34, Try.ntmps34
  go_upto_region 2 with fail
  obtain ⟨gx, hgx⟩ : ∃ gx, gx = w.heap.size := ⟨_, rfl⟩
  rw [← hgx] at HX ⊢
  have HGX := Lib.hid hgx
  clear hgx
  generalize (w.alloc _) = W at *
  have x0 : W.cell? ⟨gx, 0, none⟩ = some (.int .i64 xc) := HX.out.cell 0
  have x1 : W.cell? ⟨gx, 1, none⟩ = some (.int .i64 xt) := HX.out.cell 1
  have x2 : W.cell? ⟨gx, 2, none⟩ = some (.int .u8 (xh : Nat)) := HX.out.cell 2
  go_wp2_with fail
  refine (KH.out _).mono ?_
  rintro e W1 ⟨A7, c7, rfl, hs7, hb1⟩
  simp only
  clear KH x0 x1 x2
  have HS7 := Lib.hid hs7
  have HB1 := Lib.hid (HB.out.on hb1)
  have HS1 := Lib.hid (HS.out.on hb1)
  have HX1 := Lib.hid (HX.out.below hb1 HX.out.lt)
  have HBE1 := Lib.hid (HBE.out.trans (hb1.mono HBE.out.size))
  clear hs7 hb1 HB HS HX HBE
  try clear W
  generalize hvL ⟨xc, xt, xh⟩ = hv at *
  go_wp2_with fail
  go_loopw [7, 13] (fun v i wr => ∃ k : Nat, k ≤ hv.length ∧ i = .int .i64 k ∧ v = .int .i64 (LT k) ∧ Hid (Below W1.heap.size W1 wr)) (fun _ i _ => hv.length - (intOf i).toNat)
  case atStart => exact ⟨0, Nat.zero_le _, rfl, by rw [H0.out], Lib.hid (Below.refl _ _)⟩
  case round =>
    obtain ⟨k, hk, rfl, rfl, HBr⟩ := hrel
    obtain ⟨V, rfl⟩ : ∃ V, V = wr := ⟨_, rfl⟩
    by_cases hlt : k < hv.length
    · have k0 : (0 : Int) ≤ (k : Int) := by omega
      have k1 : (k : Int) < (hv.length : Int) := by omega
      have hk1 : k + 1 ≤ hv.length := hlt
      obtain ⟨b, off, rfl, hbB, c0⟩ := (HS7.out.on HBr.out).u8 hlt
      have HV2 := Lib.hid (HVL.out k hlt)
      have hb0 := HBD.out k
      have hb2 := HBH.out (hv.getD k 0)
      have HEQ2 := Lib.hid (HEQ.out (hv.getD k 0))
      generalize hv.getD k 0 = hf at *
      generalize LT k = lk at *
      generalize LH hf = lh at *
      go_upto_region 5 with fail
      clear c0
      have x0 : V.cell? ⟨gx, 0, none⟩ = some (.int .i64 xc) := (HX1.out.below HBr.out HX1.out.lt).cell 0
      go_wp2_with fail
      refine (half_any A c boxes.length A2 c2 l.length xc hf V).mono ?_
      rintro e V1 ⟨gl, gi, gh, gb, rfl, hhb, hb⟩
      simp only
      clear x0
      have HHB := Lib.hid hhb
      have HBr1 := Lib.hid (HBr.out.trans (hb.mono HBr.out.size))
      clear hb hhb HBr
      have KS := Lib.hid (lsum_any A c boxes A2 c2 l xc hf gl gi gh gb 66 #[.pointer (some ⟨gx, 0, none⟩)] (liftP ⟨xc, xt, xh⟩) V1 (HB1.out.on HBr1.out) hbl (HS1.out.on HBr1.out) (by omega) HHB.out Try.call66 (HP.out gx V1 (HX1.out.below HBr1.out HX1.out.lt)))
      rw [HEQ2.out] at KS
      clear HHB
      go_wp2_with fail
      refine KS.out.mono ?_
      rintro e V2 ⟨rfl, hb⟩
      simp only
      clear KS
      have HBr2 := Lib.hid (HBr1.out.trans (hb.mono HBr1.out.size))
      clear hb HBr1
      by_cases hm : lk < lh
      · have HF : Hid (LT (k + 1) = lh) := Lib.hid (by rw [HV2.out, if_pos hm])
        clear HV2
        go_wp2_with fail
        go_roundw
        case rel => (repeat apply Exists.intro); (first | exact ⟨⟨k + 1, hk1, by go_num, by rw [HF.out], HBr2⟩, rfl⟩ | exact ⟨hk1, by go_num, by rw [HF.out], HBr2⟩)
        case measure => simp [intOf]; omega
      · have HF : Hid (LT (k + 1) = lk) := Lib.hid (by rw [HV2.out, if_neg hm])
        clear HV2
        go_wp2_with fail
        go_roundw
        case rel => (repeat apply Exists.intro); (first | exact ⟨⟨k + 1, hk1, by go_num, by rw [HF.out], HBr2⟩, rfl⟩ | exact ⟨hk1, by go_num, by rw [HF.out], HBr2⟩)
        case measure => simp [intOf]; omega
    · obtain rfl : k = hv.length := by omega
      rw [← HVF.out]
      go_wp2_with fail
      go_ret
      exact ⟨rfl, HBE1.out.trans (HBr.out.mono HBE1.out.size)⟩
end Go.Proofs.Ytncfakkajknhaaa
