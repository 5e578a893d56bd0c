/-
  The walk of the statement LashWrong.
-/
import Derived.Test.YtncfakkajknhaaaLaG
import Derived.Test.YtncfakkajknhaaaStU
namespace Go.Proofs.Ytncfakkajknhaaa
open Go.RowKit

def bad5n (far nn : Int) : List Stw := [⟨900, far, 0, 0⟩, ⟨900, 0, 10, 0⟩, ⟨900, 0, 0, 1⟩, ⟨901, 0, 0, 0⟩, ⟨900, nn, 0, 0⟩]
theorem wrong5n {s : Shp} {bs : List Bx} {st : List Stw} (hl : Lm s) (hd : Ld s bs st) {far nn : Int} (hf : (s.cols.length : Int) ≤ far) (hn : nn ≤ -1) : ∀ x ∈ bad5n far nn, stowRight s (bs ++ [b900]) (st ++ [x]) = false := by
  intro x hx
  have h5 := wrong5 hl hd hf
  simp only [bad5n, List.mem_cons, List.not_mem_nil, or_false] at hx
  rcases hx with rfl | rfl | rfl | rfl | rfl
  · exact h5 _ (by simp [bad5])
  · exact h5 _ (by simp [bad5])
  · exact h5 _ (by simp [bad5])
  · exact h5 _ (by simp [bad5])
  · refine stow_bad (.inr ?_)
    have h900 : findBx (bs ++ [b900]) 900 = (b900, true) := by
      rw [idx_append_new (fun b hb => by have := (hd.box b hb).2.2.2; omega)]
      rfl
    show slotRight s ⟨nn, 0, 0⟩ (findBx (bs ++ [b900]) 900).1.size = false
    rw [h900]
    cases hr : slotRight s ⟨nn, 0, 0⟩ b900.size with
    | false => rfl
    | true => have := (slot_in hr).1; simp only at this; omega
theorem tier5n {s : Shp} {bs : List Bx} {st : List Stw} (hl : Lm s) (hd : Ld s bs st) {far nn : Int} {x : Stw} (hx : x ∈ bad5n far nn) : ∀ y ∈ st ++ [x], y.slot.tier ≤ 9223372036854775807 := fun y hy => by
  rcases List.mem_append.1 hy with hy | hy
  · exact hd.max hl y hy
  · obtain rfl : y = x := by simpa using hy
    simp only [bad5n, List.mem_cons, List.not_mem_nil, or_false] at hx
    rcases hx with rfl | rfl | rfl | rfl | rfl <;> simp
theorem moreKL {bs : List Bx} (h : KgL bs) : KgL (bs ++ [b900]) := fun b hb => by
  rcases List.mem_append.1 hb with hb | hb
  · exact h b hb
  · obtain rfl : b = b900 := by simpa using hb
    decide
theorem halfL_none {bs : List Bx} {st : List Stw} {c : Int} (h : ∀ x ∈ st, x.slot.col ≠ c) (hf : Nat) : halfL bs st c hf = [] := by
  unfold halfL
  rw [List.filterMap_eq_nil_iff]
  intro x hx
  unfold halfOf inHalf
  have := h x hx
  simp [this]
theorem nothing {s : Shp} {bs : List Bx} {st : List Stw} {c : Int} (h : ∀ x ∈ st, x.slot.col ≠ c) (ht : thereB s c = false) (hf : Nat) : momentF bs st c hf = 0 ∧ lfaultsF s bs st c = [] ∧ lroomF s bs st ⟨c, 0, 0⟩ = 0 ∧ liftF bs st ⟨c, 5, 0⟩ = 0 := by
  refine ⟨?_, ?_, ?_, ?_⟩
  · unfold momentF; rw [halfL_none h]; rfl
  · unfold lfaultsF lashF; rw [ht]; rfl
  · unfold lroomF; simp only; rw [ht]; rfl
  · have hz : ∀ k, liftH bs st ⟨c, 5, 0⟩ k = 0 := fun k => by unfold liftH; simp only; rw [halfL_none h]; rfl
    unfold liftF liftTo hvL
    simp [hz]
set_option maxRecDepth 100000 in
set_option maxHeartbeats 8000000 in
theorem lashWrong_any (A : Option Addr) (c : Nat) (pl : List (Nat × Nat × Nat × Bool)) (covers : Nat) (q : Nat) (hq : q < 65536) (A2 : Option Addr) (c2 : Nat) (ds : List Drp) (n : Int) (hn : I64 n) (w : World)
    (hs : SlT tPl w (Lt w.heap.size) A pl) (hl : ∀ p ∈ pl, p.1 < 256 ∧ p.2.1 < 256 ∧ p.2.2.1 < 256) (hc : pl.length ≤ c) (hcm : c ≤ maxLen)
    (hs2 : SlT tDrp w (Lt w.heap.size) A2 ds) (hd : ∀ d ∈ ds, d.col < 256 ∧ d.kilos < 256) (hc2 : ds.length ≤ c2) (hcm2 : c2 ≤ maxLen) :
    Calls Try.prog 12 #[.slice A pl.length c, .int .u32 covers, .int .u16 (q : Nat), .slice A2 ds.length c2, .int .i64 n] w (TrueRet w) := by
  have HC := Lib.hid (lashedShip_any A c pl covers q hq A2 c2 ds w hs hl hc hcm hs2 hd hc2 hcm2)
  clear hs hl hc hcm hs2 hd hc2 hcm2
  unfold I64 at hn
  obtain ⟨hn0, hn1⟩ := hn
  go_enter Try.func12, Try.ntmps12
  go_wp2_with fail
  refine HC.out.mono ?_
  rintro e w1 ⟨s, h, v1, v2, bs, st, rfl, hLm, hLd, hrd, ob, os, hb1⟩
  simp only
  clear HC
  obtain ⟨A1, q1, rfl, hq1, hqm1, hsb⟩ := OwnS.sl' ob
  obtain ⟨A3, q3, rfl, hq3, hqm3, hss⟩ := OwnS.sl' os
  have hW : WW w (w1.alloc (.cells (shpA s h) 37)) w1.heap.size s h A1 bs A3 st := by
    have hx := ba1 w1 (.cells (shpA s h) 37)
    exact ⟨Bk.new w1 _ _, (hrd.more fun x hx => hx.1).on hx, hsb.on hx, hss.on hx, hb1.trans (hx.mono hb1.size)⟩
  have HW := Lib.hid hW
  have HLM := Lib.hid hLm
  have HLD := Lib.hid hLd
  have HQ3 := Lib.hid hq3
  have HLH : Hid (∀ c ∈ s.cols, c.lash ≤ 1000000000000000) := Lib.hid fun c hc => by have := hLm.col c hc; omega
  have HKL : Hid (KgL bs) := Lib.hid fun b hb => by have := (hLd.box b hb).2; omega
  have HIN : Hid (∀ x ∈ st, 0 ≤ x.slot.tier ∧ x.slot.tier < 5 ∧ 0 ≤ x.slot.col ∧ x.slot.col < s.cols.length ∧ x.slot.half < 3) := Lib.hid fun x hx => hLd.tier hLm hx
  have hbl := hLd.nine
  have hsl := hLd.stlen
  have hc1 := hLm.one
  have hc12 := hLm.twelve
  clear hW ob os hsb hss hrd hb1 hLm hLd hq1 hq3
  unfold maxLen at hqm1 hqm3
  unfold shpA at HW ⊢
  go_upto_region 2 with fail
  generalize w1.heap.size = g at *
  generalize (w1.alloc _) = V at *
  clear w1
  have HO := Lib.hid (OwnS.empty tBx 43 V V.heap.size (Lt V.heap.size) (Nat.le_refl _) (fun b hb => hb))
  have HS := Lib.hid ((HW.out.bx).below (ba1 V (.cells #[] 43)))
  go_wp2_with (at_builtin; (refine wpList_append_S el_bx rfl (.tmp 33) (.tmp 34) rfl V.heap.size (Lt V.heap.size) _ [] rfl HO.out A1 bs.length q1 bs rfl rfl HS.out ?c1 ?c2 ?c3 ?_))
  case c1 => unfold maxLen; simp; omega
  case c2 => simp; omega
  case c3 => simp
  intro v3 w3 ho3 hg3 hb3
  have HV3 := Lib.hid ((ba1 V (.cells #[] 43)).trans hb3)
  have HO3 := Lib.hid (ho3.below (ba1 w3 (.cells #[.int .i64 900, .string ⟨#[]⟩, .int .u8 40, .bool false, .int .i64 1, .int .i64 0, .int .i64 1, .int .u8 0, .bool false] 43)))
  have HZ3 := Lib.hid HV3.out.size
  clear HO HS ho3 hg3 hb3
  go_wp2_with (at_builtin; (refine wpList_append_R el_bx rfl (.tmp 35) (.tmp 37) rfl V.heap.size (Lt V.heap.size) _ bs rfl HO3.out _ 1 1 [b900] rfl rfl (Src.new (Flat.single rfl) rfl) ?d1 ?d2 ?d3 ?_))
  case d1 => unfold maxLen; omega
  case d2 => omega
  case d3 => exact Nat.le_trans HZ3.out (by simp)
  intro v4 w4 ho4 hg4 hb4
  have HV4 : Hid (Below V.heap.size V w4) := Lib.hid ((HV3.out.trans ((ba1 w3 _).mono HZ3.out)).trans hb4)
  obtain ⟨A4, q4, rfl, hq4, hqm4, hsm⟩ := OwnS.sl' ho4
  have HM := Lib.hid hsm
  have HW4 := Lib.hid (HW.out.on HV4.out)
  clear HO3 HZ3 HV3 HV4 hg4 hb4 ho4 hsm HW
  have hn4' : (bs ++ [b900]).length ≤ 1000000 := by simp; omega
  generalize hn4 : (bs ++ [b900]).length = n4 at *
  obtain ⟨far, hfar⟩ : ∃ far : Int, (if n < (s.cols.length : Int) then (s.cols.length : Int) else n) = far := ⟨_, rfl⟩
  obtain ⟨hf0, hf1⟩ : (s.cols.length : Int) ≤ far ∧ far ≤ 9223372036854775807 := by rw [← hfar]; split <;> omega
  obtain ⟨nn, hmin⟩ : ∃ nn : Int, (if (-1 : Int) < n then (-1 : Int) else n) = nn := ⟨_, rfl⟩
  obtain ⟨hm0, hm1⟩ : nn ≤ -1 ∧ -9223372036854775808 ≤ nn := by rw [← hmin]; split <;> omega
  have e0 : w4.cell? ⟨g, 0, none⟩ = some (.slice h.A1 s.cols.length h.c1) := HW4.out.bk.cell 0
  go_upto_region 4 with fail
  try simp only [hfar, hmin]
  clear e0 hmin hfar
  go_wp2_with fail
  refine (at11 _ _ _ _ _).mono ?_
  rintro e U1 ⟨rfl, hb⟩
  simp only
  replace HW4 := Lib.hid (HW4.out.on hb)
  replace HM := Lib.hid (HM.out.on hb)
  clear hb
  go_wp2_with fail
  refine (at11 _ _ _ _ _).mono ?_
  rintro e U2 ⟨rfl, hb⟩
  simp only
  replace HW4 := Lib.hid (HW4.out.on hb)
  replace HM := Lib.hid (HM.out.on hb)
  clear hb
  go_wp2_with fail
  refine (at11 _ _ _ _ _).mono ?_
  rintro e U3 ⟨rfl, hb⟩
  simp only
  replace HW4 := Lib.hid (HW4.out.on hb)
  replace HM := Lib.hid (HM.out.on hb)
  clear hb
  go_wp2_with fail
  refine (at11 _ _ _ _ _).mono ?_
  rintro e U4 ⟨rfl, hb⟩
  simp only
  replace HW4 := Lib.hid (HW4.out.on hb)
  replace HM := Lib.hid (HM.out.on hb)
  clear hb
  go_wp2_with fail
  refine (at11 _ _ _ _ _).mono ?_
  rintro e U5 ⟨rfl, hb⟩
  simp only
  replace HW4 := Lib.hid (HW4.out.on hb)
  replace HM := Lib.hid (HM.out.on hb)
  clear hb
  have HL := Lib.hid (sl_at (Bk.new U5 61 #[.int .i64 900, .int .i64 far, .int .i64 0, .int .u8 0, .int .i64 900, .int .i64 0, .int .i64 10, .int .u8 0, .int .i64 900, .int .i64 0, .int .i64 0, .int .u8 1, .int .i64 901, .int .i64 0, .int .i64 0, .int .u8 0, .int .i64 900, .int .i64 nn, .int .i64 0, .int .u8 0]) (flat_stw (bad5n far nn)))
  replace HW4 := Lib.hid (HW4.out.on (ba1 U5 (.cells #[.int .i64 900, .int .i64 far, .int .i64 0, .int .u8 0, .int .i64 900, .int .i64 0, .int .i64 10, .int .u8 0, .int .i64 900, .int .i64 0, .int .i64 0, .int .u8 1, .int .i64 901, .int .i64 0, .int .i64 0, .int .u8 0, .int .i64 900, .int .i64 nn, .int .i64 0, .int .u8 0] 61)))
  replace HM := Lib.hid (HM.out.on (ba1 U5 (.cells #[.int .i64 900, .int .i64 far, .int .i64 0, .int .u8 0, .int .i64 900, .int .i64 0, .int .i64 10, .int .u8 0, .int .i64 900, .int .i64 0, .int .i64 0, .int .u8 1, .int .i64 901, .int .i64 0, .int .i64 0, .int .u8 0, .int .i64 900, .int .i64 nn, .int .i64 0, .int .u8 0] 61)))
  go_upto_block 0 with fail
  generalize U5.heap.size = gx at *
  generalize (U5.alloc _) = W0 at *
  have HWR := Lib.hid (wrong5n HLM.out HLD.out hf0 hm0)
  have HKG := Lib.hid (moreKL HKL.out)
  have HT5 := Lib.hid (fun (x : Stw) (hx : x ∈ bad5n far nn) => tier5n HLM.out HLD.out hx)
  go_wp2_with fail
  go_loopw [55] (fun i wr => ∃ k : Nat, k ≤ 5 ∧ i = .int .i64 k ∧ Hid (Below W0.heap.size W0 wr)) (fun i _ => 5 - (intOf i).toNat)
  case atStart => exact ⟨0, Nat.zero_le _, rfl, Lib.hid (Below.refl _ _)⟩
  case round =>
    obtain ⟨k, hk, rfl, HB⟩ := hrel
    obtain ⟨V, rfl⟩ : ∃ V, V = wr := ⟨_, rfl⟩
    by_cases hlt : k < 5
    · have hk5 : k < (bad5n far nn).length := hlt
      obtain ⟨b, off, hA, hB, c0, c1, c2', c3⟩ := (HL.out.below HB.out).stw hk5
      injection hA with hA
      injection hA with hA1 hA2 _
      subst hA1 hA2
      have HX := Lib.hid (getD_memD hk5 default)
      generalize (bad5n far nn).getD k default = x at *
      obtain ⟨xb, xc, xt, xh⟩ := x
      simp only [Nat.zero_add] at c0 c1 c2' c3
      have i0 : (0 : Int) ≤ (k : Int) := by omega
      have i1 : (k : Int) < 5 := by omega
      have hq4 := ba1 V (.cells #[.int .i64 xb, .int .i64 xc, .int .i64 xt, .int .u8 (xh : Nat)] 61)
      have HB6 := Lib.hid (HB.out.trans (hq4.mono HB.out.size))
      have KX6 := Lib.hid (Bk.new V 61 #[.int .i64 xb, .int .i64 xc, .int .i64 xt, .int .u8 (xh : Nat)])
      have HKR := Lib.hid (HB.out)
      clear HB hq4
      go_upto_region 8 with fail
      clear c0 c1 c2' c3
      generalize V.heap.size = gy at *
      generalize (V.alloc _) = W at *
      try clear V
      have x0 : W.cell? ⟨gy, 0, none⟩ = some (.int .i64 xb) := KX6.out.cell 0
      have x1 : W.cell? ⟨gy, 1, none⟩ = some (.int .i64 xc) := KX6.out.cell 1
      have x2 : W.cell? ⟨gy, 2, none⟩ = some (.int .i64 xt) := KX6.out.cell 2
      have x3 : W.cell? ⟨gy, 3, none⟩ = some (.int .u8 (xh : Nat)) := KX6.out.cell 3
      have HSRC : Hid (∀ V : World, Cb W V → Src tStw V (Lt W.heap.size) A3 st.length st) := Lib.hid fun V hV => by
        have h1 := (HW4.out.on HB6.out).sx
        exact (h1.below hV).src rfl (fun b hb => Nat.lt_of_lt_of_le hb (Below.size hV))
      refine wp_region_og [.sl 0 0 61 #[] W.heap.size,
    .val 1 (.slice A3 st.length q3),
    .own tStw 61 W.heap.size (Lt W.heap.size) 2 st,
    .val 3 (.agg #[.int .i64 xb, .int .i64 xc, .int .i64 xt, .int .u8 (xh : Nat)]),
    .sl 4 1 61 #[.int .i64 xb, .int .i64 xc, .int .i64 xt, .int .u8 (xh : Nat)] W.heap.size,
    .own tStw 61 W.heap.size (Lt W.heap.size) 5 (st ++ [(⟨xb, xc, xt, xh⟩ : Stw)]),
    .own tStw 61 W.heap.size (Lt W.heap.size) 6 (st ++ [(⟨xb, xc, xt, xh⟩ : Stw)])]
        [[], [], [0, 1], [], [3], [2, 4], [5]] [6] (Cb W) (by kernel_rfl) (by kernel_rfl) (Cb.drew W) ⟨?_, ?_, ?_, ?_, ?_, ?_, ?_, trivial⟩ ?_
      case refine_1 =>
        refine StepL.up fun x V hV hu K Q hK => ?_
        clear hu
        rw [owp_eq]
        go_big_op
        exact hK _ _ (ba1 V _) ⟨_, rfl, Below.size hV, Bk.new V _ _⟩
      case refine_2 =>
        refine StepL.up fun x V hV hu K Q hK => ?_
        clear hu
        simp only [putL, List.set_cons_zero, List.set_cons_succ] at hK ⊢
        rw [owp_eq]
        go_big_op
        exact hK _ _ (Below.refl _ _) rfl
      case refine_3 =>
        refine StepL.wr [3, 4] (by kernel_rfl) fun x V hV hu K Q hK => ?_
        obtain ⟨gd, ud, hgd, hkd⟩ := hu 0 (by decide)
        have HO := own_of_empty (T := tStw) hkd hgd
        have uj : x 1 = _ := hu 1 (by decide)
        have HSRC := HSRC.out V hV
        clear hu
        simp only [putL, List.set_cons_zero, List.set_cons_succ] at hK ⊢
        refine wp_append_og el_stw (.tmp 59) (.tmp 60) rfl W.heap.size (Lt W.heap.size) _ _ ud HO _ _ _ _ rfl uj HSRC (by unfold maxLen; simp; omega) (by simp; omega) (Below.size hV) fun v' w' h1 h2 h3 => ?_
        refine hK v' _ (hV.app h3) h1 fun k hk' => ?_
        simp only [List.mem_cons, List.not_mem_nil, or_false] at hk'
        rcases hk' with rfl | rfl
        · exact fun h => h
        · rintro ⟨g', e', l', k'⟩; exact ⟨g', e', l', k'.stay h2 (fun q => (Bk.size_ne hkd k' (by simp)) (Option.some.inj q))⟩
      case refine_4 =>
        refine StepL.up fun x V hV hu K Q hK => ?_
        have fx0 := hV.cell x0
        have fx1 := hV.cell x1
        have fx2 := hV.cell x2
        have fx3 := hV.cell x3
        clear hu
        simp only [putL, List.set_cons_zero, List.set_cons_succ] at hK ⊢
        rw [owp_eq]
        go_big_op
        exact hK _ _ (Below.refl _ _) rfl
      case refine_5 =>
        refine StepL.up fun x V hV hu K Q hK => ?_
        have u3 : x 3 = _ := hu 3 (by decide)
        clear hu
        simp only [putL, List.set_cons_zero, List.set_cons_succ] at hK ⊢
        rw [owp_eq]
        go_big_op
        exact hK _ _ (ba1 V _) ⟨_, rfl, Below.size hV, Bk.new V _ _⟩
      case refine_6 =>
        refine StepL.wr [] (by kernel_rfl) fun x V hV hu K Q hK => ?_
        have HO : OwnS tStw 61 V W.heap.size (Lt W.heap.size) (x 2) _ := hu 2 (by decide)
        obtain ⟨gj, uj, hgj, hkj⟩ := hu 4 (by decide)
        have HSRC := Src.blk (T := tStw) (S := Lt W.heap.size) (ms := [(⟨xb, xc, xt, xh⟩ : Stw)]) hkj (Flat.single rfl) rfl
        clear hu
        simp only [putL, List.set_cons_zero, List.set_cons_succ] at hK ⊢
        refine wp_append_og el_stw (.tmp 61) (.tmp 63) rfl W.heap.size (Lt W.heap.size) _ _ rfl HO _ _ _ [(⟨xb, xc, xt, xh⟩ : Stw)] rfl uj HSRC (by unfold maxLen; simp; omega) (by simp; omega) (Below.size hV) fun v' w' h1 h2 h3 => ?_
        refine hK v' _ (hV.app h3) h1 fun k hk' => ?_
        cases hk'
      case refine_7 =>
        refine StepL.up fun x V hV hu K Q hK => ?_
        have h5 : OwnS tStw 61 V W.heap.size (Lt W.heap.size) (x 5) _ := hu 5 (by decide)
        clear hu
        simp only [putL, List.set_cons_zero, List.set_cons_succ] at hK ⊢
        rw [owp_eq]
        go_big_op
        exact hK _ _ (Below.refl _ _) h5
      case refine_8 =>
        intro x V hV hA
        have h9 : OwnS tStw 61 V W.heap.size (Lt W.heap.size) (x 6) (st ++ [(⟨xb, xc, xt, xh⟩ : Stw)]) := hA 6 rfl (by decide)
        simp only [layL, putL, List.set_cons_zero, List.set_cons_succ]
        have HV7 := Lib.hid (show Below W.heap.size W V from hV)
        obtain ⟨A5, c5, e9, hc5, hcm5, hs5⟩ := h9.sl'
        rw [e9]
        clear e9
        have hn5' : (st ++ [(⟨xb, xc, xt, xh⟩ : Stw)]).length ≤ 1000000 := by simp; omega
        generalize hn5 : (st ++ [(⟨xb, xc, xt, xh⟩ : Stw)]).length = n5 at *
        have HB7 := Lib.hid (HB6.out.trans (HV7.out.mono HB6.out.size))
        have HW7 := Lib.hid (HW4.out.on HB7.out)
        have HCK : Hid (Calls Try.prog 36 #[.agg (shpA s h), .slice A4 n4 q4, .slice A5 n5 c5] V (fun e w' => ∃ A c, e = .returned (.tuple #[.slice A 0 c, .int .i64 2]) ∧ Below V.heap.size V w')) := Lib.hid (by
          have k1 := lCheck_any s h A4 q4 (bs ++ [b900]) A5 c5 (st ++ [⟨xb, xc, xt, xh⟩]) V HKG.out HLH.out HW7.out.rd HLM.out.few HLM.out.ints HLM.out.short (HM.out.on HB7.out) (by rw [hn4]; exact hn4') hs5 (by rw [hn5]; exact hn5') (by simp; omega) (by rw [hn5]; exact hc5) (HT5.out _ HX.out)
          rw [hn4, hn5] at k1
          refine k1.mono ?_
          rintro e w' ⟨v, rfl, ho, hb⟩
          have hf := HWR.out _ HX.out
          unfold lcheckL at ho
          rw [hf] at ho
          obtain ⟨A', c', rfl, _, _, _⟩ := ho.sl
          exact ⟨A', c', by rw [hf]; rfl, hb⟩)
        have SC := HW7.out.bk
        unfold shpA at HCK
        clear hA h9 hV hs5 HSRC HB6 KX6 HV7 x0 x1 x2 x3
        have e0 : V.cell? ⟨g, 0, none⟩ = some (.slice h.A1 s.cols.length h.c1) := SC.cell 0
        have e1 : V.cell? ⟨g, 1, none⟩ = some (.slice h.A2 s.covs.length h.c2) := SC.cell 1
        have e2 : V.cell? ⟨g, 2, none⟩ = some (.int .i64 s.l0) := SC.cell 2
        have e3 : V.cell? ⟨g, 3, none⟩ = some (.int .i64 s.l1) := SC.cell 3
        have e4 : V.cell? ⟨g, 4, none⟩ = some (.int .i64 s.l2) := SC.cell 4
        have e5 : V.cell? ⟨g, 5, none⟩ = some (.int .i64 s.l3) := SC.cell 5
        have e6 : V.cell? ⟨g, 6, none⟩ = some (.slice h.A3 s.rows.length h.c3) := SC.cell 6
        have e7 : V.cell? ⟨g, 7, none⟩ = some (.slice h.A4 s.frames.length h.c4) := SC.cell 7
        have e8 : V.cell? ⟨g, 8, none⟩ = some (.slice h.A5 s.tanks.length h.c5) := SC.cell 8
        have e9 : V.cell? ⟨g, 9, none⟩ = some (.int .i64 s.m0) := SC.cell 9
        have e10 : V.cell? ⟨g, 10, none⟩ = some (.int .i64 s.m1) := SC.cell 10
        have e11 : V.cell? ⟨g, 11, none⟩ = some (.int .i64 s.m2) := SC.cell 11
        have e12 : V.cell? ⟨g, 12, none⟩ = some (.int .i64 s.m3) := SC.cell 12
        clear SC
        go_wp2_with fail
        refine HCK.out.mono ?_
        rintro e V2 ⟨A6, c6, rfl, hb⟩
        simp only
        clear e0 e1 e2 e3 e4 e5 e6 e7 e8 e9 e10 e11 e12
        have HB8 := Lib.hid (HB7.out.trans (hb.mono HB7.out.size))
        clear hb HCK
        go_wp2_with fail
        go_roundw
        case rel => (repeat apply Exists.intro); (first | exact ⟨⟨k + 1, hlt, by go_num, HB8⟩, rfl⟩ | exact ⟨hlt, by go_num, HB8⟩)
        case measure => simp [intOf]; omega
    · obtain rfl : k = 5 := by omega
      have HWV := Lib.hid (HW4.out.on HB.out)
      have HNF : Hid (∀ cc : Int, cc = far ∨ cc = nn → (∀ x ∈ st, x.slot.col ≠ cc) ∧ thereB s cc = false) := Lib.hid fun cc hcc => ⟨fun x hx => by have := HIN.out x hx; omega, there_no (by omega)⟩
      clear HWR HT5 HKG HM HL HB hk hn4 HW4
      try clear W0
      go_wp2_with fail
      have HK2 : Hid (Bk (V.alloc (.cells #[.int .i64 far, .int .i64 nn] 3)) V.heap.size 3 #[.int .i64 far, .int .i64 nn]) := Lib.hid (Bk.new _ _ _)
      replace HWV := Lib.hid (HWV.out.on (ba1 V (.cells #[.int .i64 far, .int .i64 nn] 3)))
      generalize V.heap.size = g2 at *
      generalize (V.alloc _) = V1 at *
      try clear V
      go_loopw [84] (fun i wr => ∃ k : Nat, k ≤ 2 ∧ i = .int .i64 k ∧ Hid (Below V1.heap.size V1 wr)) (fun i _ => 2 - (intOf i).toNat)
      case atStart => exact ⟨0, by omega, rfl, Lib.hid (Below.refl _ _)⟩
      case round =>
        obtain ⟨k, hk, rfl, HB⟩ := hrel
        obtain ⟨V, rfl⟩ : ∃ V, V = wr := ⟨_, rfl⟩
        have HWR := Lib.hid (HWV.out.on HB.out)
        by_cases hlt : k < 2
        · have i0 : (0 : Int) ≤ (k : Int) := by omega
          have i1 : (k : Int) < 2 := by omega
          have hk1 : k + 1 ≤ 2 := hlt
          obtain ⟨cc, hcell, hcc⟩ : ∃ cc : Int, V.cell? ⟨g2, k, none⟩ = some (.int .i64 cc) ∧ (cc = far ∨ cc = nn) := by
            have kb := HK2.out.below HB.out HK2.out.lt
            obtain rfl | rfl : k = 0 ∨ k = 1 := by omega
            · exact ⟨far, kb.cell 0, .inl rfl⟩
            · exact ⟨nn, kb.cell 1, .inr rfl⟩
          obtain ⟨hn1, hn2⟩ := HNF.out cc hcc
          have HNO := Lib.hid (nothing (s := s) (bs := bs) hn1 hn2 1)
          have K1 : Hid (∀ V' : World, Below V.heap.size V V' → Calls Try.prog 33 #[.slice A1 bs.length q1, .slice A3 st.length q3, .int .i64 cc, .int .u8 1] V' (Ret V' (.int .i64 0))) := Lib.hid fun V' hV => by
            have k := moment_any A1 q1 bs A3 q3 st cc 1 V' HKL.out (HWR.out.on hV).bx HLD.out.bl (HWR.out.on hV).sx (by omega)
            rw [HNO.out.1] at k
            exact k
          have K2 : Hid (∀ V' : World, Below V.heap.size V V' → Calls Try.prog 30 #[.agg (shpA s h), .slice A1 bs.length q1, .slice A3 st.length q3, .int .i64 cc] V' (OwnLf V' [])) := Lib.hid fun V' hV => by
            have k := lFaults_any s h A1 q1 bs A3 q3 st cc V' HKL.out HLH.out (HWR.out.on hV).rd HLM.out.short (HWR.out.on hV).bx HLD.out.bl (HWR.out.on hV).sx (by omega)
            rw [HNO.out.2.1] at k
            exact k
          have K3 : Hid (∀ V' : World, Below V.heap.size V V' → Calls Try.prog 31 #[.agg (shpA s h), .slice A1 bs.length q1, .slice A3 st.length q3, .agg #[.int .i64 cc, .int .i64 0, .int .u8 0]] V' (Ret V' (.int .i64 0))) := Lib.hid fun V' hV => by
            have k := lRoom_any s h A1 q1 bs A3 q3 st ⟨cc, 0, 0⟩ V' HKL.out HLH.out (HWR.out.on hV).rd HLM.out.short (HWR.out.on hV).bx HLD.out.bl (HWR.out.on hV).sx (by omega)
            rw [HNO.out.2.2.1] at k
            exact k
          have K4 : Hid (∀ V' : World, Below V.heap.size V V' → Calls Try.prog 34 #[.slice A1 bs.length q1, .slice A3 st.length q3, .agg #[.int .i64 cc, .int .i64 5, .int .u8 0]] V' (Ret V' (.int .i64 0))) := Lib.hid fun V' hV => by
            have k := lift_any A1 q1 bs A3 q3 st ⟨cc, 5, 0⟩ V' (HWR.out.on hV).bx HLD.out.bl (HWR.out.on hV).sx (by omega)
            rw [HNO.out.2.2.2] at k
            exact k
          clear hn1 hn2 HNO hcc
          unfold shpA at K2 K3
          go_upto_region 15 with fail
          clear hcell
          go_wp2_with fail
          refine (K1.out _ (Below.refl _ _)).mono ?_
          rintro e V2 ⟨rfl, hb2⟩
          simp only
          have SC := (HWR.out.on hb2).bk
          have e0 : V2.cell? ⟨g, 0, none⟩ = some (.slice h.A1 s.cols.length h.c1) := SC.cell 0
          have e1 : V2.cell? ⟨g, 1, none⟩ = some (.slice h.A2 s.covs.length h.c2) := SC.cell 1
          have e2 : V2.cell? ⟨g, 2, none⟩ = some (.int .i64 s.l0) := SC.cell 2
          have e3 : V2.cell? ⟨g, 3, none⟩ = some (.int .i64 s.l1) := SC.cell 3
          have e4 : V2.cell? ⟨g, 4, none⟩ = some (.int .i64 s.l2) := SC.cell 4
          have e5 : V2.cell? ⟨g, 5, none⟩ = some (.int .i64 s.l3) := SC.cell 5
          have e6 : V2.cell? ⟨g, 6, none⟩ = some (.slice h.A3 s.rows.length h.c3) := SC.cell 6
          have e7 : V2.cell? ⟨g, 7, none⟩ = some (.slice h.A4 s.frames.length h.c4) := SC.cell 7
          have e8 : V2.cell? ⟨g, 8, none⟩ = some (.slice h.A5 s.tanks.length h.c5) := SC.cell 8
          have e9 : V2.cell? ⟨g, 9, none⟩ = some (.int .i64 s.m0) := SC.cell 9
          have e10 : V2.cell? ⟨g, 10, none⟩ = some (.int .i64 s.m1) := SC.cell 10
          have e11 : V2.cell? ⟨g, 11, none⟩ = some (.int .i64 s.m2) := SC.cell 11
          have e12 : V2.cell? ⟨g, 12, none⟩ = some (.int .i64 s.m3) := SC.cell 12
          clear SC
          go_wp2_with fail
          refine (K2.out _ hb2).mono ?_
          rintro e V3 ⟨v9, rfl, hov, hb3⟩
          simp only
          clear e0 e1 e2 e3 e4 e5 e6 e7 e8 e9 e10 e11 e12
          obtain ⟨A9, c9, rfl, _, _, _⟩ := hov.sl
          have hb4 := hb2.trans (hb3.mono hb2.size)
          have SC := (HWR.out.on hb4).bk
          have e0 : V3.cell? ⟨g, 0, none⟩ = some (.slice h.A1 s.cols.length h.c1) := SC.cell 0
          have e1 : V3.cell? ⟨g, 1, none⟩ = some (.slice h.A2 s.covs.length h.c2) := SC.cell 1
          have e2 : V3.cell? ⟨g, 2, none⟩ = some (.int .i64 s.l0) := SC.cell 2
          have e3 : V3.cell? ⟨g, 3, none⟩ = some (.int .i64 s.l1) := SC.cell 3
          have e4 : V3.cell? ⟨g, 4, none⟩ = some (.int .i64 s.l2) := SC.cell 4
          have e5 : V3.cell? ⟨g, 5, none⟩ = some (.int .i64 s.l3) := SC.cell 5
          have e6 : V3.cell? ⟨g, 6, none⟩ = some (.slice h.A3 s.rows.length h.c3) := SC.cell 6
          have e7 : V3.cell? ⟨g, 7, none⟩ = some (.slice h.A4 s.frames.length h.c4) := SC.cell 7
          have e8 : V3.cell? ⟨g, 8, none⟩ = some (.slice h.A5 s.tanks.length h.c5) := SC.cell 8
          have e9 : V3.cell? ⟨g, 9, none⟩ = some (.int .i64 s.m0) := SC.cell 9
          have e10 : V3.cell? ⟨g, 10, none⟩ = some (.int .i64 s.m1) := SC.cell 10
          have e11 : V3.cell? ⟨g, 11, none⟩ = some (.int .i64 s.m2) := SC.cell 11
          have e12 : V3.cell? ⟨g, 12, none⟩ = some (.int .i64 s.m3) := SC.cell 12
          clear SC hov
          go_wp2_with fail
          refine (K3.out _ hb4).mono ?_
          rintro e V4 ⟨rfl, hb5⟩
          simp only
          clear e0 e1 e2 e3 e4 e5 e6 e7 e8 e9 e10 e11 e12
          have hb6 := hb4.trans (hb5.mono hb4.size)
          go_wp2_with fail
          refine (K4.out _ hb6).mono ?_
          rintro e V5 ⟨rfl, hb7⟩
          simp only
          have HB9 := Lib.hid (HB.out.trans ((hb6.trans (hb7.mono hb6.size)).mono HB.out.size))
          clear hb2 hb3 hb4 hb5 hb6 hb7 K1 K2 K3 K4 HB HWR
          go_wp2_with fail
          go_roundw
          case rel => (repeat apply Exists.intro); (first | exact ⟨⟨k + 1, hk1, by go_num, HB9⟩, rfl⟩ | exact ⟨hk1, by go_num, HB9⟩)
          case measure => simp [intOf]; omega
        · obtain rfl : k = 2 := by omega
          have HW9 := Lib.hid HWR.out.be
          clear HWR HB HWV HK2 HNF HIN HLH HKL HLM HLD
          go_wp2_with fail
          refine (awake11_true _).mono ?_
          rintro e W9 ⟨rfl, hb⟩
          simp only
          go_wp2_with fail
          go_ret
          exact ⟨rfl, HW9.out.trans (hb.mono HW9.out.size)⟩
end Go.Proofs.Ytncfakkajknhaaa
