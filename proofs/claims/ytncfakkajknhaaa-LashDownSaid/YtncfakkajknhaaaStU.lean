/-
  The walk of the statement StackWrong.
-/
import Derived.Test.YtncfakkajknhaaaStT
namespace Go.Proofs.Ytncfakkajknhaaa
open Go.RowKit

/-- A ship in its variable, boxes and a state, to read. -/
structure WW (w V : World) (g : Nat) (s : Shp) (h : Hd) (A1 : Option Addr) (bs : List Bx) (A2 : Option Addr) (st : List Stw) : Prop where
  bk : Bk V g 37 (shpA s h)
  rd : ShpR V (Lt V.heap.size) s h
  bx : SlT tBx V (Lt V.heap.size) A1 bs
  sx : SlT tStw V (Lt V.heap.size) A2 st
  be : Below w.heap.size w V
theorem WW.on {w V V' : World} {g : Nat} {s : Shp} {h : Hd} {A1 A2 : Option Addr} {bs : List Bx} {st : List Stw} (r : WW w V g s h A1 bs A2 st) (hb : Below V.heap.size V V') : WW w V' g s h A1 bs A2 st :=
  ⟨r.bk.below hb r.bk.lt, r.rd.on hb, r.bx.on hb, r.sx.on hb, r.be.trans (hb.mono r.be.size)⟩
theorem Lm.kgs {s : Shp} (h : Lm s) : ∀ c ∈ s.cols, (-1000000000000 ≤ c.k20 ∧ c.k20 ≤ 1000000000000) ∧ (-1000000000000 ≤ c.k40 ∧ c.k40 ≤ 1000000000000) := fun c hc => by have := h.col c hc; omega
theorem sl_at {α : Type} {T : Ty α} {w : World} {g : Nat} {t : TypeId} {cs : Array Value} {l : List α} (hb : Bk w g t cs) (hf : Flat T w (Lt w.heap.size) cs.toList l) : SlT T w (Lt w.heap.size) (some ⟨g, 0, none⟩) l := sl_flat hb hf hb.lt
def b900 : Bx := ⟨900, ⟨#[]⟩, 40, false, 1, 0, 1, 0, false⟩
def bad5 (far : Int) : List Stw := [⟨900, far, 0, 0⟩, ⟨900, 0, 10, 0⟩, ⟨900, 0, 0, 1⟩, ⟨901, 0, 0, 0⟩, ⟨900, -1, 0, 0⟩]
theorem wrong5 {s : Shp} {bs : List Bx} {st : List Stw} (hl : Lm s) (hd : Ld s bs st) {far : Int} (hf : (s.cols.length : Int) ≤ far) : ∀ x ∈ bad5 far, stowRight s (bs ++ [b900]) (st ++ [x]) = false := by
  have h900 : findBx (bs ++ [b900]) 900 = (b900, true) := by
    rw [idx_append_new (fun b hb => by have := (hd.box b hb).2.2.2; omega)]
    rfl
  have h901 : findBx (bs ++ [b900]) 901 = (zBx, false) := by
    rw [idx_append_new (fun b hb => by have := (hd.box b hb).2.2.2; omega)]
    rfl
  have out : ∀ (x : Slt), ¬ (0 ≤ x.col ∧ x.col < s.cols.length ∧ 0 ≤ x.tier ∧ x.tier < (s.cols.getD x.col.toNat default).tiers ∧ x.half ∈ halvesL 40) → slotRight s x 40 = false := fun x hx => by
    cases hr : slotRight s x 40 with
    | false => rfl
    | true => exact absurd (slot_in hr) hx
  intro x hx
  simp only [bad5, List.mem_cons, List.not_mem_nil, or_false] at hx
  refine stow_bad ?_
  rcases hx with rfl | rfl | rfl | rfl | rfl
  · right; show slotRight s ⟨far, 0, 0⟩ (findBx (bs ++ [b900]) 900).1.size = false; rw [h900]; exact out _ (fun h => by have := h.2.1; simp only at this; omega)
  · right; show slotRight s ⟨0, 10, 0⟩ (findBx (bs ++ [b900]) 900).1.size = false; rw [h900]
    refine out _ (fun h => ?_)
    have h1 := h.2.2.2.1
    have h2 := hl.at_ (k := 0) (by have := hl.one; omega)
    simp only [Int.toNat_zero] at h1
    omega
  · right; show slotRight s ⟨0, 0, 1⟩ (findBx (bs ++ [b900]) 900).1.size = false; rw [h900]; exact out _ (fun h => by have := h.2.2.2.2; revert this; decide)
  · left; show (findBx (bs ++ [b900]) 901).2 = false; rw [h901]
  · right; show slotRight s ⟨-1, 0, 0⟩ (findBx (bs ++ [b900]) 900).1.size = false; rw [h900]; exact out _ (fun h => by have := h.1; simp only at this; omega)
theorem more_kg {s : Shp} {bs : List Bx} {st : List Stw} (hd : Ld s bs st) : KgOK (bs ++ [b900]) := fun b hb => by
  rcases List.mem_append.1 hb with hb | hb
  · exact hd.kg b hb
  · obtain rfl : b = b900 := by simpa using hb
    decide
theorem tier5 {s : Shp} {bs : List Bx} {st : List Stw} (hl : Lm s) (hd : Ld s bs st) {far : Int} {x : Stw} (hx : x ∈ bad5 far) : ∀ y ∈ st ++ [x], y.slot.tier ≤ 9223372036854775807 := fun y hy => by
  rcases List.mem_append.1 hy with hy | hy
  · exact hd.max hl y hy
  · obtain rfl : y = x := by simpa using hy
    simp only [bad5, List.mem_cons, List.not_mem_nil, or_false] at hx
    rcases hx with rfl | rfl | rfl | rfl | rfl <;> simp
theorem run_eql_kl (W : World) : (binOp .eql 58 (.agg #[.int .i64 0, .int .i64 0, .int .i64 0]) (.agg #[.int .i64 0, .int .i64 0, .int .i64 0])).run Try.prog W = .ok (.bool true) W := by simp [go_sem]
theorem there_no {s : Shp} {c : Int} (h : c < 0 ∨ (s.cols.length : Int) ≤ c) : thereB s c = false := by
  unfold thereB
  simp only [Bool.and_eq_false_iff, decide_eq_false_iff_not]
  omega
set_option maxRecDepth 100000 in
set_option maxHeartbeats 4000000 in
theorem faults_none (s : Shp) (h : Hd) (v1 v2 : Value) (col : Int) (w : World) (hc : thereB s col = false) : Calls Try.prog 15 #[.agg (shpA s h), v1, v2, .int .i64 col] w (Ret w (.slice none 0 0)) := by
  have HT := Lib.hid (fun V => there_any s h col V)
  rw [hc] at HT
  have bS := Bk.new w 37 (shpA s h)
  have hB := Lib.hid (ba1 w (.cells (shpA s h) 37))
  have e0 : (w.alloc (.cells (shpA s h) 37)).cell? ⟨w.heap.size, 0, none⟩ = some (.slice h.A1 s.cols.length h.c1) := bS.cell 0
  have e1 : (w.alloc (.cells (shpA s h) 37)).cell? ⟨w.heap.size, 1, none⟩ = some (.slice h.A2 s.covs.length h.c2) := bS.cell 1
  have e2 : (w.alloc (.cells (shpA s h) 37)).cell? ⟨w.heap.size, 2, none⟩ = some (.int .i64 s.l0) := bS.cell 2
  have e3 : (w.alloc (.cells (shpA s h) 37)).cell? ⟨w.heap.size, 3, none⟩ = some (.int .i64 s.l1) := bS.cell 3
  have e4 : (w.alloc (.cells (shpA s h) 37)).cell? ⟨w.heap.size, 4, none⟩ = some (.int .i64 s.l2) := bS.cell 4
  have e5 : (w.alloc (.cells (shpA s h) 37)).cell? ⟨w.heap.size, 5, none⟩ = some (.int .i64 s.l3) := bS.cell 5
  have e6 : (w.alloc (.cells (shpA s h) 37)).cell? ⟨w.heap.size, 6, none⟩ = some (.slice h.A3 s.rows.length h.c3) := bS.cell 6
  have e7 : (w.alloc (.cells (shpA s h) 37)).cell? ⟨w.heap.size, 7, none⟩ = some (.slice h.A4 s.frames.length h.c4) := bS.cell 7
  have e8 : (w.alloc (.cells (shpA s h) 37)).cell? ⟨w.heap.size, 8, none⟩ = some (.slice h.A5 s.tanks.length h.c5) := bS.cell 8
  have e9 : (w.alloc (.cells (shpA s h) 37)).cell? ⟨w.heap.size, 9, none⟩ = some (.int .i64 s.m0) := bS.cell 9
  have e10 : (w.alloc (.cells (shpA s h) 37)).cell? ⟨w.heap.size, 10, none⟩ = some (.int .i64 s.m1) := bS.cell 10
  have e11 : (w.alloc (.cells (shpA s h) 37)).cell? ⟨w.heap.size, 11, none⟩ = some (.int .i64 s.m2) := bS.cell 11
  have e12 : (w.alloc (.cells (shpA s h) 37)).cell? ⟨w.heap.size, 12, none⟩ = some (.int .i64 s.m3) := bS.cell 12
  clear bS
  unfold shpA at *
  go_enter Try.func15, Try.ntmps15
  go_wp2_with fail
  refine (HT.out _).mono ?_
  rintro e w1 ⟨rfl, hb⟩
  simp only
  go_wp2_with fail
  go_ret
  exact ⟨rfl, hB.out.trans (hb.mono hB.out.size)⟩
set_option maxRecDepth 100000 in
set_option maxHeartbeats 8000000 in
theorem stackWrong_any (A : Option Addr) (c : Nat) (pl : List (Nat × Nat × Nat × Bool)) (covers : Nat) (ha hb ht : Nat) (hha : ha < 256) (hhb : hb < 256) (hht : ht < 256) (A2 : Option Addr) (c2 : Nat) (ds : List Drp) (n : Int) (hn : I64 n) (w : World)
    (hs : SlT tPl w (Lt w.heap.size) A pl) (hl : ∀ p ∈ pl, p.1 < 256 ∧ p.2.1 < 256 ∧ p.2.2.1 < 256) (hc : pl.length ≤ c) (hcm : c ≤ maxLen)
    (hs2 : SlT tDrp w (Lt w.heap.size) A2 ds) (hd : ∀ d ∈ ds, d.col < 256 ∧ d.kilos < 256) (hc2 : ds.length ≤ c2) (hcm2 : c2 ≤ maxLen) :
    Calls Try.prog 5 #[.slice A pl.length c, .int .u32 covers, .agg #[.int .u8 (ha : Nat), .int .u8 (hb : Nat), .int .u8 (ht : Nat)], .slice A2 ds.length c2, .int .i64 n] w (TrueRet w) := by
  have bw := ba1 w (.cells #[.int .u8 (ha : Nat), .int .u8 (hb : Nat), .int .u8 (ht : Nat)] 25)
  have kw := Bk.new w 25 #[.int .u8 (ha : Nat), .int .u8 (hb : Nat), .int .u8 (ht : Nat)]
  have HC := Lib.hid (limited_any A c pl covers ha hb ht hha hhb hht A2 c2 ds (w.alloc (.cells #[.int .u8 (ha : Nat), .int .u8 (hb : Nat), .int .u8 (ht : Nat)] 25)) (hs.on bw) hl hc hcm (hs2.on bw) hd hc2 hcm2)
  have HBW := Lib.hid bw
  have k0 : (w.alloc (.cells #[.int .u8 (ha : Nat), .int .u8 (hb : Nat), .int .u8 (ht : Nat)] 25)).cell? ⟨w.heap.size, 0, none⟩ = some (.int .u8 (ha : Nat)) := kw.cell 0
  have k1 : (w.alloc (.cells #[.int .u8 (ha : Nat), .int .u8 (hb : Nat), .int .u8 (ht : Nat)] 25)).cell? ⟨w.heap.size, 1, none⟩ = some (.int .u8 (hb : Nat)) := kw.cell 1
  have k2 : (w.alloc (.cells #[.int .u8 (ha : Nat), .int .u8 (hb : Nat), .int .u8 (ht : Nat)] 25)).cell? ⟨w.heap.size, 2, none⟩ = some (.int .u8 (ht : Nat)) := kw.cell 2
  clear hs hl hc hcm hs2 hd hc2 hcm2 bw kw
  unfold I64 at hn
  obtain ⟨hn0, hn1⟩ := hn
  go_enter Try.func5, Try.ntmps5
  go_wp2_with fail
  refine HC.out.mono ?_
  rintro e w1 ⟨s, h, v1, v2, bs, st, rfl, hLm, hLd, hrd, ob, os, hb1⟩
  simp only
  clear HC k0 k1 k2
  obtain ⟨A1, q1, rfl, hq1, hqm1, hsb⟩ := OwnS.sl' ob
  obtain ⟨A3, q3, rfl, hq3, hqm3, hss⟩ := OwnS.sl' os
  have hW : WW w (w1.alloc (.cells (shpA s h) 37)) w1.heap.size s h A1 bs A3 st := by
    have hx := ba1 w1 (.cells (shpA s h) 37)
    have h0 := HBW.out.trans (hb1.mono HBW.out.size)
    exact ⟨Bk.new w1 _ _, (hrd.more fun x hx => hx.1).on hx, hsb.on hx, hss.on hx, h0.trans (hx.mono h0.size)⟩
  have HW := Lib.hid hW
  have HLM := Lib.hid hLm
  have HLD := Lib.hid hLd
  have hbl := hLd.nine
  have hsl := hLd.stlen
  have hc1 := hLm.one
  have hc12 := hLm.twelve
  clear hW ob os hsb hss hrd hb1 HBW hLm hLd
  unfold maxLen at hqm1 hqm3
  unfold shpA at HW ⊢
  go_upto_region 2 with fail
  generalize w1.heap.size = g at *
  generalize (w1.alloc _) = V at *
  clear w1
  have HO := Lib.hid (OwnS.empty tBx 43 V V.heap.size (Lt V.heap.size) (Nat.le_refl _) (fun b hb => hb))
  have HS := Lib.hid ((HW.out.bx).below (ba1 V (.cells #[] 43)))
  go_wp2_with (at_builtin; (refine wpList_append_S el_bx rfl (.tmp 31) (.tmp 32) rfl V.heap.size (Lt V.heap.size) _ [] rfl HO.out A1 bs.length q1 bs rfl rfl HS.out ?c1 ?c2 ?c3 ?_))
  case c1 => unfold maxLen; simp; omega
  case c2 => simp; omega
  case c3 => simp
  intro v3 w3 ho3 hg3 hb3
  have HV3 := Lib.hid ((ba1 V (.cells #[] 43)).trans hb3)
  have HO3 := Lib.hid (ho3.below (ba1 w3 (.cells #[.int .i64 900, .string ⟨#[]⟩, .int .u8 40, .bool false, .int .i64 1, .int .i64 0, .int .i64 1, .int .u8 0, .bool false] 43)))
  have HZ3 := Lib.hid HV3.out.size
  clear HO HS ho3 hg3 hb3
  go_upto_region 3 with fail
  go_wp2_with (at_builtin; (refine wpList_append_R el_bx rfl (.tmp 34) (.tmp 36) rfl V.heap.size (Lt V.heap.size) _ bs rfl HO3.out _ 1 1 [b900] rfl rfl (Src.new (Flat.single rfl) rfl) ?d1 ?d2 ?d3 ?_))
  case d1 => unfold maxLen; omega
  case d2 => omega
  case d3 => exact Nat.le_trans HZ3.out (by simp)
  intro v4 w4 ho4 hg4 hb4
  have HV4 : Hid (Below V.heap.size V w4) := Lib.hid ((HV3.out.trans ((ba1 w3 _).mono HZ3.out)).trans hb4)
  obtain ⟨A4, q4, rfl, hq4, hqm4, hsm⟩ := OwnS.sl' ho4
  have HM := Lib.hid hsm
  have HW4 := Lib.hid (HW.out.on HV4.out)
  clear HO3 HZ3 HV3 HV4 hg4 hb4 ho4 hsm HW
  have hn4' : (bs ++ [b900]).length ≤ 1000000 := by simp; omega
  generalize hn4 : (bs ++ [b900]).length = n4 at *
  obtain ⟨far, hfar⟩ : ∃ far : Int, (if n < (s.cols.length : Int) then (s.cols.length : Int) else n) = far := ⟨_, rfl⟩
  obtain ⟨hf0, hf1⟩ : (s.cols.length : Int) ≤ far ∧ far ≤ 9223372036854775807 := by rw [← hfar]; split <;> omega
  have e0 : w4.cell? ⟨g, 0, none⟩ = some (.slice h.A1 s.cols.length h.c1) := HW4.out.bk.cell 0
  go_upto_region 5 with fail
  try simp only [hfar]
  clear e0
  go_wp2_with fail
  refine (at10 _ _ _ _ _).mono ?_
  rintro e U1 ⟨rfl, hb⟩
  simp only
  replace HW4 := Lib.hid (HW4.out.on hb)
  replace HM := Lib.hid (HM.out.on hb)
  clear hb
  go_wp2_with fail
  refine (at10 _ _ _ _ _).mono ?_
  rintro e U2 ⟨rfl, hb⟩
  simp only
  replace HW4 := Lib.hid (HW4.out.on hb)
  replace HM := Lib.hid (HM.out.on hb)
  clear hb
  go_wp2_with fail
  refine (at10 _ _ _ _ _).mono ?_
  rintro e U3 ⟨rfl, hb⟩
  simp only
  replace HW4 := Lib.hid (HW4.out.on hb)
  replace HM := Lib.hid (HM.out.on hb)
  clear hb
  go_wp2_with fail
  refine (at10 _ _ _ _ _).mono ?_
  rintro e U4 ⟨rfl, hb⟩
  simp only
  replace HW4 := Lib.hid (HW4.out.on hb)
  replace HM := Lib.hid (HM.out.on hb)
  clear hb
  go_wp2_with fail
  refine (at10 _ _ _ _ _).mono ?_
  rintro e U5 ⟨rfl, hb⟩
  simp only
  replace HW4 := Lib.hid (HW4.out.on hb)
  replace HM := Lib.hid (HM.out.on hb)
  clear hb
  have HL := Lib.hid (sl_at (Bk.new U5 61 #[.int .i64 900, .int .i64 far, .int .i64 0, .int .u8 0, .int .i64 900, .int .i64 0, .int .i64 10, .int .u8 0, .int .i64 900, .int .i64 0, .int .i64 0, .int .u8 1, .int .i64 901, .int .i64 0, .int .i64 0, .int .u8 0, .int .i64 900, .int .i64 (-1), .int .i64 0, .int .u8 0]) (flat_stw (bad5 far)))
  replace HW4 := Lib.hid (HW4.out.on (ba1 U5 (.cells #[.int .i64 900, .int .i64 far, .int .i64 0, .int .u8 0, .int .i64 900, .int .i64 0, .int .i64 10, .int .u8 0, .int .i64 900, .int .i64 0, .int .i64 0, .int .u8 1, .int .i64 901, .int .i64 0, .int .i64 0, .int .u8 0, .int .i64 900, .int .i64 (-1), .int .i64 0, .int .u8 0] 61)))
  replace HM := Lib.hid (HM.out.on (ba1 U5 (.cells #[.int .i64 900, .int .i64 far, .int .i64 0, .int .u8 0, .int .i64 900, .int .i64 0, .int .i64 10, .int .u8 0, .int .i64 900, .int .i64 0, .int .i64 0, .int .u8 1, .int .i64 901, .int .i64 0, .int .i64 0, .int .u8 0, .int .i64 900, .int .i64 (-1), .int .i64 0, .int .u8 0] 61)))
  go_upto_block 0 with fail
  generalize U5.heap.size = gx at *
  generalize (U5.alloc _) = W0 at *
  have HWR := Lib.hid (wrong5 HLM.out HLD.out hf0)
  have HKG := Lib.hid (more_kg HLD.out)
  have HT5 := Lib.hid (fun (x : Stw) (hx : x ∈ bad5 far) => tier5 HLM.out HLD.out hx)
  go_wp2_with fail
  go_loopw [51] (fun i wr => ∃ k : Nat, k ≤ 5 ∧ i = .int .i64 k ∧ Hid (Below W0.heap.size W0 wr)) (fun i _ => 5 - (intOf i).toNat)
  case atStart => exact ⟨0, Nat.zero_le _, rfl, Lib.hid (Below.refl _ _)⟩
  case round =>
    obtain ⟨k, hk, rfl, HB⟩ := hrel
    obtain ⟨V, rfl⟩ : ∃ V, V = wr := ⟨_, rfl⟩
    by_cases hlt : k < 5
    · have hk5 : k < (bad5 far).length := hlt
      obtain ⟨b, off, hA, hB, c0, c1, c2', c3⟩ := (HL.out.below HB.out).stw hk5
      injection hA with hA
      injection hA with hA1 hA2 _
      subst hA1 hA2
      have HX := Lib.hid (getD_memD hk5 default)
      generalize (bad5 far).getD k default = x at *
      obtain ⟨xb, xc, xt, xh⟩ := x
      simp only [Nat.zero_add] at c0 c1 c2' c3
      have i0 : (0 : Int) ≤ (k : Int) := by omega
      have i1 : (k : Int) < 5 := by omega
      have hq4 := ba1 V (.cells #[.int .i64 xb, .int .i64 xc, .int .i64 xt, .int .u8 (xh : Nat)] 61)
      have HB6 := Lib.hid (HB.out.trans (hq4.mono HB.out.size))
      have KX6 := Lib.hid (Bk.new V 61 #[.int .i64 xb, .int .i64 xc, .int .i64 xt, .int .u8 (xh : Nat)])
      have HKR := Lib.hid (HB.out)
      clear HB hq4
      go_upto_region 8 with fail
      clear c0 c1 c2' c3
      generalize V.heap.size = gy at *
      generalize (V.alloc _) = W at *
      try clear V
      have x0 : W.cell? ⟨gy, 0, none⟩ = some (.int .i64 xb) := KX6.out.cell 0
      have x1 : W.cell? ⟨gy, 1, none⟩ = some (.int .i64 xc) := KX6.out.cell 1
      have x2 : W.cell? ⟨gy, 2, none⟩ = some (.int .i64 xt) := KX6.out.cell 2
      have x3 : W.cell? ⟨gy, 3, none⟩ = some (.int .u8 (xh : Nat)) := KX6.out.cell 3
      have HSRC : Hid (∀ V : World, Cb W V → Src tStw V (Lt W.heap.size) A3 st.length st) := Lib.hid fun V hV => by
        have h1 := (HW4.out.on HB6.out).sx
        exact (h1.below hV).src rfl (fun b hb => Nat.lt_of_lt_of_le hb (Below.size hV))
      refine wp_region_og [.sl 0 0 61 #[] W.heap.size,
    .val 1 (.slice A3 st.length q3),
    .own tStw 61 W.heap.size (Lt W.heap.size) 2 st,
    .val 3 (.agg #[.int .i64 xb, .int .i64 xc, .int .i64 xt, .int .u8 (xh : Nat)]),
    .sl 4 1 61 #[.int .i64 xb, .int .i64 xc, .int .i64 xt, .int .u8 (xh : Nat)] W.heap.size,
    .own tStw 61 W.heap.size (Lt W.heap.size) 5 (st ++ [(⟨xb, xc, xt, xh⟩ : Stw)]),
    .own tStw 61 W.heap.size (Lt W.heap.size) 6 (st ++ [(⟨xb, xc, xt, xh⟩ : Stw)])]
        [[], [], [0, 1], [], [3], [2, 4], [5]] [6] (Cb W) (by kernel_rfl) (by kernel_rfl) (Cb.drew W) ⟨?_, ?_, ?_, ?_, ?_, ?_, ?_, trivial⟩ ?_
      case refine_1 =>
        refine StepL.up fun x V hV hu K Q hK => ?_
        clear hu
        rw [owp_eq]
        go_big_op
        exact hK _ _ (ba1 V _) ⟨_, rfl, Below.size hV, Bk.new V _ _⟩
      case refine_2 =>
        refine StepL.up fun x V hV hu K Q hK => ?_
        clear hu
        simp only [putL, List.set_cons_zero, List.set_cons_succ] at hK ⊢
        rw [owp_eq]
        go_big_op
        exact hK _ _ (Below.refl _ _) rfl
      case refine_3 =>
        refine StepL.wr [3, 4] (by kernel_rfl) fun x V hV hu K Q hK => ?_
        obtain ⟨gd, ud, hgd, hkd⟩ := hu 0 (by decide)
        have HO := own_of_empty (T := tStw) hkd hgd
        have uj : x 1 = _ := hu 1 (by decide)
        have HSRC := HSRC.out V hV
        clear hu
        simp only [putL, List.set_cons_zero, List.set_cons_succ] at hK ⊢
        refine wp_append_og el_stw (.tmp 55) (.tmp 56) rfl W.heap.size (Lt W.heap.size) _ _ ud HO _ _ _ _ rfl uj HSRC (by unfold maxLen; simp; omega) (by simp; omega) (Below.size hV) fun v' w' h1 h2 h3 => ?_
        refine hK v' _ (hV.app h3) h1 fun k hk' => ?_
        simp only [List.mem_cons, List.not_mem_nil, or_false] at hk'
        rcases hk' with rfl | rfl
        · exact fun h => h
        · rintro ⟨g', e', l', k'⟩; exact ⟨g', e', l', k'.stay h2 (fun q => (Bk.size_ne hkd k' (by simp)) (Option.some.inj q))⟩
      case refine_4 =>
        refine StepL.up fun x V hV hu K Q hK => ?_
        have fx0 := hV.cell x0
        have fx1 := hV.cell x1
        have fx2 := hV.cell x2
        have fx3 := hV.cell x3
        clear hu
        simp only [putL, List.set_cons_zero, List.set_cons_succ] at hK ⊢
        rw [owp_eq]
        go_big_op
        exact hK _ _ (Below.refl _ _) rfl
      case refine_5 =>
        refine StepL.up fun x V hV hu K Q hK => ?_
        have u3 : x 3 = _ := hu 3 (by decide)
        clear hu
        simp only [putL, List.set_cons_zero, List.set_cons_succ] at hK ⊢
        rw [owp_eq]
        go_big_op
        exact hK _ _ (ba1 V _) ⟨_, rfl, Below.size hV, Bk.new V _ _⟩
      case refine_6 =>
        refine StepL.wr [] (by kernel_rfl) fun x V hV hu K Q hK => ?_
        have HO : OwnS tStw 61 V W.heap.size (Lt W.heap.size) (x 2) _ := hu 2 (by decide)
        obtain ⟨gj, uj, hgj, hkj⟩ := hu 4 (by decide)
        have HSRC := Src.blk (T := tStw) (S := Lt W.heap.size) (ms := [(⟨xb, xc, xt, xh⟩ : Stw)]) hkj (Flat.single rfl) rfl
        clear hu
        simp only [putL, List.set_cons_zero, List.set_cons_succ] at hK ⊢
        refine wp_append_og el_stw (.tmp 57) (.tmp 59) rfl W.heap.size (Lt W.heap.size) _ _ rfl HO _ _ _ [(⟨xb, xc, xt, xh⟩ : Stw)] rfl uj HSRC (by unfold maxLen; simp; omega) (by simp; omega) (Below.size hV) fun v' w' h1 h2 h3 => ?_
        refine hK v' _ (hV.app h3) h1 fun k hk' => ?_
        cases hk'
      case refine_7 =>
        refine StepL.up fun x V hV hu K Q hK => ?_
        have h5 : OwnS tStw 61 V W.heap.size (Lt W.heap.size) (x 5) _ := hu 5 (by decide)
        clear hu
        simp only [putL, List.set_cons_zero, List.set_cons_succ] at hK ⊢
        rw [owp_eq]
        go_big_op
        exact hK _ _ (Below.refl _ _) h5
      case refine_8 =>
        intro x V hV hA
        have h9 : OwnS tStw 61 V W.heap.size (Lt W.heap.size) (x 6) (st ++ [(⟨xb, xc, xt, xh⟩ : Stw)]) := hA 6 rfl (by decide)
        simp only [layL, putL, List.set_cons_zero, List.set_cons_succ]
        have HV7 := Lib.hid (show Below W.heap.size W V from hV)
        obtain ⟨A5, c5, e9, hc5, hcm5, hs5⟩ := h9.sl'
        rw [e9]
        clear e9
        have hn5' : (st ++ [(⟨xb, xc, xt, xh⟩ : Stw)]).length ≤ 1000000 := by simp; omega
        generalize hn5 : (st ++ [(⟨xb, xc, xt, xh⟩ : Stw)]).length = n5 at *
        have HB7 := Lib.hid (HB6.out.trans (HV7.out.mono HB6.out.size))
        have HW7 := Lib.hid (HW4.out.on HB7.out)
        have HCK : Hid (Calls Try.prog 23 #[.agg (shpA s h), .slice A4 n4 q4, .slice A5 n5 c5] V (fun e w' => ∃ A c, e = .returned (.tuple #[.slice A 0 c, .int .i64 2]) ∧ Below V.heap.size V w')) := Lib.hid (by
          have k1 := stCheck_any s h A4 q4 (bs ++ [b900]) A5 c5 (st ++ [⟨xb, xc, xt, xh⟩]) V HKG.out HLM.out.tol2 HW7.out.rd HLM.out.few HLM.out.ints HLM.out.short (HM.out.on HB7.out) (by rw [hn4]; exact hn4') hs5 (by rw [hn5]; exact hn5') (by rw [hn5]; exact hc5) (HT5.out _ HX.out)
          rw [hn4, hn5] at k1
          refine k1.mono ?_
          rintro e w' ⟨v, rfl, ho, hb⟩
          have hf := HWR.out _ HX.out
          unfold checkL at ho
          rw [hf] at ho
          obtain ⟨A', c', rfl, _, _, _⟩ := ho.sl
          exact ⟨A', c', by rw [hf]; rfl, hb⟩)
        have SC := HW7.out.bk
        unfold shpA at HCK
        clear hA h9 hV hs5 HSRC HB6 KX6 HV7 x0 x1 x2 x3
        have e0 : V.cell? ⟨g, 0, none⟩ = some (.slice h.A1 s.cols.length h.c1) := SC.cell 0
        have e1 : V.cell? ⟨g, 1, none⟩ = some (.slice h.A2 s.covs.length h.c2) := SC.cell 1
        have e2 : V.cell? ⟨g, 2, none⟩ = some (.int .i64 s.l0) := SC.cell 2
        have e3 : V.cell? ⟨g, 3, none⟩ = some (.int .i64 s.l1) := SC.cell 3
        have e4 : V.cell? ⟨g, 4, none⟩ = some (.int .i64 s.l2) := SC.cell 4
        have e5 : V.cell? ⟨g, 5, none⟩ = some (.int .i64 s.l3) := SC.cell 5
        have e6 : V.cell? ⟨g, 6, none⟩ = some (.slice h.A3 s.rows.length h.c3) := SC.cell 6
        have e7 : V.cell? ⟨g, 7, none⟩ = some (.slice h.A4 s.frames.length h.c4) := SC.cell 7
        have e8 : V.cell? ⟨g, 8, none⟩ = some (.slice h.A5 s.tanks.length h.c5) := SC.cell 8
        have e9 : V.cell? ⟨g, 9, none⟩ = some (.int .i64 s.m0) := SC.cell 9
        have e10 : V.cell? ⟨g, 10, none⟩ = some (.int .i64 s.m1) := SC.cell 10
        have e11 : V.cell? ⟨g, 11, none⟩ = some (.int .i64 s.m2) := SC.cell 11
        have e12 : V.cell? ⟨g, 12, none⟩ = some (.int .i64 s.m3) := SC.cell 12
        clear SC
        go_wp2_with fail
        refine HCK.out.mono ?_
        rintro e V2 ⟨A6, c6, rfl, hb⟩
        simp only
        clear e0 e1 e2 e3 e4 e5 e6 e7 e8 e9 e10 e11 e12
        have HB8 := Lib.hid (HB7.out.trans (hb.mono HB7.out.size))
        clear hb HCK
        go_wp2_with fail
        go_roundw
        case rel => (repeat apply Exists.intro); (first | exact ⟨⟨k + 1, hlt, by go_num, HB8⟩, rfl⟩ | exact ⟨hlt, by go_num, HB8⟩)
        case measure => simp [intOf]; omega
    · obtain rfl : k = 5 := by omega
      have HWV := Lib.hid (HW4.out.on HB.out)
      obtain ⟨nn, hmin⟩ : ∃ nn : Int, (if (-1 : Int) < n then (-1 : Int) else n) = nn := ⟨_, rfl⟩
      obtain ⟨hm0, hm1⟩ : nn ≤ -1 ∧ -9223372036854775808 ≤ nn := by rw [← hmin]; split <;> omega
      clear HWR HT5 HKG HM HL HB hk hn4
      go_upto_region 14 with fail
      try simp only [hmin]
      clear hmin
      have HK1 : Hid (∀ V' : World, Below V.heap.size V V' → Calls Try.prog 20 #[.slice A1 bs.length q1, .slice A3 st.length q3, .int .i64 far] V' (Ret V' (.agg #[.int .i64 0, .int .i64 0, .int .i64 0]))) := Lib.hid fun V' hV => by
        have k := weigh_any A1 q1 bs A3 q3 st far V' HLD.out.kg ((HWV.out.on hV).bx) HLD.out.bl ((HWV.out.on hV).sx) HLD.out.sl
        rw [klL_zero (fun x hx => by have := HLD.out.tier HLM.out hx; omega)] at k
        exact k
      have HK2 : Hid (∀ V' : World, Below V.heap.size V V' → Calls Try.prog 20 #[.slice A1 bs.length q1, .slice A3 st.length q3, .int .i64 nn] V' (Ret V' (.agg #[.int .i64 0, .int .i64 0, .int .i64 0]))) := Lib.hid fun V' hV => by
        have k := weigh_any A1 q1 bs A3 q3 st nn V' HLD.out.kg ((HWV.out.on hV).bx) HLD.out.bl ((HWV.out.on hV).sx) HLD.out.sl
        rw [klL_zero (fun x hx => by have := HLD.out.tier HLM.out hx; omega)] at k
        exact k
      have HK3 : Hid (∀ V' : World, Below V.heap.size V V' → Calls Try.prog 15 #[.agg (shpA s h), .slice A1 bs.length q1, .slice A3 st.length q3, .int .i64 far] V' (Ret V' (.slice none 0 0))) := Lib.hid fun V' _ => faults_none s h _ _ far V' (there_no (by omega))
      have HK4 : Hid (∀ V' : World, Below V.heap.size V V' → Calls Try.prog 15 #[.agg (shpA s h), .slice A1 bs.length q1, .slice A3 st.length q3, .int .i64 nn] V' (Ret V' (.slice none 0 0))) := Lib.hid fun V' _ => faults_none s h _ _ nn V' (there_no (by omega))
      have HK5 : Hid (∀ V' : World, Below V.heap.size V V' → Calls Try.prog 16 #[.agg (shpA s h), .slice A1 bs.length q1, .slice A3 st.length q3, .agg #[.int .i64 far, .int .i64 0, .int .u8 0]] V' (Ret V' (.int .i64 0))) := Lib.hid fun V' hV => by
        have k := stRoom_any s h A1 q1 bs A3 q3 st ⟨far, 0, 0⟩ V' HLD.out.kg HLM.out.tol2 HLM.out.kgs ((HWV.out.on hV).rd) ((HWV.out.on hV).bx) HLD.out.bl ((HWV.out.on hV).sx) HLD.out.sl (by simp)
        have hz : roomF s bs st ⟨far, 0, 0⟩ = 0 := by unfold roomF; rw [there_no (by simp only; omega)]; rfl
        rw [hz] at k
        exact k
      have HK6 : Hid (∀ V' : World, Below V.heap.size V V' → Calls Try.prog 16 #[.agg (shpA s h), .slice A1 bs.length q1, .slice A3 st.length q3, .agg #[.int .i64 nn, .int .i64 0, .int .u8 0]] V' (Ret V' (.int .i64 0))) := Lib.hid fun V' hV => by
        have k := stRoom_any s h A1 q1 bs A3 q3 st ⟨nn, 0, 0⟩ V' HLD.out.kg HLM.out.tol2 HLM.out.kgs ((HWV.out.on hV).rd) ((HWV.out.on hV).bx) HLD.out.bl ((HWV.out.on hV).sx) HLD.out.sl (by simp)
        have hz : roomF s bs st ⟨nn, 0, 0⟩ = 0 := by unfold roomF; rw [there_no (by simp only; omega)]; rfl
        rw [hz] at k
        exact k
      have HK7 : Hid (∀ V' : World, Below V.heap.size V V' → Calls Try.prog 19 #[] V' (Ret V' (.bool true))) := Lib.hid fun V' _ => awake10_true V'
      have HEQ := run_eql_kl
      have SC := HWV.out.bk
      have HBE := Lib.hid HWV.out.be
      unfold shpA at HK3 HK4 HK5 HK6
      have e0 : ∀ p : Gr V, p.W.cell? ⟨g, 0, none⟩ = some (.slice h.A1 s.cols.length h.c1) := Gr.cell (SC.cell 0)
      have e1 : ∀ p : Gr V, p.W.cell? ⟨g, 1, none⟩ = some (.slice h.A2 s.covs.length h.c2) := Gr.cell (SC.cell 1)
      have e2 : ∀ p : Gr V, p.W.cell? ⟨g, 2, none⟩ = some (.int .i64 s.l0) := Gr.cell (SC.cell 2)
      have e3 : ∀ p : Gr V, p.W.cell? ⟨g, 3, none⟩ = some (.int .i64 s.l1) := Gr.cell (SC.cell 3)
      have e4 : ∀ p : Gr V, p.W.cell? ⟨g, 4, none⟩ = some (.int .i64 s.l2) := Gr.cell (SC.cell 4)
      have e5 : ∀ p : Gr V, p.W.cell? ⟨g, 5, none⟩ = some (.int .i64 s.l3) := Gr.cell (SC.cell 5)
      have e6 : ∀ p : Gr V, p.W.cell? ⟨g, 6, none⟩ = some (.slice h.A3 s.rows.length h.c3) := Gr.cell (SC.cell 6)
      have e7 : ∀ p : Gr V, p.W.cell? ⟨g, 7, none⟩ = some (.slice h.A4 s.frames.length h.c4) := Gr.cell (SC.cell 7)
      have e8 : ∀ p : Gr V, p.W.cell? ⟨g, 8, none⟩ = some (.slice h.A5 s.tanks.length h.c5) := Gr.cell (SC.cell 8)
      have e9 : ∀ p : Gr V, p.W.cell? ⟨g, 9, none⟩ = some (.int .i64 s.m0) := Gr.cell (SC.cell 9)
      have e10 : ∀ p : Gr V, p.W.cell? ⟨g, 10, none⟩ = some (.int .i64 s.m1) := Gr.cell (SC.cell 10)
      have e11 : ∀ p : Gr V, p.W.cell? ⟨g, 11, none⟩ = some (.int .i64 s.m2) := Gr.cell (SC.cell 11)
      have e12 : ∀ p : Gr V, p.W.cell? ⟨g, 12, none⟩ = some (.int .i64 s.m3) := Gr.cell (SC.cell 12)
      clear SC HWV HW4 HLM HLD
      refine wp_region_gr (by kernel_rfl) (by kernel_rfl) ?_
      repeat (go_big_quiet_step ((first | (with_reducible exact Gr.call _ (fun V hV => HK1.out V hV)) | (with_reducible exact Gr.call _ (fun V hV => HK2.out V hV)) | (with_reducible exact Gr.call _ (fun V hV => HK3.out V hV)) | (with_reducible exact Gr.call _ (fun V hV => HK4.out V hV)) | (with_reducible exact Gr.call _ (fun V hV => HK5.out V hV)) | (with_reducible exact Gr.call _ (fun V hV => HK6.out V hV)) | (with_reducible exact Gr.call _ (fun V hV => HK7.out V hV)))))
      refine wpQuiet_nil ?_
      rintro Y ⟨⟨_, hbY⟩, rfl⟩
      clear e0 e1 e2 e3 e4 e5 e6 e7 e8 e9 e10 e11 e12
      clear HK1 HK2 HK3 HK4 HK5 HK6 HK7 HEQ
      go_wp2_with fail
      go_ret
      exact ⟨rfl, HBE.out.trans (hbY.mono HBE.out.size)⟩
end Go.Proofs.Ytncfakkajknhaaa
