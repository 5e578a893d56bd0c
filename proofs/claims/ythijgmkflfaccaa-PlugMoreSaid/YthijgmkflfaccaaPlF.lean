/-
  The walk of plug.Spare.
-/
import Derived.Test.YthijgmkflfaccaaPlE
namespace Go.Proofs.Ythijgmkflfaccaa
open Go.RowKit

theorem idx_any {α : Type} (p : α → Bool) (l : List α) : decide (0 ≤ idxF p l) = l.any p := by
  unfold idxF
  cases h : l.findIdx? p with
  | none =>
    rw [List.findIdx?_eq_none_iff] at h
    have : l.any p = false := by simpa using h
    rw [this]; rfl
  | some i =>
    obtain ⟨hi, hp, _⟩ := List.findIdx?_eq_some_iff_getElem.1 h
    have : l.any p = true := by simp only [List.any_eq_true]; exact ⟨_, List.getElem_mem hi, hp⟩
    rw [this]; simp
set_option maxRecDepth 100000 in
set_option maxHeartbeats 2000000 in
theorem containsStw_any (A : Option Addr) (c : Nat) (l : List Stw) (fid : FuncId) (caps : Array Value) (p : Stw → Bool) (w : World) (hs : SlT tStw w (Lt w.heap.size) A l) (hl : l.length ≤ 1000000) (hent : ∀ (args : Array Value) (w : World), (callFunc fid args).run Try.prog w = .ok (.enter fid args) w) (hf : StwFn w l fid caps p) :
    Calls Try.prog 39 #[.slice A l.length c, .func (.func fid) #[] caps] w (Ret w (.bool (l.any p))) := by
  have KI := Lib.hid (indexFuncStw_any A c l fid caps p w hs hl hent hf)
  have HV := Lib.hid (idx_any p l)
  clear hs hl hf hent
  generalize idxF p l = i at *
  generalize l.any p = r at *
  have hv := HV.out
  go_enter Try.func39, Try.ntmps39
  go_wp2_with fail
  refine KI.out.mono ?_
  rintro e w1 ⟨rfl, hb1⟩
  simp only
  clear KI
  go_wp2_with fail
  go_ret
  exact ⟨by rw [← hv]; rfl, hb1⟩
theorem int_gt (q : Bool) : decide ((0 : Int) < (if q = true then (1 : Int) else 0)) = q := by cases q <;> rfl
set_option maxRecDepth 100000 in
set_option maxHeartbeats 4000000 in
theorem spare1 (s : Shp) (A2 : Option Addr) (c2 : Nat) (st : List Stw) (x : Slt) (ga gl bm n : Nat) (w : World) (hm : Pairs w bm n (pairsF s)) (ha : w.cell? ⟨ga, 0, none⟩ = some (.map (some bm))) (hgl : w.cell? ⟨gl, 0, none⟩ = some (.slice A2 st.length c2)) (hs : SlT tStw w (Lt w.heap.size) A2 st) (hl : st.length ≤ 1000000) (hx : I64 x.col ∧ I64 x.tier) :
    Calls Try.prog 37 #[.agg (sltL x).toArray, .pointer (some ⟨ga, 0, none⟩), .pointer (some ⟨gl, 0, none⟩)] w (Ret w (.bool (spareP s st x))) := by
  have hb0 := ba1 w (.cells (sltL x).toArray 47)
  have HX := Lib.hid (Bk.new w 47 (sltL x).toArray)
  have KC := Lib.hid (containsStw_any A2 c2 st 38 #[.pointer (some ⟨w.heap.size, 0, none⟩)] (fun y => meetB x y.slot) _ (hs.on hb0) hl Try.call38 (fun y w' _ hb' => spare11 x y _ w' (HX.out.below hb' HX.out.lt)))
  have hla := block_lt_of_cell ha
  have hlg := block_lt_of_cell hgl
  simp only at hla hlg
  have HV : Hid (spareP s st x = ((pairsF s).contains (x.col, x.tier) && !(st.any fun y => meetB x y.slot))) := Lib.hid rfl
  have hlk := pairs_look (hm.on hb0) x.col x.tier hx.1 hx.2
  have HB0 := Lib.hid hb0
  clear hm hs hb0 hx
  generalize (st.any fun y => meetB x y.slot) = r2 at *
  generalize spareP s st x = r at *
  generalize (pairsF s).contains (x.col, x.tier) = q at *
  obtain ⟨x0, x1, x2⟩ := x
  unfold sltL at *
  simp only at *
  cases q with
  | false =>
    have hlk0 : (Instr.lookup 82 (.map (some bm)) (.agg #[.int .i64 x0, .int .i64 x1]) false).run Try.prog (w.alloc (.cells #[.int .i64 x0, .int .i64 x1, .int .u8 (x2 : Nat)] 47)) = .ok (.int .i64 0) (w.alloc (.cells #[.int .i64 x0, .int .i64 x1, .int .u8 (x2 : Nat)] 47)) := by rw [hlk]; rfl
    clear hlk
    go_enter Try.func37, Try.ntmps37
    go_wp2_with fail
    go_ret
    exact ⟨by rw [HV.out]; rfl, HB0.out⟩
  | true =>
    have hlk0 : (Instr.lookup 82 (.map (some bm)) (.agg #[.int .i64 x0, .int .i64 x1]) false).run Try.prog (w.alloc (.cells #[.int .i64 x0, .int .i64 x1, .int .u8 (x2 : Nat)] 47)) = .ok (.int .i64 1) (w.alloc (.cells #[.int .i64 x0, .int .i64 x1, .int .u8 (x2 : Nat)] 47)) := by rw [hlk]; rfl
    clear hlk
    go_enter Try.func37, Try.ntmps37
    go_wp2_with fail
    refine KC.out.mono ?_
    rintro e w1 ⟨rfl, hb1⟩
    simp only
    clear KC
    go_wp2_with fail
    go_ret
    exact ⟨by rw [HV.out]; rfl, HB0.out.trans (hb1.mono HB0.out.size)⟩
set_option maxRecDepth 100000 in
set_option maxHeartbeats 4000000 in
theorem pSpare_any (s : Shp) (h : Hd) (A2 : Option Addr) (c2 : Nat) (st : List Stw) (size : Nat) (w : World) (hsh : ShpR w (Lt w.heap.size) s h) (hf : Few s) (hi : Ints s) (hcl : s.cols.length ≤ 1000000) (hT : ∀ c, tiersN s c ≤ 1000000) (hN : (allF s size).length ≤ 1000000)
    (hs : SlT tStw w (Lt w.heap.size) A2 st) (hl : st.length ≤ 1000000) :
    Calls Try.prog 14 #[.agg (shpA s h), .slice A2 st.length c2, .int .u8 (size : Nat)] w (OwnL tSlt 47 w (spareF s st size)) := by
  have hb0 := ba2 w (.cells (shpA s h) 37) (.cells #[.slice A2 st.length c2] 39)
  have KP := Lib.hid (plugs_any s h _ (hsh.on hb0) hf hi)
  have HK1 := Lib.hid ((Bk.new w 37 (shpA s h)).alloc (.cells #[.slice A2 st.length c2] 39))
  have HK2 := Lib.hid (Bk.at_ (w := w.alloc (.cells (shpA s h) 37)) (g := w.heap.size + 1) 39 #[.slice A2 st.length c2] (by simp))
  have HSH := Lib.hid (hsh.on hb0)
  have HST := Lib.hid (hs.on hb0)
  have HB0 := Lib.hid hb0
  have HV : Hid (spareF s st size = (allF s size).filter (spareP s st)) := Lib.hid rfl
  have HIN : Hid (∀ x ∈ allF s size, I64 x.col ∧ I64 x.tier) := Lib.hid fun x hx => by
    obtain ⟨c, t, h1, h2, h3, h4, _⟩ := mem_all.1 hx
    have := hT c
    unfold I64
    omega
  have KA := Lib.hid (fun (V : World) (hV : Below ((w.alloc (.cells (shpA s h) 37)).alloc (.cells #[.slice A2 st.length c2] 39)).heap.size ((w.alloc (.cells (shpA s h) 37)).alloc (.cells #[.slice A2 st.length c2] 39)) V) => all_any s h size V ((hsh.on hb0).on hV) hcl hT hN)
  clear hsh hs hb0 hT
  unfold shpA at *
  go_enter Try.func14, Try.ntmps14
  go_wp2_with fail
  generalize ((w.alloc _).alloc _) = w0 at *
  refine KP.out.mono ?_
  rintro e w1 ⟨bm, n, rfl, hm, hb1⟩
  simp only
  have hb2 := hb1.trans ((ba1 w1 (.cells #[.map (some bm)] 82)).mono hb1.size)
  have HM := Lib.hid (hm.on (ba1 w1 (.cells #[.map (some bm)] 82)))
  have HKM := Lib.hid (Bk.new w1 82 #[.map (some bm)])
  have HB2 := Lib.hid (HB0.out.trans (hb2.mono HB0.out.size))
  have HST1 := Lib.hid (HST.out.on hb2)
  have HK3 := Lib.hid (HK1.out.below hb2 HK1.out.lt)
  have HK4 := Lib.hid (HK2.out.below hb2 HK2.out.lt)
  have KA1 := Lib.hid (KA.out _ hb2)
  clear KP HST HB0 HK1 HK2 HSH KA hm hb1 hb2
  try clear w0
  go_upto_region 2 with fail
  generalize w1.heap.size = ga at *
  generalize (w1.alloc _) = W at *
  try clear w1
  have e0 : W.cell? ⟨w.heap.size, 0, none⟩ = some (.slice h.A1 s.cols.length h.c1) := HK3.out.cell 0
  have e1 : W.cell? ⟨w.heap.size, 1, none⟩ = some (.slice h.A2 s.covs.length h.c2) := HK3.out.cell 1
  have e2 : W.cell? ⟨w.heap.size, 2, none⟩ = some (.int .i64 s.l0) := HK3.out.cell 2
  have e3 : W.cell? ⟨w.heap.size, 3, none⟩ = some (.int .i64 s.l1) := HK3.out.cell 3
  have e4 : W.cell? ⟨w.heap.size, 4, none⟩ = some (.int .i64 s.l2) := HK3.out.cell 4
  have e5 : W.cell? ⟨w.heap.size, 5, none⟩ = some (.int .i64 s.l3) := HK3.out.cell 5
  have e6 : W.cell? ⟨w.heap.size, 6, none⟩ = some (.slice h.A3 s.rows.length h.c3) := HK3.out.cell 6
  have e7 : W.cell? ⟨w.heap.size, 7, none⟩ = some (.slice h.A4 s.frames.length h.c4) := HK3.out.cell 7
  have e8 : W.cell? ⟨w.heap.size, 8, none⟩ = some (.slice h.A5 s.tanks.length h.c5) := HK3.out.cell 8
  have e9 : W.cell? ⟨w.heap.size, 9, none⟩ = some (.int .i64 s.m0) := HK3.out.cell 9
  have e10 : W.cell? ⟨w.heap.size, 10, none⟩ = some (.int .i64 s.m1) := HK3.out.cell 10
  have e11 : W.cell? ⟨w.heap.size, 11, none⟩ = some (.int .i64 s.m2) := HK3.out.cell 11
  have e12 : W.cell? ⟨w.heap.size, 12, none⟩ = some (.int .i64 s.m3) := HK3.out.cell 12
  generalize allF s size = L at *
  go_wp2_with fail
  refine KA1.out.mono ?_
  rintro e w2 ⟨v, rfl, hv, hb2⟩
  simp only
  obtain ⟨AF, cF, rfl, _, _, hsF⟩ := OwnT.sl hv
  have HST2 := Lib.hid (HST1.out.on hb2)
  have HM2 := Lib.hid (HM.out.on hb2)
  have HKM2 := Lib.hid (HKM.out.below hb2 HKM.out.lt)
  have HK5 := Lib.hid (HK4.out.below hb2 HK4.out.lt)
  have KO := Lib.hid (onlySlt_any AF cF L 37 #[.pointer (some ⟨ga, 0, none⟩), .pointer (some ⟨w.heap.size + 1, 0, none⟩)] (spareP s st) w2 hsF hN Try.call37 (fun x w' hx hb' => spare1 s A2 c2 st x ga (w.heap.size + 1) bm n w' (HM2.out.on hb') ((HKM2.out.below hb' HKM2.out.lt).cell 0) ((HK5.out.below hb' HK5.out.lt).cell 0) (HST2.out.on hb') hl (HIN.out x hx)))
  have HB3 := Lib.hid (HB2.out.trans (hb2.mono HB2.out.size))
  clear KA1 hv hsF hb2 HB2 HST1 HM HKM HK3 HK4 e0 e1 e2 e3 e4 e5 e6 e7 e8 e9 e10 e11 e12
  go_wp2_with fail
  refine KO.out.mono ?_
  rintro e w3 ⟨v, rfl, hv, hb3⟩
  simp only
  go_wp2_with fail
  go_ret
  exact ⟨_, rfl, by rw [HV.out]; exact hv.down HB3.out.size, HB3.out.trans (hb3.mono HB3.out.size)⟩
end Go.Proofs.Ythijgmkflfaccaa
