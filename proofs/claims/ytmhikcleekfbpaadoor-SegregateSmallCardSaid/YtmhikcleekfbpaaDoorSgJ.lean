/-
  Walks of package segregate: Against, Free.
-/
import Derived.Test.YtmhikcleekfbpaaDoorSgH
namespace Go.Proofs.YtmhikcleekfbpaaDoor
open Go.RowKit

/-- A list of the call's own, and an error. -/
def ErRet {α : Type} (T : Ty α) (t : TypeId) (w : World) (er : Nat) (l : List α) (e : Ending) (w' : World) : Prop :=
  Below w.heap.size w w' ∧ ∃ v, e = .returned (.tuple #[v, .int .i64 (er : Nat)]) ∧ OwnT T t w' w.heap.size v (if er = 0 then l else [])
theorem goods_ten {s : Shp} {boxes : List Bx} {l : List Stw} {id : Int} (h : oErr s boxes l id = 0) : ∀ g ∈ goodsF boxes l, g.cls < 10 := fun g hg => (goods_cls (dErr_ok (oErr_ok h).1).2.1 g hg).2.1
set_option maxRecDepth 100000 in
set_option maxHeartbeats 8000000 in
theorem Against_any (s : Shp) (h : Hd) (A : Option Addr) (c : Nat) (boxes : List Bx) (A2 : Option Addr) (c2 : Nat) (l : List Stw) (x : Stw) (w : World) (hsh : ShpR w (Lt w.heap.size) s h) (hf : Few s) (hi : Ints s) (hcl : s.cols.length ≤ 1000000)
    (hb : SlT tBx w (Lt w.heap.size) A boxes) (hbl : boxes.length ≤ 1000000) (hs : SlT tStw w (Lt w.heap.size) A2 l) (hl : l.length ≤ 1000000) (hlc : l.length ≤ c2) (ht : ∀ x ∈ l, x.slot.tier ≤ 9223372036854775807) (hn : NamesOK w) (hr : ∀ c ∈ s.cols, I64 c.row) (htb : TabOK w) :
    Calls Tryd.prog 15 #[.agg (shpA s h), .slice A boxes.length c, .slice A2 l.length c2, .agg (stwL x).toArray] w (ErRet tInt 3 w (oErr s boxes l x.box) (againstF s (goodsF boxes l) x (clsF boxes x.box))) := by
  obtain ⟨xb, xc, xt, xh⟩ := x
  have hb0 := ba2 w (.cells (shpA s h) 32) (.cells #[.int .i64 xb, .int .i64 xc, .int .i64 xt, .int .u8 (xh : Nat)] 44)
  have HB0 := Lib.hid hb0
  have KO := Lib.hid (other_any s h A c boxes A2 c2 l xb _ (hsh.on hb0) hf hi hcl (hb.on hb0) hbl (hs.on hb0) hl hlc ht (hn.below hb0 hn.lt))
  have KAG := Lib.hid (fun (V : World) (hV : Below w.heap.size w V) (Ag : Option Addr) (cg : Nat) (gs : List Gd) (y : Stw) (cls : Nat) (hg : SlT tGd V (Lt V.heap.size) Ag gs) (hgl : gs.length ≤ 1000000) (hgc : ∀ g ∈ gs, g.cls < 10) (hc : cls < 10) => against_any s h Ag cg gs y cls V (hsh.on hV) hcl hr hg hgl hgc hc (htb.below hV htb.lt))
  have HOK : Hid (oErr s boxes l xb = 0 → (goodsF boxes l).length ≤ 1000000 ∧ (∀ g ∈ goodsF boxes l, g.cls < 10) ∧ (findBx boxes xb).1.cls < 10) := Lib.hid fun h => ⟨by have := (dErr_ok (oErr_ok h).1).2.2; omega, goods_ten h, (oErr_ok h).2.2⟩
  have KE := Lib.hid ((Bk.new w 32 (shpA s h)).alloc (.cells #[.int .i64 xb, .int .i64 xc, .int .i64 xt, .int .u8 (xh : Nat)] 44))
  have KX := Lib.hid (Bk.nxt14 (w := w) (.cells (shpA s h) 32) 44 #[.int .i64 xb, .int .i64 xc, .int .i64 xt, .int .u8 (xh : Nat)])
  have HR : Hid (∀ e W, ErRet tInt 3 w (oErr s boxes l xb) (againstF s (goodsF boxes l) ⟨xb, ⟨xc, xt, xh⟩⟩ (clsF boxes xb)) e W = (Below w.heap.size w W ∧ ∃ v, e = .returned (.tuple #[v, .int .i64 (oErr s boxes l xb : Nat)]) ∧ OwnT tInt 3 W w.heap.size v (if oErr s boxes l xb = 0 then againstF s (goodsF boxes l) ⟨xb, ⟨xc, xt, xh⟩⟩ (findBx boxes xb).1.cls else []))) := Lib.hid fun _ _ => rfl
  clear hb hs hn hsh hb0 hf hi ht hr htb
  unfold OthRet at KO
  simp only at *
  generalize ErRet tInt 3 w (oErr s boxes l xb) (againstF s (goodsF boxes l) ⟨xb, ⟨xc, xt, xh⟩⟩ (clsF boxes xb)) = RET at *
  generalize oErr s boxes l xb = oe at *
  generalize findBx boxes xb = fb at *
  generalize goodsF boxes l = G at *
  unfold shpA at *
  unfold stwL at *
  simp only at *
  go_enter Tryd.func15, Tryd.ntmps15
  go_upto_region 1 with fail
  generalize (w.alloc _).alloc _ = W at *
  have e0 : W.cell? ⟨w.heap.size, 0, none⟩ = some (Value.slice h.A1 s.cols.length h.c1) := KE.out.cell 0
  have e1 : W.cell? ⟨w.heap.size, 1, none⟩ = some (Value.slice h.A2 s.covs.length h.c2) := KE.out.cell 1
  have e2 : W.cell? ⟨w.heap.size, 2, none⟩ = some (.int .i64 s.l0) := KE.out.cell 2
  have e3 : W.cell? ⟨w.heap.size, 3, none⟩ = some (.int .i64 s.l1) := KE.out.cell 3
  have e4 : W.cell? ⟨w.heap.size, 4, none⟩ = some (.int .i64 s.l2) := KE.out.cell 4
  have e5 : W.cell? ⟨w.heap.size, 5, none⟩ = some (.int .i64 s.l3) := KE.out.cell 5
  have e6 : W.cell? ⟨w.heap.size, 6, none⟩ = some (Value.slice h.A3 s.rows.length h.c3) := KE.out.cell 6
  have e7 : W.cell? ⟨w.heap.size, 7, none⟩ = some (Value.slice h.A4 s.frames.length h.c4) := KE.out.cell 7
  have e8 : W.cell? ⟨w.heap.size, 8, none⟩ = some (Value.slice h.A5 s.tanks.length h.c5) := KE.out.cell 8
  have e9 : W.cell? ⟨w.heap.size, 9, none⟩ = some (.int .i64 s.m0) := KE.out.cell 9
  have e10 : W.cell? ⟨w.heap.size, 10, none⟩ = some (.int .i64 s.m1) := KE.out.cell 10
  have e11 : W.cell? ⟨w.heap.size, 11, none⟩ = some (.int .i64 s.m2) := KE.out.cell 11
  have e12 : W.cell? ⟨w.heap.size, 12, none⟩ = some (.int .i64 s.m3) := KE.out.cell 12
  have z0 : W.cell? ⟨w.heap.size + 1, 0, none⟩ = some (.int .i64 xb) := KX.out.cell 0
  go_wp2_with fail
  refine KO.out.mono ?_
  rintro e w1 ⟨hb, v, bx, rfl, ho⟩
  simp only
  have HB1 := Lib.hid (HB0.out.trans (hb.mono HB0.out.size))
  have KE1 := Lib.hid (KE.out.below hb KE.out.lt)
  have KX1 := Lib.hid (KX.out.below hb KX.out.lt)
  have HO := Lib.hid ho
  have hsz0 := HB0.out.size
  clear hb ho KO KE KX HB0 z0 e0 e1 e2 e3 e4 e5 e6 e7 e8 e9 e10 e11 e12
  by_cases hoe : oe = 0
  · subst hoe
    obtain ⟨hbx, hown⟩ := HO.out (by first | rfl | trivial)
    subst hbx
    obtain ⟨hgl, hgc, hcc⟩ := HOK.out (by first | rfl | trivial)
    have HGC := Lib.hid hgc
    simp only [if_true] at HR
    obtain ⟨⟨b0, b1, b2, b3, b4, b5, b6, b7, b8⟩, ok⟩ := fb
    simp only at hcc HR
    have HBB := Lib.hid (Bk.new w1 41 #[.int .i64 b0, .string b1, .int .u8 (b2 : Nat), .bool b3, .int .i64 b4, .int .i64 b5, .int .i64 b6, .int .u8 (b7 : Nat), .bool b8])
    have hb9 := ba1 w1 (.cells #[.int .i64 b0, .string b1, .int .u8 (b2 : Nat), .bool b3, .int .i64 b4, .int .i64 b5, .int .i64 b6, .int .u8 (b7 : Nat), .bool b8] 41)
    have HB2 := Lib.hid (HB1.out.trans (hb9.mono HB1.out.size))
    have KE2 := Lib.hid (KE1.out.below hb9 KE1.out.lt)
    have KX2 := Lib.hid (KX1.out.below hb9 KX1.out.lt)
    obtain ⟨Ag, cg, rfl, _, _, hgs⟩ := hown.sl
    have HGS := Lib.hid (hgs.on hb9)
    clear HO HOK hgc hown hgs hb9 KE1 KX1 HB1
    unfold bxL
    simp only
    go_upto_region 2 with fail
    generalize w1.heap.size = gb at *
    generalize (w1.alloc _) = Z at *
    try clear w1
    have KA1 := Lib.hid (KAG.out Z HB2.out Ag cg G ⟨xb, ⟨xc, xt, xh⟩⟩ b7 HGS.out hgl HGC.out hcc)
    unfold stwL at KA1
    simp only at KA1
    clear KAG
    generalize againstF s G ⟨xb, ⟨xc, xt, xh⟩⟩ b7 = R at *
    have SC := KE2.out
    have e0 : Z.cell? ⟨w.heap.size, 0, none⟩ = some (Value.slice h.A1 s.cols.length h.c1) := SC.cell 0
    have e1 : Z.cell? ⟨w.heap.size, 1, none⟩ = some (Value.slice h.A2 s.covs.length h.c2) := SC.cell 1
    have e2 : Z.cell? ⟨w.heap.size, 2, none⟩ = some (.int .i64 s.l0) := SC.cell 2
    have e3 : Z.cell? ⟨w.heap.size, 3, none⟩ = some (.int .i64 s.l1) := SC.cell 3
    have e4 : Z.cell? ⟨w.heap.size, 4, none⟩ = some (.int .i64 s.l2) := SC.cell 4
    have e5 : Z.cell? ⟨w.heap.size, 5, none⟩ = some (.int .i64 s.l3) := SC.cell 5
    have e6 : Z.cell? ⟨w.heap.size, 6, none⟩ = some (Value.slice h.A3 s.rows.length h.c3) := SC.cell 6
    have e7 : Z.cell? ⟨w.heap.size, 7, none⟩ = some (Value.slice h.A4 s.frames.length h.c4) := SC.cell 7
    have e8 : Z.cell? ⟨w.heap.size, 8, none⟩ = some (Value.slice h.A5 s.tanks.length h.c5) := SC.cell 8
    have e9 : Z.cell? ⟨w.heap.size, 9, none⟩ = some (.int .i64 s.m0) := SC.cell 9
    have e10 : Z.cell? ⟨w.heap.size, 10, none⟩ = some (.int .i64 s.m1) := SC.cell 10
    have e11 : Z.cell? ⟨w.heap.size, 11, none⟩ = some (.int .i64 s.m2) := SC.cell 11
    have e12 : Z.cell? ⟨w.heap.size, 12, none⟩ = some (.int .i64 s.m3) := SC.cell 12
    have z7 : Z.cell? ⟨gb, 7, none⟩ = some (.int .u8 (b7 : Nat)) := HBB.out.cell 7
    have q0 : Z.cell? ⟨w.heap.size + 1, 0, none⟩ = some (.int .i64 xb) := KX2.out.cell 0
    have q1 : Z.cell? ⟨w.heap.size + 1, 1, none⟩ = some (.int .i64 xc) := KX2.out.cell 1
    have q2 : Z.cell? ⟨w.heap.size + 1, 2, none⟩ = some (.int .i64 xt) := KX2.out.cell 2
    have q3 : Z.cell? ⟨w.heap.size + 1, 3, none⟩ = some (.int .u8 (xh : Nat)) := KX2.out.cell 3
    clear SC
    go_wp2_with fail
    refine KA1.out.mono ?_
    rintro e Y ⟨u, rfl, hu, hbY⟩
    simp only
    go_wp2_with fail
    (try go_ret2)
    rw [HR.out]
    exact ⟨HB2.out.trans (hbY.mono HB2.out.size), u, rfl, hu.down HB2.out.size⟩
  · have hne : ((oe : Int) != 0) = true := by simp; omega
    have HE2 : Hid (∀ e W, RET e W = (Below w.heap.size w W ∧ ∃ v, e = .returned (.tuple #[v, .int .i64 (oe : Nat)]) ∧ OwnT tInt 3 W w.heap.size v [])) := Lib.hid fun e W => by rw [HR.out, if_neg hoe]
    clear HO HOK KAG HR hoe
    obtain ⟨b0, b1, b2, b3, b4, b5, b6, b7, b8⟩ := bx
    have HB2 := Lib.hid (HB1.out.trans ((ba1 w1 (.cells #[.int .i64 b0, .string b1, .int .u8 (b2 : Nat), .bool b3, .int .i64 b4, .int .i64 b5, .int .i64 b6, .int .u8 (b7 : Nat), .bool b8] 41)).mono HB1.out.size))
    unfold bxL
    simp only
    go_upto_region 2 with fail
    generalize w1.heap.size = gb at *
    generalize (w1.alloc _) = Z at *
    go_wp2_with fail
    (try go_ret2)
    rw [HE2.out]
    exact ⟨HB2.out, _, rfl, OwnT.nil⟩
set_option maxRecDepth 100000 in
set_option maxHeartbeats 8000000 in
theorem Free_any (s : Shp) (h : Hd) (A : Option Addr) (c : Nat) (boxes : List Bx) (A2 : Option Addr) (c2 : Nat) (l : List Stw) (id : Int) (w : World) (hsh : ShpR w (Lt w.heap.size) s h) (hf : Few s) (hi : Ints s) (hcl : s.cols.length ≤ 1000000)
    (hb : SlT tBx w (Lt w.heap.size) A boxes) (hbl : boxes.length ≤ 1000000) (hs : SlT tStw w (Lt w.heap.size) A2 l) (hl : l.length ≤ 1000000) (hlc : l.length ≤ c2) (ht : ∀ x ∈ l, x.slot.tier ≤ 9223372036854775807) (hn : NamesOK w) (hr : ∀ c ∈ s.cols, I64 c.row) (htb : TabOK w) (hT : ∀ c, tiersN s c ≤ 1000000) (hN : ∀ size, (allF s size).length ≤ 1000000) :
    Calls Tryd.prog 17 #[.agg (shpA s h), .slice A boxes.length c, .slice A2 l.length c2, .int .i64 id] w (ErRet tSlt 37 w (oErr s boxes l id) (freeS s boxes l id)) := by
  have hb0 := ba1 w (.cells (shpA s h) 32)
  have HB0 := Lib.hid hb0
  have KO := Lib.hid (other_any s h A c boxes A2 c2 l id _ (hsh.on hb0) hf hi hcl (hb.on hb0) hbl (hs.on hb0) hl hlc ht (hn.below hb0 hn.lt))
  have KAG := Lib.hid (fun (V : World) (hV : Below w.heap.size w V) (Ag : Option Addr) (cg : Nat) (gs : List Gd) (y : Stw) (cls : Nat) (hg : SlT tGd V (Lt V.heap.size) Ag gs) (hgl : gs.length ≤ 1000000) (hgc : ∀ g ∈ gs, g.cls < 10) (hc : cls < 10) => against_any s h Ag cg gs y cls V (hsh.on hV) hcl hr hg hgl hgc hc (htb.below hV htb.lt))
  have HOK : Hid (oErr s boxes l id = 0 → (goodsF boxes l).length ≤ 1000000 ∧ (∀ g ∈ goodsF boxes l, g.cls < 10) ∧ (findBx boxes id).1.cls < 10) := Lib.hid fun h => ⟨by have := (dErr_ok (oErr_ok h).1).2.2; omega, goods_ten h, (oErr_ok h).2.2⟩
  have KAL := Lib.hid (fun (V : World) (hV : Below w.heap.size w V) (size : Nat) => all_any s h size V (hsh.on hV) hcl hT (hN size))
  have KE := Lib.hid (Bk.new w 32 (shpA s h))
  have HR : Hid (∀ e W, ErRet tSlt 37 w (oErr s boxes l id) (freeS s boxes l id) e W = (Below w.heap.size w W ∧ ∃ v, e = .returned (.tuple #[v, .int .i64 (oErr s boxes l id : Nat)]) ∧ OwnT tSlt 37 W w.heap.size v (if oErr s boxes l id = 0 then freeS s boxes l id else []))) := Lib.hid fun _ _ => rfl
  have HFD : Hid (freeS s boxes l id = (allF s (findBx boxes id).1.size).filter fun x => decide ((againstF s (goodsF boxes l) ⟨id, x⟩ (findBx boxes id).1.cls).length = 0)) := Lib.hid rfl
  have HNN := Lib.hid hN
  clear hb hs hn hsh hb0 hf hi ht hr htb hT hN
  unfold OthRet at KO
  generalize ErRet tSlt 37 w (oErr s boxes l id) (freeS s boxes l id) = RET at *
  generalize oErr s boxes l id = oe at *
  generalize freeS s boxes l id = R at *
  generalize findBx boxes id = fb at *
  generalize goodsF boxes l = G at *
  unfold shpA at *
  go_enter Tryd.func17, Tryd.ntmps17
  go_upto_region 1 with fail
  generalize (w.alloc _) = W at *
  have e0 : W.cell? ⟨w.heap.size, 0, none⟩ = some (Value.slice h.A1 s.cols.length h.c1) := KE.out.cell 0
  have e1 : W.cell? ⟨w.heap.size, 1, none⟩ = some (Value.slice h.A2 s.covs.length h.c2) := KE.out.cell 1
  have e2 : W.cell? ⟨w.heap.size, 2, none⟩ = some (.int .i64 s.l0) := KE.out.cell 2
  have e3 : W.cell? ⟨w.heap.size, 3, none⟩ = some (.int .i64 s.l1) := KE.out.cell 3
  have e4 : W.cell? ⟨w.heap.size, 4, none⟩ = some (.int .i64 s.l2) := KE.out.cell 4
  have e5 : W.cell? ⟨w.heap.size, 5, none⟩ = some (.int .i64 s.l3) := KE.out.cell 5
  have e6 : W.cell? ⟨w.heap.size, 6, none⟩ = some (Value.slice h.A3 s.rows.length h.c3) := KE.out.cell 6
  have e7 : W.cell? ⟨w.heap.size, 7, none⟩ = some (Value.slice h.A4 s.frames.length h.c4) := KE.out.cell 7
  have e8 : W.cell? ⟨w.heap.size, 8, none⟩ = some (Value.slice h.A5 s.tanks.length h.c5) := KE.out.cell 8
  have e9 : W.cell? ⟨w.heap.size, 9, none⟩ = some (.int .i64 s.m0) := KE.out.cell 9
  have e10 : W.cell? ⟨w.heap.size, 10, none⟩ = some (.int .i64 s.m1) := KE.out.cell 10
  have e11 : W.cell? ⟨w.heap.size, 11, none⟩ = some (.int .i64 s.m2) := KE.out.cell 11
  have e12 : W.cell? ⟨w.heap.size, 12, none⟩ = some (.int .i64 s.m3) := KE.out.cell 12
  go_wp2_with fail
  refine KO.out.mono ?_
  rintro e w1 ⟨hb, v, bx, rfl, ho⟩
  simp only
  have HB1 := Lib.hid (HB0.out.trans (hb.mono HB0.out.size))
  have KE1 := Lib.hid (KE.out.below hb KE.out.lt)
  have HO := Lib.hid ho
  clear hb ho KO KE HB0 e0 e1 e2 e3 e4 e5 e6 e7 e8 e9 e10 e11 e12
  by_cases hoe : oe = 0
  · subst hoe
    obtain ⟨hbx, hown⟩ := HO.out (by first | rfl | trivial)
    subst hbx
    obtain ⟨hgl, hgc, hcc⟩ := HOK.out (by first | rfl | trivial)
    have HGC := Lib.hid hgc
    simp only [if_true] at HR
    obtain ⟨⟨b0, b1, b2, b3, b4, b5, b6, b7, b8⟩, ok⟩ := fb
    simp only at hcc HFD
    have HBB := Lib.hid (Bk.new w1 41 #[.int .i64 b0, .string b1, .int .u8 (b2 : Nat), .bool b3, .int .i64 b4, .int .i64 b5, .int .i64 b6, .int .u8 (b7 : Nat), .bool b8])
    have hb9 := ba1 w1 (.cells #[.int .i64 b0, .string b1, .int .u8 (b2 : Nat), .bool b3, .int .i64 b4, .int .i64 b5, .int .i64 b6, .int .u8 (b7 : Nat), .bool b8] 41)
    have HB2 := Lib.hid (HB1.out.trans (hb9.mono HB1.out.size))
    have KE2 := Lib.hid (KE1.out.below hb9 KE1.out.lt)
    obtain ⟨Ag, cg, rfl, _, _, hgs⟩ := hown.sl
    have HGS := Lib.hid (hgs.on hb9)
    clear HO HOK hgc hown hgs hb9 KE1 HB1
    unfold bxL
    simp only
    go_upto_region 2 with fail
    generalize w1.heap.size = gb at *
    generalize (w1.alloc _) = Z at *
    try clear w1
    have KA1 := Lib.hid (fun (V : World) (hV : Below Z.heap.size Z V) (y : Slt) => KAG.out V (HB2.out.trans (hV.mono HB2.out.size)) Ag cg G ⟨id, y⟩ b7 (HGS.out.on hV) hgl HGC.out hcc)
    have KAL1 := Lib.hid (KAL.out Z HB2.out b2)
    have hLN := HNN.out b2
    obtain ⟨pf, hpf⟩ : ∃ pf : Slt → Bool, pf = fun x => decide ((againstF s G ⟨id, x⟩ b7).length = 0) := ⟨_, rfl⟩
    have HPF : Hid (∀ x, pf x = decide ((againstF s G ⟨id, x⟩ b7).length = 0)) := Lib.hid fun x => by rw [hpf]
    rw [← hpf] at HFD
    clear KAG KAL HNN HGC hpf
    generalize allF s b2 = AL at *
    have SC := KE2.out
    have e0 : Z.cell? ⟨w.heap.size, 0, none⟩ = some (Value.slice h.A1 s.cols.length h.c1) := SC.cell 0
    have e1 : Z.cell? ⟨w.heap.size, 1, none⟩ = some (Value.slice h.A2 s.covs.length h.c2) := SC.cell 1
    have e2 : Z.cell? ⟨w.heap.size, 2, none⟩ = some (.int .i64 s.l0) := SC.cell 2
    have e3 : Z.cell? ⟨w.heap.size, 3, none⟩ = some (.int .i64 s.l1) := SC.cell 3
    have e4 : Z.cell? ⟨w.heap.size, 4, none⟩ = some (.int .i64 s.l2) := SC.cell 4
    have e5 : Z.cell? ⟨w.heap.size, 5, none⟩ = some (.int .i64 s.l3) := SC.cell 5
    have e6 : Z.cell? ⟨w.heap.size, 6, none⟩ = some (Value.slice h.A3 s.rows.length h.c3) := SC.cell 6
    have e7 : Z.cell? ⟨w.heap.size, 7, none⟩ = some (Value.slice h.A4 s.frames.length h.c4) := SC.cell 7
    have e8 : Z.cell? ⟨w.heap.size, 8, none⟩ = some (Value.slice h.A5 s.tanks.length h.c5) := SC.cell 8
    have e9 : Z.cell? ⟨w.heap.size, 9, none⟩ = some (.int .i64 s.m0) := SC.cell 9
    have e10 : Z.cell? ⟨w.heap.size, 10, none⟩ = some (.int .i64 s.m1) := SC.cell 10
    have e11 : Z.cell? ⟨w.heap.size, 11, none⟩ = some (.int .i64 s.m2) := SC.cell 11
    have e12 : Z.cell? ⟨w.heap.size, 12, none⟩ = some (.int .i64 s.m3) := SC.cell 12
    have z2 : Z.cell? ⟨gb, 2, none⟩ = some (.int .u8 (b2 : Nat)) := HBB.out.cell 2
    clear SC
    go_wp2_with fail
    refine KAL1.out.mono ?_
    rintro e Y ⟨u, rfl, hu, hbY⟩
    simp only
    obtain ⟨AF, cF, rfl, _, _, hsF⟩ := hu.sl
    have HSF := Lib.hid hsF
    have KE3 := Lib.hid (KE2.out.below hbY KE2.out.lt)
    have HBB3 := Lib.hid (HBB.out.below hbY HBB.out.lt)
    have HB3 := Lib.hid (HB2.out.trans (hbY.mono HB2.out.size))
    have HZY := Lib.hid hbY
    clear KAL1 hu hsF hbY KE2 HBB z2 e0 e1 e2 e3 e4 e5 e6 e7 e8 e9 e10 e11 e12
    go_wp2_with fail
    go_loopw [13, 33] (fun v i wr => ∃ (k : Nat) (m : List Slt), k ≤ AL.length ∧ i = .int .i64 k ∧ m.length ≤ k ∧ Hid (m = (AL.take k).filter pf) ∧ Hid (OwnT tSlt 37 wr Y.heap.size v m) ∧ Hid (Below Y.heap.size Y wr)) (fun _ i _ => AL.length - (intOf i).toNat)
    case atStart => exact ⟨0, [], Nat.zero_le _, rfl, by simp, Lib.hid rfl, Lib.hid OwnT.nil, Lib.hid (Below.refl _ _)⟩
    case round =>
      obtain ⟨k, m, hk, rfl, hm, HM, HO, HB⟩ := hrel
      obtain ⟨V, rfl⟩ : ∃ V, V = wr := ⟨_, rfl⟩
      by_cases hlt : k < AL.length
      · obtain ⟨b, off, rfl, hbB, c0, c1, c2⟩ := (HSF.out.on HB.out).slt hlt
        have HFT := Lib.hid (filter_takeG pf AL hlt default)
        have i0 : (0 : Int) ≤ (k : Int) := by omega
        have i1 : (k : Int) < (AL.length : Int) := by omega
        generalize AL.getD k default = x at *
        obtain ⟨x0, x1, x2⟩ := x
        simp only at c0 c1 c2
        have HP := Lib.hid (HPF.out ⟨x0, x1, x2⟩)
        have HB4 := Lib.hid (HB.out.trans ((ba1 V (.cells #[.int .i64 x0, .int .i64 x1, .int .u8 (x2 : Nat)] 37)).mono HB.out.size))
        have HX := Lib.hid (Bk.new V 37 #[.int .i64 x0, .int .i64 x1, .int .u8 (x2 : Nat)])
        have HO1 := Lib.hid (HO.out.below (ba1 V (.cells #[.int .i64 x0, .int .i64 x1, .int .u8 (x2 : Nat)] 37)))
        clear HO HB
        go_upto_region 8 with fail
        clear c0 c1 c2
        generalize V.heap.size = gx at *
        generalize (V.alloc _) = U at *
        try clear V
        have SC := KE3.out.below HB4.out KE3.out.lt
        have e0 : U.cell? ⟨w.heap.size, 0, none⟩ = some (Value.slice h.A1 s.cols.length h.c1) := SC.cell 0
        have e1 : U.cell? ⟨w.heap.size, 1, none⟩ = some (Value.slice h.A2 s.covs.length h.c2) := SC.cell 1
        have e2 : U.cell? ⟨w.heap.size, 2, none⟩ = some (.int .i64 s.l0) := SC.cell 2
        have e3 : U.cell? ⟨w.heap.size, 3, none⟩ = some (.int .i64 s.l1) := SC.cell 3
        have e4 : U.cell? ⟨w.heap.size, 4, none⟩ = some (.int .i64 s.l2) := SC.cell 4
        have e5 : U.cell? ⟨w.heap.size, 5, none⟩ = some (.int .i64 s.l3) := SC.cell 5
        have e6 : U.cell? ⟨w.heap.size, 6, none⟩ = some (Value.slice h.A3 s.rows.length h.c3) := SC.cell 6
        have e7 : U.cell? ⟨w.heap.size, 7, none⟩ = some (Value.slice h.A4 s.frames.length h.c4) := SC.cell 7
        have e8 : U.cell? ⟨w.heap.size, 8, none⟩ = some (Value.slice h.A5 s.tanks.length h.c5) := SC.cell 8
        have e9 : U.cell? ⟨w.heap.size, 9, none⟩ = some (.int .i64 s.m0) := SC.cell 9
        have e10 : U.cell? ⟨w.heap.size, 10, none⟩ = some (.int .i64 s.m1) := SC.cell 10
        have e11 : U.cell? ⟨w.heap.size, 11, none⟩ = some (.int .i64 s.m2) := SC.cell 11
        have e12 : U.cell? ⟨w.heap.size, 12, none⟩ = some (.int .i64 s.m3) := SC.cell 12
        have y0 : U.cell? ⟨gx, 0, none⟩ = some (.int .i64 x0) := HX.out.cell 0
        have y1 : U.cell? ⟨gx, 1, none⟩ = some (.int .i64 x1) := HX.out.cell 1
        have y2 : U.cell? ⟨gx, 2, none⟩ = some (.int .u8 (x2 : Nat)) := HX.out.cell 2
        have z7 : U.cell? ⟨gb, 7, none⟩ = some (.int .u8 (b7 : Nat)) := (HBB3.out.below HB4.out HBB3.out.lt).cell 7
        have KA2 := Lib.hid (KA1.out U (HZY.out.trans (HB4.out.mono HZY.out.size)) ⟨x0, x1, x2⟩)
        unfold stwL at KA2
        simp only at KA2
        clear SC
        generalize againstF s G ⟨id, ⟨x0, x1, x2⟩⟩ b7 = ag at *
        go_wp2_with fail
        refine KA2.out.mono ?_
        rintro e X ⟨u, rfl, hu, hbX⟩
        simp only
        obtain ⟨Au, cu, rfl, _, _, _⟩ := hu.sl
        have HB5 := Lib.hid (HB4.out.trans (hbX.mono HB4.out.size))
        have HO2 := Lib.hid (HO1.out.below hbX)
        have HX2 := Lib.hid (HX.out.below hbX HX.out.lt)
        clear hu hbX HB4 HO1 HX KA2 y0 y1 y2 z7 e0 e1 e2 e3 e4 e5 e6 e7 e8 e9 e10 e11 e12
        try clear U
        by_cases h0 : ag.length = 0
        · have h0d : decide ((ag.length : Int) = 0) = true := decide_eq_true (by omega)
          have h0b : ((ag.length : Int) == 0) = true := by simpa using h0
          have HM2 : Hid (m ++ [⟨x0, x1, x2⟩] = (AL.take (k + 1)).filter pf) := Lib.hid (by rw [HFT.out, HP.out, HM.out, decide_eq_true h0]; rfl)
          have y0 : X.cell? ⟨gx, 0, none⟩ = some (.int .i64 x0) := HX2.out.cell 0
          have y1 : X.cell? ⟨gx, 1, none⟩ = some (.int .i64 x1) := HX2.out.cell 1
          have y2 : X.cell? ⟨gx, 2, none⟩ = some (.int .u8 (x2 : Nat)) := HX2.out.cell 2
          obtain ⟨xs, ho, hfl⟩ := HO2.out
          have hb5s := HB5.out.size
          clear HP HFT HM HX2
          go_wp2_with (at_builtin; (refine wpList_append1 el_slt rfl (.tmp 47) (.tmp 49) rfl Y.heap.size _ m.length xs rfl ho #[.int .i64 x0, .int .i64 x1, .int .u8 (x2 : Nat)] _ rfl rfl rfl ?c1 ?c2 ?c3 ?_))
          case c1 => unfold maxLen; omega
          case c2 => omega
          case c3 => omega
          intro v' w3 hown' hgr hd3 hbel
          have HBF := Lib.hid (HB5.out.trans hbel)
          have HOF := Lib.hid (OwnT.append1 (T := tSlt) (x := ⟨x0, x1, x2⟩) hfl (cs := sltL ⟨x0, x1, x2⟩) rfl hown' hgr hd3)
          clear hown' hgr hd3 hbel hfl ho
          go_wp2
          go_roundw
          case rel => (first | exact ⟨k + 1, m ++ [⟨x0, x1, x2⟩], by omega, by go_num, by first | (simp; omega) | omega, HM2, HOF, HBF⟩ | ((repeat apply Exists.intro); (first | exact ⟨⟨k + 1, m ++ [⟨x0, x1, x2⟩], by omega, by go_num, by first | (simp; omega) | omega, HM2, HOF, HBF⟩, rfl⟩ | exact ⟨(show k + 1 ≤ AL.length from hlt), by go_num, by first | (simp; omega) | omega, HM2, HOF, HBF⟩)))
          case measure => simp [intOf]; omega
        · have h0d : decide ((ag.length : Int) = 0) = false := decide_eq_false (by omega)
          have h0b : ((ag.length : Int) == 0) = false := by simpa using h0
          have HM2 : Hid (m = (AL.take (k + 1)).filter pf) := Lib.hid (by rw [HFT.out, HP.out, HM.out, decide_eq_false h0]; simp)
          clear HP HFT HM HX2
          go_wp2_with fail
          go_roundw
          case rel => (first | exact ⟨k + 1, m, by omega, by go_num, by first | (simp; omega) | omega, HM2, HO2, HB5⟩ | ((repeat apply Exists.intro); (first | exact ⟨⟨k + 1, m, by omega, by go_num, by first | (simp; omega) | omega, HM2, HO2, HB5⟩, rfl⟩ | exact ⟨(show k + 1 ≤ AL.length from hlt), by go_num, by first | (simp; omega) | omega, HM2, HO2, HB5⟩)))
          case measure => simp [intOf]; omega
      · obtain rfl : k = AL.length := by omega
        have hR : m = R := by rw [HM.out, HFD.out, List.take_length]
        subst hR
        have HBE := Lib.hid (HB3.out.trans (HB.out.mono HB3.out.size))
        have HOE := Lib.hid (HO.out.down HB3.out.size)
        go_wp2_with fail
        (try go_ret2)
        rw [HR.out]
        exact ⟨HBE.out, _, rfl, HOE.out⟩
  · have hne : ((oe : Int) != 0) = true := by simp; omega
    have HE2 : Hid (∀ e W, RET e W = (Below w.heap.size w W ∧ ∃ v, e = .returned (.tuple #[v, .int .i64 (oe : Nat)]) ∧ OwnT tSlt 37 W w.heap.size v [])) := Lib.hid fun e W => by rw [HR.out, if_neg hoe]
    clear HO HOK KAG HR hoe
    obtain ⟨b0, b1, b2, b3, b4, b5, b6, b7, b8⟩ := bx
    have HB2 := Lib.hid (HB1.out.trans ((ba1 w1 (.cells #[.int .i64 b0, .string b1, .int .u8 (b2 : Nat), .bool b3, .int .i64 b4, .int .i64 b5, .int .i64 b6, .int .u8 (b7 : Nat), .bool b8] 41)).mono HB1.out.size))
    unfold bxL
    simp only
    go_upto_region 2 with fail
    generalize w1.heap.size = gb at *
    generalize (w1.alloc _) = Z at *
    go_wp2_with fail
    (try go_ret2)
    rw [HE2.out]
    exact ⟨HB2.out, _, rfl, OwnT.nil⟩
end Go.Proofs.YtmhikcleekfbpaaDoor
