/-
  Walk of twistlocklaw14.near.
-/
import Derived.Test.YtmhikcleekfbpaaDoorRzA
import Derived.Test.YtmhikcleekfbpaaDoorSgM
namespace Go.Proofs.YtmhikcleekfbpaaDoor
open Go.RowKit

set_option maxRecDepth 100000 in
set_option maxHeartbeats 4000000 in
theorem nearLaw_any (s : Shp) (h : Hd) (a b : Slt) (code : Nat) (w : World) (hs : ShpR w (Lt w.heap.size) s h) (hl : s.cols.length ≤ 1000000) (hr : ∀ c ∈ s.cols, I64 c.row) (hcs : Cs s) (hc : code < 256) :
    Calls Tryd.prog 4 #[.agg (shpA s h), .agg (sltL a).toArray, .agg (sltL b).toArray, .int .u8 (code : Nat)] w (TrueRet w) := by
  obtain ⟨ac, at_, ah⟩ := a
  obtain ⟨bc, bt, bh⟩ := b
  have hb0 := ba3y w (.cells (shpA s h) 32) (.cells #[.int .i64 ac, .int .i64 at_, .int .u8 (ah : Nat)] 37) (.cells #[.int .i64 bc, .int .i64 bt, .int .u8 (bh : Nat)] 37)
  have KG := Lib.hid (((Bk.new w 32 (shpA s h)).alloc (.cells #[.int .i64 ac, .int .i64 at_, .int .u8 (ah : Nat)] 37)).alloc (.cells #[.int .i64 bc, .int .i64 bt, .int .u8 (bh : Nat)] 37))
  have KX := Lib.hid ((Bk.nxt14 (w := w) (.cells (shpA s h) 32) 37 #[.int .i64 ac, .int .i64 at_, .int .u8 (ah : Nat)]).alloc (.cells #[.int .i64 bc, .int .i64 bt, .int .u8 (bh : Nat)] 37))
  have KY := Lib.hid (bk14c (w := w) (.cells (shpA s h) 32) (.cells #[.int .i64 ac, .int .i64 at_, .int .u8 (ah : Nat)] 37) 37 #[.int .i64 bc, .int .i64 bt, .int .u8 (bh : Nat)])
  have HS := Lib.hid (hs.on hb0)
  have HB0 := Lib.hid hb0
  have K1 := Lib.hid (fun (V : World) (hV : Below (((w.alloc (.cells (shpA s h) 32)).alloc (.cells #[.int .i64 ac, .int .i64 at_, .int .u8 (ah : Nat)] 37)).alloc (.cells #[.int .i64 bc, .int .i64 bt, .int .u8 (bh : Nat)] 37)).heap.size (((w.alloc (.cells (shpA s h) 32)).alloc (.cells #[.int .i64 ac, .int .i64 at_, .int .u8 (ah : Nat)] 37)).alloc (.cells #[.int .i64 bc, .int .i64 bt, .int .u8 (bh : Nat)] 37)) V) => near_any s h ⟨ac, at_, ah⟩ ⟨bc, bt, bh⟩ code V (HS.out.on hV) hl hr hc)
  have K2 := Lib.hid (fun (V : World) (hV : Below (((w.alloc (.cells (shpA s h) 32)).alloc (.cells #[.int .i64 ac, .int .i64 at_, .int .u8 (ah : Nat)] 37)).alloc (.cells #[.int .i64 bc, .int .i64 bt, .int .u8 (bh : Nat)] 37)).heap.size (((w.alloc (.cells (shpA s h) 32)).alloc (.cells #[.int .i64 ac, .int .i64 at_, .int .u8 (ah : Nat)] 37)).alloc (.cells #[.int .i64 bc, .int .i64 bt, .int .u8 (bh : Nat)] 37)) V) => refNear_any s h ⟨ac, at_, ah⟩ ⟨bc, bt, bh⟩ code V (HS.out.on hV) hcs hc)
  rw [near_eq hcs] at K1
  clear hb0 hs HS hcs hl hr
  unfold sltL at K1 K2 ⊢
  unfold shpA at KG KX KY K1 K2 HB0 ⊢
  simp only at K1 K2 ⊢
  generalize nearR s ⟨ac, at_, ah⟩ ⟨bc, bt, bh⟩ code = r at *
  go_enter Tryd.func4, Tryd.ntmps4
  go_upto_region 1 with fail
  generalize ((w.alloc _).alloc _).alloc _ = W at *
  have e0 : ∀ gp : Gr W, gp.W.cell? ⟨w.heap.size, 0, none⟩ = some (Value.slice h.A1 s.cols.length h.c1) := Gr.cell (KG.out.cell 0)
  have e1 : ∀ gp : Gr W, gp.W.cell? ⟨w.heap.size, 1, none⟩ = some (Value.slice h.A2 s.covs.length h.c2) := Gr.cell (KG.out.cell 1)
  have e2 : ∀ gp : Gr W, gp.W.cell? ⟨w.heap.size, 2, none⟩ = some (.int .i64 s.l0) := Gr.cell (KG.out.cell 2)
  have e3 : ∀ gp : Gr W, gp.W.cell? ⟨w.heap.size, 3, none⟩ = some (.int .i64 s.l1) := Gr.cell (KG.out.cell 3)
  have e4 : ∀ gp : Gr W, gp.W.cell? ⟨w.heap.size, 4, none⟩ = some (.int .i64 s.l2) := Gr.cell (KG.out.cell 4)
  have e5 : ∀ gp : Gr W, gp.W.cell? ⟨w.heap.size, 5, none⟩ = some (.int .i64 s.l3) := Gr.cell (KG.out.cell 5)
  have e6 : ∀ gp : Gr W, gp.W.cell? ⟨w.heap.size, 6, none⟩ = some (.slice h.A3 s.rows.length h.c3) := Gr.cell (KG.out.cell 6)
  have e7 : ∀ gp : Gr W, gp.W.cell? ⟨w.heap.size, 7, none⟩ = some (.slice h.A4 s.frames.length h.c4) := Gr.cell (KG.out.cell 7)
  have e8 : ∀ gp : Gr W, gp.W.cell? ⟨w.heap.size, 8, none⟩ = some (.slice h.A5 s.tanks.length h.c5) := Gr.cell (KG.out.cell 8)
  have e9 : ∀ gp : Gr W, gp.W.cell? ⟨w.heap.size, 9, none⟩ = some (.int .i64 s.m0) := Gr.cell (KG.out.cell 9)
  have e10 : ∀ gp : Gr W, gp.W.cell? ⟨w.heap.size, 10, none⟩ = some (.int .i64 s.m1) := Gr.cell (KG.out.cell 10)
  have e11 : ∀ gp : Gr W, gp.W.cell? ⟨w.heap.size, 11, none⟩ = some (.int .i64 s.m2) := Gr.cell (KG.out.cell 11)
  have e12 : ∀ gp : Gr W, gp.W.cell? ⟨w.heap.size, 12, none⟩ = some (.int .i64 s.m3) := Gr.cell (KG.out.cell 12)
  have x0 : ∀ gp : Gr W, gp.W.cell? ⟨w.heap.size + 1, 0, none⟩ = some (.int .i64 ac) := Gr.cell (KX.out.cell 0)
  have x1 : ∀ gp : Gr W, gp.W.cell? ⟨w.heap.size + 1, 1, none⟩ = some (.int .i64 at_) := Gr.cell (KX.out.cell 1)
  have x2 : ∀ gp : Gr W, gp.W.cell? ⟨w.heap.size + 1, 2, none⟩ = some (.int .u8 (ah : Nat)) := Gr.cell (KX.out.cell 2)
  have y0 : ∀ gp : Gr W, gp.W.cell? ⟨w.heap.size + 1 + 1, 0, none⟩ = some (.int .i64 bc) := Gr.cell (KY.out.cell 0)
  have y1 : ∀ gp : Gr W, gp.W.cell? ⟨w.heap.size + 1 + 1, 1, none⟩ = some (.int .i64 bt) := Gr.cell (KY.out.cell 1)
  have y2 : ∀ gp : Gr W, gp.W.cell? ⟨w.heap.size + 1 + 1, 2, none⟩ = some (.int .u8 (bh : Nat)) := Gr.cell (KY.out.cell 2)
  have hnb : (r == r) = true := by simp
  refine wp_region_gr (by kernel_rfl) (by kernel_rfl) ?_
  repeat (go_big_quiet_step ((first | (with_reducible exact Gr.call _ (fun V hV => K1.out V hV)) | (with_reducible exact Gr.call _ (fun V hV => K2.out V hV)))))
  refine wpQuiet_nil ?_
  rintro Y ⟨⟨_, hbY⟩, rfl⟩
  have HE := Lib.hid (HB0.out.trans (hbY.mono HB0.out.size))
  clear hbY e0 e1 e2 e3 e4 e5 e6 e7 e8 e9 e10 e11 e12 x0 x1 x2 y0 y1 y2
  (try go_wp2_with fail)
  (try go_ret)
  exact ⟨rfl, HE.out⟩
end Go.Proofs.YtmhikcleekfbpaaDoor
