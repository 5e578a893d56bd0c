/-
  Walks of package twistlockkit: SameShip, KeptShip: true of a lent ship in which nothing has turned.
-/
import Derived.Test.YtpmhchbkhohmjaaDoorLnI
import Derived.Test.YtpmhchbkhohmjaaDoorKpA2
import Derived.Test.YtpmhchbkhohmjaaDoorKpB
import Derived.Test.YtpmhchbkhohmjaaDoorKpC
import Derived.Test.YtpmhchbkhohmjaaDoorKpD
namespace Go.Proofs.YtpmhchbkhohmjaaDoor
open Go.RowKit

theorem run_eql_light (a b c d : Int) (W : World) : (binOp .eql 25 (.agg #[.int .i64 a, .int .i64 b, .int .i64 c, .int .i64 d]) (.agg #[.int .i64 a, .int .i64 b, .int .i64 c, .int .i64 d])).run Tryd.prog W = .ok (.bool true) W := by
  simp [go_sem]
theorem run_eql_limits (a b c d : Int) (W : World) : (binOp .eql 30 (.agg #[.int .i64 a, .int .i64 b, .int .i64 c, .int .i64 d]) (.agg #[.int .i64 a, .int .i64 b, .int .i64 c, .int .i64 d])).run Tryd.prog W = .ok (.bool true) W := by
  simp [go_sem]
set_option maxRecDepth 100000 in
set_option maxHeartbeats 4000000 in
theorem sameShip_any (s : Shp) (h' h : Hd) (w : World) (hs' : ShpR w (Lt w.heap.size) s h') (hs : ShpR w (Lt w.heap.size) s h) (hf : FewL s) :
    Calls Tryd.prog 40 #[.agg (shpA s h'), .agg (shpA s h)] w (Ret w (.bool true)) := by
  have hb0 := ba2 w (.cells (shpA s h') 32) (.cells (shpA s h) 32)
  have KE := Lib.hid ((Bk.new w 32 (shpA s h')).alloc (.cells (shpA s h) 32))
  have KF := Lib.hid (Bk.nxt (w := w) (.cells (shpA s h') 32) 32 (shpA s h))
  have HB0 := Lib.hid hb0
  have HS := Lib.hid (hs.on hb0)
  have HS' := Lib.hid (hs'.on hb0)
  clear hs hs' hb0
  unfold shpA at *
  go_enter Tryd.func40, Tryd.ntmps40
  go_upto_region 1 with fail
  generalize ((w.alloc _).alloc _) = W at *
  have K1 := Lib.hid (fun (V : World) (hV : Below W.heap.size W V) => sameColumns_any h'.A1 h.A1 h'.c1 h.c1 s.cols V (HS'.out.on hV).cols (HS.out.on hV).cols hf.cols hf.plugs)
  have K2 := Lib.hid (fun (V : World) (hV : Below W.heap.size W V) => sameCovers_any h'.A2 h.A2 h'.c2 h.c2 s.covs V (HS'.out.on hV).covs (HS.out.on hV).covs hf.covs hf.hrows)
  have K3 := Lib.hid (fun (V : World) (hV : Below W.heap.size W V) => sameRows_any h'.A3 h.A3 h'.c3 h.c3 s.rows V (HS'.out.on hV).rows (HS.out.on hV).rows hf.rows)
  have K4 := Lib.hid (fun (V : World) (hV : Below W.heap.size W V) => sameFrames_any h'.A4 h.A4 h'.c4 h.c4 s.frames V (HS'.out.on hV).frames (HS.out.on hV).frames hf.frames)
  have K5 := Lib.hid (fun (V : World) (hV : Below W.heap.size W V) => sameTanks_any h'.A5 h.A5 h'.c5 h.c5 s.tanks V (HS'.out.on hV).tanks (HS.out.on hV).tanks hf.tanks hf.steps)
  have hrl := run_eql_light s.l0 s.l1 s.l2 s.l3
  have hrm := run_eql_limits s.m0 s.m1 s.m2 s.m3
  clear hf HS HS'
  have e0 : ∀ p : Gr W, p.W.cell? ⟨w.heap.size, 0, none⟩ = some (Value.slice h'.A1 s.cols.length h'.c1) := Gr.cell (KE.out.cell 0)
  have e1 : ∀ p : Gr W, p.W.cell? ⟨w.heap.size, 1, none⟩ = some (Value.slice h'.A2 s.covs.length h'.c2) := Gr.cell (KE.out.cell 1)
  have e2 : ∀ p : Gr W, p.W.cell? ⟨w.heap.size, 2, none⟩ = some (.int .i64 s.l0) := Gr.cell (KE.out.cell 2)
  have e3 : ∀ p : Gr W, p.W.cell? ⟨w.heap.size, 3, none⟩ = some (.int .i64 s.l1) := Gr.cell (KE.out.cell 3)
  have e4 : ∀ p : Gr W, p.W.cell? ⟨w.heap.size, 4, none⟩ = some (.int .i64 s.l2) := Gr.cell (KE.out.cell 4)
  have e5 : ∀ p : Gr W, p.W.cell? ⟨w.heap.size, 5, none⟩ = some (.int .i64 s.l3) := Gr.cell (KE.out.cell 5)
  have e6 : ∀ p : Gr W, p.W.cell? ⟨w.heap.size, 6, none⟩ = some (.slice h'.A3 s.rows.length h'.c3) := Gr.cell (KE.out.cell 6)
  have e7 : ∀ p : Gr W, p.W.cell? ⟨w.heap.size, 7, none⟩ = some (.slice h'.A4 s.frames.length h'.c4) := Gr.cell (KE.out.cell 7)
  have e8 : ∀ p : Gr W, p.W.cell? ⟨w.heap.size, 8, none⟩ = some (.slice h'.A5 s.tanks.length h'.c5) := Gr.cell (KE.out.cell 8)
  have e9 : ∀ p : Gr W, p.W.cell? ⟨w.heap.size, 9, none⟩ = some (.int .i64 s.m0) := Gr.cell (KE.out.cell 9)
  have e10 : ∀ p : Gr W, p.W.cell? ⟨w.heap.size, 10, none⟩ = some (.int .i64 s.m1) := Gr.cell (KE.out.cell 10)
  have e11 : ∀ p : Gr W, p.W.cell? ⟨w.heap.size, 11, none⟩ = some (.int .i64 s.m2) := Gr.cell (KE.out.cell 11)
  have e12 : ∀ p : Gr W, p.W.cell? ⟨w.heap.size, 12, none⟩ = some (.int .i64 s.m3) := Gr.cell (KE.out.cell 12)
  have f0 : ∀ p : Gr W, p.W.cell? ⟨w.heap.size + 1, 0, none⟩ = some (Value.slice h.A1 s.cols.length h.c1) := Gr.cell (KF.out.cell 0)
  have f1 : ∀ p : Gr W, p.W.cell? ⟨w.heap.size + 1, 1, none⟩ = some (Value.slice h.A2 s.covs.length h.c2) := Gr.cell (KF.out.cell 1)
  have f2 : ∀ p : Gr W, p.W.cell? ⟨w.heap.size + 1, 2, none⟩ = some (.int .i64 s.l0) := Gr.cell (KF.out.cell 2)
  have f3 : ∀ p : Gr W, p.W.cell? ⟨w.heap.size + 1, 3, none⟩ = some (.int .i64 s.l1) := Gr.cell (KF.out.cell 3)
  have f4 : ∀ p : Gr W, p.W.cell? ⟨w.heap.size + 1, 4, none⟩ = some (.int .i64 s.l2) := Gr.cell (KF.out.cell 4)
  have f5 : ∀ p : Gr W, p.W.cell? ⟨w.heap.size + 1, 5, none⟩ = some (.int .i64 s.l3) := Gr.cell (KF.out.cell 5)
  have f6 : ∀ p : Gr W, p.W.cell? ⟨w.heap.size + 1, 6, none⟩ = some (.slice h.A3 s.rows.length h.c3) := Gr.cell (KF.out.cell 6)
  have f7 : ∀ p : Gr W, p.W.cell? ⟨w.heap.size + 1, 7, none⟩ = some (.slice h.A4 s.frames.length h.c4) := Gr.cell (KF.out.cell 7)
  have f8 : ∀ p : Gr W, p.W.cell? ⟨w.heap.size + 1, 8, none⟩ = some (.slice h.A5 s.tanks.length h.c5) := Gr.cell (KF.out.cell 8)
  have f9 : ∀ p : Gr W, p.W.cell? ⟨w.heap.size + 1, 9, none⟩ = some (.int .i64 s.m0) := Gr.cell (KF.out.cell 9)
  have f10 : ∀ p : Gr W, p.W.cell? ⟨w.heap.size + 1, 10, none⟩ = some (.int .i64 s.m1) := Gr.cell (KF.out.cell 10)
  have f11 : ∀ p : Gr W, p.W.cell? ⟨w.heap.size + 1, 11, none⟩ = some (.int .i64 s.m2) := Gr.cell (KF.out.cell 11)
  have f12 : ∀ p : Gr W, p.W.cell? ⟨w.heap.size + 1, 12, none⟩ = some (.int .i64 s.m3) := Gr.cell (KF.out.cell 12)
  clear KE KF
  refine wp_region_grs ?_
  repeat (go_big_quiet_step ((first | (with_reducible exact Gr.call _ (fun V hV => K1.out V hV)) | (with_reducible exact Gr.call _ (fun V hV => K2.out V hV)) | (with_reducible exact Gr.call _ (fun V hV => K3.out V hV)) | (with_reducible exact Gr.call _ (fun V hV => K4.out V hV)) | (with_reducible exact Gr.call _ (fun V hV => K5.out V hV)))))
  refine wpQuiet_nil ?_
  rintro Y ⟨⟨_, hbY⟩, rfl⟩
  have HY := Lib.hid (HB0.out.trans (hbY.mono HB0.out.size))
  clear hbY HB0 K1 K2 K3 K4 K5 hrl hrm e0 f0 e1 f1 e2 f2 e3 f3 e4 f4 e5 f5 e6 f6 e7 f7 e8 f8 e9 f9 e10 f10 e11 f11 e12 f12
  go_wp2_with fail
  go_ret
  exact ⟨rfl, HY.out⟩
set_option maxRecDepth 100000 in
set_option maxHeartbeats 4000000 in
theorem keptShip_any (s : Shp) (h' h : Hd) (w : World) {base B1 : Nat} (hl : LentR base B1 w s h') (hs : ShpR w (Lt w.heap.size) s h) (hf : FewL s) :
    Calls Tryd.prog 12 #[.agg (shpA s h'), .agg (shpA s h)] w (Ret w (.bool true)) := by
  have hb0 := ba2 w (.cells (shpA s h') 32) (.cells (shpA s h) 32)
  have KE := Lib.hid ((Bk.new w 32 (shpA s h')).alloc (.cells (shpA s h) 32))
  have KF := Lib.hid (Bk.nxt (w := w) (.cells (shpA s h') 32) 32 (shpA s h))
  have HB0 := Lib.hid hb0
  have HS := Lib.hid (hs.on hb0)
  have HL := Lib.hid (hl.on hb0)
  clear hs hl hb0
  have HF := Lib.hid hf
  clear hf
  unfold shpA at *
  go_enter Tryd.func12, Tryd.ntmps12
  go_upto_region 1 with fail
  generalize ((w.alloc _).alloc _) = W at *
  have K0 : Hid (∀ V : World, Below W.heap.size W V → Calls Tryd.prog 40 #[.agg (shpA s h'), .agg (shpA s h)] V (Ret V (.bool true))) := Lib.hid fun V hV => sameShip_any s h' h V ((HL.out.on hV).rd.more fun b hb => hb.2) (HS.out.on hV) HF.out
  have K1 : Hid (∀ V : World, Below W.heap.size W V → Calls Tryd.prog 41 #[.slice h'.A1 s.cols.length h'.c1, .slice h.A1 s.cols.length h.c1] V (Ret V (.bool true))) := Lib.hid fun V hV => by
    obtain ⟨n1, _, s1⟩ := (HL.out.on hV).cols.sl2
    rw [List.length_append, lentC_len, marksC_len] at n1
    exact keptColumns_any h'.A1 h.A1 h'.c1 h.c1 s.cols V (s1.more fun b hb => hb.2) n1 (HS.out.on hV).cols HF.out.cols HF.out.plugs
  have K2 : Hid (∀ V : World, Below W.heap.size W V → Calls Tryd.prog 42 #[.slice h'.A2 s.covs.length h'.c2, .slice h.A2 s.covs.length h.c2] V (Ret V (.bool true))) := Lib.hid fun V hV => by
    obtain ⟨n1, _, s1⟩ := (HL.out.on hV).covs.sl2
    rw [List.length_append, lentCo_len, marksCo_len] at n1
    exact keptCovers_any h'.A2 h.A2 h'.c2 h.c2 s.covs V (s1.more fun b hb => hb.2) n1 (HS.out.on hV).covs HF.out.covs HF.out.hrows
  have K3 : Hid (∀ V : World, Below W.heap.size W V → Calls Tryd.prog 43 #[.slice h'.A3 s.rows.length h'.c3, .slice h.A3 s.rows.length h.c3] V (Ret V (.bool true))) := Lib.hid fun V hV => by
    obtain ⟨n1, _, s1⟩ := (HL.out.on hV).rows
    exact keptRows_any h'.A3 h.A3 h'.c3 h.c3 s.rows V (s1.more fun b hb => hb.2) n1 (HS.out.on hV).rows HF.out.rows
  have K4 : Hid (∀ V : World, Below W.heap.size W V → Calls Tryd.prog 44 #[.slice h'.A4 s.frames.length h'.c4, .slice h.A4 s.frames.length h.c4] V (Ret V (.bool true))) := Lib.hid fun V hV => by
    obtain ⟨n1, _, s1⟩ := (HL.out.on hV).frames
    exact keptFrames_any h'.A4 h.A4 h'.c4 h.c4 s.frames V (s1.more fun b hb => hb.2) n1 (HS.out.on hV).frames HF.out.frames
  have K5 : Hid (∀ V : World, Below W.heap.size W V → Calls Tryd.prog 45 #[.slice h'.A5 s.tanks.length h'.c5, .slice h.A5 s.tanks.length h.c5] V (Ret V (.bool true))) := Lib.hid fun V hV => by
    obtain ⟨n1, _, s1⟩ := (HL.out.on hV).tanks.sl2
    rw [List.length_append, lentTn_len, marksTn_len] at n1
    exact keptTanks_any h'.A5 h.A5 h'.c5 h.c5 s.tanks V (s1.more fun b hb => hb.2) n1 (HS.out.on hV).tanks HF.out.tanks HF.out.steps
  unfold shpA at K0
  clear HF HS HL
  have e0 : ∀ p : Gr W, p.W.cell? ⟨w.heap.size, 0, none⟩ = some (Value.slice h'.A1 s.cols.length h'.c1) := Gr.cell (KE.out.cell 0)
  have e1 : ∀ p : Gr W, p.W.cell? ⟨w.heap.size, 1, none⟩ = some (Value.slice h'.A2 s.covs.length h'.c2) := Gr.cell (KE.out.cell 1)
  have e2 : ∀ p : Gr W, p.W.cell? ⟨w.heap.size, 2, none⟩ = some (.int .i64 s.l0) := Gr.cell (KE.out.cell 2)
  have e3 : ∀ p : Gr W, p.W.cell? ⟨w.heap.size, 3, none⟩ = some (.int .i64 s.l1) := Gr.cell (KE.out.cell 3)
  have e4 : ∀ p : Gr W, p.W.cell? ⟨w.heap.size, 4, none⟩ = some (.int .i64 s.l2) := Gr.cell (KE.out.cell 4)
  have e5 : ∀ p : Gr W, p.W.cell? ⟨w.heap.size, 5, none⟩ = some (.int .i64 s.l3) := Gr.cell (KE.out.cell 5)
  have e6 : ∀ p : Gr W, p.W.cell? ⟨w.heap.size, 6, none⟩ = some (.slice h'.A3 s.rows.length h'.c3) := Gr.cell (KE.out.cell 6)
  have e7 : ∀ p : Gr W, p.W.cell? ⟨w.heap.size, 7, none⟩ = some (.slice h'.A4 s.frames.length h'.c4) := Gr.cell (KE.out.cell 7)
  have e8 : ∀ p : Gr W, p.W.cell? ⟨w.heap.size, 8, none⟩ = some (.slice h'.A5 s.tanks.length h'.c5) := Gr.cell (KE.out.cell 8)
  have e9 : ∀ p : Gr W, p.W.cell? ⟨w.heap.size, 9, none⟩ = some (.int .i64 s.m0) := Gr.cell (KE.out.cell 9)
  have e10 : ∀ p : Gr W, p.W.cell? ⟨w.heap.size, 10, none⟩ = some (.int .i64 s.m1) := Gr.cell (KE.out.cell 10)
  have e11 : ∀ p : Gr W, p.W.cell? ⟨w.heap.size, 11, none⟩ = some (.int .i64 s.m2) := Gr.cell (KE.out.cell 11)
  have e12 : ∀ p : Gr W, p.W.cell? ⟨w.heap.size, 12, none⟩ = some (.int .i64 s.m3) := Gr.cell (KE.out.cell 12)
  have f0 : ∀ p : Gr W, p.W.cell? ⟨w.heap.size + 1, 0, none⟩ = some (Value.slice h.A1 s.cols.length h.c1) := Gr.cell (KF.out.cell 0)
  have f1 : ∀ p : Gr W, p.W.cell? ⟨w.heap.size + 1, 1, none⟩ = some (Value.slice h.A2 s.covs.length h.c2) := Gr.cell (KF.out.cell 1)
  have f2 : ∀ p : Gr W, p.W.cell? ⟨w.heap.size + 1, 2, none⟩ = some (.int .i64 s.l0) := Gr.cell (KF.out.cell 2)
  have f3 : ∀ p : Gr W, p.W.cell? ⟨w.heap.size + 1, 3, none⟩ = some (.int .i64 s.l1) := Gr.cell (KF.out.cell 3)
  have f4 : ∀ p : Gr W, p.W.cell? ⟨w.heap.size + 1, 4, none⟩ = some (.int .i64 s.l2) := Gr.cell (KF.out.cell 4)
  have f5 : ∀ p : Gr W, p.W.cell? ⟨w.heap.size + 1, 5, none⟩ = some (.int .i64 s.l3) := Gr.cell (KF.out.cell 5)
  have f6 : ∀ p : Gr W, p.W.cell? ⟨w.heap.size + 1, 6, none⟩ = some (.slice h.A3 s.rows.length h.c3) := Gr.cell (KF.out.cell 6)
  have f7 : ∀ p : Gr W, p.W.cell? ⟨w.heap.size + 1, 7, none⟩ = some (.slice h.A4 s.frames.length h.c4) := Gr.cell (KF.out.cell 7)
  have f8 : ∀ p : Gr W, p.W.cell? ⟨w.heap.size + 1, 8, none⟩ = some (.slice h.A5 s.tanks.length h.c5) := Gr.cell (KF.out.cell 8)
  have f9 : ∀ p : Gr W, p.W.cell? ⟨w.heap.size + 1, 9, none⟩ = some (.int .i64 s.m0) := Gr.cell (KF.out.cell 9)
  have f10 : ∀ p : Gr W, p.W.cell? ⟨w.heap.size + 1, 10, none⟩ = some (.int .i64 s.m1) := Gr.cell (KF.out.cell 10)
  have f11 : ∀ p : Gr W, p.W.cell? ⟨w.heap.size + 1, 11, none⟩ = some (.int .i64 s.m2) := Gr.cell (KF.out.cell 11)
  have f12 : ∀ p : Gr W, p.W.cell? ⟨w.heap.size + 1, 12, none⟩ = some (.int .i64 s.m3) := Gr.cell (KF.out.cell 12)
  clear KE KF
  refine wp_region_grs ?_
  repeat (go_big_quiet_step ((first | (with_reducible exact Gr.call _ (fun V hV => K0.out V hV)) | (with_reducible exact Gr.call _ (fun V hV => K1.out V hV)) | (with_reducible exact Gr.call _ (fun V hV => K2.out V hV)) | (with_reducible exact Gr.call _ (fun V hV => K3.out V hV)) | (with_reducible exact Gr.call _ (fun V hV => K4.out V hV)) | (with_reducible exact Gr.call _ (fun V hV => K5.out V hV)))))
  refine wpQuiet_nil ?_
  rintro Y ⟨⟨_, hbY⟩, rfl⟩
  have HY := Lib.hid (HB0.out.trans (hbY.mono HB0.out.size))
  clear hbY HB0 K0 K1 K2 K3 K4 K5 e0 f0 e1 f1 e2 f2 e3 f3 e4 f4 e5 f5 e6 f6 e7 f7 e8 f8 e9 f9 e10 f10 e11 f11 e12 f12
  go_wp2_with fail
  go_ret
  exact ⟨rfl, HY.out⟩
end Go.Proofs.YtpmhchbkhohmjaaDoor
