/-
  The examples of the chapter of slots.
-/
import Derived.Test.YtggebllkkiennaaDoorSlJ
import Derived.Test.YtggebllkkiennaaDoorSlK
import Derived.Test.YtggebllkkiennaaDoorSlP
import Derived.Test.YtggebllkkiennaaDoorShM
import Derived.Test.YtggebllkkiennaaDoorQc
namespace Go.Proofs.YtggebllkkiennaaDoor
open Go.RowKit

set_option maxHeartbeats 1000000 in
theorem at_z (a b h : Int) (w : World) : Calls Tryd.prog 38 #[.int .i64 a, .int .i64 b, .int .u8 h] w (Ret w (.agg #[.int .i64 a, .int .i64 b, .int .u8 h])) := by
  go_enter Tryd.func38, Tryd.ntmps38
  go_wp2
  exact bodyPost_ret (results_row1 rfl _ _ w.heap.size 34 #[.int .i64 a, .int .i64 b, .int .u8 h] _ rfl (Bk.new w _ _) Tryd.underlying34 rfl info_slt) rfl ⟨rfl, ba1 w _⟩
theorem sl_slts {w : World} {g : Nat} {t : TypeId} {l : List Slt} (hb : Bk w g t (l.flatMap sltL).toArray) : SlT tSlt w (Lt w.heap.size) (some ⟨g, 0, none⟩) l := sl_flat hb (by simpa using flat_slt l) hb.lt
theorem SlT.one {α : Type} {T : Ty α} {w : World} {S : Nat → Prop} {A : Option Addr} {x : α} {l : List α} (h : SlT T w S A (x :: l)) : SlT T w S A [x] := fun _ => by
  obtain ⟨b, off, e, hb, hc⟩ := h (by simp)
  refine ⟨b, off, e, hb, fun i y hy => hc i y ?_⟩
  cases i with
  | zero => simpa using hy
  | succ i => simp at hy
theorem ex_name1 : nameF exShp ⟨1, 0, 2⟩ = ([48, 48, 51, 48, 49, 48, 50], 0) := by decide +kernel
theorem ex_name2 : nameF exShp ⟨4, 3, 0⟩ = ([48, 48, 54, 48, 49, 56, 56], 0) := by decide +kernel
theorem ex_fnd1 : findSF exShp ⟨#[48, 48, 54, 48, 49, 56, 56]⟩ = (⟨4, 3, 0⟩, 0) := by decide +kernel
theorem ex_fnd2 : findSF exShp ⟨#[48, 48, 54, 48, 49, 57, 48]⟩ = (⟨0, 0, 0⟩, 6) := by decide +kernel
theorem ex_fnd3 : findSF exShp ⟨#[48, 48, 54, 48, 49, 56, 55]⟩ = (⟨0, 0, 0⟩, 80) := by decide +kernel
theorem ex_held1 : heldB ⟨0, 1, 0⟩ [⟨0, 0, 1⟩, ⟨0, 0, 2⟩] = true := by decide
theorem ex_held2 : heldB ⟨0, 1, 0⟩ [⟨0, 0, 1⟩] = false := by decide
theorem ex_held3 : heldB ⟨0, 1, 2⟩ [⟨0, 0, 0⟩] = false := by decide
theorem ex_sr1 : slotRight exShp ⟨1, 1, 2⟩ 20 = true := by decide
theorem ex_sr2 : slotRight exShp ⟨1, 1, 2⟩ 40 = false := by decide
theorem ex_over : overB ⟨0, 2, 1⟩ ⟨0, 0, 0⟩ = true := by decide
theorem ex_cmp : cmpF ⟨0, 2, 1⟩ ⟨1, 0, 0⟩ = -1 := by decide
theorem ex_all : (allF exShp 20).length = 28 := by decide +kernel
theorem ex_tiers : ∀ c, tiersN exShp c ≤ 1000000 := by
  intro c
  by_cases h : c < 5
  · rcases (by omega : c = 0 ∨ c = 1 ∨ c = 2 ∨ c = 3 ∨ c = 4) with rfl | rfl | rfl | rfl | rfl <;> decide
  · unfold tiersN
    rw [show exShp.cols.getD c default = default from by rw [List.getD_eq_getElem?_getD, List.getElem?_eq_none (by show 5 ≤ c; omega)]; rfl]
    decide
def nm1 : ByteArray := ⟨#[48, 48, 51, 48, 49, 48, 50]⟩
def nm2 : ByteArray := ⟨#[48, 48, 54, 48, 49, 56, 56]⟩
def nm3 : ByteArray := ⟨#[48, 48, 54, 48, 49, 57, 48]⟩
def nm4 : ByteArray := ⟨#[48, 48, 54, 48, 49, 56, 55]⟩
/-- A ship and the table of the places, and what lies behind them. -/
structure ShQ (w W : World) (g : Nat) (s : Shp) (h : Hd) : Prop where
  sh : Sh w W g s h
  q : QuarOK W
theorem ShQ.on {w W W' : World} {g : Nat} {s : Shp} {h : Hd} (r : ShQ w W g s h) (hb : Below W.heap.size W W') : ShQ w W' g s h := ⟨r.sh.on hb, r.q.below hb⟩
theorem ShQ.gr {w W : World} {g : Nat} {s : Shp} {h : Hd} (r : ShQ w W g s h) {i : Nat} {u : Value} (hu : (shpA s h)[i]? = some u) : ∀ p : Gr W, p.W.cell? ⟨g, i, none⟩ = some u := Gr.cell ((r.sh.bk.cell i).trans hu)

set_option maxRecDepth 100000 in
set_option maxHeartbeats 4000000 in
theorem awake08_true (w : World) (hq : QuarOK w) : Calls Tryd.prog 11 #[] w (TrueRet w) := by
  have HQ := Lib.hid hq
  clear hq
  go_enter Tryd.func11, Tryd.ntmps11
  go_wp2_with fail
  refine (example_any w).mono ?_
  rintro e w1 ⟨h, rfl, hs, hb1⟩
  have HS : Hid (ShQ w (w1.alloc (.cells (shpA exShp h) 32)) w1.heap.size exShp h) := Lib.hid ⟨⟨hs.on (ba1 w1 _), Bk.new w1 _ _, hb1.trans ((ba1 w1 _).mono hb1.size)⟩, (HQ.out.below hb1).below (ba1 w1 _)⟩
  clear hs hb1 HQ
  have KN1 : Hid (∀ V : World, ShQ w V w1.heap.size exShp h → Calls Tryd.prog 13 #[.agg (shpA exShp h), .agg #[.int .i64 1, .int .i64 0, .int .u8 2]] V (Ret V (.tuple #[.string nm1, .int .i64 0]))) := Lib.hid fun V hV => by have := name_any exShp h ⟨1, 0, 2⟩ V hV.sh.rd ex_few ex_ints hV.q; rw [ex_name1] at this; exact this
  have KN2 : Hid (∀ V : World, ShQ w V w1.heap.size exShp h → Calls Tryd.prog 13 #[.agg (shpA exShp h), .agg #[.int .i64 4, .int .i64 3, .int .u8 0]] V (Ret V (.tuple #[.string nm2, .int .i64 0]))) := Lib.hid fun V hV => by have := name_any exShp h ⟨4, 3, 0⟩ V hV.sh.rd ex_few ex_ints hV.q; rw [ex_name2] at this; exact this
  have KF1 : Hid (∀ V : World, ShQ w V w1.heap.size exShp h → Calls Tryd.prog 15 #[.agg (shpA exShp h), .string ⟨#[48, 48, 54, 48, 49, 56, 56]⟩] V (Ret V (.tuple #[.agg #[.int .i64 4, .int .i64 3, .int .u8 0], .int .i64 0]))) := Lib.hid fun V hV => by have := findS_any exShp h ⟨#[48, 48, 54, 48, 49, 56, 56]⟩ V hV.sh.rd ex_few ex_ints hV.q; rw [ex_fnd1] at this; exact this
  have KF2 : Hid (∀ V : World, ShQ w V w1.heap.size exShp h → Calls Tryd.prog 15 #[.agg (shpA exShp h), .string ⟨#[48, 48, 54, 48, 49, 57, 48]⟩] V (Ret V (.tuple #[.agg #[.int .i64 0, .int .i64 0, .int .u8 0], .int .i64 6]))) := Lib.hid fun V hV => by have := findS_any exShp h ⟨#[48, 48, 54, 48, 49, 57, 48]⟩ V hV.sh.rd ex_few ex_ints hV.q; rw [ex_fnd2] at this; exact this
  have KF3 : Hid (∀ V : World, ShQ w V w1.heap.size exShp h → Calls Tryd.prog 15 #[.agg (shpA exShp h), .string ⟨#[48, 48, 54, 48, 49, 56, 55]⟩] V (Ret V (.tuple #[.agg #[.int .i64 0, .int .i64 0, .int .u8 0], .int .i64 80]))) := Lib.hid fun V hV => by have := findS_any exShp h ⟨#[48, 48, 54, 48, 49, 56, 55]⟩ V hV.sh.rd ex_few ex_ints hV.q; rw [ex_fnd3] at this; exact this
  have KR1 : Hid (∀ V : World, ShQ w V w1.heap.size exShp h → Calls Tryd.prog 21 #[.agg (shpA exShp h), .agg #[.int .i64 1, .int .i64 1, .int .u8 2], .int .u8 20] V (Ret V (.bool true))) := Lib.hid fun V hV => by have := slotRight_any exShp h ⟨1, 1, 2⟩ 20 V hV.sh.rd; rw [ex_sr1] at this; exact this
  have KR2 : Hid (∀ V : World, ShQ w V w1.heap.size exShp h → Calls Tryd.prog 21 #[.agg (shpA exShp h), .agg #[.int .i64 1, .int .i64 1, .int .u8 2], .int .u8 40] V (Ret V (.bool false))) := Lib.hid fun V hV => by have := slotRight_any exShp h ⟨1, 1, 2⟩ 40 V hV.sh.rd; rw [ex_sr2] at this; exact this
  have KO : Hid (∀ V : World, Calls Tryd.prog 24 #[.agg #[.int .i64 0, .int .i64 2, .int .u8 1], .agg #[.int .i64 0, .int .i64 0, .int .u8 0]] V (Ret V (.bool true))) := Lib.hid fun V => by have := over_any ⟨0, 2, 1⟩ ⟨0, 0, 0⟩ V; rw [ex_over] at this; exact this
  have KC : Hid (∀ V : World, Calls Tryd.prog 22 #[.agg #[.int .i64 0, .int .i64 2, .int .u8 1], .agg #[.int .i64 1, .int .i64 0, .int .u8 0]] V (Ret V (.int .i64 (-1)))) := Lib.hid fun V => by have := compare_any ⟨0, 2, 1⟩ ⟨1, 0, 0⟩ V; rw [ex_cmp] at this; exact this
  have KA : Hid (∀ V : World, ShQ w V w1.heap.size exShp h → Calls Tryd.prog 20 #[.agg (shpA exShp h), .int .u8 20] V (OwnSlt V (allF exShp 20))) := Lib.hid fun V hV => all_any exShp h 20 V hV.sh.rd (by decide) ex_tiers (by rw [ex_all]; omega)
  unfold shpA at HS KN1 KN2 KF1 KF2 KF3 KR1 KR2 KA ⊢
  go_wp2_with fail
  generalize w1.heap.size = g at *
  generalize (w1.alloc _) = W at *
  clear w1
  have e0 : ∀ p : Gr W, p.W.cell? ⟨g, 0, none⟩ = some (.slice h.A1 exShp.cols.length h.c1) := HS.out.gr rfl
  have e1 : ∀ p : Gr W, p.W.cell? ⟨g, 1, none⟩ = some (.slice h.A2 exShp.covs.length h.c2) := HS.out.gr rfl
  have e2 : ∀ p : Gr W, p.W.cell? ⟨g, 2, none⟩ = some (.int .i64 exShp.l0) := HS.out.gr rfl
  have e3 : ∀ p : Gr W, p.W.cell? ⟨g, 3, none⟩ = some (.int .i64 exShp.l1) := HS.out.gr rfl
  have e4 : ∀ p : Gr W, p.W.cell? ⟨g, 4, none⟩ = some (.int .i64 exShp.l2) := HS.out.gr rfl
  have e5 : ∀ p : Gr W, p.W.cell? ⟨g, 5, none⟩ = some (.int .i64 exShp.l3) := HS.out.gr rfl
  have e6 : ∀ p : Gr W, p.W.cell? ⟨g, 6, none⟩ = some (.slice h.A3 exShp.rows.length h.c3) := HS.out.gr rfl
  have e7 : ∀ p : Gr W, p.W.cell? ⟨g, 7, none⟩ = some (.slice h.A4 exShp.frames.length h.c4) := HS.out.gr rfl
  have e8 : ∀ p : Gr W, p.W.cell? ⟨g, 8, none⟩ = some (.slice h.A5 exShp.tanks.length h.c5) := HS.out.gr rfl
  have e9 : ∀ p : Gr W, p.W.cell? ⟨g, 9, none⟩ = some (.int .i64 exShp.m0) := HS.out.gr rfl
  have e10 : ∀ p : Gr W, p.W.cell? ⟨g, 10, none⟩ = some (.int .i64 exShp.m1) := HS.out.gr rfl
  have e11 : ∀ p : Gr W, p.W.cell? ⟨g, 11, none⟩ = some (.int .i64 exShp.m2) := HS.out.gr rfl
  have e12 : ∀ p : Gr W, p.W.cell? ⟨g, 12, none⟩ = some (.int .i64 exShp.m3) := HS.out.gr rfl
  refine wp_region_gr (by kernel_rfl) (by kernel_rfl) ?_
  repeat (go_big_quiet_step ((first | with_reducible exact Gr.call _ (fun V _ => at_z _ _ _ V) | with_reducible exact Gr.call _ (fun V hV => KN1.out V (HS.out.on hV)))))
  refine wpQuiet_nil ?_
  rintro W1 ⟨⟨_, hb⟩, rfl⟩
  clear e0 e1 e2 e3 e4 e5 e6 e7 e8 e9 e10 e11 e12
  replace HS := Lib.hid (HS.out.on hb)
  clear hb KN1
  go_wp2_with fail
  have e0 : ∀ p : Gr W1, p.W.cell? ⟨g, 0, none⟩ = some (.slice h.A1 exShp.cols.length h.c1) := HS.out.gr rfl
  have e1 : ∀ p : Gr W1, p.W.cell? ⟨g, 1, none⟩ = some (.slice h.A2 exShp.covs.length h.c2) := HS.out.gr rfl
  have e2 : ∀ p : Gr W1, p.W.cell? ⟨g, 2, none⟩ = some (.int .i64 exShp.l0) := HS.out.gr rfl
  have e3 : ∀ p : Gr W1, p.W.cell? ⟨g, 3, none⟩ = some (.int .i64 exShp.l1) := HS.out.gr rfl
  have e4 : ∀ p : Gr W1, p.W.cell? ⟨g, 4, none⟩ = some (.int .i64 exShp.l2) := HS.out.gr rfl
  have e5 : ∀ p : Gr W1, p.W.cell? ⟨g, 5, none⟩ = some (.int .i64 exShp.l3) := HS.out.gr rfl
  have e6 : ∀ p : Gr W1, p.W.cell? ⟨g, 6, none⟩ = some (.slice h.A3 exShp.rows.length h.c3) := HS.out.gr rfl
  have e7 : ∀ p : Gr W1, p.W.cell? ⟨g, 7, none⟩ = some (.slice h.A4 exShp.frames.length h.c4) := HS.out.gr rfl
  have e8 : ∀ p : Gr W1, p.W.cell? ⟨g, 8, none⟩ = some (.slice h.A5 exShp.tanks.length h.c5) := HS.out.gr rfl
  have e9 : ∀ p : Gr W1, p.W.cell? ⟨g, 9, none⟩ = some (.int .i64 exShp.m0) := HS.out.gr rfl
  have e10 : ∀ p : Gr W1, p.W.cell? ⟨g, 10, none⟩ = some (.int .i64 exShp.m1) := HS.out.gr rfl
  have e11 : ∀ p : Gr W1, p.W.cell? ⟨g, 11, none⟩ = some (.int .i64 exShp.m2) := HS.out.gr rfl
  have e12 : ∀ p : Gr W1, p.W.cell? ⟨g, 12, none⟩ = some (.int .i64 exShp.m3) := HS.out.gr rfl
  refine wp_region_gr (by kernel_rfl) (by kernel_rfl) ?_
  repeat (go_big_quiet_step ((first | with_reducible exact Gr.call _ (fun V _ => at_z _ _ _ V) | with_reducible exact Gr.call _ (fun V hV => KN2.out V (HS.out.on hV)))))
  refine wpQuiet_nil ?_
  rintro W2 ⟨⟨_, hb⟩, rfl⟩
  clear e0 e1 e2 e3 e4 e5 e6 e7 e8 e9 e10 e11 e12
  replace HS := Lib.hid (HS.out.on hb)
  clear hb KN2 W W1
  have e0 : W2.cell? ⟨g, 0, none⟩ = some (.slice h.A1 exShp.cols.length h.c1) := HS.out.sh.bk.cell 0
  have e1 : W2.cell? ⟨g, 1, none⟩ = some (.slice h.A2 exShp.covs.length h.c2) := HS.out.sh.bk.cell 1
  have e2 : W2.cell? ⟨g, 2, none⟩ = some (.int .i64 exShp.l0) := HS.out.sh.bk.cell 2
  have e3 : W2.cell? ⟨g, 3, none⟩ = some (.int .i64 exShp.l1) := HS.out.sh.bk.cell 3
  have e4 : W2.cell? ⟨g, 4, none⟩ = some (.int .i64 exShp.l2) := HS.out.sh.bk.cell 4
  have e5 : W2.cell? ⟨g, 5, none⟩ = some (.int .i64 exShp.l3) := HS.out.sh.bk.cell 5
  have e6 : W2.cell? ⟨g, 6, none⟩ = some (.slice h.A3 exShp.rows.length h.c3) := HS.out.sh.bk.cell 6
  have e7 : W2.cell? ⟨g, 7, none⟩ = some (.slice h.A4 exShp.frames.length h.c4) := HS.out.sh.bk.cell 7
  have e8 : W2.cell? ⟨g, 8, none⟩ = some (.slice h.A5 exShp.tanks.length h.c5) := HS.out.sh.bk.cell 8
  have e9 : W2.cell? ⟨g, 9, none⟩ = some (.int .i64 exShp.m0) := HS.out.sh.bk.cell 9
  have e10 : W2.cell? ⟨g, 10, none⟩ = some (.int .i64 exShp.m1) := HS.out.sh.bk.cell 10
  have e11 : W2.cell? ⟨g, 11, none⟩ = some (.int .i64 exShp.m2) := HS.out.sh.bk.cell 11
  have e12 : W2.cell? ⟨g, 12, none⟩ = some (.int .i64 exShp.m3) := HS.out.sh.bk.cell 12
  go_wp2_with fail
  refine (KF1.out _ HS.out).mono ?_
  rintro e W3 ⟨rfl, hb⟩
  clear e0 e1 e2 e3 e4 e5 e6 e7 e8 e9 e10 e11 e12
  replace HS := Lib.hid (HS.out.on hb)
  clear hb KF1 W2
  have e0 : W3.cell? ⟨g, 0, none⟩ = some (.slice h.A1 exShp.cols.length h.c1) := HS.out.sh.bk.cell 0
  have e1 : W3.cell? ⟨g, 1, none⟩ = some (.slice h.A2 exShp.covs.length h.c2) := HS.out.sh.bk.cell 1
  have e2 : W3.cell? ⟨g, 2, none⟩ = some (.int .i64 exShp.l0) := HS.out.sh.bk.cell 2
  have e3 : W3.cell? ⟨g, 3, none⟩ = some (.int .i64 exShp.l1) := HS.out.sh.bk.cell 3
  have e4 : W3.cell? ⟨g, 4, none⟩ = some (.int .i64 exShp.l2) := HS.out.sh.bk.cell 4
  have e5 : W3.cell? ⟨g, 5, none⟩ = some (.int .i64 exShp.l3) := HS.out.sh.bk.cell 5
  have e6 : W3.cell? ⟨g, 6, none⟩ = some (.slice h.A3 exShp.rows.length h.c3) := HS.out.sh.bk.cell 6
  have e7 : W3.cell? ⟨g, 7, none⟩ = some (.slice h.A4 exShp.frames.length h.c4) := HS.out.sh.bk.cell 7
  have e8 : W3.cell? ⟨g, 8, none⟩ = some (.slice h.A5 exShp.tanks.length h.c5) := HS.out.sh.bk.cell 8
  have e9 : W3.cell? ⟨g, 9, none⟩ = some (.int .i64 exShp.m0) := HS.out.sh.bk.cell 9
  have e10 : W3.cell? ⟨g, 10, none⟩ = some (.int .i64 exShp.m1) := HS.out.sh.bk.cell 10
  have e11 : W3.cell? ⟨g, 11, none⟩ = some (.int .i64 exShp.m2) := HS.out.sh.bk.cell 11
  have e12 : W3.cell? ⟨g, 12, none⟩ = some (.int .i64 exShp.m3) := HS.out.sh.bk.cell 12
  have hlg := HS.out.sh.bk.lt
  have hBk := Bk.new W3 34 #[.int .i64 4, .int .i64 3, .int .u8 0]
  replace HS := Lib.hid (HS.out.on (ba1 W3 (.cells #[.int .i64 4, .int .i64 3, .int .u8 0] 34)))
  go_upto_region 5 with fail
  clear hlg
  clear e0 e1 e2 e3 e4 e5 e6 e7 e8 e9 e10 e11 e12
  generalize W3.heap.size = g6 at *
  generalize (W3.alloc _) = W4 at *
  have HX := Lib.hid hBk
  clear hBk
  have e0 : W4.cell? ⟨g, 0, none⟩ = some (.slice h.A1 exShp.cols.length h.c1) := HS.out.sh.bk.cell 0
  have e1 : W4.cell? ⟨g, 1, none⟩ = some (.slice h.A2 exShp.covs.length h.c2) := HS.out.sh.bk.cell 1
  have e2 : W4.cell? ⟨g, 2, none⟩ = some (.int .i64 exShp.l0) := HS.out.sh.bk.cell 2
  have e3 : W4.cell? ⟨g, 3, none⟩ = some (.int .i64 exShp.l1) := HS.out.sh.bk.cell 3
  have e4 : W4.cell? ⟨g, 4, none⟩ = some (.int .i64 exShp.l2) := HS.out.sh.bk.cell 4
  have e5 : W4.cell? ⟨g, 5, none⟩ = some (.int .i64 exShp.l3) := HS.out.sh.bk.cell 5
  have e6 : W4.cell? ⟨g, 6, none⟩ = some (.slice h.A3 exShp.rows.length h.c3) := HS.out.sh.bk.cell 6
  have e7 : W4.cell? ⟨g, 7, none⟩ = some (.slice h.A4 exShp.frames.length h.c4) := HS.out.sh.bk.cell 7
  have e8 : W4.cell? ⟨g, 8, none⟩ = some (.slice h.A5 exShp.tanks.length h.c5) := HS.out.sh.bk.cell 8
  have e9 : W4.cell? ⟨g, 9, none⟩ = some (.int .i64 exShp.m0) := HS.out.sh.bk.cell 9
  have e10 : W4.cell? ⟨g, 10, none⟩ = some (.int .i64 exShp.m1) := HS.out.sh.bk.cell 10
  have e11 : W4.cell? ⟨g, 11, none⟩ = some (.int .i64 exShp.m2) := HS.out.sh.bk.cell 11
  have e12 : W4.cell? ⟨g, 12, none⟩ = some (.int .i64 exShp.m3) := HS.out.sh.bk.cell 12
  go_wp2_with fail
  refine (KF2.out _ HS.out).mono ?_
  rintro e W5 ⟨rfl, hb⟩
  clear e0 e1 e2 e3 e4 e5 e6 e7 e8 e9 e10 e11 e12
  replace HS := Lib.hid (HS.out.on hb)
  replace HX := Lib.hid (HX.out.below hb HX.out.lt)
  clear hb KF2
  have e0 : W5.cell? ⟨g, 0, none⟩ = some (.slice h.A1 exShp.cols.length h.c1) := HS.out.sh.bk.cell 0
  have e1 : W5.cell? ⟨g, 1, none⟩ = some (.slice h.A2 exShp.covs.length h.c2) := HS.out.sh.bk.cell 1
  have e2 : W5.cell? ⟨g, 2, none⟩ = some (.int .i64 exShp.l0) := HS.out.sh.bk.cell 2
  have e3 : W5.cell? ⟨g, 3, none⟩ = some (.int .i64 exShp.l1) := HS.out.sh.bk.cell 3
  have e4 : W5.cell? ⟨g, 4, none⟩ = some (.int .i64 exShp.l2) := HS.out.sh.bk.cell 4
  have e5 : W5.cell? ⟨g, 5, none⟩ = some (.int .i64 exShp.l3) := HS.out.sh.bk.cell 5
  have e6 : W5.cell? ⟨g, 6, none⟩ = some (.slice h.A3 exShp.rows.length h.c3) := HS.out.sh.bk.cell 6
  have e7 : W5.cell? ⟨g, 7, none⟩ = some (.slice h.A4 exShp.frames.length h.c4) := HS.out.sh.bk.cell 7
  have e8 : W5.cell? ⟨g, 8, none⟩ = some (.slice h.A5 exShp.tanks.length h.c5) := HS.out.sh.bk.cell 8
  have e9 : W5.cell? ⟨g, 9, none⟩ = some (.int .i64 exShp.m0) := HS.out.sh.bk.cell 9
  have e10 : W5.cell? ⟨g, 10, none⟩ = some (.int .i64 exShp.m1) := HS.out.sh.bk.cell 10
  have e11 : W5.cell? ⟨g, 11, none⟩ = some (.int .i64 exShp.m2) := HS.out.sh.bk.cell 11
  have e12 : W5.cell? ⟨g, 12, none⟩ = some (.int .i64 exShp.m3) := HS.out.sh.bk.cell 12
  replace HX := Lib.hid (HX.out.alloc (.cells #[.int .i64 0, .int .i64 0, .int .u8 0] 34))
  have hlg := HS.out.sh.bk.lt
  replace HS := Lib.hid (HS.out.on (ba1 W5 (.cells #[.int .i64 0, .int .i64 0, .int .u8 0] 34)))
  go_upto_region 6 with fail
  clear hlg
  clear e0 e1 e2 e3 e4 e5 e6 e7 e8 e9 e10 e11 e12
  generalize W5.heap.size = g8 at *
  generalize (W5.alloc _) = W6 at *
  have e0 : W6.cell? ⟨g, 0, none⟩ = some (.slice h.A1 exShp.cols.length h.c1) := HS.out.sh.bk.cell 0
  have e1 : W6.cell? ⟨g, 1, none⟩ = some (.slice h.A2 exShp.covs.length h.c2) := HS.out.sh.bk.cell 1
  have e2 : W6.cell? ⟨g, 2, none⟩ = some (.int .i64 exShp.l0) := HS.out.sh.bk.cell 2
  have e3 : W6.cell? ⟨g, 3, none⟩ = some (.int .i64 exShp.l1) := HS.out.sh.bk.cell 3
  have e4 : W6.cell? ⟨g, 4, none⟩ = some (.int .i64 exShp.l2) := HS.out.sh.bk.cell 4
  have e5 : W6.cell? ⟨g, 5, none⟩ = some (.int .i64 exShp.l3) := HS.out.sh.bk.cell 5
  have e6 : W6.cell? ⟨g, 6, none⟩ = some (.slice h.A3 exShp.rows.length h.c3) := HS.out.sh.bk.cell 6
  have e7 : W6.cell? ⟨g, 7, none⟩ = some (.slice h.A4 exShp.frames.length h.c4) := HS.out.sh.bk.cell 7
  have e8 : W6.cell? ⟨g, 8, none⟩ = some (.slice h.A5 exShp.tanks.length h.c5) := HS.out.sh.bk.cell 8
  have e9 : W6.cell? ⟨g, 9, none⟩ = some (.int .i64 exShp.m0) := HS.out.sh.bk.cell 9
  have e10 : W6.cell? ⟨g, 10, none⟩ = some (.int .i64 exShp.m1) := HS.out.sh.bk.cell 10
  have e11 : W6.cell? ⟨g, 11, none⟩ = some (.int .i64 exShp.m2) := HS.out.sh.bk.cell 11
  have e12 : W6.cell? ⟨g, 12, none⟩ = some (.int .i64 exShp.m3) := HS.out.sh.bk.cell 12
  go_wp2_with fail
  refine (KF3.out _ HS.out).mono ?_
  rintro e W7 ⟨rfl, hb⟩
  clear e0 e1 e2 e3 e4 e5 e6 e7 e8 e9 e10 e11 e12
  replace HS := Lib.hid (HS.out.on hb)
  replace HX := Lib.hid (HX.out.below hb HX.out.lt)
  clear hb KF3
  have e0 : W7.cell? ⟨g, 0, none⟩ = some (.slice h.A1 exShp.cols.length h.c1) := HS.out.sh.bk.cell 0
  have e1 : W7.cell? ⟨g, 1, none⟩ = some (.slice h.A2 exShp.covs.length h.c2) := HS.out.sh.bk.cell 1
  have e2 : W7.cell? ⟨g, 2, none⟩ = some (.int .i64 exShp.l0) := HS.out.sh.bk.cell 2
  have e3 : W7.cell? ⟨g, 3, none⟩ = some (.int .i64 exShp.l1) := HS.out.sh.bk.cell 3
  have e4 : W7.cell? ⟨g, 4, none⟩ = some (.int .i64 exShp.l2) := HS.out.sh.bk.cell 4
  have e5 : W7.cell? ⟨g, 5, none⟩ = some (.int .i64 exShp.l3) := HS.out.sh.bk.cell 5
  have e6 : W7.cell? ⟨g, 6, none⟩ = some (.slice h.A3 exShp.rows.length h.c3) := HS.out.sh.bk.cell 6
  have e7 : W7.cell? ⟨g, 7, none⟩ = some (.slice h.A4 exShp.frames.length h.c4) := HS.out.sh.bk.cell 7
  have e8 : W7.cell? ⟨g, 8, none⟩ = some (.slice h.A5 exShp.tanks.length h.c5) := HS.out.sh.bk.cell 8
  have e9 : W7.cell? ⟨g, 9, none⟩ = some (.int .i64 exShp.m0) := HS.out.sh.bk.cell 9
  have e10 : W7.cell? ⟨g, 10, none⟩ = some (.int .i64 exShp.m1) := HS.out.sh.bk.cell 10
  have e11 : W7.cell? ⟨g, 11, none⟩ = some (.int .i64 exShp.m2) := HS.out.sh.bk.cell 11
  have e12 : W7.cell? ⟨g, 12, none⟩ = some (.int .i64 exShp.m3) := HS.out.sh.bk.cell 12
  replace HX := Lib.hid (HX.out.alloc (.cells #[.int .i64 0, .int .i64 0, .int .u8 0] 34))
  have hlg := HS.out.sh.bk.lt
  replace HS := Lib.hid (HS.out.on (ba1 W7 (.cells #[.int .i64 0, .int .i64 0, .int .u8 0] 34)))
  go_upto_region 7 with fail
  clear hlg
  clear e0 e1 e2 e3 e4 e5 e6 e7 e8 e9 e10 e11 e12
  generalize W7.heap.size = g10 at *
  generalize (W7.alloc _) = W8 at *
  refine wp_region_lit ?_
  refine wpList_grs 2 ?_
  simp only [List.take_succ_cons, List.take_zero, List.drop_succ_cons, List.drop_zero]
  repeat (go_big_quiet_step ((first | with_reducible exact Gr.call _ (fun V _ => at_z _ _ _ V))))
  refine wpQuiet_nil ?_
  rintro W9 ⟨⟨_, hb⟩, rfl⟩
  replace HS := Lib.hid (HS.out.on hb)
  replace HX := Lib.hid (HX.out.below hb HX.out.lt)
  clear hb
  refine wpList_plain rfl (fun K hK => ?_)
  go_big_op
  refine hK _ _ ?_
  clear hK K
  have hl := Bk.new W9 34 #[.int .i64 0, .int .i64 0, .int .u8 1, .int .i64 0, .int .i64 0, .int .u8 2]
  replace HX := Lib.hid (HX.out.alloc (.cells #[.int .i64 0, .int .i64 0, .int .u8 1, .int .i64 0, .int .i64 0, .int .u8 2] 34))
  replace HS := Lib.hid (HS.out.on (ba1 W9 (.cells #[.int .i64 0, .int .i64 0, .int .u8 1, .int .i64 0, .int .i64 0, .int .u8 2] 34)))
  generalize W9.heap.size = g12 at *
  generalize (W9.alloc _) = W10 at *
  go_upto_region 8 with fail
  simp only [List.append_eq, List.cons_append, List.nil_append]
  refine wp_region_at (by kernel_rfl) ?_
  have hd := below_drewN (Below.refl W10.heap.size W10) 1
  replace HS := Lib.hid (HS.out.on hd)
  replace HX := Lib.hid (HX.out.below hd HX.out.lt)
  replace hl := hl.below hd hl.lt
  clear hd
  generalize W10.drewN 1 = W10d at *
  have HL := Lib.hid (show SlT tSlt W10d (Lt W10d.heap.size) (some ⟨g12, 0, none⟩) [⟨0, 0, 1⟩, ⟨0, 0, 2⟩] from sl_slts hl)
  clear hl
  have KH1 : Hid (∀ V : World, Below W10d.heap.size W10d V → Calls Tryd.prog 25 #[.agg #[.int .i64 0, .int .i64 1, .int .u8 0], .slice (some ⟨g12, 0, none⟩) 2 2] V (Ret V (.bool true))) := Lib.hid fun V hV => by
    have := held_any ⟨0, 1, 0⟩ _ 2 _ V (HL.out.on hV) (by simp) (by decide); rw [ex_held1] at this; exact this
  have KH2 : Hid (∀ V : World, Below W10d.heap.size W10d V → Calls Tryd.prog 25 #[.agg #[.int .i64 0, .int .i64 1, .int .u8 0], .slice (some ⟨g12, 0, none⟩) 1 2] V (Ret V (.bool false))) := Lib.hid fun V hV => by
    have := held_any ⟨0, 1, 0⟩ _ 2 _ V (HL.out.on hV).one (by simp) (by decide); rw [ex_held2] at this; exact this
  have HE : ∀ W : World, (binOp .eql 34 (.agg #[.int .i64 4, .int .i64 3, .int .u8 0]) (.agg #[.int .i64 4, .int .i64 3, .int .u8 0])).run Tryd.prog W = .ok (.bool true) W := fun W => run_eql_slt ⟨4, 3, 0⟩ ⟨4, 3, 0⟩ W
  have hs1 : (nm1.toList == [48, 48, 51, 48, 49, 48, 50]) = true := by decide +kernel
  have hs2 : (nm2.toList == [48, 48, 54, 48, 49, 56, 56]) = true := by decide +kernel
  have x0 : ∀ p : Gr W10d, p.W.cell? ⟨g6, 0, none⟩ = some (.int .i64 4) := Gr.cell (HX.out.cell 0)
  have x1 : ∀ p : Gr W10d, p.W.cell? ⟨g6, 1, none⟩ = some (.int .i64 3) := Gr.cell (HX.out.cell 1)
  have x2 : ∀ p : Gr W10d, p.W.cell? ⟨g6, 2, none⟩ = some (.int .u8 0) := Gr.cell (HX.out.cell 2)
  refine AnyAt.gr 42 (by kernel_rfl) ?_
  simp only [List.drop_zero, Nat.reduceSub, List.take_succ_cons, List.take_zero]
  repeat (go_big_quiet_step ((first | with_reducible exact Gr.call _ (fun V _ => at_z _ _ _ V) | with_reducible exact Gr.call _ (fun V hV => KH1.out V hV) | with_reducible exact Gr.call _ (fun V hV => KH2.out V hV))))
  refine wpQuiet_nil ?_
  rintro W11 ⟨⟨_, hb⟩, rfl⟩
  replace HS := Lib.hid (HS.out.on hb)
  clear hb x0 x1 x2 HX HE hs1 hs2 KH1 KH2 HL
  refine AnyAt.one (by kernel_rfl) rfl (fun K hK => ?_)
  rw [if_pos (by rfl)]
  go_big_op
  refine hK _ _ ?_
  clear hK K
  have hl := Bk.new W11 34 #[.int .i64 0, .int .i64 0, .int .u8 0]
  replace HS := Lib.hid (HS.out.on (ba1 W11 (.cells #[.int .i64 0, .int .i64 0, .int .u8 0] 34)))
  generalize W11.heap.size = g13 at *
  generalize (W11.alloc _) = W12 at *
  have HL := Lib.hid (show SlT tSlt W12 (Lt W12.heap.size) (some ⟨g13, 0, none⟩) [⟨0, 0, 0⟩] from sl_slts hl)
  clear hl
  have KH3 : Hid (∀ V : World, Below W12.heap.size W12 V → Calls Tryd.prog 25 #[.agg #[.int .i64 0, .int .i64 1, .int .u8 2], .slice (some ⟨g13, 0, none⟩) 1 1] V (Ret V (.bool false))) := Lib.hid fun V hV => by
    have := held_any ⟨0, 1, 2⟩ _ 1 _ V (HL.out.on hV) (by simp) (by decide); rw [ex_held3] at this; exact this
  have e0 : ∀ p : Gr W12, p.W.cell? ⟨g, 0, none⟩ = some (.slice h.A1 exShp.cols.length h.c1) := HS.out.gr rfl
  have e1 : ∀ p : Gr W12, p.W.cell? ⟨g, 1, none⟩ = some (.slice h.A2 exShp.covs.length h.c2) := HS.out.gr rfl
  have e2 : ∀ p : Gr W12, p.W.cell? ⟨g, 2, none⟩ = some (.int .i64 exShp.l0) := HS.out.gr rfl
  have e3 : ∀ p : Gr W12, p.W.cell? ⟨g, 3, none⟩ = some (.int .i64 exShp.l1) := HS.out.gr rfl
  have e4 : ∀ p : Gr W12, p.W.cell? ⟨g, 4, none⟩ = some (.int .i64 exShp.l2) := HS.out.gr rfl
  have e5 : ∀ p : Gr W12, p.W.cell? ⟨g, 5, none⟩ = some (.int .i64 exShp.l3) := HS.out.gr rfl
  have e6 : ∀ p : Gr W12, p.W.cell? ⟨g, 6, none⟩ = some (.slice h.A3 exShp.rows.length h.c3) := HS.out.gr rfl
  have e7 : ∀ p : Gr W12, p.W.cell? ⟨g, 7, none⟩ = some (.slice h.A4 exShp.frames.length h.c4) := HS.out.gr rfl
  have e8 : ∀ p : Gr W12, p.W.cell? ⟨g, 8, none⟩ = some (.slice h.A5 exShp.tanks.length h.c5) := HS.out.gr rfl
  have e9 : ∀ p : Gr W12, p.W.cell? ⟨g, 9, none⟩ = some (.int .i64 exShp.m0) := HS.out.gr rfl
  have e10 : ∀ p : Gr W12, p.W.cell? ⟨g, 10, none⟩ = some (.int .i64 exShp.m1) := HS.out.gr rfl
  have e11 : ∀ p : Gr W12, p.W.cell? ⟨g, 11, none⟩ = some (.int .i64 exShp.m2) := HS.out.gr rfl
  have e12 : ∀ p : Gr W12, p.W.cell? ⟨g, 12, none⟩ = some (.int .i64 exShp.m3) := HS.out.gr rfl
  refine AnyAt.gr 70 (by kernel_rfl) ?_
  simp only [List.drop_succ_cons, List.drop_zero, List.take_succ_cons, List.take_zero]
  repeat (go_big_quiet_step ((first | with_reducible exact Gr.call _ (fun V _ => at_z _ _ _ V) | with_reducible exact Gr.call _ (fun V hV => KH3.out V hV) | with_reducible exact Gr.call _ (fun V hV => KR1.out V (HS.out.on hV)) | with_reducible exact Gr.call _ (fun V hV => KR2.out V (HS.out.on hV)) | with_reducible exact Gr.call _ (fun V _ => KO.out V) | with_reducible exact Gr.call _ (fun V _ => KC.out V))))
  refine wpQuiet_nil ?_
  rintro W13 ⟨⟨_, hb⟩, rfl⟩
  clear e0 e1 e2 e3 e4 e5 e6 e7 e8 e9 e10 e11 e12
  replace HS := Lib.hid (HS.out.on hb)
  clear hb KH3 HL KR1 KR2 KO KC
  refine AnyAt.one (by kernel_rfl) rfl (fun K hK => ?_)
  rw [if_pos (by rfl)]
  go_big_op
  refine (KA.out _ HS.out).mono ?_
  rintro e W14 ⟨v, rfl, hv, hb⟩
  obtain ⟨A, c, rfl, _⟩ := hv.sl
  refine hK _ _ ?_
  clear hK K
  have HBE := Lib.hid (HS.out.on hb).sh.be
  rw [ex_all]
  clear hv hb HS KA
  refine AnyAt.gr 75 (by kernel_rfl) ?_
  simp only [List.drop_succ_cons, List.drop_zero, List.take_succ_cons, List.take_zero]
  repeat (go_big_quiet_step (fail))
  refine wpQuiet_nil ?_
  rintro W15 ⟨⟨_, hb⟩, rfl⟩
  refine AnyAt.done rfl ?_
  go_wp2_with fail
  go_ret
  exact ⟨rfl, HBE.out.trans (hb.mono HBE.out.size)⟩
end Go.Proofs.YtggebllkkiennaaDoor
