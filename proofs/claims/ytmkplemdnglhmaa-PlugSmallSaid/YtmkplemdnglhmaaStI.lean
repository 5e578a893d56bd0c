/-
  Walks of package stack: Weigh.
-/
import Derived.Test.YtmkplemdnglhmaaStH
import Derived.Test.YtmkplemdnglhmaaQd
namespace Go.Proofs.Ytmkplemdnglhmaa
open Go.RowKit

theorem info_kilos : (Try.prog.info? 55).map (·.size) = some 3 := by kernel_rfl
def klL (boxes : List Bx) (l : List Stw) (col : Int) : List Value := [.int .i64 (sumF boxes l (halfB col 1)), .int .i64 (sumF boxes l (halfB col 2)), .int .i64 (sumF boxes l (colB col))]
theorem set3 {W : World} {g : Nat} {t : TypeId} {cs : Array Value} (h : Bk W g t cs) (v0 v1 v2 : Value) (hz : cs.size = 3) : Bk (((W.setCell ⟨g, 0, none⟩ v0).setCell ⟨g, 1, none⟩ v1).setCell ⟨g, 2, none⟩ v2) g t #[v0, v1, v2] := by
  have h9 := ((h.set_ 0 v0).set_ 1 v1).set_ 2 v2
  have e : ∀ cs : Array Value, cs.size = 3 → ((cs.setIfInBounds 0 v0).setIfInBounds 1 v1).setIfInBounds 2 v2 = #[v0, v1, v2] := by
    rintro ⟨l⟩ hz
    match l, hz with
    | [_, _, _], _ => simp
  rw [e cs hz] at h9
  exact h9
theorem be_set3 {w W : World} {B g : Nat} (h : Below B w W) (hg : B ≤ g) (v0 v1 v2 : Value) : Below B w (((W.setCell ⟨g, 0, none⟩ v0).setCell ⟨g, 1, none⟩ v1).setCell ⟨g, 2, none⟩ v2) :=
  ((h.setCell (p := ⟨g, 0, none⟩) hg v0).setCell (p := ⟨g, 1, none⟩) hg v1).setCell (p := ⟨g, 2, none⟩) hg v2
set_option maxRecDepth 100000 in
set_option maxHeartbeats 4000000 in
theorem weigh_any (A : Option Addr) (c : Nat) (boxes : List Bx) (A2 : Option Addr) (c2 : Nat) (l : List Stw) (col : Int) (w : World) (hkg : KgOK boxes) (hb : SlT tBx w (Lt w.heap.size) A boxes) (hbl : boxes.length ≤ 1000000) (hs : SlT tStw w (Lt w.heap.size) A2 l) (hl : l.length ≤ 1000000) :
    Calls Try.prog 19 #[.slice A boxes.length c, .slice A2 l.length c2, .int .i64 col] w (Ret w (.agg (klL boxes l col).toArray)) := by
  have HK : Hid (∀ (fid : FuncId) (caps : Array Value) (p : Slt → Bool) (V : World), Below w.heap.size w V → (∀ (args : Array Value) (w : World), (callFunc fid args).run Try.prog w = .ok (.enter fid args) w) → SltFn V fid caps p →
      Calls Try.prog 62 #[.slice A boxes.length c, .slice A2 l.length c2, .func (.func fid) #[] caps] V (Ret V (.int .i64 (sumF boxes l p)))) :=
    Lib.hid fun fid caps p V hV hent hf => sum_any A c boxes A2 c2 l fid caps p V hkg ((hb.below hV).up hV.size) hbl ((hs.below hV).up hV.size) hl hent hf
  have HV : Hid (klL boxes l col = [.int .i64 (sumF boxes l (halfB col 1)), .int .i64 (sumF boxes l (halfB col 2)), .int .i64 (sumF boxes l (colB col))]) := Lib.hid rfl
  clear hb hs hkg hbl hl
  have k5 := (Bk.new w 3 #[.int .i64 col]).alloc (.cells #[.int .i64 0, .int .i64 0, .int .i64 0] 55)
  have k6 := Bk.new (w.alloc (.cells #[.int .i64 col] 3)) 55 #[.int .i64 0, .int .i64 0, .int .i64 0]
  have hb0 := ba2 w (.cells #[.int .i64 col] 3) (.cells #[.int .i64 0, .int .i64 0, .int .i64 0] 55)
  rw [World.size_alloc] at k6
  go_enter Try.func19, Try.ntmps19
  go_upto_region 3 with fail
  generalize (World.alloc _ _) = W at *
  have HW := Lib.hid k6
  have H5 := Lib.hid k5
  have HB := Lib.hid hb0
  clear k6 hb0
  go_wp2_with fail
  refine (weigh1 1 _ W).mono ?_
  rintro e W1 ⟨rfl, rfl⟩
  simp only
  have b1 := ba1 W (.cells #[.int .u8 ((1 : Nat) : Int)] 5)
  have n1 := Lib.hid (Bk.new W 5 #[.int .u8 ((1 : Nat) : Int)])
  have HB1 := Lib.hid (HB.out.trans (b1.mono HB.out.size))
  have H51 := Lib.hid (H5.out.below b1 H5.out.lt)
  have HW1 := Lib.hid (HW.out.below b1 HW.out.lt)
  generalize W.heap.size = g1 at *
  clear HB H5 HW k5 b1
  generalize (W.alloc _) = V1 at *
  go_wp2_with fail
  refine (HK.out 60 #[.pointer (some ⟨w.heap.size, 0, none⟩), .pointer (some ⟨g1, 0, none⟩)] (halfB col 1) V1 HB1.out Try.call60 (fun y w' hw' => weigh11 col 1 y _ _ w' ((H51.out.below hw' H51.out.lt).cell 0) ((n1.out.below hw' n1.out.lt).cell 0))).mono ?_
  rintro e V2 ⟨rfl, b2⟩
  simp only
  have HB2 := Lib.hid (HB1.out.trans (b2.mono HB1.out.size))
  have H52 := Lib.hid (H51.out.below b2 H51.out.lt)
  have HW2 := Lib.hid (HW1.out.below b2 HW1.out.lt)
  clear HB1 H51 HW1 b2 n1
  generalize sumF boxes l (halfB col 1) = s1 at *
  go_wp2_with fail
  refine (weigh1 2 _ V2).mono ?_
  rintro e W3 ⟨rfl, rfl⟩
  simp only
  have b3 := ba1 V2 (.cells #[.int .u8 ((2 : Nat) : Int)] 5)
  have n3 := Lib.hid (Bk.new V2 5 #[.int .u8 ((2 : Nat) : Int)])
  have HB3 := Lib.hid (HB2.out.trans (b3.mono HB2.out.size))
  have H53 := Lib.hid (H52.out.below b3 H52.out.lt)
  have HW3 := Lib.hid (HW2.out.below b3 HW2.out.lt)
  generalize V2.heap.size = g3 at *
  clear HB2 H52 HW2 b3
  generalize (V2.alloc _) = V3 at *
  go_wp2_with fail
  refine (HK.out 60 #[.pointer (some ⟨w.heap.size, 0, none⟩), .pointer (some ⟨g3, 0, none⟩)] (halfB col 2) V3 HB3.out Try.call60 (fun y w' hw' => weigh11 col 2 y _ _ w' ((H53.out.below hw' H53.out.lt).cell 0) ((n3.out.below hw' n3.out.lt).cell 0))).mono ?_
  rintro e V4 ⟨rfl, b4⟩
  simp only
  have HB4 := Lib.hid (HB3.out.trans (b4.mono HB3.out.size))
  have H54 := Lib.hid (H53.out.below b4 H53.out.lt)
  have HW4 := Lib.hid (HW3.out.below b4 HW3.out.lt)
  clear HB3 H53 HW3 b4 n3
  generalize sumF boxes l (halfB col 2) = s2 at *
  go_wp2_with fail
  refine (HK.out 61 #[.pointer (some ⟨w.heap.size, 0, none⟩)] (colB col) V4 HB4.out Try.call61 (fun y w' hw' => weigh2 col y _ w' ((H54.out.below hw' H54.out.lt).cell 0))).mono ?_
  rintro e V5 ⟨rfl, b5⟩
  simp only
  have hb5 := HB4.out.trans (b5.mono HB4.out.size)
  have kz := HW4.out.below b5 HW4.out.lt
  have z0 : V5.cell? ⟨w.heap.size + 1, 0, none⟩ = some (.int .i64 0) := kz.cell 0
  have f0 := kz.frozen 0
  have z1 : V5.cell? ⟨w.heap.size + 1, 1, none⟩ = some (.int .i64 0) := kz.cell 1
  have f1 := kz.frozen 1
  have z2 : V5.cell? ⟨w.heap.size + 1, 2, none⟩ = some (.int .i64 0) := kz.cell 2
  have f2 := kz.frozen 2
  clear HB4 H54 HW4 b5
  generalize sumF boxes l (colB col) = s3 at *
  go_wp2_with fail
  refine bodyPost_ret (results_row1 rfl _ _ (w.heap.size + 1) 55 #[.int .i64 s1, .int .i64 s2, .int .i64 s3] _ rfl (set3 kz _ _ _ rfl) Try.underlying55 rfl info_kilos) rfl ?_
  exact ⟨by rw [HV.out], be_set3 hb5 (Nat.le_succ _) _ _ _⟩
end Go.Proofs.Ytmkplemdnglhmaa
