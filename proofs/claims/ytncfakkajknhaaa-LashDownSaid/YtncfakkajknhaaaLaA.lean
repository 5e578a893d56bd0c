/-
  Walks of package lash: the iterator that half hands back, in the wide fence.
-/
import Derived.Sort.CutIn
import Derived.Test.YtncfakkajknhaaaStL
namespace Go.Proofs.Ytncfakkajknhaaa
open Go.RowKit Go.Shelf

def inHalf (c : Int) (h : Nat) (y : Slt) : Bool := y.col == c && (y.half == h || y.half == 0)
/-- What half yields of the box at an index. -/
def halfOf (boxes : List Bx) (c : Int) (h : Nat) (x : Stw) : Option (Slt × Bx) := if inHalf c h x.slot && (findBx boxes x.box).2 then some (x.slot, (findBx boxes x.box).1) else none
/-- What half yields. -/
def halfL (boxes : List Bx) (l : List Stw) (c : Int) (h : Nat) : List (Slt × Bx) := l.filterMap (halfOf boxes c h)
theorem halfL_succ (boxes : List Bx) (l : List Stw) (c : Int) (h : Nat) {j : Nat} (hj : j < l.length) : halfL boxes (l.take (j + 1)) c h = halfL boxes (l.take j) c h ++ if inHalf c h (l.getD j default).slot && (findBx boxes (l.getD j default).box).2 then [((l.getD j default).slot, (findBx boxes (l.getD j default).box).1)] else [] := by
  unfold halfL
  rw [List.take_succ_eq_append_getElem hj, List.filterMap_append]
  have e : l.getD j default = l[j] := by simp [hj]
  rw [e]
  congr 1
  simp only [List.filterMap_cons, List.filterMap_nil, halfOf]
  cases (inHalf c h l[j].slot && (findBx boxes l[j].box).2) <;> rfl
theorem halfL_len (boxes : List Bx) (l : List Stw) (c : Int) (h : Nat) : (halfL boxes l c h).length ≤ l.length := List.length_filterMap_le _ _
/-- What a round keeps: what lay below n₀, and all blocks but one. -/
def KpG (n₀ go : Nat) (W W' : World) : Prop := Below n₀ W W' ∧ ∀ g t cs, g ≠ go → Bk W g t cs → Bk W' g t cs
theorem KpG.trans {n₀ go : Nat} {A B C : World} (h : KpG n₀ go A B) (k : KpG n₀ go B C) : KpG n₀ go A C := ⟨h.1.trans k.1, fun g t cs h1 hg => k.2 g t cs h1 (h.2 g t cs h1 hg)⟩
theorem KpG.put {n₀ go : Nat} {w : World} (hn : n₀ ≤ w.heap.size) (W : World) (l : Nat) (o o' : Obj) (hl : w.heap.size ≤ l) (h : W.heap[l]? = some o) (hc : o.isCells = false) (hw : o.isWalk = false) : KpG n₀ go W (W.putObj l o') :=
  ⟨belowK_b hn W l o o' hl h hc hw, fun g t cs _ hg => hg.grown (grownBy_putObj' W l o') (by
    intro e; cases e
    unfold Bk at hg
    rw [h] at hg; cases hg; cases hc)⟩
theorem KpG.below {n₀ go : Nat} {W W' : World} (h : Below W.heap.size W W') (hn : n₀ ≤ W.heap.size) : KpG n₀ go W W' := ⟨h.mono hn, fun _ _ _ _ hg => hg.below h hg.lt⟩
/-- What half$1 has captured. -/
structure HC (W : World) (n₀ go : Nat) (A : Option Addr) (c : Nat) (boxes : List Bx) (A2 : Option Addr) (c2 : Nat) (l : List Stw) (col : Int) (hf : Nat) (gl gi gh gb : Nat) : Prop where
  bl : Bk W gl 39 #[.slice A2 l.length c2]
  bi : Bk W gi 3 #[.int .i64 col]
  bh : Bk W gh 5 #[.int .u8 (hf : Nat)]
  bb : Bk W gb 38 #[.slice A boxes.length c]
  sb : SlT tBx W (Lt n₀) A boxes
  sl : SlT tStw W (Lt n₀) A2 l
  ne : gl ≠ go ∧ gi ≠ go ∧ gh ≠ go ∧ gb ≠ go
theorem HC.keep {W W' : World} {n₀ go : Nat} {A : Option Addr} {c : Nat} {boxes : List Bx} {A2 : Option Addr} {c2 : Nat} {l : List Stw} {col : Int} {hf gl gi gh gb : Nat} (f : HC W n₀ go A c boxes A2 c2 l col hf gl gi gh gb) (hk : KpG n₀ go W W') : HC W' n₀ go A c boxes A2 c2 l col hf gl gi gh gb :=
  ⟨hk.2 _ _ _ f.ne.1 f.bl, hk.2 _ _ _ f.ne.2.1 f.bi, hk.2 _ _ _ f.ne.2.2.1 f.bh, hk.2 _ _ _ f.ne.2.2.2 f.bb, f.sb.below hk.1, f.sl.below hk.1, f.ne⟩
def pairL (x : Slt × Bx) : Array Value := #[.agg (sltL x.1).toArray, .agg (bxL x.2).toArray]

attribute [local go_sem] Oper.semAt_some

set_option maxRecDepth 100000 in
set_option maxHeartbeats 8000000 in
theorem half1_in (m : Nat) (hn : 3 ≤ m) (lb n₀ go : Nat) (A : Option Addr) (c : Nat) (boxes : List Bx) (A2 : Option Addr) (c2 : Nat) (l : List Stw) (col : Int) (hf gl gi gh gb : Nat) (J Jx : List (Slt × Bx) → World → Prop) (W : World) (hJ : AbidesFrom W.heap.size J)
    (hY : ∀ pre x W1, J pre W1 → pre.length < l.length → YieldAt Fence.wide (m - 1) Try.prog lb #[.agg (sltL x.1).toArray, .agg (bxL x.2).toArray] W1 fun e W' =>
      (e = .returned (.bool true) ∧ J (pre ++ [x]) W' ∧ KpG n₀ go W1 W') ∨ (e = .returned (.bool false) ∧ Jx (pre ++ [x]) W'))
    (hc : HC W n₀ go A c boxes A2 c2 l col hf gl gi gh gb) (hW : n₀ ≤ W.heap.size) (hbl : boxes.length ≤ 1000000) (hl : l.length ≤ 1000000) (h0 : J [] W) :
    CallsIn Fence.wide m Try.prog 80 #[.func (.yield lb) #[] #[], .pointer (some ⟨gl, 0, none⟩), .pointer (some ⟨gi, 0, none⟩), .pointer (some ⟨gh, 0, none⟩), .pointer (some ⟨gb, 0, none⟩)] W fun e W' => (∃ v, e = .returned v) ∧
      ((∃ xs, xs = halfL boxes l col hf ∧ J xs W') ∨ (∃ pre, True ∧ Jx pre W')) := by
  refine callsIn_of_wp Try.func80 rfl trivial ?_ rfl
  simp only [Try.ntmps80, List.size_toArray, List.length_cons, List.length_nil, Nat.reduceAdd, Nat.reduceSub, Array.replicate_succ, Array.replicate_zero, List.push_toArray, List.append_toArray, List.nil_append, List.cons_append]
  have HF := Lib.hid hc
  have el : W.cell? ⟨gl, 0, none⟩ = some (.slice A2 l.length c2) := hc.bl.cell 0
  clear hc
  gi_wp2
  clear el
  gi_loopw [12] (fun i wr => ∃ j : Nat, j ≤ l.length ∧ i = .int .i64 j ∧ J (halfL boxes (l.take j) col hf) wr ∧ Hid (KpG n₀ go W wr)) (fun i _ => l.length - (intOf i).toNat)
  case atStart => exact ⟨0, Nat.zero_le _, rfl, by simpa [halfL] using h0, Lib.hid ⟨Below.refl _ _, fun _ _ _ _ h => h⟩⟩
  case round =>
    obtain ⟨j, hj, rfl, hJj, HK⟩ := hrel
    obtain ⟨V, rfl⟩ : ∃ V, V = wr := ⟨_, rfl⟩
    by_cases hlt : j < l.length
    · have HG := HF.out.keep HK.out
      obtain ⟨b, off, rfl, hbB, d0, d1, d2, d3⟩ := HG.sl.stw hlt
      have hVW := HK.out.1.size
      have HTS := Lib.hid (halfL_succ boxes l col hf hlt)
      have hpre : (halfL boxes (l.take j) col hf).length < l.length := by
        have h1 := halfL_len boxes (l.take j) col hf
        simp only [List.length_take] at h1
        omega
      have HPRE := Lib.hid hpre
      clear hpre
      have HJ1 := Lib.hid (AbidesFrom.below hJ hJj (ba1 V (.cells #[.int .i64 (l.getD j default).box, .int .i64 (l.getD j default).slot.col, .int .i64 (l.getD j default).slot.tier, .int .u8 ((l.getD j default).slot.half : Nat)] 61)))
      have HK1 : Hid (KpG n₀ go W _) := Lib.hid (HK.out.trans (KpG.below (ba1 V (.cells #[.int .i64 (l.getD j default).box, .int .i64 (l.getD j default).slot.col, .int .i64 (l.getD j default).slot.tier, .int .u8 ((l.getD j default).slot.half : Nat)] 61)) (by have := HK.out.1.size; omega)))
      have hx := Bk.new V 61 #[.int .i64 (l.getD j default).box, .int .i64 (l.getD j default).slot.col, .int .i64 (l.getD j default).slot.tier, .int .u8 ((l.getD j default).slot.half : Nat)]
      have a1 : j + 1 ≤ l.length := hlt
      have i0 : (0 : Int) ≤ (j : Int) := by omega
      have i1 : (j : Int) < (l.length : Int) := by omega
      clear HG hJj
      generalize halfL boxes (l.take j) col hf = T at *
      generalize l.getD j default = x at *
      obtain ⟨xb, xc, xt, xh⟩ := x
      simp only at d0 d1 d2 d3 HTS HK1 HJ1 hx
      gi_upto_region 3 with fail
      clear d0 d1 d2 d3
      generalize V.heap.size = gx at *
      generalize (V.alloc _) = V1 at *
      have HC := HF.out.keep HK1.out
      have x0 : V1.cell? ⟨gx, 0, none⟩ = some (.int .i64 xb) := hx.cell 0
      have x1 : V1.cell? ⟨gx, 1, none⟩ = some (.int .i64 xc) := hx.cell 1
      have x2 : V1.cell? ⟨gx, 2, none⟩ = some (.int .i64 xt) := hx.cell 2
      have x3 : V1.cell? ⟨gx, 3, none⟩ = some (.int .u8 (xh : Nat)) := hx.cell 3
      have ei : V1.cell? ⟨gi, 0, none⟩ = some (.int .i64 col) := HC.bi.cell 0
      have eh : V1.cell? ⟨gh, 0, none⟩ = some (.int .u8 (hf : Nat)) := HC.bh.cell 0
      have eb : V1.cell? ⟨gb, 0, none⟩ = some (.slice A boxes.length c) := HC.bb.cell 0
      have KF := Lib.hid (stowFind_any A c boxes xb V1 (HC.sb.up (Nat.le_trans hW HK1.out.1.size)) hbl)
      generalize findBx boxes xb = fb at *
      obtain ⟨⟨z0, z1, z2, z3, z4, z5, z6, z7, z8⟩, ok⟩ := fb
      unfold bxL at KF
      simp only at KF HTS
      have HX := Lib.hid hx
      clear HC hx HK
      cases e1 : (xc == col) with
      | false =>
        have e1' : (xc != col) = true := by simpa using e1
        have hin : (inHalf col hf ⟨xc, xt, xh⟩ && ok) = false := by unfold inHalf; simp only; rw [e1]; rfl
        have HNO : Hid (J (halfL boxes (l.take (j + 1)) col hf) V1) := Lib.hid (by rw [HTS.out, hin]; simpa using HJ1.out)
        have HKN := HK1
        gi_wp2
        go_roundw
        case rel => (repeat apply Exists.intro); (first | exact ⟨⟨j + 1, a1, by go_num, HNO.out, HKN⟩, rfl⟩ | exact ⟨j + 1, a1, by go_num, HNO.out, HKN⟩ | exact ⟨a1, by go_num, HNO.out, HKN⟩)
        case measure => simp [intOf]; omega
      | true =>
        have e1' : (xc != col) = false := by simpa using e1
        by_cases e2 : xh = hf
        · subst e2
          have hin : (inHalf col xh ⟨xc, xt, xh⟩ && ok) = ok := by unfold inHalf; simp only; rw [e1]; simp
          gi_upto_region 4 with fail
          gi_wp2
          refine ⟨trivial, fun _ => by omega, ?_⟩
          refine (callsIn_wide.2 KF.out).mono ?_
          rintro e w1 ⟨rfl, hb1⟩
          simp only
          have hb2 := hb1.alloc hb1.size (.cells #[.int .i64 z0, .string z1, .int .u8 (z2 : Nat), .bool z3, .int .i64 z4, .int .i64 z5, .int .i64 z6, .int .u8 (z7 : Nat), .bool z8] 43)
          have hy := Bk.new w1 43 #[.int .i64 z0, .string z1, .int .u8 (z2 : Nat), .bool z3, .int .i64 z4, .int .i64 z5, .int .i64 z6, .int .u8 (z7 : Nat), .bool z8]
          gi_upto_region 5 with fail
          generalize w1.heap.size = gy at *
          generalize (w1.alloc _) = V2 at *
          clear KF x0 x1 x2 x3 ei eh eb hb1
          clear w1
          have HK2 := Lib.hid (HK1.out.trans (KpG.below hb2 (Nat.le_trans hW HK1.out.1.size)))
          have HX2 := HX.out.below hb2 HX.out.lt
          have HJ2 := Lib.hid (AbidesFrom.below hJ (W := V1) (W' := V2) HJ1.out hb2)
          cases ok with
          | false =>
            have HNO : Hid (J (halfL boxes (l.take (j + 1)) col xh) V2) := Lib.hid (by rw [HTS.out, hin]; simpa using HJ2.out)
            have HKN := HK2
            clear HX2 hy hb2
            gi_wp2
            refine ⟨fun _ h => (by cases h), ?_⟩
            gi_wp2
            go_roundw
            case rel => (repeat apply Exists.intro); (first | exact ⟨⟨j + 1, a1, by go_num, HNO.out, HKN⟩, rfl⟩ | exact ⟨j + 1, a1, by go_num, HNO.out, HKN⟩ | exact ⟨a1, by go_num, HNO.out, HKN⟩)
            case measure => simp [intOf]; omega
          | true =>
            have HNO2 : Hid (halfL boxes (l.take (j + 1)) col xh = T ++ [(⟨xc, xt, xh⟩, ⟨z0, z1, z2, z3, z4, z5, z6, z7, z8⟩)]) := Lib.hid (by rw [HTS.out, hin]; rfl)
            have r1 : V2.cell? ⟨gx, 1, none⟩ = some (.int .i64 xc) := HX2.cell 1
            have r2 : V2.cell? ⟨gx, 2, none⟩ = some (.int .i64 xt) := HX2.cell 2
            have r3 : V2.cell? ⟨gx, 3, none⟩ = some (.int .u8 (xh : Nat)) := HX2.cell 3
            have y0 : V2.cell? ⟨gy, 0, none⟩ = some (.int .i64 z0) := hy.cell 0
            have y1 : V2.cell? ⟨gy, 1, none⟩ = some (.string z1) := hy.cell 1
            have y2 : V2.cell? ⟨gy, 2, none⟩ = some (.int .u8 (z2 : Nat)) := hy.cell 2
            have y3 : V2.cell? ⟨gy, 3, none⟩ = some (.bool z3) := hy.cell 3
            have y4 : V2.cell? ⟨gy, 4, none⟩ = some (.int .i64 z4) := hy.cell 4
            have y5 : V2.cell? ⟨gy, 5, none⟩ = some (.int .i64 z5) := hy.cell 5
            have y6 : V2.cell? ⟨gy, 6, none⟩ = some (.int .i64 z6) := hy.cell 6
            have y7 : V2.cell? ⟨gy, 7, none⟩ = some (.int .u8 (z7 : Nat)) := hy.cell 7
            have y8 : V2.cell? ⟨gy, 8, none⟩ = some (.bool z8) := hy.cell 8
            obtain ⟨fn, tmps, assign, body, hyy, hR⟩ := hY T (⟨xc, xt, xh⟩, ⟨z0, z1, z2, z3, z4, z5, z6, z7, z8⟩) V2 HJ2.out HPRE.out
            unfold sltL bxL at hyy
            simp only at hyy
            try rw [show ((0 : Nat) : Int) = 0 from rfl] at hyy
            clear HX2 hy hb2
            gi_wp2
            refine ⟨fun _ => by omega, ?_⟩
            refine hR.mono ?_
            rintro e V4 (⟨rfl, hJ4, hk4⟩ | ⟨rfl, hJx⟩)
            · have HNO : Hid (J (halfL boxes (l.take (j + 1)) col xh) V4) := Lib.hid (by rw [HNO2.out]; exact hJ4)
              have HKN := Lib.hid (HK2.out.trans hk4)
              clear hJ4 hk4 HNO2
              gi_wp2
              go_roundw
              case rel => (repeat apply Exists.intro); (first | exact ⟨⟨j + 1, a1, by go_num, HNO.out, HKN⟩, rfl⟩ | exact ⟨j + 1, a1, by go_num, HNO.out, HKN⟩ | exact ⟨a1, by go_num, HNO.out, HKN⟩)
              case measure => simp [intOf]; omega
            · gi_wp2
              refine bodyPost_ret (results_none rfl _ _ _) rfl ?_
              exact ⟨⟨_, rfl⟩, .inr ⟨_, trivial, hJx⟩⟩
        · have e2' : (((xh : Nat) : Int) != ((hf : Nat) : Int)) = true := by simp; omega
          have e2'' : ((xh : Nat) : Int) ≠ ((hf : Nat) : Int) := by omega
          by_cases e3 : xh = 0
          · subst e3
            have hin : (inHalf col hf ⟨xc, xt, 0⟩ && ok) = ok := by unfold inHalf; simp only; rw [e1]; simp
            gi_upto_region 4 with fail
            gi_wp2
            refine ⟨trivial, fun _ => by omega, ?_⟩
            refine (callsIn_wide.2 KF.out).mono ?_
            rintro e w1 ⟨rfl, hb1⟩
            simp only
            have hb2 := hb1.alloc hb1.size (.cells #[.int .i64 z0, .string z1, .int .u8 (z2 : Nat), .bool z3, .int .i64 z4, .int .i64 z5, .int .i64 z6, .int .u8 (z7 : Nat), .bool z8] 43)
            have hy := Bk.new w1 43 #[.int .i64 z0, .string z1, .int .u8 (z2 : Nat), .bool z3, .int .i64 z4, .int .i64 z5, .int .i64 z6, .int .u8 (z7 : Nat), .bool z8]
            gi_upto_region 5 with fail
            generalize w1.heap.size = gy at *
            generalize (w1.alloc _) = V2 at *
            clear KF x0 x1 x2 x3 ei eh eb hb1
            clear w1
            have HK2 := Lib.hid (HK1.out.trans (KpG.below hb2 (Nat.le_trans hW HK1.out.1.size)))
            have HX2 := HX.out.below hb2 HX.out.lt
            have HJ2 := Lib.hid (AbidesFrom.below hJ (W := V1) (W' := V2) HJ1.out hb2)
            cases ok with
            | false =>
              have HNO : Hid (J (halfL boxes (l.take (j + 1)) col hf) V2) := Lib.hid (by rw [HTS.out, hin]; simpa using HJ2.out)
              have HKN := HK2
              clear HX2 hy hb2
              gi_wp2
              refine ⟨fun _ h => (by cases h), ?_⟩
              gi_wp2
              go_roundw
              case rel => (repeat apply Exists.intro); (first | exact ⟨⟨j + 1, a1, by go_num, HNO.out, HKN⟩, rfl⟩ | exact ⟨j + 1, a1, by go_num, HNO.out, HKN⟩ | exact ⟨a1, by go_num, HNO.out, HKN⟩)
              case measure => simp [intOf]; omega
            | true =>
              have HNO2 : Hid (halfL boxes (l.take (j + 1)) col hf = T ++ [(⟨xc, xt, 0⟩, ⟨z0, z1, z2, z3, z4, z5, z6, z7, z8⟩)]) := Lib.hid (by rw [HTS.out, hin]; rfl)
              have r1 : V2.cell? ⟨gx, 1, none⟩ = some (.int .i64 xc) := HX2.cell 1
              have r2 : V2.cell? ⟨gx, 2, none⟩ = some (.int .i64 xt) := HX2.cell 2
              have r3 : V2.cell? ⟨gx, 3, none⟩ = some (.int .u8 (0 : Nat)) := HX2.cell 3
              have y0 : V2.cell? ⟨gy, 0, none⟩ = some (.int .i64 z0) := hy.cell 0
              have y1 : V2.cell? ⟨gy, 1, none⟩ = some (.string z1) := hy.cell 1
              have y2 : V2.cell? ⟨gy, 2, none⟩ = some (.int .u8 (z2 : Nat)) := hy.cell 2
              have y3 : V2.cell? ⟨gy, 3, none⟩ = some (.bool z3) := hy.cell 3
              have y4 : V2.cell? ⟨gy, 4, none⟩ = some (.int .i64 z4) := hy.cell 4
              have y5 : V2.cell? ⟨gy, 5, none⟩ = some (.int .i64 z5) := hy.cell 5
              have y6 : V2.cell? ⟨gy, 6, none⟩ = some (.int .i64 z6) := hy.cell 6
              have y7 : V2.cell? ⟨gy, 7, none⟩ = some (.int .u8 (z7 : Nat)) := hy.cell 7
              have y8 : V2.cell? ⟨gy, 8, none⟩ = some (.bool z8) := hy.cell 8
              obtain ⟨fn, tmps, assign, body, hyy, hR⟩ := hY T (⟨xc, xt, 0⟩, ⟨z0, z1, z2, z3, z4, z5, z6, z7, z8⟩) V2 HJ2.out HPRE.out
              unfold sltL bxL at hyy
              simp only at hyy
              try rw [show ((0 : Nat) : Int) = 0 from rfl] at hyy
              clear HX2 hy hb2
              gi_wp2
              refine ⟨fun _ => by omega, ?_⟩
              refine hR.mono ?_
              rintro e V4 (⟨rfl, hJ4, hk4⟩ | ⟨rfl, hJx⟩)
              · have HNO : Hid (J (halfL boxes (l.take (j + 1)) col hf) V4) := Lib.hid (by rw [HNO2.out]; exact hJ4)
                have HKN := Lib.hid (HK2.out.trans hk4)
                clear hJ4 hk4 HNO2
                gi_wp2
                go_roundw
                case rel => (repeat apply Exists.intro); (first | exact ⟨⟨j + 1, a1, by go_num, HNO.out, HKN⟩, rfl⟩ | exact ⟨j + 1, a1, by go_num, HNO.out, HKN⟩ | exact ⟨a1, by go_num, HNO.out, HKN⟩)
                case measure => simp [intOf]; omega
              · gi_wp2
                refine bodyPost_ret (results_none rfl _ _ _) rfl ?_
                exact ⟨⟨_, rfl⟩, .inr ⟨_, trivial, hJx⟩⟩
          · have e3' : ((xh : Nat) : Int) ≠ 0 := by omega
            have hin : (inHalf col hf ⟨xc, xt, xh⟩ && ok) = false := by unfold inHalf; simp only; rw [e1]; simp [e2, e3]
            have HNO : Hid (J (halfL boxes (l.take (j + 1)) col hf) V1) := Lib.hid (by rw [HTS.out, hin]; simpa using HJ1.out)
            have HKN := HK1
            gi_wp2
            go_roundw
            case rel => (repeat apply Exists.intro); (first | exact ⟨⟨j + 1, a1, by go_num, HNO.out, HKN⟩, rfl⟩ | exact ⟨j + 1, a1, by go_num, HNO.out, HKN⟩ | exact ⟨a1, by go_num, HNO.out, HKN⟩)
            case measure => simp [intOf]; omega
    · obtain rfl : j = l.length := by omega
      rw [List.take_length] at hJj
      gi_wp2
      go_end0
      exact ⟨⟨_, rfl⟩, .inl ⟨_, rfl, hJj⟩⟩
end Go.Proofs.Ytncfakkajknhaaa
