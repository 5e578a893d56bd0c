/-
  Contracts and lemmas, in one text: LaA, LaB, LaC, LaD, LaE.
-/
import Derived.Sort.CutIn
import Derived.Test.YtmkplemdnglhmaaStL
import Derived.Test.YtmkplemdnglhmaaStM
import Derived.Test.YtmkplemdnglhmaaStN
namespace Go.Proofs.Ytmkplemdnglhmaa
open Go.RowKit Go.Shelf

def inHalf (c : Int) (h : Nat) (y : Slt) : Bool := y.col == c && (y.half == h || y.half == 0)
/-- What half yields of the box at an index. -/
def halfOf (boxes : List Bx) (c : Int) (h : Nat) (x : Stw) : Option (Slt × Bx) := if inHalf c h x.slot && (findBx boxes x.box).2 then some (x.slot, (findBx boxes x.box).1) else none
/-- What half yields. -/
def halfL (boxes : List Bx) (l : List Stw) (c : Int) (h : Nat) : List (Slt × Bx) := l.filterMap (halfOf boxes c h)
theorem halfL_succ (boxes : List Bx) (l : List Stw) (c : Int) (h : Nat) {j : Nat} (hj : j < l.length) : halfL boxes (l.take (j + 1)) c h = halfL boxes (l.take j) c h ++ if inHalf c h (l.getD j default).slot && (findBx boxes (l.getD j default).box).2 then [((l.getD j default).slot, (findBx boxes (l.getD j default).box).1)] else [] := by
  unfold halfL
  rw [List.take_succ_eq_append_getElem hj, List.filterMap_append]
  have e : l.getD j default = l[j] := by simp [hj]
  rw [e]
  congr 1
  simp only [List.filterMap_cons, List.filterMap_nil, halfOf]
  cases (inHalf c h l[j].slot && (findBx boxes l[j].box).2) <;> rfl
theorem halfL_len (boxes : List Bx) (l : List Stw) (c : Int) (h : Nat) : (halfL boxes l c h).length ≤ l.length := List.length_filterMap_le _ _
/-- What a round keeps: what lay below n₀, and all blocks but one. -/
def KpG (n₀ go : Nat) (W W' : World) : Prop := Below n₀ W W' ∧ ∀ g t cs, g ≠ go → Bk W g t cs → Bk W' g t cs
theorem KpG.trans {n₀ go : Nat} {A B C : World} (h : KpG n₀ go A B) (k : KpG n₀ go B C) : KpG n₀ go A C := ⟨h.1.trans k.1, fun g t cs h1 hg => k.2 g t cs h1 (h.2 g t cs h1 hg)⟩
theorem KpG.put {n₀ go : Nat} {w : World} (hn : n₀ ≤ w.heap.size) (W : World) (l : Nat) (o o' : Obj) (hl : w.heap.size ≤ l) (h : W.heap[l]? = some o) (hc : o.isCells = false) (hw : o.isWalk = false) : KpG n₀ go W (W.putObj l o') :=
  ⟨belowK_b hn W l o o' hl h hc hw, fun g t cs _ hg => hg.grown (grownBy_putObj' W l o') (by
    intro e; cases e
    unfold Bk at hg
    rw [h] at hg; cases hg; cases hc)⟩
theorem KpG.below {n₀ go : Nat} {W W' : World} (h : Below W.heap.size W W') (hn : n₀ ≤ W.heap.size) : KpG n₀ go W W' := ⟨h.mono hn, fun _ _ _ _ hg => hg.below h hg.lt⟩
/-- What half$1 has captured. -/
structure HC (W : World) (n₀ go : Nat) (A : Option Addr) (c : Nat) (boxes : List Bx) (A2 : Option Addr) (c2 : Nat) (l : List Stw) (col : Int) (hf : Nat) (gl gi gh gb : Nat) : Prop where
  bl : Bk W gl 38 #[.slice A2 l.length c2]
  bi : Bk W gi 3 #[.int .i64 col]
  bh : Bk W gh 5 #[.int .u8 (hf : Nat)]
  bb : Bk W gb 33 #[.slice A boxes.length c]
  sb : SlT tBx W (Lt n₀) A boxes
  sl : SlT tStw W (Lt n₀) A2 l
  ne : gl ≠ go ∧ gi ≠ go ∧ gh ≠ go ∧ gb ≠ go
theorem HC.keep {W W' : World} {n₀ go : Nat} {A : Option Addr} {c : Nat} {boxes : List Bx} {A2 : Option Addr} {c2 : Nat} {l : List Stw} {col : Int} {hf gl gi gh gb : Nat} (f : HC W n₀ go A c boxes A2 c2 l col hf gl gi gh gb) (hk : KpG n₀ go W W') : HC W' n₀ go A c boxes A2 c2 l col hf gl gi gh gb :=
  ⟨hk.2 _ _ _ f.ne.1 f.bl, hk.2 _ _ _ f.ne.2.1 f.bi, hk.2 _ _ _ f.ne.2.2.1 f.bh, hk.2 _ _ _ f.ne.2.2.2 f.bb, f.sb.below hk.1, f.sl.below hk.1, f.ne⟩
def pairL (x : Slt × Bx) : Array Value := #[.agg (sltL x.1).toArray, .agg (bxL x.2).toArray]

attribute [local go_sem] Oper.semAt_some

set_option maxRecDepth 100000 in
set_option maxHeartbeats 8000000 in
theorem half1_in (m : Nat) (hn : 3 ≤ m) (lb n₀ go : Nat) (A : Option Addr) (c : Nat) (boxes : List Bx) (A2 : Option Addr) (c2 : Nat) (l : List Stw) (col : Int) (hf gl gi gh gb : Nat) (J Jx : List (Slt × Bx) → World → Prop) (W : World) (hJ : AbidesFrom W.heap.size J)
    (hY : ∀ pre x W1, J pre W1 → pre.length < l.length → YieldAt Fence.wide (m - 1) Try.prog lb #[.agg (sltL x.1).toArray, .agg (bxL x.2).toArray] W1 fun e W' =>
      (e = .returned (.bool true) ∧ J (pre ++ [x]) W' ∧ KpG n₀ go W1 W') ∨ (e = .returned (.bool false) ∧ Jx (pre ++ [x]) W'))
    (hc : HC W n₀ go A c boxes A2 c2 l col hf gl gi gh gb) (hW : n₀ ≤ W.heap.size) (hbl : boxes.length ≤ 1000000) (hl : l.length ≤ 1000000) (h0 : J [] W) :
    CallsIn Fence.wide m Try.prog 117 #[.func (.yield lb) #[] #[], .pointer (some ⟨gl, 0, none⟩), .pointer (some ⟨gi, 0, none⟩), .pointer (some ⟨gh, 0, none⟩), .pointer (some ⟨gb, 0, none⟩)] W fun e W' => (∃ v, e = .returned v) ∧
      ((∃ xs, xs = halfL boxes l col hf ∧ J xs W') ∨ (∃ pre, True ∧ Jx pre W')) := by
  refine callsIn_of_wp Try.func117 rfl trivial ?_ rfl
  simp only [Try.ntmps117, List.size_toArray, List.length_cons, List.length_nil, Nat.reduceAdd, Nat.reduceSub, Array.replicate_succ, Array.replicate_zero, List.push_toArray, List.append_toArray, List.nil_append, List.cons_append]
  have HF := Lib.hid hc
  have el : W.cell? ⟨gl, 0, none⟩ = some (.slice A2 l.length c2) := hc.bl.cell 0
  clear hc
  gi_wp2
  clear el
  gi_loopw [12] (fun i wr => ∃ j : Nat, j ≤ l.length ∧ i = .int .i64 j ∧ J (halfL boxes (l.take j) col hf) wr ∧ Hid (KpG n₀ go W wr)) (fun i _ => l.length - (intOf i).toNat)
  case atStart => exact ⟨0, Nat.zero_le _, rfl, by simpa [halfL] using h0, Lib.hid ⟨Below.refl _ _, fun _ _ _ _ h => h⟩⟩
  case round =>
    obtain ⟨j, hj, rfl, hJj, HK⟩ := hrel
    obtain ⟨V, rfl⟩ : ∃ V, V = wr := ⟨_, rfl⟩
    by_cases hlt : j < l.length
    · have HG := HF.out.keep HK.out
      obtain ⟨b, off, rfl, hbB, d0, d1, d2, d3⟩ := HG.sl.stw hlt
      have hVW := HK.out.1.size
      have HTS := Lib.hid (halfL_succ boxes l col hf hlt)
      have hpre : (halfL boxes (l.take j) col hf).length < l.length := by
        have h1 := halfL_len boxes (l.take j) col hf
        simp only [List.length_take] at h1
        omega
      have HPRE := Lib.hid hpre
      clear hpre
      have HJ1 := Lib.hid (AbidesFrom.below hJ hJj (ba1 V (.cells #[.int .i64 (l.getD j default).box, .int .i64 (l.getD j default).slot.col, .int .i64 (l.getD j default).slot.tier, .int .u8 ((l.getD j default).slot.half : Nat)] 42)))
      have HK1 : Hid (KpG n₀ go W _) := Lib.hid (HK.out.trans (KpG.below (ba1 V (.cells #[.int .i64 (l.getD j default).box, .int .i64 (l.getD j default).slot.col, .int .i64 (l.getD j default).slot.tier, .int .u8 ((l.getD j default).slot.half : Nat)] 42)) (by have := HK.out.1.size; omega)))
      have hx := Bk.new V 42 #[.int .i64 (l.getD j default).box, .int .i64 (l.getD j default).slot.col, .int .i64 (l.getD j default).slot.tier, .int .u8 ((l.getD j default).slot.half : Nat)]
      have a1 : j + 1 ≤ l.length := hlt
      have i0 : (0 : Int) ≤ (j : Int) := by omega
      have i1 : (j : Int) < (l.length : Int) := by omega
      clear HG hJj
      generalize halfL boxes (l.take j) col hf = T at *
      generalize l.getD j default = x at *
      obtain ⟨xb, xc, xt, xh⟩ := x
      simp only at d0 d1 d2 d3 HTS HK1 HJ1 hx
      gi_upto_region 3 with fail
      clear d0 d1 d2 d3
      generalize V.heap.size = gx at *
      generalize (V.alloc _) = V1 at *
      have HC := HF.out.keep HK1.out
      have x0 : V1.cell? ⟨gx, 0, none⟩ = some (.int .i64 xb) := hx.cell 0
      have x1 : V1.cell? ⟨gx, 1, none⟩ = some (.int .i64 xc) := hx.cell 1
      have x2 : V1.cell? ⟨gx, 2, none⟩ = some (.int .i64 xt) := hx.cell 2
      have x3 : V1.cell? ⟨gx, 3, none⟩ = some (.int .u8 (xh : Nat)) := hx.cell 3
      have ei : V1.cell? ⟨gi, 0, none⟩ = some (.int .i64 col) := HC.bi.cell 0
      have eh : V1.cell? ⟨gh, 0, none⟩ = some (.int .u8 (hf : Nat)) := HC.bh.cell 0
      have eb : V1.cell? ⟨gb, 0, none⟩ = some (.slice A boxes.length c) := HC.bb.cell 0
      have KF := Lib.hid (stowFind_any A c boxes xb V1 (HC.sb.up (Nat.le_trans hW HK1.out.1.size)) hbl)
      generalize findBx boxes xb = fb at *
      obtain ⟨⟨z0, z1, z2, z3, z4, z5, z6, z7, z8⟩, ok⟩ := fb
      unfold bxL at KF
      simp only at KF HTS
      have HX := Lib.hid hx
      clear HC hx HK
      cases e1 : (xc == col) with
      | false =>
        have e1' : (xc != col) = true := by simpa using e1
        have hin : (inHalf col hf ⟨xc, xt, xh⟩ && ok) = false := by unfold inHalf; simp only; rw [e1]; rfl
        have HNO : Hid (J (halfL boxes (l.take (j + 1)) col hf) V1) := Lib.hid (by rw [HTS.out, hin]; simpa using HJ1.out)
        have HKN := HK1
        gi_wp2
        go_roundw
        case rel => (repeat apply Exists.intro); (first | exact ⟨⟨j + 1, a1, by go_num, HNO.out, HKN⟩, rfl⟩ | exact ⟨j + 1, a1, by go_num, HNO.out, HKN⟩ | exact ⟨a1, by go_num, HNO.out, HKN⟩)
        case measure => simp [intOf]; omega
      | true =>
        have e1' : (xc != col) = false := by simpa using e1
        by_cases e2 : xh = hf
        · subst e2
          have hin : (inHalf col xh ⟨xc, xt, xh⟩ && ok) = ok := by unfold inHalf; simp only; rw [e1]; simp
          gi_upto_region 4 with fail
          gi_wp2
          refine ⟨trivial, fun _ => by omega, ?_⟩
          refine (callsIn_wide.2 KF.out).mono ?_
          rintro e w1 ⟨rfl, hb1⟩
          simp only
          have hb2 := hb1.alloc hb1.size (.cells #[.int .i64 z0, .string z1, .int .u8 (z2 : Nat), .bool z3, .int .i64 z4, .int .i64 z5, .int .i64 z6, .int .u8 (z7 : Nat), .bool z8] 37)
          have hy := Bk.new w1 37 #[.int .i64 z0, .string z1, .int .u8 (z2 : Nat), .bool z3, .int .i64 z4, .int .i64 z5, .int .i64 z6, .int .u8 (z7 : Nat), .bool z8]
          gi_upto_region 5 with fail
          generalize w1.heap.size = gy at *
          generalize (w1.alloc _) = V2 at *
          clear KF x0 x1 x2 x3 ei eh eb hb1
          clear w1
          have HK2 := Lib.hid (HK1.out.trans (KpG.below hb2 (Nat.le_trans hW HK1.out.1.size)))
          have HX2 := HX.out.below hb2 HX.out.lt
          have HJ2 := Lib.hid (AbidesFrom.below hJ (W := V1) (W' := V2) HJ1.out hb2)
          cases ok with
          | false =>
            have HNO : Hid (J (halfL boxes (l.take (j + 1)) col xh) V2) := Lib.hid (by rw [HTS.out, hin]; simpa using HJ2.out)
            have HKN := HK2
            clear HX2 hy hb2
            gi_wp2
            refine ⟨fun _ h => (by cases h), ?_⟩
            gi_wp2
            go_roundw
            case rel => (repeat apply Exists.intro); (first | exact ⟨⟨j + 1, a1, by go_num, HNO.out, HKN⟩, rfl⟩ | exact ⟨j + 1, a1, by go_num, HNO.out, HKN⟩ | exact ⟨a1, by go_num, HNO.out, HKN⟩)
            case measure => simp [intOf]; omega
          | true =>
            have HNO2 : Hid (halfL boxes (l.take (j + 1)) col xh = T ++ [(⟨xc, xt, xh⟩, ⟨z0, z1, z2, z3, z4, z5, z6, z7, z8⟩)]) := Lib.hid (by rw [HTS.out, hin]; rfl)
            have r1 : V2.cell? ⟨gx, 1, none⟩ = some (.int .i64 xc) := HX2.cell 1
            have r2 : V2.cell? ⟨gx, 2, none⟩ = some (.int .i64 xt) := HX2.cell 2
            have r3 : V2.cell? ⟨gx, 3, none⟩ = some (.int .u8 (xh : Nat)) := HX2.cell 3
            have y0 : V2.cell? ⟨gy, 0, none⟩ = some (.int .i64 z0) := hy.cell 0
            have y1 : V2.cell? ⟨gy, 1, none⟩ = some (.string z1) := hy.cell 1
            have y2 : V2.cell? ⟨gy, 2, none⟩ = some (.int .u8 (z2 : Nat)) := hy.cell 2
            have y3 : V2.cell? ⟨gy, 3, none⟩ = some (.bool z3) := hy.cell 3
            have y4 : V2.cell? ⟨gy, 4, none⟩ = some (.int .i64 z4) := hy.cell 4
            have y5 : V2.cell? ⟨gy, 5, none⟩ = some (.int .i64 z5) := hy.cell 5
            have y6 : V2.cell? ⟨gy, 6, none⟩ = some (.int .i64 z6) := hy.cell 6
            have y7 : V2.cell? ⟨gy, 7, none⟩ = some (.int .u8 (z7 : Nat)) := hy.cell 7
            have y8 : V2.cell? ⟨gy, 8, none⟩ = some (.bool z8) := hy.cell 8
            obtain ⟨fn, tmps, assign, body, hyy, hR⟩ := hY T (⟨xc, xt, xh⟩, ⟨z0, z1, z2, z3, z4, z5, z6, z7, z8⟩) V2 HJ2.out HPRE.out
            unfold sltL bxL at hyy
            simp only at hyy
            try rw [show ((0 : Nat) : Int) = 0 from rfl] at hyy
            clear HX2 hy hb2
            gi_wp2
            refine ⟨fun _ => by omega, ?_⟩
            refine hR.mono ?_
            rintro e V4 (⟨rfl, hJ4, hk4⟩ | ⟨rfl, hJx⟩)
            · have HNO : Hid (J (halfL boxes (l.take (j + 1)) col xh) V4) := Lib.hid (by rw [HNO2.out]; exact hJ4)
              have HKN := Lib.hid (HK2.out.trans hk4)
              clear hJ4 hk4 HNO2
              gi_wp2
              go_roundw
              case rel => (repeat apply Exists.intro); (first | exact ⟨⟨j + 1, a1, by go_num, HNO.out, HKN⟩, rfl⟩ | exact ⟨j + 1, a1, by go_num, HNO.out, HKN⟩ | exact ⟨a1, by go_num, HNO.out, HKN⟩)
              case measure => simp [intOf]; omega
            · gi_wp2
              refine bodyPost_ret (results_none rfl _ _ _) rfl ?_
              exact ⟨⟨_, rfl⟩, .inr ⟨_, trivial, hJx⟩⟩
        · have e2' : (((xh : Nat) : Int) != ((hf : Nat) : Int)) = true := by simp; omega
          have e2'' : ((xh : Nat) : Int) ≠ ((hf : Nat) : Int) := by omega
          by_cases e3 : xh = 0
          · subst e3
            have hin : (inHalf col hf ⟨xc, xt, 0⟩ && ok) = ok := by unfold inHalf; simp only; rw [e1]; simp
            gi_upto_region 4 with fail
            gi_wp2
            refine ⟨trivial, fun _ => by omega, ?_⟩
            refine (callsIn_wide.2 KF.out).mono ?_
            rintro e w1 ⟨rfl, hb1⟩
            simp only
            have hb2 := hb1.alloc hb1.size (.cells #[.int .i64 z0, .string z1, .int .u8 (z2 : Nat), .bool z3, .int .i64 z4, .int .i64 z5, .int .i64 z6, .int .u8 (z7 : Nat), .bool z8] 37)
            have hy := Bk.new w1 37 #[.int .i64 z0, .string z1, .int .u8 (z2 : Nat), .bool z3, .int .i64 z4, .int .i64 z5, .int .i64 z6, .int .u8 (z7 : Nat), .bool z8]
            gi_upto_region 5 with fail
            generalize w1.heap.size = gy at *
            generalize (w1.alloc _) = V2 at *
            clear KF x0 x1 x2 x3 ei eh eb hb1
            clear w1
            have HK2 := Lib.hid (HK1.out.trans (KpG.below hb2 (Nat.le_trans hW HK1.out.1.size)))
            have HX2 := HX.out.below hb2 HX.out.lt
            have HJ2 := Lib.hid (AbidesFrom.below hJ (W := V1) (W' := V2) HJ1.out hb2)
            cases ok with
            | false =>
              have HNO : Hid (J (halfL boxes (l.take (j + 1)) col hf) V2) := Lib.hid (by rw [HTS.out, hin]; simpa using HJ2.out)
              have HKN := HK2
              clear HX2 hy hb2
              gi_wp2
              refine ⟨fun _ h => (by cases h), ?_⟩
              gi_wp2
              go_roundw
              case rel => (repeat apply Exists.intro); (first | exact ⟨⟨j + 1, a1, by go_num, HNO.out, HKN⟩, rfl⟩ | exact ⟨j + 1, a1, by go_num, HNO.out, HKN⟩ | exact ⟨a1, by go_num, HNO.out, HKN⟩)
              case measure => simp [intOf]; omega
            | true =>
              have HNO2 : Hid (halfL boxes (l.take (j + 1)) col hf = T ++ [(⟨xc, xt, 0⟩, ⟨z0, z1, z2, z3, z4, z5, z6, z7, z8⟩)]) := Lib.hid (by rw [HTS.out, hin]; rfl)
              have r1 : V2.cell? ⟨gx, 1, none⟩ = some (.int .i64 xc) := HX2.cell 1
              have r2 : V2.cell? ⟨gx, 2, none⟩ = some (.int .i64 xt) := HX2.cell 2
              have r3 : V2.cell? ⟨gx, 3, none⟩ = some (.int .u8 (0 : Nat)) := HX2.cell 3
              have y0 : V2.cell? ⟨gy, 0, none⟩ = some (.int .i64 z0) := hy.cell 0
              have y1 : V2.cell? ⟨gy, 1, none⟩ = some (.string z1) := hy.cell 1
              have y2 : V2.cell? ⟨gy, 2, none⟩ = some (.int .u8 (z2 : Nat)) := hy.cell 2
              have y3 : V2.cell? ⟨gy, 3, none⟩ = some (.bool z3) := hy.cell 3
              have y4 : V2.cell? ⟨gy, 4, none⟩ = some (.int .i64 z4) := hy.cell 4
              have y5 : V2.cell? ⟨gy, 5, none⟩ = some (.int .i64 z5) := hy.cell 5
              have y6 : V2.cell? ⟨gy, 6, none⟩ = some (.int .i64 z6) := hy.cell 6
              have y7 : V2.cell? ⟨gy, 7, none⟩ = some (.int .u8 (z7 : Nat)) := hy.cell 7
              have y8 : V2.cell? ⟨gy, 8, none⟩ = some (.bool z8) := hy.cell 8
              obtain ⟨fn, tmps, assign, body, hyy, hR⟩ := hY T (⟨xc, xt, 0⟩, ⟨z0, z1, z2, z3, z4, z5, z6, z7, z8⟩) V2 HJ2.out HPRE.out
              unfold sltL bxL at hyy
              simp only at hyy
              try rw [show ((0 : Nat) : Int) = 0 from rfl] at hyy
              clear HX2 hy hb2
              gi_wp2
              refine ⟨fun _ => by omega, ?_⟩
              refine hR.mono ?_
              rintro e V4 (⟨rfl, hJ4, hk4⟩ | ⟨rfl, hJx⟩)
              · have HNO : Hid (J (halfL boxes (l.take (j + 1)) col hf) V4) := Lib.hid (by rw [HNO2.out]; exact hJ4)
                have HKN := Lib.hid (HK2.out.trans hk4)
                clear hJ4 hk4 HNO2
                gi_wp2
                go_roundw
                case rel => (repeat apply Exists.intro); (first | exact ⟨⟨j + 1, a1, by go_num, HNO.out, HKN⟩, rfl⟩ | exact ⟨j + 1, a1, by go_num, HNO.out, HKN⟩ | exact ⟨a1, by go_num, HNO.out, HKN⟩)
                case measure => simp [intOf]; omega
              · gi_wp2
                refine bodyPost_ret (results_none rfl _ _ _) rfl ?_
                exact ⟨⟨_, rfl⟩, .inr ⟨_, trivial, hJx⟩⟩
          · have e3' : ((xh : Nat) : Int) ≠ 0 := by omega
            have hin : (inHalf col hf ⟨xc, xt, xh⟩ && ok) = false := by unfold inHalf; simp only; rw [e1]; simp [e2, e3]
            have HNO : Hid (J (halfL boxes (l.take (j + 1)) col hf) V1) := Lib.hid (by rw [HTS.out, hin]; simpa using HJ1.out)
            have HKN := HK1
            gi_wp2
            go_roundw
            case rel => (repeat apply Exists.intro); (first | exact ⟨⟨j + 1, a1, by go_num, HNO.out, HKN⟩, rfl⟩ | exact ⟨j + 1, a1, by go_num, HNO.out, HKN⟩ | exact ⟨a1, by go_num, HNO.out, HKN⟩)
            case measure => simp [intOf]; omega
    · obtain rfl : j = l.length := by omega
      rw [List.take_length] at hJj
      gi_wp2
      go_end0
      exact ⟨⟨_, rfl⟩, .inl ⟨_, rfl, hJj⟩⟩
end Go.Proofs.Ytmkplemdnglhmaa
namespace Go.Proofs.Ytmkplemdnglhmaa
open Go.RowKit Go.Shelf

/-- The function value that half hands back. -/
@[reducible] def halfV (gl gi gh gb : Nat) : Value := .func (.func 117) #[] #[.pointer (some ⟨gl, 0, none⟩), .pointer (some ⟨gi, 0, none⟩), .pointer (some ⟨gh, 0, none⟩), .pointer (some ⟨gb, 0, none⟩)]
/-- The blocks of its variables. -/
structure HB (W : World) (A : Option Addr) (c n : Nat) (A2 : Option Addr) (c2 n2 : Nat) (col : Int) (hf gl gi gh gb : Nat) : Prop where
  bl : Bk W gl 38 #[.slice A2 n2 c2]
  bi : Bk W gi 3 #[.int .i64 col]
  bh : Bk W gh 5 #[.int .u8 (hf : Nat)]
  bb : Bk W gb 33 #[.slice A n c]
theorem HB.on {W W' : World} {A : Option Addr} {c n : Nat} {A2 : Option Addr} {c2 n2 : Nat} {col : Int} {hf gl gi gh gb : Nat} (h : HB W A c n A2 c2 n2 col hf gl gi gh gb) (hb : Below W.heap.size W W') : HB W' A c n A2 c2 n2 col hf gl gi gh gb :=
  ⟨h.bl.below hb h.bl.lt, h.bi.below hb h.bi.lt, h.bh.below hb h.bh.lt, h.bb.below hb h.bb.lt⟩
def LHalfRet (w : World) (A : Option Addr) (c n : Nat) (A2 : Option Addr) (c2 n2 : Nat) (col : Int) (hf : Nat) (e : Ending) (W : World) : Prop :=
  ∃ gl gi gh gb, e = .returned (halfV gl gi gh gb) ∧ HB W A c n A2 c2 n2 col hf gl gi gh gb ∧ Below w.heap.size w W
set_option maxRecDepth 100000 in
set_option maxHeartbeats 1000000 in
theorem half_any (A : Option Addr) (c n : Nat) (A2 : Option Addr) (c2 n2 : Nat) (col : Int) (hf : Nat) (w : World) :
    Calls Try.prog 91 #[.slice A n c, .slice A2 n2 c2, .int .i64 col, .int .u8 (hf : Nat)] w (LHalfRet w A c n A2 c2 n2 col hf) := by
  have b1 := ba1 w (.cells #[.slice A n c] 33)
  have b2 := ba1 (w.alloc (.cells #[.slice A n c] 33)) (.cells #[.slice A2 n2 c2] 38)
  have b3 := ba1 ((w.alloc (.cells #[.slice A n c] 33)).alloc (.cells #[.slice A2 n2 c2] 38)) (.cells #[.int .i64 col] 3)
  have b4 := ba1 (((w.alloc (.cells #[.slice A n c] 33)).alloc (.cells #[.slice A2 n2 c2] 38)).alloc (.cells #[.int .i64 col] 3)) (.cells #[.int .u8 (hf : Nat)] 5)
  have k1 := Bk.new w 33 #[.slice A n c]
  have k2 := Bk.at_ (w := w.alloc (.cells #[.slice A n c] 33)) (g := w.heap.size + 1) 38 #[.slice A2 n2 c2] (by simp)
  have k3 := Bk.at_ (w := (w.alloc (.cells #[.slice A n c] 33)).alloc (.cells #[.slice A2 n2 c2] 38)) (g := w.heap.size + 2) 3 #[.int .i64 col] (by simp)
  have k4 := Bk.at_ (w := ((w.alloc (.cells #[.slice A n c] 33)).alloc (.cells #[.slice A2 n2 c2] 38)).alloc (.cells #[.int .i64 col] 3)) (g := w.heap.size + 3) 5 #[.int .u8 (hf : Nat)] (by simp)
  have HH : Hid (HB ((((w.alloc (.cells #[.slice A n c] 33)).alloc (.cells #[.slice A2 n2 c2] 38)).alloc (.cells #[.int .i64 col] 3)).alloc (.cells #[.int .u8 (hf : Nat)] 5)) A c n A2 c2 n2 col hf (w.heap.size + 1) (w.heap.size + 2) (w.heap.size + 3) w.heap.size) :=
    Lib.hid ⟨(k2.below b3 k2.lt).below b4 (k2.below b3 k2.lt).lt, k3.below b4 k3.lt, k4, ((k1.below b2 k1.lt).below b3 (k1.below b2 k1.lt).lt).below b4 ((k1.below b2 k1.lt).below b3 (k1.below b2 k1.lt).lt).lt⟩
  have HBE : Hid (Below w.heap.size w ((((w.alloc (.cells #[.slice A n c] 33)).alloc (.cells #[.slice A2 n2 c2] 38)).alloc (.cells #[.int .i64 col] 3)).alloc (.cells #[.int .u8 (hf : Nat)] 5))) :=
    Lib.hid (((b1.trans (b2.mono b1.size)).trans (b3.mono (Nat.le_trans b1.size b2.size))).trans (b4.mono (Nat.le_trans (Nat.le_trans b1.size b2.size) b3.size)))
  clear b1 b2 b3 b4 k1 k2 k3 k4
  go_enter Try.func91, Try.ntmps91
  go_wp2_with fail
  go_ret
  exact ⟨w.heap.size + 1, w.heap.size + 2, w.heap.size + 3, w.heap.size, rfl, HH.out, HBE.out⟩
/-- A closure on slots and boxes that returns f. -/
def SBFn (w : World) (fid : FuncId) (caps : Array Value) (f : Slt × Bx → Int) : Prop :=
  ∀ (x : Slt × Bx) (w' : World), Below w.heap.size w w' → Calls Try.prog fid (#[.agg (sltL x.1).toArray, .agg (bxL x.2).toArray] ++ caps) w' (Ret w' (.int .i64 (f x)))
/-- The sum as it is computed. -/
def sumW (f : Slt × Bx → Int) (l : List (Slt × Bx)) : Int := l.foldl (fun a x => IntKind.i64.wrap (a + f x)) 0
theorem sumW_succ (f : Slt × Bx → Int) (l : List (Slt × Bx)) (x : Slt × Bx) : sumW f (l ++ [x]) = IntKind.i64.wrap (sumW f l + f x) := by unfold sumW; rw [List.foldl_append]; rfl
theorem sumW_eq (f : Slt × Bx → Int) (M : Int) (h0 : 0 ≤ M) (n : Nat) (hM : M * n ≤ 9223372036854775807) (l : List (Slt × Bx)) (hl : l.length ≤ n) (h : ∀ x ∈ l, -M ≤ f x ∧ f x ≤ M) : sumW f l = (l.map f).sum := by
  have key : ∀ m : List (Slt × Bx), (∀ x ∈ m, -M ≤ f x ∧ f x ≤ M) → ∀ (a : Int) (k : Nat), k + m.length ≤ n → -(M * k) ≤ a → a ≤ M * k → m.foldl (fun a x => IntKind.i64.wrap (a + f x)) a = a + (m.map f).sum := fun m => by
    induction m with
    | nil => intro _ a k _ _ _; simp
    | cons x m ih =>
      intro hx a k hk h1 h2
      have hb := hx x (by simp)
      have hk1 : M * ((k + 1 : Nat) : Int) = M * k + M := by rw [Int.natCast_add, Int.mul_add]; simp
      have hk2 : M * ((k + 1 : Nat) : Int) ≤ M * n := Int.mul_le_mul_of_nonneg_left (by simp at hk; omega) h0
      simp only [List.foldl_cons, List.map_cons, List.sum_cons]
      rw [IntWalk.i64_in _ (by omega), ih (fun y hy => hx y (by simp [hy])) (a + f x) (k + 1) (by simp at hk; omega) (by omega) (by omega)]
      omega
  have := key l h 0 0 (by omega) (by simp) (by simp)
  unfold sumW
  rw [this]
  omega
theorem half_stops (m : Nat) (hm : 3 ≤ m) (n₀ go : Nat) (A : Option Addr) (c : Nat) (boxes : List Bx) (A2 : Option Addr) (c2 : Nat) (l : List Stw) (col : Int) (hf gl gi gh gb : Nat) (w : World)
    (hc : HC w n₀ go A c boxes A2 c2 l col hf gl gi gh gb) (hW : n₀ ≤ w.heap.size) (hbl : boxes.length ≤ 1000000) (hl : l.length ≤ 1000000) :
    SeqStopsK Fence.wide m Try.prog 117 #[.pointer (some ⟨gl, 0, none⟩), .pointer (some ⟨gi, 0, none⟩), .pointer (some ⟨gh, 0, none⟩), .pointer (some ⟨gb, 0, none⟩)] (fun x : Slt × Bx => #[.agg (sltL x.1).toArray, .agg (bxL x.2).toArray]) (KpG n₀ go) (fun xs => xs = halfL boxes l col hf) (fun _ => True) l.length w := fun lb J Jx W hb hJ _ hY h0 =>
  half1_in m hm lb n₀ go A c boxes A2 c2 l col hf gl gi gh gb J Jx W hJ hY (hc.keep (KpG.below hb hW)) (Nat.le_trans hW hb.size) hbl hl h0

/-- No operation of a region defers. -/
def noDeferB (ops : Array Oper) : Bool := (List.range ops.size).all fun i => match ops[i]? with
  | some o => (match o.op with
    | .defer _ => false
    | _ => true)
  | none => true
theorem noDefer_spec {ops : Array Oper} (h : noDeferB ops = true) {i : Nat} {o : Oper} (ho : ops[i]? = some o) (c : Call) : o.op ≠ .defer c := fun e => by
  have hlt : i < ops.size := (Array.getElem?_eq_some_iff.1 ho).1
  have h1 := List.all_eq_true.1 h i (List.mem_range.2 hlt)
  simp only [ho, e] at h1
  cases h1
theorem wpOpIn_inRound {F : Fence} {n : Nat} {P : Program} {ops : Array Oper} {Q : Exit → Act → World → Prop} {K : Act → World → Prop} {a : Act} {w : World} (l i : Nat) (hd : noDeferB ops = true) (h : wpOpIn F n P ops Q i K a w) : wpOpIn (F.inRound l) n P ops Q i K a w := by
  unfold wpOpIn at h ⊢
  split
  · rename_i ho; simp only [ho] at h; exact h
  · rename_i o ho
    simp only [ho] at h
    have hs := fun ρ => Oper.semAt_eq F.round ρ o (noDefer_spec hd ho)
    have hs' := fun ρ => Oper.semAt_eq (some l) ρ o (noDefer_spec hd ho)
    unfold Oper.wpIn at h ⊢
    rw [hs] at h
    rw [Fence.inRound_round, hs']
    exact h
theorem anyIn_inRound {F : Fence} {n : Nat} {P : Program} {ops : Array Oper} {Q : Exit → Act → World → Prop} (l : Nat) (hd : noDeferB ops = true) : ∀ (f : Nat) (listed : Array Bool) (a : Act) (w : World), wpAnyIn F n P .any ops Q f listed a w → wpAnyIn (F.inRound l) n P .any ops Q f listed a w
  | 0, _, _, _, h => h
  | f + 1, listed, a, w, h => ⟨h.1, fun i hi => wpOpIn_inRound l i hd (wpOpIn_mono (fun a' w' h' => anyIn_inRound l hd f _ a' w' h') (h.2 i hi))⟩
theorem AnyIn.inRound {F : Fence} {n : Nat} {P : Program} {ops : Array Oper} {Q : Exit → Act → World → Prop} {m : Nat} {a : Act} {w : World} (l : Nat) (hd : noDeferB ops = true) (h : AnyIn F n P ops Q m a w) : AnyIn (F.inRound l) n P ops Q m a w := anyIn_inRound l hd _ _ _ _ h
attribute [local go_sem] Oper.semAt_some

theorem keeps_below {w w' : World} (h : Below w.heap.size w w') : KeepsOthers w w' := ⟨h.size, fun k o hk _ => (h.block k (Array.getElem?_eq_some_iff.1 hk).1).trans hk⟩
@[reducible] def fT : TypeId := 139
set_option maxRecDepth 100000 in
set_option maxHeartbeats 4000000 in
theorem lsum_any (A : Option Addr) (c : Nat) (boxes : List Bx) (A2 : Option Addr) (c2 : Nat) (l : List Stw) (col : Int) (hf gl gi gh gb : Nat) (fid : FuncId) (caps : Array Value) (f : Slt × Bx → Int) (w : World)
    (hb : SlT tBx w (Lt w.heap.size) A boxes) (hbl : boxes.length ≤ 1000000) (hs : SlT tStw w (Lt w.heap.size) A2 l) (hl : l.length ≤ 1000000)
    (hh : HB w A c boxes.length A2 c2 l.length col hf gl gi gh gb)
    (hent : ∀ (args : Array Value) (w : World), (callFunc fid args).run Try.prog w = .ok (.enter fid args) w) (hfn : SBFn w fid caps f) :
    Calls Try.prog 90 #[halfV gl gi gh gb, .func (.func fid) #[] caps] w (Ret w (.int .i64 (sumW f (halfL boxes l col hf)))) := by
  have HB0 := Lib.hid hb
  have HS0 := Lib.hid hs
  have HH := Lib.hid hh
  have HFN := Lib.hid hfn
  clear hb hs hh hfn
  refine (callsIn_wide (n := 6)).1 ?_
  refine callsIn_of_wp_marks Try.func90 rfl trivial ?_ rfl
  simp only [Try.ntmps90, List.size_toArray, List.length_cons, List.length_nil, Nat.reduceAdd, Nat.reduceSub, Array.replicate_succ, Array.replicate_zero, List.push_toArray, List.append_toArray, List.nil_append, List.cons_append]
  have b1 := ba1 w (.cells #[.func (.func fid) #[] caps] fT)
  have b2 := ba1 (w.alloc (.cells #[.func (.func fid) #[] caps] fT)) (.cells #[.int .i64 0] 3)
  have k1 := Bk.new w fT #[.func (.func fid) #[] caps]
  have k2 := Bk.at_ (w := w.alloc (.cells #[.func (.func fid) #[] caps] fT)) (g := w.heap.size + 1) 3 #[.int .i64 0] (by simp)
  have HW0 := Lib.hid (b1.trans (b2.mono b1.size))
  have HKF := Lib.hid (k1.below b2 k1.lt)
  have HKO := Lib.hid k2
  have hz : w.heap.size + 1 < ((w.alloc (.cells #[.func (.func fid) #[] caps] fT)).alloc (.cells #[.int .i64 0] 3)).heap.size := k2.lt
  clear b1 b2 k1 k2
  gi_upto_region 2 with fail
  generalize ((w.alloc _).alloc _) = W0 at *
  have hW0 := HW0.out
  have hh0 := HH.out.on hW0
  have n1 := HH.out.bl.lt
  have n2 := HH.out.bi.lt
  have n3 := HH.out.bh.lt
  have n4 := HH.out.bb.lt
  have HCC : Hid (HC W0 w.heap.size (w.heap.size + 1) A c boxes A2 c2 l col hf gl gi gh gb) := Lib.hid ⟨hh0.bl, hh0.bi, hh0.bh, hh0.bb, HB0.out.below hW0, HS0.out.below hW0, by omega⟩
  clear hh0 n1 n2 n3 n4
  gi_wp2
  refine wpIn_rangeFunc_ownH (F := Fence.wide) (n := 6) rfl (by omega) (gf := 117) (lb := #[.pointer (some ⟨gl, 0, none⟩), .pointer (some ⟨gi, 0, none⟩), .pointer (some ⟨gh, 0, none⟩), .pointer (some ⟨gb, 0, none⟩)]) rfl trivial (enters_of Try.func117 (by kernel_rfl) rfl)
      (half_stops 5 (by omega) w.heap.size (w.heap.size + 1) A c boxes A2 c2 l col hf gl gi gh gb W0 HCC.out hW0.size hbl hl) KpG.trans (KpG.put hW0.size) (Below.refl _ _) (fun _ => rfl)
      (fun pre W => Bk W (w.heap.size + 1) 3 #[.int .i64 (sumW f pre)] ∧ Bk W w.heap.size fT #[.func (.func fid) #[] caps] ∧ Below w.heap.size w W)
      (fun _ _ _ => False)
      (OwnFrom.and (Own.from (bk_own (w.heap.size + 1) 3 (fun pre => #[.int .i64 (sumW f pre)])) _) (OwnFrom.and (Own.from (bk_own w.heap.size fT (fun _ => #[.func (.func fid) #[] caps])) _) (ownFrom_below (Nat.le_refl _) hW0.size)))
      (fun _ _ _ _ _ hs _ _ => hs)
      ⟨HKO.out, HKF.out, hW0⟩
      (fun x a' W => ∃ Bs Bb, w.heap.size + 1 < Bs ∧ w.heap.size + 1 < Bb ∧ Bk W Bs 40 (sltL x.1).toArray ∧ Bk W Bb 37 (bxL x.2).toArray ∧ a' = { tmps := #[halfV gl gi gh gb, .func (.func fid) #[] caps, undef, .pointer (some ⟨w.heap.size, 0, none⟩), .int .i64 0, .pointer (some ⟨w.heap.size + 1, 0, none⟩), .pointer (some ⟨Bs, 0, none⟩), .pointer (some ⟨Bb, 0, none⟩), halfV gl gi gh gb, .agg (sltL x.1).toArray, .agg (bxL x.2).toArray, undef, undef, undef, undef, undef, undef, undef], defers := [] })
      (fun x a' _ X Y row hs hg hr => by obtain ⟨Bs, Bb, h1, h2, h3, h4, h5⟩ := hs; exact ⟨Bs, Bb, h1, h2, bk_own Bs 40 (fun (_ : Unit) => (sltL x.1).toArray) () X Y row h3 hg (fun r e => (hr r e).2), bk_own Bb 37 (fun (_ : Unit) => (bxL x.2).toArray) () X Y row h4 hg (fun r e => (hr r e).2), h5⟩)
      ?assign ?body ?done ?stop
  case assign =>
    rintro lb pre x W K ⟨hko, hkf, hB1⟩ hK
    have b1 := ba1 W (.cells (sltL x.1).toArray 40)
    have b2 := ba1 (W.alloc (.cells (sltL x.1).toArray 40)) (.cells (bxL x.2).toArray 37)
    have k1 := Bk.new W 40 (sltL x.1).toArray
    have k2 := Bk.at_ (w := W.alloc (.cells (sltL x.1).toArray 40)) (g := W.heap.size + 1) 37 (bxL x.2).toArray (by simp)
    have b3 := b1.trans (b2.mono b1.size)
    have hlt := hko.lt
    have hfin := Lib.hid (hK { tmps := #[halfV gl gi gh gb, .func (.func fid) #[] caps, undef, .pointer (some ⟨w.heap.size, 0, none⟩), .int .i64 0, .pointer (some ⟨w.heap.size + 1, 0, none⟩), .pointer (some ⟨W.heap.size, 0, none⟩), .pointer (some ⟨W.heap.size + 1, 0, none⟩), halfV gl gi gh gb, .agg (sltL x.1).toArray, .agg (bxL x.2).toArray, undef, undef, undef, undef, undef, undef, undef], defers := [] } ((W.alloc (.cells (sltL x.1).toArray 40)).alloc (.cells (bxL x.2).toArray 37)) ((keeps_below b3).from _) (KpG.below b3 hB1.size) ⟨hko.below b3 hko.lt, hkf.below b3 hkf.lt, hB1.trans (b3.mono hB1.size)⟩ ⟨W.heap.size, W.heap.size + 1, hlt, by omega, k1.below b2 k1.lt, k2, rfl⟩)
    obtain ⟨⟨xc, xt, xh⟩, ⟨z0, z1, z2, z3, z4, z5, z6, z7, z8⟩⟩ := x
    unfold sltL bxL at hfin
    clear hK b1 b2 b3 k1 k2 hko hkf
    dsimp only [sltL, bxL]
    gi_wp2
    exact hfin.out
  case body =>
    rintro lb pre x a' W hl0 ⟨r, hr⟩ ⟨hko, hkf, hB⟩ ⟨Bs, Bb, hBs, hBb, bX, bY, rfl⟩ hlt
    have HKO2 := Lib.hid hko
    have HBW := Lib.hid hB
    have HC := Lib.hid (fun (V : World) (hV : Below W.heap.size W V) => HFN.out x V (hB.trans (hV.mono hB.size)))
    have HSW := Lib.hid (sumW_succ f pre x)
    have HKF2 := Lib.hid hkf
    have HBX := Lib.hid bX
    have HBY := Lib.hid bY
    obtain ⟨⟨xc, xt, xh⟩, ⟨z0, z1, z2, z3, z4, z5, z6, z7, z8⟩⟩ := x
    clear hl0 hr hko hkf hB hlt bX bY
    generalize sumW f pre = S at *
    generalize f (⟨xc, xt, xh⟩, ⟨z0, z1, z2, z3, z4, z5, z6, z7, z8⟩) = fx at *
    unfold sltL bxL at HC
    unfold sltL at HBX
    unfold bxL at HBY
    dsimp only [sltL, bxL] at HC HBX HBY ⊢
    obtain ⟨T, hT⟩ : ∃ T, IntKind.i64.wrap (S + fx) = T := ⟨_, rfl⟩
    have hT2 : wrap64 (S + fx) = T := by rw [← hT]; exact (IntWalk.i64_left _).symm
    rw [hT] at HSW
    gi_upto_region 5 with fail
    refine wpIn_region_at (by kernel_rfl) ?_
    refine AnyIn.inRound lb (by kernel_rfl) ?_
    have b3 := drew_below W 1
    generalize W.drewN 1 = V3 at *
    have HKO3 := Lib.hid (HKO2.out.below b3 HKO2.out.lt)
    have HKF3 := HKF2.out.below b3 HKF2.out.lt
    have HKF3' := Lib.hid HKF3
    have HW3 := Lib.hid b3
    have HBW0 := Lib.hid HBW.out
    have HBX3 := HBX.out.below b3 HBX.out.lt
    have HBY3 := HBY.out.below b3 HBY.out.lt
    have HBW3 := Lib.hid (HBW.out.trans (b3.mono HBW.out.size))
    have HC3 := Lib.hid (fun (V : World) (hV : Below V3.heap.size V3 V) => HC.out V (b3.trans (hV.mono b3.size)))
    have cO : ∀ p : Gr V3, p.W.cell? ⟨w.heap.size + 1, 0, none⟩ = some (.int .i64 S) := Gr.cell (HKO3.out.cell 0)
    have cF : ∀ p : Gr V3, p.W.cell? ⟨w.heap.size, 0, none⟩ = some (.func (.func fid) #[] caps) := Gr.cell (HKF3.cell 0)
    have x0 : ∀ p : Gr V3, p.W.cell? ⟨Bs, 0, none⟩ = some (.int .i64 xc) := Gr.cell (HBX3.cell 0)
    have x1 : ∀ p : Gr V3, p.W.cell? ⟨Bs, 1, none⟩ = some (.int .i64 xt) := Gr.cell (HBX3.cell 1)
    have x2 : ∀ p : Gr V3, p.W.cell? ⟨Bs, 2, none⟩ = some (.int .u8 (xh : Nat)) := Gr.cell (HBX3.cell 2)
    have y0 : ∀ p : Gr V3, p.W.cell? ⟨Bb, 0, none⟩ = some (.int .i64 z0) := Gr.cell (HBY3.cell 0)
    have y1 : ∀ p : Gr V3, p.W.cell? ⟨Bb, 1, none⟩ = some (.string z1) := Gr.cell (HBY3.cell 1)
    have y2 : ∀ p : Gr V3, p.W.cell? ⟨Bb, 2, none⟩ = some (.int .u8 (z2 : Nat)) := Gr.cell (HBY3.cell 2)
    have y3 : ∀ p : Gr V3, p.W.cell? ⟨Bb, 3, none⟩ = some (.bool z3) := Gr.cell (HBY3.cell 3)
    have y4 : ∀ p : Gr V3, p.W.cell? ⟨Bb, 4, none⟩ = some (.int .i64 z4) := Gr.cell (HBY3.cell 4)
    have y5 : ∀ p : Gr V3, p.W.cell? ⟨Bb, 5, none⟩ = some (.int .i64 z5) := Gr.cell (HBY3.cell 5)
    have y6 : ∀ p : Gr V3, p.W.cell? ⟨Bb, 6, none⟩ = some (.int .i64 z6) := Gr.cell (HBY3.cell 6)
    have y7 : ∀ p : Gr V3, p.W.cell? ⟨Bb, 7, none⟩ = some (.int .u8 (z7 : Nat)) := Gr.cell (HBY3.cell 7)
    have y8 : ∀ p : Gr V3, p.W.cell? ⟨Bb, 8, none⟩ = some (.bool z8) := Gr.cell (HBY3.cell 8)
    clear HKF3 HBX3 HBY3 b3 HC HKO2 HKF2 HBX HBY HBW
    refine AnyIn.gr 6 rfl (by kernel_rfl) ?_
    simp only [List.drop_succ_cons, List.drop_zero, Nat.reduceSub, List.take_succ_cons, List.take_zero]
    repeat (gi_big_quiet_step (fail))
    refine wpQuietIn_step (fun _ _ _ _ => trivial) (fun K hK => ?_)
    rw [if_pos (by rfl)]
    gi_big_quiet_op
    apply Exists.intro
    refine ⟨fun p => ?_, ?_⟩
    · exact Gr.callIn _ (fun V hV => HC3.out V hV)
    refine hK _ ?_
    clear hK K
    repeat (gi_big_quiet_step (fail))
    refine wpQuietIn_nil ?_
    rintro Y ⟨⟨_, hbY⟩, rfl⟩
    clear cO cF x0 x1 x2 y0 y1 y2 y3 y4 y5 y6 y7 y8 HC3
    have hO := HKO3.out.below hbY HKO3.out.lt
    have hFY := HKF3'.out.below hbY HKF3'.out.lt
    have hBY := HBW3.out.trans (hbY.mono HBW3.out.size)
    have hWY := HW3.out.trans (hbY.mono HW3.out.size)
    have cO2 := hO.cell 0
    have fO2 := hO.frozen 0
    have hz9 : w.heap.size < Y.heap.size := by have := hO.lt; omega
    have HFIN : Hid (KeepsFrom W0.heap.size W (Y.setCell ⟨w.heap.size + 1, 0, none⟩ (.int .i64 (T))) ∧ KpG w.heap.size (w.heap.size + 1) W (Y.setCell ⟨w.heap.size + 1, 0, none⟩ (.int .i64 (T))) ∧
        (Bk (Y.setCell ⟨w.heap.size + 1, 0, none⟩ (.int .i64 (T))) (w.heap.size + 1) 3 #[.int .i64 (sumW f (pre ++ [((⟨xc, xt, xh⟩ : Slt), (⟨z0, z1, z2, z3, z4, z5, z6, z7, z8⟩ : Bx))]))] ∧ Bk (Y.setCell ⟨w.heap.size + 1, 0, none⟩ (.int .i64 (T))) w.heap.size fT #[.func (.func fid) #[] caps] ∧ Below w.heap.size w (Y.setCell ⟨w.heap.size + 1, 0, none⟩ (.int .i64 (T))))) := Lib.hid
      ⟨((keeps_below hWY).trans (KeepsOthers.setCell _ _ _)).from _, ⟨(hWY.mono HBW0.out.size).setCell (by show w.heap.size ≤ w.heap.size + 1; omega) _, fun g t cs hg hk => (hk.below hWY hk.lt).far (p := ⟨w.heap.size + 1, 0, none⟩) (by simpa using hg) _⟩,
        by have := hO.set_ 0 (.int .i64 (T)); rw [HSW.out]; simpa using this, hFY.far (p := ⟨w.heap.size + 1, 0, none⟩) (by simp) _, hBY.setCell (by show w.heap.size ≤ w.heap.size + 1; omega) _⟩
    clear hO hFY hBY hWY hbY HKO3 HKF3' HBW3 HW3
    refine AnyIn.one (by kernel_rfl) rfl (fun K hK => ?_)
    rw [if_pos (by rfl)]
    gi_big_op
    refine hK _ _ ?_
    clear hK K
    refine AnyIn.done rfl ?_
    refine ⟨HFIN.out.1, HFIN.out.2.1, ?_⟩
    exact HFIN.out.2.2
  case done =>
    rintro D xs W hD rfl ⟨hko, hkf, hB⟩ hK
    have cO : W.cell? ⟨w.heap.size + 1, 0, none⟩ = some (.int .i64 (sumW f (halfL boxes l col hf))) := hko.cell 0
    gi_wp2
    refine ⟨by simp, .inl ⟨_, _, rfl, run_takeDeferred hK, ?_⟩⟩
    refine ⟨_, results_tmp rfl _ _ _, rfl, ?_⟩
    exact hB.trans (belowK_b (w := w) (Nat.le_refl _) W D _ _ (by have := hW0.size; omega) hK rfl rfl)
  case stop =>
    rintro D c pre W _ _ hf _
    exact hf.elim
end Go.Proofs.Ytmkplemdnglhmaa
namespace Go.Proofs.Ytmkplemdnglhmaa
open Go.RowKit

set_option maxRecDepth 100000 in
theorem lashTall_any (b : Bx) (w : World) : Calls Try.prog 94 #[.agg (bxL b).toArray] w (Ret w (.int .i64 (tallB b))) := by
  obtain ⟨b0, b1, b2, b3, b4, b5, b6, b7, b8⟩ := b
  unfold bxL tallB
  simp only
  cases b3
  all_goals
    go_enter Try.func94, Try.ntmps94
    go_wp2
    go_ret
    exact ⟨rfl, ba1 w _⟩
def hvL (x : Slt) : List Nat := if x.half = 0 then [1, 2] else [x.half]
theorem hv_len (x : Slt) : (hvL x).length ≤ 2 := by unfold hvL; split <;> simp
set_option maxRecDepth 100000 in
set_option maxHeartbeats 1000000 in
theorem lashHalves_any (x : Slt) (w : World) : Calls Try.prog 89 #[.agg (sltL x).toArray] w (OwnU8 w (hvL x)) := by
  obtain ⟨xc, xt, xh⟩ := x
  have hx := ba1 w (.cells #[.int .i64 xc, .int .i64 xt, .int .u8 (xh : Nat)] 40)
  have HX := Lib.hid hx
  clear hx
  unfold sltL hvL
  simp only
  by_cases h0 : xh = 0
  · subst h0
    rw [if_pos rfl]
    go_enter Try.func89, Try.ntmps89
    go_upto_region 1 with fail
    have x2 : (w.alloc (.cells #[.int .i64 xc, .int .i64 xt, .int .u8 0] 40)).cell? ⟨w.heap.size, 2, none⟩ = some (.int .u8 0) := (Bk.new w 40 #[.int .i64 xc, .int .i64 xt, .int .u8 0]).cell 2
    replace HX : Hid (Below w.heap.size w (w.alloc (.cells #[.int .i64 xc, .int .i64 xt, .int .u8 0] 40))) := HX
    go_wp2_with fail
    go_ret
    exact ⟨_, _, rfl, sl_u8s (l := [1, 2]) (Bk.at_ _ _ (by simp)), (HX.out).trans ((ba1 _ _).mono HX.out.size)⟩
  · rw [if_neg h0]
    have hn : ((xh : Nat) : Int) ≠ 0 := by omega
    go_enter Try.func89, Try.ntmps89
    go_wp2_with fail
    go_ret
    exact ⟨_, _, rfl, sl_u8s (l := [xh]) (Bk.at_ _ _ (by simp)), (HX.out).trans ((ba1 _ _).mono HX.out.size)⟩
def liftP (x : Slt) (p : Slt × Bx) : Int := if overB x p.1 then tallB p.2 else 0
theorem liftP_bd (x : Slt) (p : Slt × Bx) : 0 ≤ liftP x p ∧ liftP x p ≤ 2896 := by
  unfold liftP tallB
  (repeat' split) <;> omega
def liftH (boxes : List Bx) (l : List Stw) (x : Slt) (h : Nat) : Int := ((halfL boxes l x.col h).map (liftP x)).sum
theorem liftH_bd (boxes : List Bx) (l : List Stw) (x : Slt) (h : Nat) : 0 ≤ liftH boxes l x h ∧ liftH boxes l x h ≤ 2896 * l.length := by
  have h1 := sum_bd (liftP x) 2896 (halfL boxes l x.col h) (fun p _ => liftP_bd x p)
  have h2 := halfL_len boxes l x.col h
  unfold liftH
  omega
def liftTo (boxes : List Bx) (l : List Stw) (x : Slt) (k : Nat) : Int := ((hvL x).take k).foldl (fun a h => if a < liftH boxes l x h then liftH boxes l x h else a) 0
theorem liftTo_succ (boxes : List Bx) (l : List Stw) (x : Slt) {k : Nat} (h : k < (hvL x).length) : liftTo boxes l x (k + 1) = if liftTo boxes l x k < liftH boxes l x ((hvL x).getD k 0) then liftH boxes l x ((hvL x).getD k 0) else liftTo boxes l x k := by
  unfold liftTo
  rw [List.take_succ_eq_append_getElem h, List.foldl_append]
  simp [h]
theorem liftTo_bd (boxes : List Bx) (l : List Stw) (x : Slt) : ∀ k, 0 ≤ liftTo boxes l x k ∧ liftTo boxes l x k ≤ 2896 * l.length := fun k => by
  have key : ∀ (m : List Nat) (a : Int), 0 ≤ a → a ≤ 2896 * l.length → 0 ≤ m.foldl (fun a h => if a < liftH boxes l x h then liftH boxes l x h else a) a ∧ m.foldl (fun a h => if a < liftH boxes l x h then liftH boxes l x h else a) a ≤ 2896 * l.length := fun m => by
    induction m with
    | nil => intro a h1 h2; exact ⟨h1, h2⟩
    | cons h m ih =>
      intro a h1 h2
      have h3 := liftH_bd boxes l x h
      simp only [List.foldl_cons]
      split
      · exact ih _ h3.1 h3.2
      · exact ih _ h1 h2
  exact key _ 0 (by omega) (by omega)
def liftF (boxes : List Bx) (l : List Stw) (x : Slt) : Int := liftTo boxes l x (hvL x).length
theorem lift_eq (boxes : List Bx) (l : List Stw) (x : Slt) (h : Nat) (hl : l.length ≤ 1000) : sumW (liftP x) (halfL boxes l x.col h) = liftH boxes l x h :=
  sumW_eq (liftP x) 2896 (by omega) 1000 (by omega) _ (Nat.le_trans (halfL_len boxes l x.col h) hl) (fun p _ => by have := liftP_bd x p; omega)
set_option maxRecDepth 100000 in
set_option maxHeartbeats 1000000 in
theorem lift1_any (x y : Slt) (b : Bx) (gx : Nat) (w : World) (hx : Bk w gx 40 (sltL x).toArray) :
    Calls Try.prog 92 #[.agg (sltL y).toArray, .agg (bxL b).toArray, .pointer (some ⟨gx, 0, none⟩)] w (Ret w (.int .i64 (liftP x (y, b)))) := by
  obtain ⟨xc, xt, xh⟩ := x
  obtain ⟨yc, yt, yh⟩ := y
  obtain ⟨z0, z1, z2, z3, z4, z5, z6, z7, z8⟩ := b
  have hbs := ba2 w (.cells (sltL ⟨yc, yt, yh⟩).toArray 40) (.cells (bxL ⟨z0, z1, z2, z3, z4, z5, z6, z7, z8⟩).toArray 37)
  have kY := (Bk.new w 40 (sltL ⟨yc, yt, yh⟩).toArray).alloc (.cells (bxL ⟨z0, z1, z2, z3, z4, z5, z6, z7, z8⟩).toArray 37)
  have kB : Bk ((w.alloc (.cells (sltL ⟨yc, yt, yh⟩).toArray 40)).alloc (.cells (bxL ⟨z0, z1, z2, z3, z4, z5, z6, z7, z8⟩).toArray 37)) (w.heap.size + 1) 37 (bxL ⟨z0, z1, z2, z3, z4, z5, z6, z7, z8⟩).toArray := Bk.at_ _ _ (by simp)
  have kX := hx.below hbs hx.lt
  have HBE := Lib.hid hbs
  have KO := Lib.hid (fun V => over_any ⟨xc, xt, xh⟩ ⟨yc, yt, yh⟩ V)
  have KT := Lib.hid (fun V => lashTall_any ⟨z0, z1, z2, z3, z4, z5, z6, z7, z8⟩ V)
  have HV : Hid (liftP ⟨xc, xt, xh⟩ (⟨yc, yt, yh⟩, ⟨z0, z1, z2, z3, z4, z5, z6, z7, z8⟩) = if overB ⟨xc, xt, xh⟩ ⟨yc, yt, yh⟩ then tallB ⟨z0, z1, z2, z3, z4, z5, z6, z7, z8⟩ else 0) := Lib.hid rfl
  generalize liftP ⟨xc, xt, xh⟩ (⟨yc, yt, yh⟩, ⟨z0, z1, z2, z3, z4, z5, z6, z7, z8⟩) = v at *
  generalize tallB ⟨z0, z1, z2, z3, z4, z5, z6, z7, z8⟩ = tl at *
  generalize overB ⟨xc, xt, xh⟩ ⟨yc, yt, yh⟩ = ob at *
  unfold sltL bxL at kX kY kB HBE
  unfold sltL at KO
  unfold bxL at KT
  simp only at kY kB HBE KO kX KT
  have HKB := Lib.hid kB
  unfold sltL bxL
  simp only
  go_enter Try.func92, Try.ntmps92
  go_upto_region 1 with fail
  clear hx hbs kB
  obtain ⟨gy, hgy⟩ : ∃ gy, gy = w.heap.size := ⟨_, rfl⟩
  rw [← hgy] at kY HKB ⊢
  have HGY := Lib.hid hgy
  clear hgy
  generalize (World.alloc _ _) = W at *
  have x0 : W.cell? ⟨gx, 0, none⟩ = some (.int .i64 xc) := kX.cell 0
  have x1 : W.cell? ⟨gx, 1, none⟩ = some (.int .i64 xt) := kX.cell 1
  have x2 : W.cell? ⟨gx, 2, none⟩ = some (.int .u8 (xh : Nat)) := kX.cell 2
  have y0 : W.cell? ⟨gy, 0, none⟩ = some (.int .i64 yc) := kY.cell 0
  have y1 : W.cell? ⟨gy, 1, none⟩ = some (.int .i64 yt) := kY.cell 1
  have y2 : W.cell? ⟨gy, 2, none⟩ = some (.int .u8 (yh : Nat)) := kY.cell 2
  clear kX kY
  go_wp2_with fail
  refine (KO.out _).mono ?_
  rintro e W1 ⟨rfl, hb⟩
  simp only
  clear KO x0 x1 x2 y0 y1 y2
  have HB1 := Lib.hid hb
  have KB := HKB.out.below hb HKB.out.lt
  clear hb
  cases ob with
  | false =>
    clear KB
    go_wp2_with fail
    go_ret
    exact ⟨by rw [HV.out]; rfl, HBE.out.trans (HB1.out.mono HBE.out.size)⟩
  | true =>
    have c0 : W1.cell? ⟨gy + 1, 0, none⟩ = some (.int .i64 z0) := KB.cell 0
    have c1 : W1.cell? ⟨gy + 1, 1, none⟩ = some (.string z1) := KB.cell 1
    have c2 : W1.cell? ⟨gy + 1, 2, none⟩ = some (.int .u8 (z2 : Nat)) := KB.cell 2
    have c3 : W1.cell? ⟨gy + 1, 3, none⟩ = some (.bool z3) := KB.cell 3
    have c4 : W1.cell? ⟨gy + 1, 4, none⟩ = some (.int .i64 z4) := KB.cell 4
    have c5 : W1.cell? ⟨gy + 1, 5, none⟩ = some (.int .i64 z5) := KB.cell 5
    have c6 : W1.cell? ⟨gy + 1, 6, none⟩ = some (.int .i64 z6) := KB.cell 6
    have c7 : W1.cell? ⟨gy + 1, 7, none⟩ = some (.int .u8 (z7 : Nat)) := KB.cell 7
    have c8 : W1.cell? ⟨gy + 1, 8, none⟩ = some (.bool z8) := KB.cell 8
    clear KB
    go_wp2_with fail
    refine (KT.out _).mono ?_
    rintro e W2 ⟨rfl, hb⟩
    simp only
    clear KT c0 c1 c2 c3 c4 c5 c6 c7 c8
    go_wp2_with fail
    go_ret
    exact ⟨by rw [HV.out]; rfl, HBE.out.trans ((HB1.out.trans (hb.mono HB1.out.size)).mono HBE.out.size)⟩
set_option maxRecDepth 100000 in
set_option maxHeartbeats 4000000 in
theorem lift_any (A : Option Addr) (c : Nat) (boxes : List Bx) (A2 : Option Addr) (c2 : Nat) (l : List Stw) (x : Slt) (w : World)
    (hb : SlT tBx w (Lt w.heap.size) A boxes) (hbl : boxes.length ≤ 1000000) (hs : SlT tStw w (Lt w.heap.size) A2 l) (hl : l.length ≤ 1000) :
    Calls Try.prog 48 #[.slice A boxes.length c, .slice A2 l.length c2, .agg (sltL x).toArray] w (Ret w (.int .i64 (liftF boxes l x))) := by
  have bx := ba1 w (.cells (sltL x).toArray 40)
  have HB := Lib.hid (hb.on bx)
  have HS := Lib.hid (hs.on bx)
  have HX := Lib.hid (Bk.new w 40 (sltL x).toArray)
  have HBE := Lib.hid bx
  have KH := Lib.hid (fun V => lashHalves_any x V)
  have hhl := hv_len x
  have HVF : Hid (liftF boxes l x = liftTo boxes l x (hvL x).length) := Lib.hid rfl
  have HVL : Hid (∀ k, k < (hvL x).length → liftTo boxes l x (k + 1) = if liftTo boxes l x k < liftH boxes l x ((hvL x).getD k 0) then liftH boxes l x ((hvL x).getD k 0) else liftTo boxes l x k) := Lib.hid fun k hk => liftTo_succ boxes l x hk
  have HEQ : Hid (∀ h, sumW (liftP x) (halfL boxes l x.col h) = liftH boxes l x h) := Lib.hid fun h => lift_eq boxes l x h hl
  have HBD : Hid (∀ k, 0 ≤ liftTo boxes l x k ∧ liftTo boxes l x k ≤ 2896 * l.length) := Lib.hid (liftTo_bd boxes l x)
  have HBH : Hid (∀ k, 0 ≤ liftH boxes l x k ∧ liftH boxes l x k ≤ 2896 * l.length) := Lib.hid (liftH_bd boxes l x)
  have H0 : Hid (liftTo boxes l x 0 = 0) := Lib.hid rfl
  clear hb hs bx
  generalize liftF boxes l x = RF at *
  generalize liftTo boxes l x = LT at *
  generalize hLH : liftH boxes l x = LH at *
  clear hLH
  have HP : Hid (∀ (gx : Nat) (V : World), Bk V gx 40 (sltL x).toArray → SBFn V 92 #[.pointer (some ⟨gx, 0, none⟩)] (liftP x)) := Lib.hid fun gx V hk p w' hw => lift1_any x p.1 p.2 gx w' (hk.below hw hk.lt)
  obtain ⟨xc, xt, xh⟩ := x
  unfold sltL at HX HBE KH HB HS
  simp only at HX HBE KH HEQ HB HS
  unfold sltL
  simp only
  go_enter Try.func48, Try.ntmps48
  go_upto_region 2 with fail
  obtain ⟨gx, hgx⟩ : ∃ gx, gx = w.heap.size := ⟨_, rfl⟩
  rw [← hgx] at HX ⊢
  have HGX := Lib.hid hgx
  clear hgx
  generalize (w.alloc _) = W at *
  have x0 : W.cell? ⟨gx, 0, none⟩ = some (.int .i64 xc) := HX.out.cell 0
  have x1 : W.cell? ⟨gx, 1, none⟩ = some (.int .i64 xt) := HX.out.cell 1
  have x2 : W.cell? ⟨gx, 2, none⟩ = some (.int .u8 (xh : Nat)) := HX.out.cell 2
  go_wp2_with fail
  refine (KH.out _).mono ?_
  rintro e W1 ⟨A7, c7, rfl, hs7, hb1⟩
  simp only
  clear KH x0 x1 x2
  have HS7 := Lib.hid hs7
  have HB1 := Lib.hid (HB.out.on hb1)
  have HS1 := Lib.hid (HS.out.on hb1)
  have HX1 := Lib.hid (HX.out.below hb1 HX.out.lt)
  have HBE1 := Lib.hid (HBE.out.trans (hb1.mono HBE.out.size))
  clear hs7 hb1 HB HS HX HBE
  try clear W
  generalize hvL ⟨xc, xt, xh⟩ = hv at *
  go_wp2_with fail
  go_loopw [7, 13] (fun v i wr => ∃ k : Nat, k ≤ hv.length ∧ i = .int .i64 k ∧ v = .int .i64 (LT k) ∧ Hid (Below W1.heap.size W1 wr)) (fun _ i _ => hv.length - (intOf i).toNat)
  case atStart => exact ⟨0, Nat.zero_le _, rfl, by rw [H0.out], Lib.hid (Below.refl _ _)⟩
  case round =>
    obtain ⟨k, hk, rfl, rfl, HBr⟩ := hrel
    obtain ⟨V, rfl⟩ : ∃ V, V = wr := ⟨_, rfl⟩
    by_cases hlt : k < hv.length
    · have k0 : (0 : Int) ≤ (k : Int) := by omega
      have k1 : (k : Int) < (hv.length : Int) := by omega
      have hk1 : k + 1 ≤ hv.length := hlt
      obtain ⟨b, off, rfl, hbB, c0⟩ := (HS7.out.on HBr.out).u8 hlt
      have HV2 := Lib.hid (HVL.out k hlt)
      have hb0 := HBD.out k
      have hb2 := HBH.out (hv.getD k 0)
      have HEQ2 := Lib.hid (HEQ.out (hv.getD k 0))
      generalize hv.getD k 0 = hf at *
      generalize LT k = lk at *
      generalize LH hf = lh at *
      go_upto_region 5 with fail
      clear c0
      have x0 : V.cell? ⟨gx, 0, none⟩ = some (.int .i64 xc) := (HX1.out.below HBr.out HX1.out.lt).cell 0
      go_wp2_with fail
      refine (half_any A c boxes.length A2 c2 l.length xc hf V).mono ?_
      rintro e V1 ⟨gl, gi, gh, gb, rfl, hhb, hb⟩
      simp only
      clear x0
      have HHB := Lib.hid hhb
      have HBr1 := Lib.hid (HBr.out.trans (hb.mono HBr.out.size))
      clear hb hhb HBr
      have KS := Lib.hid (lsum_any A c boxes A2 c2 l xc hf gl gi gh gb 92 #[.pointer (some ⟨gx, 0, none⟩)] (liftP ⟨xc, xt, xh⟩) V1 (HB1.out.on HBr1.out) hbl (HS1.out.on HBr1.out) (by omega) HHB.out Try.call92 (HP.out gx V1 (HX1.out.below HBr1.out HX1.out.lt)))
      rw [HEQ2.out] at KS
      clear HHB
      go_wp2_with fail
      refine KS.out.mono ?_
      rintro e V2 ⟨rfl, hb⟩
      simp only
      clear KS
      have HBr2 := Lib.hid (HBr1.out.trans (hb.mono HBr1.out.size))
      clear hb HBr1
      by_cases hm : lk < lh
      · have HF : Hid (LT (k + 1) = lh) := Lib.hid (by rw [HV2.out, if_pos hm])
        clear HV2
        go_wp2_with fail
        go_roundw
        case rel => (repeat apply Exists.intro); (first | exact ⟨⟨k + 1, hk1, by go_num, by rw [HF.out], HBr2⟩, rfl⟩ | exact ⟨hk1, by go_num, by rw [HF.out], HBr2⟩)
        case measure => simp [intOf]; omega
      · have HF : Hid (LT (k + 1) = lk) := Lib.hid (by rw [HV2.out, if_neg hm])
        clear HV2
        go_wp2_with fail
        go_roundw
        case rel => (repeat apply Exists.intro); (first | exact ⟨⟨k + 1, hk1, by go_num, by rw [HF.out], HBr2⟩, rfl⟩ | exact ⟨hk1, by go_num, by rw [HF.out], HBr2⟩)
        case measure => simp [intOf]; omega
    · obtain rfl : k = hv.length := by omega
      rw [← HVF.out]
      go_wp2_with fail
      go_ret
      exact ⟨rfl, HBE1.out.trans (HBr.out.mono HBE1.out.size)⟩
end Go.Proofs.Ytmkplemdnglhmaa
namespace Go.Proofs.Ytmkplemdnglhmaa
open Go.RowKit

def momP (boxes : List Bx) (l : List Stw) (p : Slt × Bx) : Int := IntKind.i64.wrap (p.2.kilos * liftF boxes l p.1)
def momentF (boxes : List Bx) (l : List Stw) (col : Int) (h : Nat) : Int := ((halfL boxes l col h).map fun p => p.2.kilos * liftF boxes l p.1).sum
/-- Kilos are no greater than a bound. -/
def KgL (boxes : List Bx) : Prop := ∀ b ∈ boxes, -2000000000 ≤ b.kilos ∧ b.kilos ≤ 2000000000
theorem mem_halfL {boxes : List Bx} {l : List Stw} {c : Int} {h : Nat} {p : Slt × Bx} (hp : p ∈ halfL boxes l c h) : ∃ x ∈ l, inHalf c h x.slot = true ∧ findBx boxes x.box = (p.2, true) ∧ p.1 = x.slot := by
  unfold halfL at hp
  obtain ⟨x, hx, e⟩ := List.mem_filterMap.1 hp
  unfold halfOf at e
  split at e
  · rename_i hc
    simp only [Bool.and_eq_true] at hc
    injection e with e
    subst e
    refine ⟨x, hx, hc.1, ?_, rfl⟩
    have := hc.2
    generalize findBx boxes x.box = fb at *
    obtain ⟨a, b⟩ := fb
    simp only at this
    rw [this]
  · cases e
theorem lift_bd (boxes : List Bx) {l : List Stw} (hl : l.length ≤ 1000) (x : Slt) : 0 ≤ liftF boxes l x ∧ liftF boxes l x ≤ 2896000 := by
  have := liftTo_bd boxes l x (hvL x).length
  unfold liftF
  omega
theorem mul_bd {k L : Int} (h1 : -2000000000 ≤ k) (h2 : k ≤ 2000000000) (h3 : 0 ≤ L) (h4 : L ≤ 2896000) : -5792000000000000 ≤ k * L ∧ k * L ≤ 5792000000000000 := by
  have a1 : k * L ≤ 2000000000 * L := Int.mul_le_mul_of_nonneg_right h2 h3
  have a2 : -2000000000 * L ≤ k * L := Int.mul_le_mul_of_nonneg_right h1 h3
  omega
theorem momP_eq {boxes : List Bx} {l : List Stw} (hk : KgL boxes) (hl : l.length ≤ 1000) {c : Int} {h : Nat} {p : Slt × Bx} (hp : p ∈ halfL boxes l c h) : momP boxes l p = p.2.kilos * liftF boxes l p.1 ∧ -5792000000000000 ≤ momP boxes l p ∧ momP boxes l p ≤ 5792000000000000 := by
  obtain ⟨x, _, _, hf, _⟩ := mem_halfL hp
  have h1 := hk _ (find_some hf).1
  have h2 := lift_bd boxes hl p.1
  have h3 := mul_bd h1.1 h1.2 h2.1 h2.2
  unfold momP
  rw [IntWalk.i64_in _ (by omega)]
  exact ⟨rfl, h3⟩
theorem moment_eq {boxes : List Bx} {l : List Stw} (hk : KgL boxes) (hl : l.length ≤ 1000) (c : Int) (h : Nat) : sumW (momP boxes l) (halfL boxes l c h) = momentF boxes l c h := by
  rw [sumW_eq (momP boxes l) 5792000000000000 (by omega) 1000 (by omega) _ (Nat.le_trans (halfL_len boxes l c h) hl) (fun p hp => (momP_eq hk hl hp).2)]
  unfold momentF
  congr 1
  exact List.map_congr_left fun p hp => (momP_eq hk hl hp).1
theorem moment_bd {boxes : List Bx} {l : List Stw} (hk : KgL boxes) (hl : l.length ≤ 1000) (c : Int) (h : Nat) : -5792000000000000000 ≤ momentF boxes l c h ∧ momentF boxes l c h ≤ 5792000000000000000 := by
  have h1 := sum_bd2 (fun p : Slt × Bx => p.2.kilos * liftF boxes l p.1) 5792000000000000 (halfL boxes l c h) (fun p hp => by have := momP_eq hk hl hp; omega)
  have h2 := halfL_len boxes l c h
  unfold momentF
  omega
set_option maxRecDepth 100000 in
set_option maxHeartbeats 2000000 in
theorem moment1_any (A : Option Addr) (c : Nat) (boxes : List Bx) (A2 : Option Addr) (c2 : Nat) (l : List Stw) (y : Slt) (b : Bx) (g4 g5 : Nat) (w : World) (h4 : Bk w g4 33 #[.slice A boxes.length c]) (h5 : Bk w g5 38 #[.slice A2 l.length c2])
    (hb : SlT tBx w (Lt w.heap.size) A boxes) (hbl : boxes.length ≤ 1000000) (hs : SlT tStw w (Lt w.heap.size) A2 l) (hl : l.length ≤ 1000) :
    Calls Try.prog 98 #[.agg (sltL y).toArray, .agg (bxL b).toArray, .pointer (some ⟨g4, 0, none⟩), .pointer (some ⟨g5, 0, none⟩)] w (Ret w (.int .i64 (momP boxes l (y, b)))) := by
  obtain ⟨yc, yt, yh⟩ := y
  obtain ⟨z0, z1, z2, z3, z4, z5, z6, z7, z8⟩ := b
  have hbs := ba2 w (.cells (sltL ⟨yc, yt, yh⟩).toArray 40) (.cells (bxL ⟨z0, z1, z2, z3, z4, z5, z6, z7, z8⟩).toArray 37)
  have kY := (Bk.new w 40 (sltL ⟨yc, yt, yh⟩).toArray).alloc (.cells (bxL ⟨z0, z1, z2, z3, z4, z5, z6, z7, z8⟩).toArray 37)
  have kB : Bk ((w.alloc (.cells (sltL ⟨yc, yt, yh⟩).toArray 40)).alloc (.cells (bxL ⟨z0, z1, z2, z3, z4, z5, z6, z7, z8⟩).toArray 37)) (w.heap.size + 1) 37 (bxL ⟨z0, z1, z2, z3, z4, z5, z6, z7, z8⟩).toArray := Bk.at_ _ _ (by simp)
  have H4 := Lib.hid (h4.below hbs h4.lt)
  have H5 := Lib.hid (h5.below hbs h5.lt)
  have KL := Lib.hid (fun V hV => lift_any A c boxes A2 c2 l ⟨yc, yt, yh⟩ V ((hb.on hbs).on hV) hbl ((hs.on hbs).on hV) hl)
  have HBE := Lib.hid hbs
  have HV : Hid (momP boxes l (⟨yc, yt, yh⟩, ⟨z0, z1, z2, z3, z4, z5, z6, z7, z8⟩) = IntKind.i64.wrap (z4 * liftF boxes l ⟨yc, yt, yh⟩)) := Lib.hid rfl
  generalize momP boxes l (⟨yc, yt, yh⟩, ⟨z0, z1, z2, z3, z4, z5, z6, z7, z8⟩) = v at *
  generalize liftF boxes l ⟨yc, yt, yh⟩ = lf at *
  obtain ⟨T, hT⟩ : ∃ T, IntKind.i64.wrap (z4 * lf) = T := ⟨_, rfl⟩
  have hT2 : wrap64 (z4 * lf) = T := by rw [← hT]; exact (IntWalk.i64_left _).symm
  rw [hT] at HV
  unfold sltL bxL at kY kB HBE H4 H5 KL
  simp only at kY kB HBE H4 H5 KL
  have HKB := Lib.hid kB
  have HKY := Lib.hid kY
  unfold sltL bxL
  simp only
  clear h4 h5 hb hs hbs kY kB
  go_enter Try.func98, Try.ntmps98
  go_upto_region 1 with fail
  obtain ⟨gy, hgy⟩ : ∃ gy, gy = w.heap.size := ⟨_, rfl⟩
  rw [← hgy] at HKY HKB ⊢
  have HGY := Lib.hid hgy
  clear hgy
  generalize (World.alloc _ _) = W at *
  have e4 : ∀ p : Gr W, p.W.cell? ⟨g4, 0, none⟩ = some (.slice A boxes.length c) := Gr.cell (H4.out.cell 0)
  have e5 : ∀ p : Gr W, p.W.cell? ⟨g5, 0, none⟩ = some (.slice A2 l.length c2) := Gr.cell (H5.out.cell 0)
  have y0 : ∀ p : Gr W, p.W.cell? ⟨gy, 0, none⟩ = some (.int .i64 yc) := Gr.cell (HKY.out.cell 0)
  have y1 : ∀ p : Gr W, p.W.cell? ⟨gy, 1, none⟩ = some (.int .i64 yt) := Gr.cell (HKY.out.cell 1)
  have y2 : ∀ p : Gr W, p.W.cell? ⟨gy, 2, none⟩ = some (.int .u8 (yh : Nat)) := Gr.cell (HKY.out.cell 2)
  have c4 : ∀ p : Gr W, p.W.cell? ⟨gy + 1, 4, none⟩ = some (.int .i64 z4) := Gr.cell (HKB.out.cell 4)
  refine wp_region_gr (by kernel_rfl) (by kernel_rfl) ?_
  repeat (go_big_quiet_step ((with_reducible exact Gr.call _ (fun V hV => KL.out V hV))))
  refine wpQuiet_nil ?_
  rintro Y ⟨⟨_, hbY⟩, rfl⟩
  clear e4 e5 y0 y1 y2 c4 KL
  go_wp2_with fail
  go_ret
  exact ⟨by rw [HV.out]; rfl, HBE.out.trans (hbY.mono HBE.out.size)⟩
set_option maxRecDepth 100000 in
set_option maxHeartbeats 2000000 in
theorem moment_any (A : Option Addr) (c : Nat) (boxes : List Bx) (A2 : Option Addr) (c2 : Nat) (l : List Stw) (col : Int) (hf : Nat) (w : World) (hk : KgL boxes)
    (hb : SlT tBx w (Lt w.heap.size) A boxes) (hbl : boxes.length ≤ 1000000) (hs : SlT tStw w (Lt w.heap.size) A2 l) (hl : l.length ≤ 1000) :
    Calls Try.prog 52 #[.slice A boxes.length c, .slice A2 l.length c2, .int .i64 col, .int .u8 (hf : Nat)] w (Ret w (.int .i64 (momentF boxes l col hf))) := by
  have hbs := ba2 w (.cells #[.slice A boxes.length c] 33) (.cells #[.slice A2 l.length c2] 38)
  have k4 := (Bk.new w 33 #[.slice A boxes.length c]).alloc (.cells #[.slice A2 l.length c2] 38)
  have k5 : Bk ((w.alloc (.cells #[.slice A boxes.length c] 33)).alloc (.cells #[.slice A2 l.length c2] 38)) (w.heap.size + 1) 38 #[.slice A2 l.length c2] := Bk.at_ _ _ (by simp)
  have HB := Lib.hid (hb.on hbs)
  have HS := Lib.hid (hs.on hbs)
  have H4 := Lib.hid k4
  have H5 := Lib.hid k5
  have HBE := Lib.hid hbs
  have HEQ := Lib.hid (moment_eq hk hl col hf)
  clear hb hs hbs k4 k5
  go_enter Try.func52, Try.ntmps52
  go_upto_region 1 with fail
  obtain ⟨g4, hg4⟩ : ∃ g4, g4 = w.heap.size := ⟨_, rfl⟩
  rw [← hg4] at H4 H5 ⊢
  have HG4 := Lib.hid hg4
  clear hg4
  generalize (World.alloc _ _) = W at *
  have e4 : W.cell? ⟨g4, 0, none⟩ = some (.slice A boxes.length c) := H4.out.cell 0
  have e5 : W.cell? ⟨g4 + 1, 0, none⟩ = some (.slice A2 l.length c2) := H5.out.cell 0
  go_wp2_with fail
  refine (half_any A c boxes.length A2 c2 l.length col hf W).mono ?_
  rintro e V1 ⟨gl, gi, gh, gb, rfl, hhb, hb⟩
  simp only
  clear e4 e5
  have HHB := Lib.hid hhb
  have HBr := Lib.hid hb
  clear hb hhb
  have KS := Lib.hid (lsum_any A c boxes A2 c2 l col hf gl gi gh gb 98 #[.pointer (some ⟨g4, 0, none⟩), .pointer (some ⟨g4 + 1, 0, none⟩)] (momP boxes l) V1 (HB.out.on HBr.out) hbl (HS.out.on HBr.out) (by omega) HHB.out Try.call98
    (fun p w' hw => moment1_any A c boxes A2 c2 l p.1 p.2 g4 (g4 + 1) w' ((H4.out.below HBr.out H4.out.lt).below hw (H4.out.below HBr.out H4.out.lt).lt) ((H5.out.below HBr.out H5.out.lt).below hw (H5.out.below HBr.out H5.out.lt).lt) ((HB.out.on HBr.out).on hw) hbl ((HS.out.on HBr.out).on hw) hl))
  rw [HEQ.out] at KS
  generalize momentF boxes l col hf = mv at *
  clear HHB HEQ
  go_wp2_with fail
  refine KS.out.mono ?_
  rintro e V2 ⟨rfl, hb⟩
  simp only
  clear KS
  go_wp2_with fail
  go_ret
  exact ⟨rfl, HBE.out.trans ((HBr.out.trans (hb.mono HBr.out.size)).mono HBE.out.size)⟩
def lashF (s : Shp) (col : Int) : Int := if thereB s col && (s.cols.getD col.toNat default).deck then (if (s.cols.getD col.toNat default).lash < 0 then 0 else (s.cols.getD col.toNat default).lash) else 0
theorem lashF_bd {s : Shp} (hs : ∀ c ∈ s.cols, c.lash ≤ 1000000000000000) (col : Int) : 0 ≤ lashF s col ∧ lashF s col ≤ 1000000000000000 := by
  unfold lashF thereB
  split
  · rename_i h
    simp only [Bool.and_eq_true, decide_eq_true_eq] at h
    have := hs _ (getD_memD (k := col.toNat) (by omega) default)
    split <;> omega
  · omega
set_option maxRecDepth 100000 in
set_option maxHeartbeats 2000000 in
theorem lashed_any (s : Shp) (h : Hd) (col : Int) (w : World) (hsh : ShpR w (Lt w.heap.size) s h) (hcl : s.cols.length ≤ 1000000) : Calls Try.prog 96 #[.agg (shpA s h), .int .i64 col] w (Ret w (.int .i64 (lashF s col))) := by
  have hx := ba1 w (.cells (shpA s h) 32)
  have e0 : (w.alloc (.cells (shpA s h) 32)).cell? ⟨w.heap.size, 0, none⟩ = some (.slice h.A1 s.cols.length h.c1) := (Bk.new w 32 (shpA s h)).cell 0
  have HS := Lib.hid (hsh.on hx)
  have HBE := Lib.hid hx
  clear hsh hx
  by_cases h0 : 0 ≤ col
  · by_cases h1 : col < (s.cols.length : Int)
    · obtain ⟨k, rfl⟩ : ∃ k : Nat, col = (k : Int) := ⟨col.toNat, by omega⟩
      have hk : k < s.cols.length := by omega
      have HV : Hid (lashF s (k : Int) = if (s.cols.getD k default).deck then (if (s.cols.getD k default).lash < 0 then 0 else (s.cols.getD k default).lash) else 0) := Lib.hid (by
        unfold lashF
        rw [show thereB s (k : Int) = true by unfold thereB; simp; omega, Int.toNat_natCast, Bool.true_and])
      obtain ⟨b, off, Ap, q, hA1, hbB, hpq, hpl, c0, c1, c2, c3, c4, c5, c6, c7, c8, c9, c10, c11⟩ := HS.out.cols.col (i := k) hk
      clear c0 c1 c3 c4 c5 c6 c8 c9 c10 c11 hpq hpl
      have hn0 : ¬ (k : Int) < 0 := by omega
      have hn1 : ¬ (s.cols.length : Int) ≤ (k : Int) := by omega
      rw [hA1] at e0
      unfold shpA at e0 HBE HS c2 c7 ⊢
      rw [hA1] at e0 HBE HS c2 c7 ⊢
      generalize s.cols.getD k default = cl at *
      obtain ⟨z0, z1, z2, z3, z4, z5, z6, z7, z8, z9, z10, z11⟩ := cl
      simp only at c2 c7 HV
      clear hA1 HS
      cases z2 with
      | false =>
        go_enter Try.func96, Try.ntmps96
        go_wp2_with fail
        go_ret
        exact ⟨by rw [HV.out]; rfl, HBE.out⟩
      | true =>
        by_cases hz : z7 < 0
        · have HV2 : Hid (lashF s (k : Int) = 0) := Lib.hid (by rw [HV.out, if_pos rfl, if_pos hz])
          go_enter Try.func96, Try.ntmps96
          go_wp2_with fail
          go_ret
          exact ⟨by rw [HV2.out]; rfl, HBE.out⟩
        · have HV2 : Hid (lashF s (k : Int) = z7) := Lib.hid (by rw [HV.out, if_pos rfl, if_neg hz])
          go_enter Try.func96, Try.ntmps96
          go_wp2_with fail
          go_ret
          exact ⟨by rw [HV2.out]; rfl, HBE.out⟩
    · have HV : Hid (lashF s col = 0) := Lib.hid (by unfold lashF thereB; rw [decide_eq_false h1]; simp)
      have h1' : (s.cols.length : Int) ≤ col := by omega
      have hn0 : ¬ col < 0 := by omega
      unfold shpA at e0 HBE ⊢
      clear HS h1 h0
      go_enter Try.func96, Try.ntmps96
      go_wp2_with fail
      go_ret
      exact ⟨by rw [HV.out]; rfl, HBE.out⟩
  · have HV : Hid (lashF s col = 0) := Lib.hid (by unfold lashF thereB; rw [decide_eq_false h0]; simp)
    have h0' : col < 0 := by omega
    unfold shpA at e0 HBE ⊢
    clear HS h0
    go_enter Try.func96, Try.ntmps96
    go_wp2_with fail
    go_ret
    exact ⟨by rw [HV.out]; rfl, HBE.out⟩
/-- The halves of a column that are overstrained: the first k of two. -/
def lfTo (boxes : List Bx) (l : List Stw) (L col : Int) (k : Nat) : List Flt := (List.range k).filterMap fun i => if L < momentF boxes l col (1 + i) then some ⟨col, 1 + i, momentF boxes l col (1 + i) - L⟩ else none
def lfaultsF (s : Shp) (boxes : List Bx) (l : List Stw) (col : Int) : List Flt := if lashF s col = 0 then [] else lfTo boxes l (lashF s col) col 2
theorem lfTo_succ (boxes : List Bx) (l : List Stw) (L col : Int) (k : Nat) : lfTo boxes l L col (k + 1) = lfTo boxes l L col k ++ if L < momentF boxes l col (1 + k) then [⟨col, 1 + k, momentF boxes l col (1 + k) - L⟩] else [] := by
  unfold lfTo
  rw [List.range_succ, List.filterMap_append]
  congr 1
  simp only [List.filterMap_cons, List.filterMap_nil]
  split <;> rename_i h
  · split at h
    · cases h
    · rename_i h2; rw [if_neg h2]
  · split at h
    · rename_i h2; rw [if_pos h2]; injection h with h; rw [h]
    · cases h
theorem lfTo_len (boxes : List Bx) (l : List Stw) (L col : Int) (k : Nat) : (lfTo boxes l L col k).length ≤ k := by
  unfold lfTo
  exact Nat.le_trans (List.length_filterMap_le _ _) (by simp)
theorem lfaults_len (s : Shp) (boxes : List Bx) (l : List Stw) (col : Int) : (lfaultsF s boxes l col).length ≤ 2 := by
  unfold lfaultsF
  split
  · simp
  · exact lfTo_len _ _ _ _ _
theorem el_lflt : El Try.prog 90 100 3 24 := El.mk' Try.underlying90 (by kernel_rfl) (by decide)
def OwnLf (w : World) (l : List Flt) (e : Ending) (w' : World) : Prop := ∃ v, e = .returned v ∧ OwnT tFlt 100 w' w.heap.size v l ∧ Below w.heap.size w w'
set_option maxRecDepth 100000 in
set_option maxHeartbeats 4000000 in
theorem lFaults_any (s : Shp) (h : Hd) (A : Option Addr) (c : Nat) (boxes : List Bx) (A2 : Option Addr) (c2 : Nat) (l : List Stw) (col : Int) (w : World) (hk : KgL boxes) (hlh : ∀ c ∈ s.cols, c.lash ≤ 1000000000000000) (hsh : ShpR w (Lt w.heap.size) s h) (hcl : s.cols.length ≤ 1000000)
    (hb : SlT tBx w (Lt w.heap.size) A boxes) (hbl : boxes.length ≤ 1000000) (hs : SlT tStw w (Lt w.heap.size) A2 l) (hl : l.length ≤ 1000) :
    Calls Try.prog 57 #[.agg (shpA s h), .slice A boxes.length c, .slice A2 l.length c2, .int .i64 col] w (OwnLf w (lfaultsF s boxes l col)) := by
  have hx := ba1 w (.cells (shpA s h) 32)
  have SC := Bk.new w 32 (shpA s h)
  have KL := Lib.hid (lashed_any s h col _ (hsh.on hx) hcl)
  have KM := Lib.hid (fun (V : World) (hV : Below w.heap.size w V) (hf : Nat) => moment_any A c boxes A2 c2 l col hf V hk (hb.on hV) hbl (hs.on hV) hl)
  have HMB := Lib.hid (fun hf => moment_bd hk hl col hf)
  have HBE := Lib.hid hx
  have hLb := lashF_bd hlh col
  have HV : Hid (lfaultsF s boxes l col = if lashF s col = 0 then [] else lfTo boxes l (lashF s col) col 2) := Lib.hid rfl
  clear hsh hb hs hx hk hlh
  generalize lfaultsF s boxes l col = RF at *
  generalize lashF s col = L at *
  obtain ⟨hL0, hL1⟩ := hLb
  have HLS := Lib.hid (fun k => lfTo_succ boxes l L col k)
  have HLN := Lib.hid (fun k => lfTo_len boxes l L col k)
  have HLZ : Hid (lfTo boxes l L col 0 = []) := Lib.hid rfl
  generalize lfTo boxes l L col = LT at *
  generalize momentF boxes l col = MF at *
  unfold shpA at KL HBE SC ⊢
  have e0 : (w.alloc (.cells #[.slice h.A1 s.cols.length h.c1, .slice h.A2 s.covs.length h.c2, .int .i64 s.l0, .int .i64 s.l1, .int .i64 s.l2, .int .i64 s.l3, .slice h.A3 s.rows.length h.c3, .slice h.A4 s.frames.length h.c4, .slice h.A5 s.tanks.length h.c5, .int .i64 s.m0, .int .i64 s.m1, .int .i64 s.m2, .int .i64 s.m3] 32)).cell? ⟨w.heap.size, 0, none⟩ = some (.slice h.A1 s.cols.length h.c1) := SC.cell 0
  have e1 : (w.alloc (.cells #[.slice h.A1 s.cols.length h.c1, .slice h.A2 s.covs.length h.c2, .int .i64 s.l0, .int .i64 s.l1, .int .i64 s.l2, .int .i64 s.l3, .slice h.A3 s.rows.length h.c3, .slice h.A4 s.frames.length h.c4, .slice h.A5 s.tanks.length h.c5, .int .i64 s.m0, .int .i64 s.m1, .int .i64 s.m2, .int .i64 s.m3] 32)).cell? ⟨w.heap.size, 1, none⟩ = some (.slice h.A2 s.covs.length h.c2) := SC.cell 1
  have e2 : (w.alloc (.cells #[.slice h.A1 s.cols.length h.c1, .slice h.A2 s.covs.length h.c2, .int .i64 s.l0, .int .i64 s.l1, .int .i64 s.l2, .int .i64 s.l3, .slice h.A3 s.rows.length h.c3, .slice h.A4 s.frames.length h.c4, .slice h.A5 s.tanks.length h.c5, .int .i64 s.m0, .int .i64 s.m1, .int .i64 s.m2, .int .i64 s.m3] 32)).cell? ⟨w.heap.size, 2, none⟩ = some (.int .i64 s.l0) := SC.cell 2
  have e3 : (w.alloc (.cells #[.slice h.A1 s.cols.length h.c1, .slice h.A2 s.covs.length h.c2, .int .i64 s.l0, .int .i64 s.l1, .int .i64 s.l2, .int .i64 s.l3, .slice h.A3 s.rows.length h.c3, .slice h.A4 s.frames.length h.c4, .slice h.A5 s.tanks.length h.c5, .int .i64 s.m0, .int .i64 s.m1, .int .i64 s.m2, .int .i64 s.m3] 32)).cell? ⟨w.heap.size, 3, none⟩ = some (.int .i64 s.l1) := SC.cell 3
  have e4 : (w.alloc (.cells #[.slice h.A1 s.cols.length h.c1, .slice h.A2 s.covs.length h.c2, .int .i64 s.l0, .int .i64 s.l1, .int .i64 s.l2, .int .i64 s.l3, .slice h.A3 s.rows.length h.c3, .slice h.A4 s.frames.length h.c4, .slice h.A5 s.tanks.length h.c5, .int .i64 s.m0, .int .i64 s.m1, .int .i64 s.m2, .int .i64 s.m3] 32)).cell? ⟨w.heap.size, 4, none⟩ = some (.int .i64 s.l2) := SC.cell 4
  have e5 : (w.alloc (.cells #[.slice h.A1 s.cols.length h.c1, .slice h.A2 s.covs.length h.c2, .int .i64 s.l0, .int .i64 s.l1, .int .i64 s.l2, .int .i64 s.l3, .slice h.A3 s.rows.length h.c3, .slice h.A4 s.frames.length h.c4, .slice h.A5 s.tanks.length h.c5, .int .i64 s.m0, .int .i64 s.m1, .int .i64 s.m2, .int .i64 s.m3] 32)).cell? ⟨w.heap.size, 5, none⟩ = some (.int .i64 s.l3) := SC.cell 5
  have e6 : (w.alloc (.cells #[.slice h.A1 s.cols.length h.c1, .slice h.A2 s.covs.length h.c2, .int .i64 s.l0, .int .i64 s.l1, .int .i64 s.l2, .int .i64 s.l3, .slice h.A3 s.rows.length h.c3, .slice h.A4 s.frames.length h.c4, .slice h.A5 s.tanks.length h.c5, .int .i64 s.m0, .int .i64 s.m1, .int .i64 s.m2, .int .i64 s.m3] 32)).cell? ⟨w.heap.size, 6, none⟩ = some (.slice h.A3 s.rows.length h.c3) := SC.cell 6
  have e7 : (w.alloc (.cells #[.slice h.A1 s.cols.length h.c1, .slice h.A2 s.covs.length h.c2, .int .i64 s.l0, .int .i64 s.l1, .int .i64 s.l2, .int .i64 s.l3, .slice h.A3 s.rows.length h.c3, .slice h.A4 s.frames.length h.c4, .slice h.A5 s.tanks.length h.c5, .int .i64 s.m0, .int .i64 s.m1, .int .i64 s.m2, .int .i64 s.m3] 32)).cell? ⟨w.heap.size, 7, none⟩ = some (.slice h.A4 s.frames.length h.c4) := SC.cell 7
  have e8 : (w.alloc (.cells #[.slice h.A1 s.cols.length h.c1, .slice h.A2 s.covs.length h.c2, .int .i64 s.l0, .int .i64 s.l1, .int .i64 s.l2, .int .i64 s.l3, .slice h.A3 s.rows.length h.c3, .slice h.A4 s.frames.length h.c4, .slice h.A5 s.tanks.length h.c5, .int .i64 s.m0, .int .i64 s.m1, .int .i64 s.m2, .int .i64 s.m3] 32)).cell? ⟨w.heap.size, 8, none⟩ = some (.slice h.A5 s.tanks.length h.c5) := SC.cell 8
  have e9 : (w.alloc (.cells #[.slice h.A1 s.cols.length h.c1, .slice h.A2 s.covs.length h.c2, .int .i64 s.l0, .int .i64 s.l1, .int .i64 s.l2, .int .i64 s.l3, .slice h.A3 s.rows.length h.c3, .slice h.A4 s.frames.length h.c4, .slice h.A5 s.tanks.length h.c5, .int .i64 s.m0, .int .i64 s.m1, .int .i64 s.m2, .int .i64 s.m3] 32)).cell? ⟨w.heap.size, 9, none⟩ = some (.int .i64 s.m0) := SC.cell 9
  have e10 : (w.alloc (.cells #[.slice h.A1 s.cols.length h.c1, .slice h.A2 s.covs.length h.c2, .int .i64 s.l0, .int .i64 s.l1, .int .i64 s.l2, .int .i64 s.l3, .slice h.A3 s.rows.length h.c3, .slice h.A4 s.frames.length h.c4, .slice h.A5 s.tanks.length h.c5, .int .i64 s.m0, .int .i64 s.m1, .int .i64 s.m2, .int .i64 s.m3] 32)).cell? ⟨w.heap.size, 10, none⟩ = some (.int .i64 s.m1) := SC.cell 10
  have e11 : (w.alloc (.cells #[.slice h.A1 s.cols.length h.c1, .slice h.A2 s.covs.length h.c2, .int .i64 s.l0, .int .i64 s.l1, .int .i64 s.l2, .int .i64 s.l3, .slice h.A3 s.rows.length h.c3, .slice h.A4 s.frames.length h.c4, .slice h.A5 s.tanks.length h.c5, .int .i64 s.m0, .int .i64 s.m1, .int .i64 s.m2, .int .i64 s.m3] 32)).cell? ⟨w.heap.size, 11, none⟩ = some (.int .i64 s.m2) := SC.cell 11
  have e12 : (w.alloc (.cells #[.slice h.A1 s.cols.length h.c1, .slice h.A2 s.covs.length h.c2, .int .i64 s.l0, .int .i64 s.l1, .int .i64 s.l2, .int .i64 s.l3, .slice h.A3 s.rows.length h.c3, .slice h.A4 s.frames.length h.c4, .slice h.A5 s.tanks.length h.c5, .int .i64 s.m0, .int .i64 s.m1, .int .i64 s.m2, .int .i64 s.m3] 32)).cell? ⟨w.heap.size, 12, none⟩ = some (.int .i64 s.m3) := SC.cell 12
  clear SC
  go_enter Try.func57, Try.ntmps57
  go_wp2_with fail
  refine KL.out.mono ?_
  rintro e W1 ⟨rfl, hb⟩
  simp only
  clear KL
  clear e0 e1 e2 e3 e4 e5 e6 e7 e8 e9 e10 e11 e12
  have HB1 := Lib.hid (HBE.out.trans (hb.mono HBE.out.size))
  clear hb HBE
  by_cases hz : L = 0
  · have HV0 : Hid (RF = []) := Lib.hid (by rw [HV.out, if_pos hz])
    clear HV HLS
    subst hz
    go_wp2_with fail
    go_ret
    exact ⟨_, rfl, by rw [HV0.out]; exact OwnT.nil, HB1.out⟩
  · have HV0 : Hid (RF = LT 2) := Lib.hid (by rw [HV.out, if_neg hz])
    clear HV
    have hzb : (L == 0) = false := by simpa using hz
    clear hz
    go_upto_region 5 with fail
    clear hzb
    have HK5 : Hid (Bk (W1.alloc (.cells #[.int .u8 1, .int .u8 2] 5)) W1.heap.size 5 #[.int .u8 1, .int .u8 2]) := Lib.hid (Bk.new _ _ _)
    have HB2 := Lib.hid (HB1.out.trans ((ba1 W1 (.cells #[.int .u8 1, .int .u8 2] 5)).mono HB1.out.size))
    go_upto_block 0 with fail
    generalize W1.heap.size = g5 at *
    generalize (W1.alloc _) = W2 at *
    clear HB1
    go_wp2_with fail
    go_loopw [10, 21] (fun v i wr => ∃ (k : Nat), k ≤ 2 ∧ i = .int .i64 k ∧ OwnT tFlt 100 wr W2.heap.size v (LT k) ∧ Hid (Below W2.heap.size W2 wr)) (fun _ i _ => 2 - (intOf i).toNat)
    case atStart => exact ⟨0, by omega, rfl, by rw [HLZ.out]; exact OwnT.nil, Lib.hid (Below.refl _ _)⟩
    case round =>
      obtain ⟨k, hk, rfl, hown, HB⟩ := hrel
      obtain ⟨V, rfl⟩ : ∃ V, V = wr := ⟨_, rfl⟩
      by_cases hlt : k < 2
      · have k0 : (0 : Int) ≤ (k : Int) := by omega
        have k1 : (k : Int) < 2 := by omega
        have hk1 : k + 1 ≤ 2 := hlt
        obtain ⟨hf, rfl⟩ : ∃ hf, hf = 1 + k := ⟨_, rfl⟩
        have cH : V.cell? ⟨g5, k, none⟩ = some (.int .u8 ((1 + k : Nat) : Int)) := by
          have kb := HK5.out.below HB.out HK5.out.lt
          obtain rfl | rfl : k = 0 ∨ k = 1 := by omega
          · exact kb.cell 0
          · exact kb.cell 1
        have HL2 := Lib.hid (HLS.out k)
        have hmb := HMB.out (1 + k)
        have hln := HLN.out k
        generalize hhf : 1 + k = hf at *
        have HHF := Lib.hid hhf
        clear hhf
        have hf9 : hf < 256 := by have := HHF.out; omega
        have KM1 := Lib.hid (KM.out V (HB2.out.trans (HB.out.mono HB2.out.size)) hf)
        generalize MF hf = mv at *
        obtain ⟨mb0, mb1⟩ := hmb
        generalize LT k = lk at *
        have HOW := Lib.hid hown
        clear hown
        go_upto_region 8 with fail
        clear cH
        go_wp2_with fail
        refine KM1.out.mono ?_
        rintro e V1 ⟨rfl, hb⟩
        simp only
        clear KM1
        have HBV := Lib.hid (HB.out.trans (hb.mono HB.out.size))
        have HOW1 := Lib.hid (HOW.out.below hb)
        clear hb HOW HB
        by_cases hgt : L < mv
        · have HF : Hid (LT (k + 1) = lk ++ [⟨col, hf, mv - L⟩]) := Lib.hid (by rw [HL2.out, if_pos hgt])
          clear HL2
          obtain ⟨xs, ho, hfl⟩ := HOW1.out
          have hz0 := HBV.out.size
          go_wp2_with (at_builtin; (refine wpList_append1 el_lflt rfl (.tmp 33) (.tmp 40) rfl W2.heap.size _ lk.length xs rfl ho #[.int .i64 col, .int .u8 (hf : Nat), .int .i64 (mv - L)] _ rfl rfl rfl (by unfold maxLen; omega) (by omega) hz0 ?_))
          intro v' w3 hown' hgr hd3 hbel
          have HB3 := Lib.hid (HBV.out.trans hbel)
          have hfin : OwnT tFlt 100 w3 W2.heap.size v' (LT (k + 1)) := by
            rw [HF.out]
            exact OwnT.append1 (T := tFlt) (x := ⟨col, hf, mv - L⟩) hfl (cs := fltL ⟨col, hf, mv - L⟩) rfl hown' hgr hd3
          go_wp2
          go_roundw
          case rel => (repeat apply Exists.intro); (first | exact ⟨⟨k + 1, hk1, by go_num, hfin, HB3⟩, rfl⟩ | exact ⟨hk1, by go_num, hfin, HB3⟩)
          case measure => simp [intOf]; omega
        · have hfin : OwnT tFlt 100 V1 W2.heap.size u10 (LT (k + 1)) := by rw [HL2.out, if_neg hgt, List.append_nil]; exact HOW1.out
          clear HL2
          go_wp2_with fail
          go_roundw
          case rel => (repeat apply Exists.intro); (first | exact ⟨⟨k + 1, hk1, by go_num, hfin, HBV⟩, rfl⟩ | exact ⟨hk1, by go_num, hfin, HBV⟩)
          case measure => simp [intOf]; omega
      · obtain rfl : k = 2 := by omega
        have h2 := HB2.out.size
        have hown9 := hown.down (base' := w.heap.size) h2
        rw [← HV0.out] at hown9
        go_wp2_with fail
        go_ret
        exact ⟨_, rfl, hown9, HB2.out.trans (HB.out.mono HB2.out.size)⟩
end Go.Proofs.Ytmkplemdnglhmaa
namespace Go.Proofs.Ytmkplemdnglhmaa
open Go.RowKit

def lcheckF (s : Shp) (boxes : List Bx) (l : List Stw) (n : Nat) : List Flt := (List.range n).flatMap fun (c : Nat) => lfaultsF s boxes l c
theorem lcheckF_succ (s : Shp) (boxes : List Bx) (l : List Stw) (n : Nat) : lcheckF s boxes l (n + 1) = lcheckF s boxes l n ++ lfaultsF s boxes l n := by simp [lcheckF, List.range_succ]
theorem lcheckF_len (s : Shp) (boxes : List Bx) (l : List Stw) : ∀ n, (lcheckF s boxes l n).length ≤ 2 * n
  | 0 => by simp [lcheckF]
  | n + 1 => by
    rw [lcheckF_succ, List.length_append]
    have h1 := lcheckF_len s boxes l n
    have h2 := lfaults_len s boxes l n
    omega
theorem lflt_src {w : World} {B2 : Nat} {v v' : Value} {ms : List Flt} (h : OwnT tFlt 100 w B2 v' ms) (hv : ∀ g, v.ownBlock = some g → g < B2) : ∃ A c, v' = .slice A ms.length c ∧ SlT tFlt w (But w v) A ms := by
  obtain ⟨xs, ho, hf⟩ := h
  obtain ⟨A, c, e, h1, h2, h3⟩ := OwnT.sl ⟨xs, ho, hf⟩
  subst e
  refine ⟨A, c, rfl, fun hn => ?_⟩
  obtain ⟨b, off, rfl, hb, hc⟩ := h3 hn
  refine ⟨b, off, rfl, ⟨hb, fun e => ?_⟩, hc⟩
  have h4 := hv b e.symm
  have h5 := (ho.lt b (by
    rcases ho.2 with ⟨h0, _⟩ | ⟨g, cap, cur, h0, _⟩
    · cases h0
    · injection h0 with h0 _ _; injection h0 with h0; injection h0 with h0 _ _; simp only [h0]; rfl)).1
  omega
/-- The faults of a whole state. -/
def lcheckL (s : Shp) (boxes : List Bx) (l : List Stw) : List Flt := if stowRight s boxes l then lcheckF s boxes l s.cols.length else []
def LCheckRet (w : World) (s : Shp) (boxes : List Bx) (l : List Stw) (e : Ending) (w' : World) : Prop :=
  ∃ v, e = .returned (.tuple #[v, .int .i64 (if stowRight s boxes l then 0 else 2)]) ∧ OwnT tFlt 100 w' w.heap.size v (lcheckL s boxes l) ∧ Below w.heap.size w w'
set_option maxRecDepth 100000 in
set_option maxHeartbeats 4000000 in
theorem lCheck_any (s : Shp) (h : Hd) (A : Option Addr) (c : Nat) (boxes : List Bx) (A2 : Option Addr) (c2 : Nat) (l : List Stw) (w : World) (hkg : KgL boxes) (htol : ∀ c ∈ s.cols, c.lash ≤ 1000000000000000) (hsh : ShpR w (Lt w.heap.size) s h) (hf : Few s) (hi : Ints s) (hcl : s.cols.length ≤ 1000000)
    (hb : SlT tBx w (Lt w.heap.size) A boxes) (hbl : boxes.length ≤ 1000000) (hs : SlT tStw w (Lt w.heap.size) A2 l) (hl : l.length ≤ 1000000) (hl9 : l.length ≤ 1000) (hll : l.length ≤ c2) (ht : ∀ x ∈ l, x.slot.tier ≤ 9223372036854775807) :
    Calls Try.prog 54 #[.agg (shpA s h), .slice A boxes.length c, .slice A2 l.length c2] w (LCheckRet w s boxes l) := by
  have hbx := ba1 w (.cells (shpA s h) 32)
  have HR := Lib.hid (stowRight_any s h A c boxes A2 c2 l (w.alloc (.cells (shpA s h) 32)) (hsh.on hbx) hf hi hcl ((hb.below hbx).up hbx.size) hbl ((hs.below hbx).up hbx.size) hl hll ht)
  have KS := Lib.hid (Bk.new w 32 (shpA s h))
  have HB := Lib.hid hbx
  have HFL : Hid (∀ (k : Nat) (V : World), k < s.cols.length → Below w.heap.size w V → Calls Try.prog 57 #[.agg (shpA s h), .slice A boxes.length c, .slice A2 l.length c2, .int .i64 (k : Nat)] V (OwnLf V (lfaultsF s boxes l k))) := Lib.hid fun k V hk hV => by
    have := lFaults_any s h A c boxes A2 c2 l k V hkg htol ((hsh.below hV).up hV.size) hcl ((hb.below hV).up hV.size) hbl ((hs.below hV).up hV.size) hl9
    exact this
  have HC : Hid (lcheckL s boxes l = if stowRight s boxes l then lcheckF s boxes l s.cols.length else []) := Lib.hid rfl
  clear hb hs hsh hbx
  unfold LCheckRet
  generalize lcheckL s boxes l = CL at *
  have q0 : (w.alloc (.cells (shpA s h) 32)).cell? ⟨w.heap.size, 0, none⟩ = some (.slice h.A1 s.cols.length h.c1) := KS.out.cell 0
  cases hr : stowRight s boxes l with
  | false =>
    rw [hr] at HR HC
    unfold shpA at HR HB q0 ⊢
    go_enter Try.func54, Try.ntmps54
    go_wp2_with fail
    refine HR.out.mono ?_
    rintro e w1 ⟨rfl, hb1⟩
    simp only
    go_wp2_with fail
    go_ret2
    exact ⟨_, rfl, by rw [HC.out]; exact OwnT.nil, HB.out.trans (hb1.mono HB.out.size)⟩
  | true =>
    rw [hr] at HR HC
    simp only [if_true] at HC ⊢
    have HSP : Hid (shpA s h = #[.slice h.A1 s.cols.length h.c1, .slice h.A2 s.covs.length h.c2, .int .i64 s.l0, .int .i64 s.l1, .int .i64 s.l2, .int .i64 s.l3, .slice h.A3 s.rows.length h.c3, .slice h.A4 s.frames.length h.c4, .slice h.A5 s.tanks.length h.c5, .int .i64 s.m0, .int .i64 s.m1, .int .i64 s.m2, .int .i64 s.m3]) := Lib.hid rfl
    unfold shpA at HR HB q0 HFL ⊢
    go_enter Try.func54, Try.ntmps54
    go_upto_region 1 with fail
    go_wp2_with fail
    refine HR.out.mono ?_
    rintro e w1 ⟨rfl, hb1⟩
    simp only
    have hb2 := HB.out.trans (hb1.mono HB.out.size)
    have KS2 := Lib.hid (KS.out.below hb1 (by simp))
    have q1 : w1.cell? ⟨w.heap.size, 0, none⟩ = some (.slice h.A1 s.cols.length h.c1) := KS2.out.cell 0
    clear q0 hb1 HR KS HB
    go_wp2_with fail
    clear q1
    go_loopw [8, 18] (fun v i wr => ∃ (k : Nat) (m : List Flt), k ≤ s.cols.length ∧ i = .int .i64 k ∧ Hid (m = lcheckF s boxes l k) ∧ OwnT tFlt 100 wr w.heap.size v m ∧ Below w.heap.size w wr ∧ Hid (Bk wr w.heap.size 32 (shpA s h))) (fun _ i _ => s.cols.length - (intOf i).toNat)
    case atStart => exact ⟨0, [], Nat.zero_le _, rfl, Lib.hid (by simp [lcheckF]), OwnT.nil, hb2, KS2⟩
    case round =>
      clear hb2 KS2
      obtain ⟨k, m, hk, rfl, HM, hown, hbW, KS⟩ := hrel
      obtain ⟨V, rfl⟩ : ∃ V, V = wr := ⟨_, rfl⟩
      by_cases hlt : k < s.cols.length
      · have i0 : (0 : Int) ≤ (k : Int) := by omega
        have i1 : (k : Int) < (s.cols.length : Int) := by omega
        have a1 : k + 1 ≤ s.cols.length := hlt
        have hml : m.length ≤ 2000000 := by
          rw [HM.out]
          exact Nat.le_trans (lcheckF_len s boxes l k) (by omega)
        have hfl := lfaults_len s boxes l k
        have HM1 : Hid (lcheckF s boxes l (k + 1) = m ++ lfaultsF s boxes l k) := Lib.hid (by rw [lcheckF_succ, ← HM.out])
        have HK := Lib.hid (HFL.out k V hlt hbW)
        have bS := KS.out
        obtain ⟨e0, e1, e2, e3, e4, e5, e6, e7, e8, e9, e10, e11, e12⟩ : V.cell? ⟨w.heap.size, 0, none⟩ = some (.slice h.A1 s.cols.length h.c1) ∧ V.cell? ⟨w.heap.size, 1, none⟩ = some (.slice h.A2 s.covs.length h.c2) ∧ V.cell? ⟨w.heap.size, 2, none⟩ = some (.int .i64 s.l0) ∧ V.cell? ⟨w.heap.size, 3, none⟩ = some (.int .i64 s.l1) ∧ V.cell? ⟨w.heap.size, 4, none⟩ = some (.int .i64 s.l2) ∧ V.cell? ⟨w.heap.size, 5, none⟩ = some (.int .i64 s.l3) ∧ V.cell? ⟨w.heap.size, 6, none⟩ = some (.slice h.A3 s.rows.length h.c3) ∧ V.cell? ⟨w.heap.size, 7, none⟩ = some (.slice h.A4 s.frames.length h.c4) ∧ V.cell? ⟨w.heap.size, 8, none⟩ = some (.slice h.A5 s.tanks.length h.c5) ∧ V.cell? ⟨w.heap.size, 9, none⟩ = some (.int .i64 s.m0) ∧ V.cell? ⟨w.heap.size, 10, none⟩ = some (.int .i64 s.m1) ∧ V.cell? ⟨w.heap.size, 11, none⟩ = some (.int .i64 s.m2) ∧ V.cell? ⟨w.heap.size, 12, none⟩ = some (.int .i64 s.m3) := ⟨bS.cell 0, bS.cell 1, bS.cell 2, bS.cell 3, bS.cell 4, bS.cell 5, bS.cell 6, bS.cell 7, bS.cell 8, bS.cell 9, bS.cell 10, bS.cell 11, bS.cell 12⟩
        clear bS
        generalize lfaultsF s boxes l k = fk at *
        go_wp2_with fail
        refine HK.out.mono ?_
        rintro e V1 ⟨v', rfl, ho', hq⟩
        simp only
        clear e0 e1 e2 e3 e4 e5 e6 e7 e8 e9 e10 e11 e12
        have hown1 := hown.below hq
        obtain ⟨A', c', rfl, hsl⟩ := lflt_src ho' (own_ltT hown)
        have hb3 := hbW.trans (hq.mono hbW.size)
        have KS1 := Lib.hid (KS.out.below hq KS.out.lt)
        have hsz := hb3.size
        clear HK ho' hq
        go_wp2_with (at_builtin; (refine wpList_append_T el_lflt rfl (.tmp 21) (.tmp 26) rfl w.heap.size _ m rfl hown1 A' fk.length c' fk rfl rfl hsl ?c1 ?c2 hsz ?_))
        case c1 => unfold maxLen; omega
        case c2 => omega
        intro v'' w3 hown3 hgr hbel
        have KS3 : Hid (Bk w3 w.heap.size 32 (shpA s h)) := Lib.hid (by
          obtain ⟨xs, ho, _⟩ := hown1
          exact KS1.out.grown hgr (Ne.symm (own_ne ho KS1.out (by decide))))
        have HM2 : Hid (m ++ fk = lcheckF s boxes l (k + 1)) := Lib.hid HM1.out.symm
        have HO3 := Lib.hid hown3
        have HB3 := Lib.hid (hb3.trans hbel)
        clear hgr hown3 hbel hsl hown1
        go_wp2
        go_roundw
        case rel => exact ⟨k + 1, m ++ fk, a1, by go_num, HM2, HO3.out, HB3.out, KS3⟩
        case measure => simp [intOf]; omega
      · obtain rfl : k = s.cols.length := by omega
        go_wp2
        go_ret2
        exact ⟨_, rfl, by rw [HC.out, ← HM.out]; exact hown, hbW⟩
/-- What there is room for, the halves in h still to be looked at. -/
def lroomGo (L lift : Int) (M : Nat → Int) : List Nat → Int → Int
  | [], out => out
  | h :: t, out => if L - M h < 0 then 0 else lroomGo L lift M t (if 0 < lift then minI out ((L - M h) / lift) else out)
def lroomF (s : Shp) (boxes : List Bx) (l : List Stw) (x : Slt) : Int :=
  if thereB s x.col then (if lashF s x.col = 0 then 500000000 else lroomGo (lashF s x.col) (liftF boxes l x) (momentF boxes l x.col) (hvL x) 500000000) else 0
theorem div_bd {a b : Int} (h0 : 0 ≤ a) (h1 : a ≤ 6000000000000000000) (hb : 0 < b) : 0 ≤ a / b ∧ a / b ≤ 6000000000000000000 := ⟨Int.ediv_nonneg h0 (Int.le_of_lt hb), Int.le_trans (Int.ediv_le_self _ h0) h1⟩
set_option maxRecDepth 100000 in
set_option maxHeartbeats 4000000 in
theorem lRoom_any (s : Shp) (h : Hd) (A : Option Addr) (c : Nat) (boxes : List Bx) (A2 : Option Addr) (c2 : Nat) (l : List Stw) (x : Slt) (w : World) (hk : KgL boxes) (hlh : ∀ c ∈ s.cols, c.lash ≤ 1000000000000000) (hsh : ShpR w (Lt w.heap.size) s h) (hcl : s.cols.length ≤ 1000000)
    (hb : SlT tBx w (Lt w.heap.size) A boxes) (hbl : boxes.length ≤ 1000000) (hs : SlT tStw w (Lt w.heap.size) A2 l) (hl : l.length ≤ 1000) :
    Calls Try.prog 50 #[.agg (shpA s h), .slice A boxes.length c, .slice A2 l.length c2, .agg (sltL x).toArray] w (Ret w (.int .i64 (lroomF s boxes l x))) := by
  have hbs := ba2 w (.cells (shpA s h) 32) (.cells (sltL x).toArray 40)
  have kS := (Bk.new w 32 (shpA s h)).alloc (.cells (sltL x).toArray 40)
  have kX : Bk ((w.alloc (.cells (shpA s h) 32)).alloc (.cells (sltL x).toArray 40)) (w.heap.size + 1) 40 (sltL x).toArray := Bk.at_ _ _ (by simp)
  have HBE := Lib.hid hbs
  have KL := Lib.hid (fun (V : World) (hV : Below w.heap.size w V) => lashed_any s h x.col V (hsh.on hV) hcl)
  have KLI := Lib.hid (fun (V : World) (hV : Below w.heap.size w V) => lift_any A c boxes A2 c2 l x V (hb.on hV) hbl (hs.on hV) hl)
  have KM := Lib.hid (fun (V : World) (hV : Below w.heap.size w V) (hf : Nat) => moment_any A c boxes A2 c2 l x.col hf V hk (hb.on hV) hbl (hs.on hV) hl)
  have KH := Lib.hid (fun V => lashHalves_any x V)
  have HMB := Lib.hid (fun hf => moment_bd hk hl x.col hf)
  have hLb := lashF_bd hlh x.col
  have hlf := lift_bd boxes hl x
  have hhl := hv_len x
  have HV : Hid (lroomF s boxes l x = if thereB s x.col then (if lashF s x.col = 0 then 500000000 else lroomGo (lashF s x.col) (liftF boxes l x) (momentF boxes l x.col) (hvL x) 500000000) else 0) := Lib.hid rfl
  clear hk hlh hsh hb hs hbs
  generalize lroomF s boxes l x = RF at *
  generalize lashF s x.col = L at *
  generalize liftF boxes l x = LI at *
  generalize momentF boxes l x.col = MF at *
  generalize hvL x = hv at *
  obtain ⟨hL0, hL1⟩ := hLb
  obtain ⟨hI0, hI1⟩ := hlf
  obtain ⟨xc, xt, xh⟩ := x
  unfold sltL at kS kX HBE KLI KH
  unfold shpA at kS kX HBE KL
  simp only at kS kX HBE KL KLI KM KH HV
  have HKS := Lib.hid kS
  have HKX := Lib.hid kX
  clear kS kX
  unfold shpA sltL
  simp only
  go_enter Try.func50, Try.ntmps50
  go_upto_region 1 with fail
  obtain ⟨gs, hgs⟩ : ∃ gs, gs = w.heap.size := ⟨_, rfl⟩
  generalize hW : (World.alloc (World.alloc w _) _) = W at *
  clear hW
  rw [← hgs] at HKS HKX ⊢
  have HGS := Lib.hid hgs
  clear hgs
  have e0 : W.cell? ⟨gs, 0, none⟩ = some (.slice h.A1 s.cols.length h.c1) := HKS.out.cell 0
  have x0 : W.cell? ⟨gs + 1, 0, none⟩ = some (.int .i64 xc) := HKX.out.cell 0
  by_cases h0 : 0 ≤ xc
  · by_cases h1 : xc < (s.cols.length : Int)
    · have HV1 : Hid (RF = if L = 0 then 500000000 else lroomGo L LI MF hv 500000000) := Lib.hid (by rw [HV.out]; unfold thereB; rw [decide_eq_true h0, decide_eq_true h1]; rfl)
      clear HV
      have hn0 : ¬ xc < 0 := by omega
      have hn1 : ¬ (s.cols.length : Int) ≤ xc := by omega
      go_upto_region 3 with fail
      clear hn0 hn1 e0
      have SC := HKS.out
      have e0 : W.cell? ⟨gs, 0, none⟩ = some (.slice h.A1 s.cols.length h.c1) := SC.cell 0
      have e1 : W.cell? ⟨gs, 1, none⟩ = some (.slice h.A2 s.covs.length h.c2) := SC.cell 1
      have e2 : W.cell? ⟨gs, 2, none⟩ = some (.int .i64 s.l0) := SC.cell 2
      have e3 : W.cell? ⟨gs, 3, none⟩ = some (.int .i64 s.l1) := SC.cell 3
      have e4 : W.cell? ⟨gs, 4, none⟩ = some (.int .i64 s.l2) := SC.cell 4
      have e5 : W.cell? ⟨gs, 5, none⟩ = some (.int .i64 s.l3) := SC.cell 5
      have e6 : W.cell? ⟨gs, 6, none⟩ = some (.slice h.A3 s.rows.length h.c3) := SC.cell 6
      have e7 : W.cell? ⟨gs, 7, none⟩ = some (.slice h.A4 s.frames.length h.c4) := SC.cell 7
      have e8 : W.cell? ⟨gs, 8, none⟩ = some (.slice h.A5 s.tanks.length h.c5) := SC.cell 8
      have e9 : W.cell? ⟨gs, 9, none⟩ = some (.int .i64 s.m0) := SC.cell 9
      have e10 : W.cell? ⟨gs, 10, none⟩ = some (.int .i64 s.m1) := SC.cell 10
      have e11 : W.cell? ⟨gs, 11, none⟩ = some (.int .i64 s.m2) := SC.cell 11
      have e12 : W.cell? ⟨gs, 12, none⟩ = some (.int .i64 s.m3) := SC.cell 12
      clear SC
      go_wp2_with fail
      refine (KL.out W HBE.out).mono ?_
      rintro e W1 ⟨rfl, hb⟩
      simp only
      clear KL x0
      clear e0 e1 e2 e3 e4 e5 e6 e7 e8 e9 e10 e11 e12
      have HB1 := Lib.hid (HBE.out.trans (hb.mono HBE.out.size))
      have HKX1 := Lib.hid (HKX.out.below hb HKX.out.lt)
      clear hb HBE HKX HKS
      try clear W
      by_cases hz : L = 0
      · have HV2 : Hid (RF = 500000000) := Lib.hid (by rw [HV1.out, if_pos hz])
        clear HV1
        subst hz
        go_wp2_with fail
        go_ret
        exact ⟨by rw [HV2.out]; rfl, HB1.out⟩
      · have HV2 : Hid (RF = lroomGo L LI MF hv 500000000) := Lib.hid (by rw [HV1.out, if_neg hz])
        clear HV1
        have hzb : (L == 0) = false := by simpa using hz
        clear hz
        go_upto_region 6 with fail
        clear hzb
        have x0 : W1.cell? ⟨gs + 1, 0, none⟩ = some (.int .i64 xc) := HKX1.out.cell 0
        have x1 : W1.cell? ⟨gs + 1, 1, none⟩ = some (.int .i64 xt) := HKX1.out.cell 1
        have x2 : W1.cell? ⟨gs + 1, 2, none⟩ = some (.int .u8 (xh : Nat)) := HKX1.out.cell 2
        go_wp2_with fail
        refine (KLI.out W1 HB1.out).mono ?_
        rintro e W2 ⟨rfl, hb⟩
        simp only
        clear KLI x0 x1 x2
        have HB2 := Lib.hid (HB1.out.trans (hb.mono HB1.out.size))
        have HKX2 := Lib.hid (HKX1.out.below hb HKX1.out.lt)
        clear hb HB1 HKX1
        try clear W1
        go_upto_region 7 with fail
        have x0 : W2.cell? ⟨gs + 1, 0, none⟩ = some (.int .i64 xc) := HKX2.out.cell 0
        have x1 : W2.cell? ⟨gs + 1, 1, none⟩ = some (.int .i64 xt) := HKX2.out.cell 1
        have x2 : W2.cell? ⟨gs + 1, 2, none⟩ = some (.int .u8 (xh : Nat)) := HKX2.out.cell 2
        go_wp2_with fail
        refine (KH.out W2).mono ?_
        rintro e W3 ⟨A7, c7, rfl, hs7, hb⟩
        simp only
        clear KH x0 x1 x2
        have HS7 := Lib.hid hs7
        have HB3 := Lib.hid (HB2.out.trans (hb.mono HB2.out.size))
        have HKX3 := Lib.hid (HKX2.out.below hb HKX2.out.lt)
        clear hb HB2 HKX2 hs7
        try clear W2
        go_wp2_with fail
        go_loopw [10, 39] (fun v i wr => ∃ (k : Nat) (o : Int), k ≤ hv.length ∧ i = .int .i64 k ∧ v = .int .i64 o ∧ 0 ≤ o ∧ o ≤ 500000000 ∧ Hid (RF = lroomGo L LI MF (hv.drop k) o) ∧ Hid (Below W3.heap.size W3 wr)) (fun _ i _ => hv.length - (intOf i).toNat)
        case atStart => exact ⟨0, 500000000, Nat.zero_le _, rfl, rfl, by omega, by omega, Lib.hid (by rw [HV2.out]; rfl), Lib.hid (Below.refl _ _)⟩
        case round =>
          obtain ⟨k, o, hk, rfl, rfl, ho0, ho1, HO, HBr⟩ := hrel
          obtain ⟨V, rfl⟩ : ∃ V, V = wr := ⟨_, rfl⟩
          by_cases hlt : k < hv.length
          · have k0 : (0 : Int) ≤ (k : Int) := by omega
            have k1 : (k : Int) < (hv.length : Int) := by omega
            have hk1 : k + 1 ≤ hv.length := hlt
            obtain ⟨b, off, rfl, hbB, c0⟩ := (HS7.out.on HBr.out).u8 hlt
            have HO2 : Hid (RF = if L - MF (hv.getD k 0) < 0 then 0 else lroomGo L LI MF (hv.drop (k + 1)) (if 0 < LI then minI o ((L - MF (hv.getD k 0)) / LI) else o)) := Lib.hid (by
              rw [HO.out, List.drop_eq_getElem_cons hlt]
              have e : hv[k] = hv.getD k 0 := by simp [hlt]
              rw [e]
              rfl)
            clear HO
            have hmb := HMB.out (hv.getD k 0)
            generalize hv.getD k 0 = hf at *
            have KM1 := Lib.hid (KM.out V (HB3.out.trans (HBr.out.mono HB3.out.size)) hf)
            generalize MF hf = mv at *
            obtain ⟨mb0, mb1⟩ := hmb
            go_upto_region 10 with fail
            clear c0
            have x0 : V.cell? ⟨gs + 1, 0, none⟩ = some (.int .i64 xc) := (HKX3.out.below HBr.out HKX3.out.lt).cell 0
            go_wp2_with fail
            refine KM1.out.mono ?_
            rintro e V1 ⟨rfl, hb⟩
            simp only
            clear KM1 x0
            have HBV := Lib.hid (HBr.out.trans (hb.mono HBr.out.size))
            clear hb HBr
            by_cases hneg : L - mv < 0
            · have HF : Hid (RF = 0) := Lib.hid (by rw [HO2.out, if_pos hneg])
              clear HO2
              go_wp2_with fail
              go_ret
              exact ⟨by rw [HF.out]; rfl, HB3.out.trans (HBV.out.mono HB3.out.size)⟩
            · by_cases hpos : 0 < LI
              · obtain ⟨d0, d1⟩ := div_bd (a := L - mv) (b := LI) (by omega) (by omega) hpos
                by_cases hmin : (L - mv) / LI < o
                · have HF : Hid (RF = lroomGo L LI MF (hv.drop (k + 1)) ((L - mv) / LI)) := Lib.hid (by rw [HO2.out, if_neg hneg, if_pos hpos]; unfold minI; rw [if_pos hmin])
                  clear HO2
                  have hn0 : 0 ≤ L - mv := by omega
                  go_wp2_with fail
                  go_roundw
                  case rel => (repeat apply Exists.intro); (first | exact ⟨⟨k + 1, (L - mv) / LI, hk1, by go_num, rfl, d0, by omega, HF, HBV⟩, rfl⟩ | exact ⟨hk1, by go_num, rfl, d0, by omega, HF, HBV⟩)
                  case measure => simp [intOf]; omega
                · have HF : Hid (RF = lroomGo L LI MF (hv.drop (k + 1)) o) := Lib.hid (by rw [HO2.out, if_neg hneg, if_pos hpos]; unfold minI; rw [if_neg hmin])
                  clear HO2
                  have hn0 : 0 ≤ L - mv := by omega
                  go_wp2_with fail
                  go_roundw
                  case rel => (repeat apply Exists.intro); (first | exact ⟨⟨k + 1, o, hk1, by go_num, rfl, ho0, ho1, HF, HBV⟩, rfl⟩ | exact ⟨hk1, by go_num, rfl, ho0, ho1, HF, HBV⟩)
                  case measure => simp [intOf]; omega
              · have HF : Hid (RF = lroomGo L LI MF (hv.drop (k + 1)) o) := Lib.hid (by rw [HO2.out, if_neg hneg, if_neg hpos])
                clear HO2
                go_wp2_with fail
                go_roundw
                case rel => (repeat apply Exists.intro); (first | exact ⟨⟨k + 1, o, hk1, by go_num, rfl, ho0, ho1, HF, HBV⟩, rfl⟩ | exact ⟨hk1, by go_num, rfl, ho0, ho1, HF, HBV⟩)
                case measure => simp [intOf]; omega
          · obtain rfl : k = hv.length := by omega
            rw [List.drop_length] at HO
            obtain rfl : RF = o := HO.out
            go_wp2_with fail
            go_ret
            exact ⟨rfl, HB3.out.trans (HBr.out.mono HB3.out.size)⟩
    · have HV0 : Hid (RF = 0) := Lib.hid (by rw [HV.out]; unfold thereB; rw [decide_eq_false h1]; simp)
      have h1' : (s.cols.length : Int) ≤ xc := by omega
      have hn0 : ¬ xc < 0 := by omega
      clear h1 h0
      go_wp2_with fail
      go_ret
      exact ⟨by rw [HV0.out]; rfl, HBE.out⟩
  · have HV0 : Hid (RF = 0) := Lib.hid (by rw [HV.out]; unfold thereB; rw [decide_eq_false h0]; simp)
    have h0' : xc < 0 := by omega
    clear h0
    go_wp2_with fail
    go_ret
    exact ⟨by rw [HV0.out]; rfl, HBE.out⟩
end Go.Proofs.Ytmkplemdnglhmaa
