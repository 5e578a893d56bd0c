/-
  Walks of package stack: the iterator that faults hands back, in the wide fence.
-/
import Derived.Sort.CutIn
import Derived.Test.YtmkplemdnglhmaaStJ
namespace Go.Proofs.Ytmkplemdnglhmaa
open Go.RowKit Go.Shelf

structure Flt where
  col : Int
  kind : Nat
  box : Int
  deriving DecidableEq, Inhabited
def fltL (f : Flt) : List Value := [.int .i64 f.col, .int .u8 (f.kind : Nat), .int .i64 f.box]
/-- The first i kinds of weight that are too great. -/
def kindsTo (hv : List Bool) (col : Int) (i : Nat) : List Flt := (List.range i).filterMap fun j => if hv.getD j false then some ⟨col, 1 + j, 0⟩ else none
def heavies (s : Shp) (boxes : List Bx) (l : List Stw) (k : Nat) : List Bool :=
  [decide ((s.cols.getD k default).k20 < sumF boxes l (halfB k 1)), decide ((s.cols.getD k default).k20 < sumF boxes l (halfB k 2)), decide ((s.cols.getD k default).k40 < sumF boxes l (colB k))]
def topB (deck : Bool) (tol : Int) (boxes : List Bx) (l : List Stw) (k : Nat) (x : Stw) : Bool :=
  x.slot.col == (k : Int) && (deck && (decide (1 ≤ x.slot.tier) && decide (sumF boxes l (belowB x.slot) + tol < (findBx boxes x.box).1.kilos)))
def topsOf (p : Stw → Bool) (k : Nat) (l : List Stw) : List Flt := l.filterMap fun x => if p x then some ⟨k, 4, x.box⟩ else none
/-- The faults of a column. -/
def faultsF (s : Shp) (boxes : List Bx) (l : List Stw) (k : Nat) : List Flt := kindsTo (heavies s boxes l k) k 3 ++ topsOf (topB (s.cols.getD k default).deck s.m0 boxes l k) k l
theorem kindsTo_succ (hv : List Bool) (col : Int) (i : Nat) : kindsTo hv col (i + 1) = kindsTo hv col i ++ if hv.getD i false then [⟨col, 1 + i, 0⟩] else [] := by
  unfold kindsTo
  rw [List.range_succ, List.filterMap_append]
  cases h : hv.getD i false
  all_goals simp only [List.getD_eq_getElem?_getD] at h
  all_goals simp [h]
theorem kindsTo_len (hv : List Bool) (col : Int) (i : Nat) : (kindsTo hv col i).length ≤ i := by
  unfold kindsTo
  exact Nat.le_trans (List.length_filterMap_le _ _) (by simp)
theorem topsOf_succ (p : Stw → Bool) (k : Nat) (l : List Stw) {j : Nat} (h : j < l.length) : topsOf p k (l.take (j + 1)) = topsOf p k (l.take j) ++ if p (l.getD j default) then [⟨k, 4, (l.getD j default).box⟩] else [] := by
  unfold topsOf
  rw [List.take_succ_eq_append_getElem h, List.filterMap_append]
  have e : l.getD j default = l[j] := by simp [h]
  rw [e]
  cases hp : p l[j] <;> simp [hp]
theorem topsOf_len (p : Stw → Bool) (k : Nat) (l : List Stw) : (topsOf p k l).length ≤ l.length := List.length_filterMap_le _ _
/-- What a round over faults keeps: what lay below n₀, and all blocks but those of faults and of lists of faults. -/
def KpF (n₀ : Nat) (W W' : World) : Prop := Below n₀ W W' ∧ ∀ g t cs, t ≠ 73 → t ≠ 61 → Bk W g t cs → Bk W' g t cs
theorem KpF.trans {n₀ : Nat} {A B C : World} (h : KpF n₀ A B) (k : KpF n₀ B C) : KpF n₀ A C := ⟨h.1.trans k.1, fun g t cs h1 h2 hg => k.2 g t cs h1 h2 (h.2 g t cs h1 h2 hg)⟩
theorem KpF.put {n₀ : Nat} {w : World} (hn : n₀ ≤ w.heap.size) (W : World) (l : Nat) (o o' : Obj) (hl : w.heap.size ≤ l) (h : W.heap[l]? = some o) (hc : o.isCells = false) (hw : o.isWalk = false) : KpF n₀ W (W.putObj l o') :=
  ⟨belowK_b hn W l o o' hl h hc hw, fun g t cs _ _ hg => hg.grown (grownBy_putObj' W l o') (by
    intro e; cases e
    unfold Bk at hg
    rw [h] at hg; cases hg; cases hc)⟩
theorem KpF.below {n₀ : Nat} {W W' : World} (h : Below W.heap.size W W') (hn : n₀ ≤ W.heap.size) : KpF n₀ W W' := ⟨h.mono hn, fun _ _ _ _ _ hg => hg.below h hg.lt⟩
theorem ite_no {c : Prop} [Decidable c] {a b : Prop} (h : ¬ c) (hb : b) : if c then a else b := by rw [if_neg h]; exact hb
theorem idx3 (b0 b1 b2 : Bool) (i : Nat) (hi : i < 3) (w : World) : (Instr.index 151 (.agg #[.bool b0, .bool b1, .bool b2]) (.int .i64 (i : Nat))).run Try.prog w = .ok (.bool ([b0, b1, b2].getD i false)) w := by
  have q0 : (Instr.index 151 (.agg #[.bool b0, .bool b1, .bool b2]) (.int .i64 ((0 : Nat) : Int))).run Try.prog w = .ok (.bool b0) w := by kernel_rfl
  have q1 : (Instr.index 151 (.agg #[.bool b0, .bool b1, .bool b2]) (.int .i64 ((1 : Nat) : Int))).run Try.prog w = .ok (.bool b1) w := by kernel_rfl
  have q2 : (Instr.index 151 (.agg #[.bool b0, .bool b1, .bool b2]) (.int .i64 ((2 : Nat) : Int))).run Try.prog w = .ok (.bool b2) w := by kernel_rfl
  have h3 : i = 0 ∨ i = 1 ∨ i = 2 := by omega
  rcases h3 with rfl | rfl | rfl
  · exact q0
  · exact q1
  · exact q2
/-- What faults$1 reads all along. -/
structure FC (W : World) (n₀ : Nat) (s : Shp) (h : Hd) (A : Option Addr) (c : Nat) (boxes : List Bx) (A2 : Option Addr) (c2 : Nat) (l : List Stw) (k : Nat) (Ap : Option Addr) (q gk gc gi gl gb gs : Nat) : Prop where
  bk : Bk W gk 55 (klL boxes l k).toArray
  bc : Bk W gc 46 (colL (s.cols.getD k default) Ap q).toArray
  bi : Bk W gi 3 #[.int .i64 k]
  bl : Bk W gl 38 #[.slice A2 l.length c2]
  bb : Bk W gb 33 #[.slice A boxes.length c]
  bs : Bk W gs 32 (shpA s h)
  sb : SlT tBx W (Lt n₀) A boxes
  sl : SlT tStw W (Lt n₀) A2 l
theorem FC.keep {W W' : World} {n₀ : Nat} {s : Shp} {h : Hd} {A : Option Addr} {c : Nat} {boxes : List Bx} {A2 : Option Addr} {c2 : Nat} {l : List Stw} {k : Nat} {Ap : Option Addr} {q gk gc gi gl gb gs : Nat} (f : FC W n₀ s h A c boxes A2 c2 l k Ap q gk gc gi gl gb gs) (hk : KpF n₀ W W') : FC W' n₀ s h A c boxes A2 c2 l k Ap q gk gc gi gl gb gs :=
  ⟨hk.2 _ _ _ (by decide) (by decide) f.bk, hk.2 _ _ _ (by decide) (by decide) f.bc, hk.2 _ _ _ (by decide) (by decide) f.bi, hk.2 _ _ _ (by decide) (by decide) f.bl, hk.2 _ _ _ (by decide) (by decide) f.bb, hk.2 _ _ _ (by decide) (by decide) f.bs, f.sb.below hk.1, f.sl.below hk.1⟩

attribute [local go_sem] Oper.semAt_some

set_option maxRecDepth 100000 in
set_option maxHeartbeats 8000000 in
theorem faults1_in (m : Nat) (hn : 3 ≤ m) (lb n₀ : Nat) (s : Shp) (h : Hd) (A : Option Addr) (c : Nat) (boxes : List Bx) (A2 : Option Addr) (c2 : Nat) (l : List Stw) (k : Nat) (Ap : Option Addr) (q gk gc gi gl gb gs : Nat) (J Jx : List Flt → World → Prop) (W : World) (hJ : AbidesFrom W.heap.size J)
    (hY : ∀ pre x W1, J pre W1 → pre.length < 3 + l.length → YieldAt Fence.wide (m - 1) Try.prog lb #[.agg (fltL x).toArray] W1 fun e W' =>
      (e = .returned (.bool true) ∧ J (pre ++ [x]) W' ∧ KpF n₀ W1 W') ∨ (e = .returned (.bool false) ∧ Jx (pre ++ [x]) W'))
    (hf : FC W n₀ s h A c boxes A2 c2 l k Ap q gk gc gi gl gb gs) (hW : n₀ ≤ W.heap.size) (hkg : KgOK boxes) (htol : -1000000000000 ≤ s.m0 ∧ s.m0 ≤ 1000000000000) (hbl : boxes.length ≤ 1000000) (hl : l.length ≤ 1000000) (hti : ∀ x ∈ l, x.slot.tier ≤ 9223372036854775807) (h0 : J [] W) :
    CallsIn Fence.wide m Try.prog 108 #[.func (.yield lb) #[] #[], .pointer (some ⟨gk, 0, none⟩), .pointer (some ⟨gc, 0, none⟩), .pointer (some ⟨gi, 0, none⟩), .pointer (some ⟨gl, 0, none⟩), .pointer (some ⟨gb, 0, none⟩), .pointer (some ⟨gs, 0, none⟩)] W fun e W' => (∃ v, e = .returned v) ∧
      ((∃ xs, xs = faultsF s boxes l k ∧ J xs W') ∨ (∃ pre, True ∧ Jx pre W')) := by
  refine callsIn_of_wp Try.func108 rfl trivial ?_ rfl
  simp only [Try.ntmps108, List.size_toArray, List.length_cons, List.length_nil, Nat.reduceAdd, Nat.reduceSub, Array.replicate_succ, Array.replicate_zero, List.push_toArray, List.append_toArray, List.nil_append, List.cons_append]
  have HF := Lib.hid hf
  have HFD : Hid (faultsF s boxes l k = kindsTo [decide ((s.cols.getD k default).k20 < sumF boxes l (halfB k 1)), decide ((s.cols.getD k default).k20 < sumF boxes l (halfB k 2)), decide ((s.cols.getD k default).k40 < sumF boxes l (colB k))] k 3 ++ topsOf (topB (s.cols.getD k default).deck s.m0 boxes l k) k l) := Lib.hid rfl
  have c5 : W.cell? ⟨gc, 5, none⟩ = some (.int .i64 (s.cols.getD k default).k20) := hf.bc.cell 5
  have c6 : W.cell? ⟨gc, 6, none⟩ = some (.int .i64 (s.cols.getD k default).k40) := hf.bc.cell 6
  have k0 : W.cell? ⟨gk, 0, none⟩ = some (.int .i64 (sumF boxes l (halfB k 1))) := hf.bk.cell 0
  have k1 : W.cell? ⟨gk, 1, none⟩ = some (.int .i64 (sumF boxes l (halfB k 2))) := hf.bk.cell 1
  have k2 : W.cell? ⟨gk, 2, none⟩ = some (.int .i64 (sumF boxes l (colB k))) := hf.bk.cell 2
  clear hf
  generalize sumF boxes l (halfB k 1) = s1 at *
  generalize sumF boxes l (halfB k 2) = s2 at *
  generalize sumF boxes l (colB k) = s3 at *
  generalize hk20 : (s.cols.getD k default).k20 = k20 at *
  generalize hk40 : (s.cols.getD k default).k40 = k40 at *
  clear hk20 hk40
  gi_wp2
  clear c5 c6 k0 k1 k2
  generalize decide (k20 < s1) = b0 at *
  generalize decide (k20 < s2) = b1 at *
  generalize decide (k40 < s3) = b2 at *
  gi_loopw [30] (fun i wr => ∃ j : Nat, j ≤ 3 ∧ i = .int .i64 j ∧ J (kindsTo [b0, b1, b2] k j) wr ∧ Hid (KpF n₀ W wr)) (fun i _ => 3 - (intOf i).toNat)
  case atStart => exact ⟨0, by omega, rfl, by simpa [kindsTo] using h0, Lib.hid ⟨Below.refl _ _, fun _ _ _ _ _ h => h⟩⟩
  case round =>
    obtain ⟨j, hj, rfl, hJj, HK⟩ := hrel
    obtain ⟨V, rfl⟩ : ∃ V, V = wr := ⟨_, rfl⟩
    by_cases hlt : j < 3
    · have HI := Lib.hid (fun w => idx3 b0 b1 b2 j hlt w)
      have HKS := Lib.hid (kindsTo_succ [b0, b1, b2] k j)
      have hpre : (kindsTo [b0, b1, b2] k j).length < 3 + l.length := by have := kindsTo_len [b0, b1, b2] k j; omega
      have e0 : V.cell? ⟨gi, 0, none⟩ = some (.int .i64 k) := (HK.out.2 _ _ _ (by decide) (by decide) HF.out.bi).cell 0
      have hjj : j + 1 ≤ 3 := hlt
      have i0 : (0 : Int) ≤ (j : Int) := by omega
      have i1 : (j : Int) < 3 := by omega
      generalize kindsTo [b0, b1, b2] k j = pre at *
      generalize [b0, b1, b2].getD j false = hv at *
      have hI := HI.out
      cases hv with
      | false =>
        gi_wp2
        refine ⟨fun _ h => (by cases h), ?_⟩
        gi_wp2
        go_roundw
        case rel => exact ⟨j + 1, hjj, by go_num, by rw [HKS.out]; simpa using hJj, HK⟩
        case measure => simp [intOf]; omega
      | true =>
        obtain ⟨fn, tmps, assign, body, hy, hR⟩ := hY pre ⟨k, 1 + j, 0⟩ V hJj hpre
        unfold fltL at hy
        simp only [Int.natCast_add, Int.cast_ofNat_Int] at hy
        gi_wp2
        refine ⟨fun _ => by omega, ?_⟩
        refine hR.mono ?_
        rintro e V2 (⟨rfl, hJ2, hk2⟩ | ⟨rfl, hJx⟩)
        · gi_wp2
          go_roundw
          case rel => exact ⟨j + 1, hjj, by go_num, by rw [HKS.out]; simpa using hJ2, Lib.hid (HK.out.trans hk2)⟩
          case measure => simp [intOf]; omega
        · gi_wp2
          refine bodyPost_ret (results_none rfl _ _ _) rfl ?_
          exact ⟨⟨_, rfl⟩, .inr ⟨_, trivial, hJx⟩⟩
    · obtain rfl : j = 3 := by omega
      clear hlt hj
      have hlen3 := kindsTo_len [b0, b1, b2] k 3
      generalize kindsTo [b0, b1, b2] k 3 = K3 at *
      obtain ⟨p, hp⟩ : ∃ p, p = topB (s.cols.getD k default).deck s.m0 boxes l k := ⟨_, rfl⟩
      have HFD2 : Hid (faultsF s boxes l k = K3 ++ topsOf p k l) := Lib.hid (by rw [HFD.out, hp])
      have HPD : Hid (∀ x : Stw, p x = (x.slot.col == (k : Int) && ((s.cols.getD k default).deck && (decide (1 ≤ x.slot.tier) && decide (sumF boxes l (belowB x.slot) + s.m0 < (findBx boxes x.box).1.kilos))))) := Lib.hid fun x => by rw [hp]; rfl
      have HDK : Hid (∀ X : World, FC X n₀ s h A c boxes A2 c2 l k Ap q gk gc gi gl gb gs → X.cell? ⟨gc, 2, none⟩ = some (.bool (s.cols.getD k default).deck)) := Lib.hid fun X hX => hX.bc.cell 2
      clear hp HFD
      generalize (s.cols.getD k default).deck = deck at HPD HDK
      have el : V.cell? ⟨gl, 0, none⟩ = some (.slice A2 l.length c2) := (HK.out.2 _ _ _ (by decide) (by decide) HF.out.bl).cell 0
      gi_wp2
      clear el
      gi_loopw [48] (fun i wr => ∃ j : Nat, j ≤ l.length ∧ i = .int .i64 j ∧ J (K3 ++ topsOf p k (l.take j)) wr ∧ Hid (KpF n₀ W wr)) (fun i _ => l.length - (intOf i).toNat)
      case atStart => exact ⟨0, Nat.zero_le _, rfl, by simpa [topsOf] using hJj, HK⟩
      case round =>
        clear hJj HK
        clear V
        obtain ⟨j, hj, rfl, hJj, HK⟩ := hrel
        obtain ⟨V, rfl⟩ : ∃ V, V = wr := ⟨_, rfl⟩
        by_cases hlt : j < l.length
        · have HG := HF.out.keep HK.out
          obtain ⟨b, off, rfl, hbB, d0, d1, d2, d3⟩ := HG.sl.stw hlt
          have hVW := HK.out.1.size
          have HTS := Lib.hid (topsOf_succ p k l hlt)
          have hpre : (K3 ++ topsOf p k (l.take j)).length < 3 + l.length := by
            have h1 := topsOf_len p k (l.take j)
            simp only [List.length_append, List.length_take] at h1 ⊢
            omega
          have HPRE := Lib.hid hpre
          clear hpre
          have HJ1 := Lib.hid (AbidesFrom.below hJ hJj (ba1 V (.cells #[.int .i64 (l.getD j default).box, .int .i64 (l.getD j default).slot.col, .int .i64 (l.getD j default).slot.tier, .int .u8 ((l.getD j default).slot.half : Nat)] 42)))
          have HK1 : Hid (KpF n₀ W _) := Lib.hid (HK.out.trans (KpF.below (ba1 V (.cells #[.int .i64 (l.getD j default).box, .int .i64 (l.getD j default).slot.col, .int .i64 (l.getD j default).slot.tier, .int .u8 ((l.getD j default).slot.half : Nat)] 42)) (by have := HK.out.1.size; omega)))
          have hx := Bk.new V 42 #[.int .i64 (l.getD j default).box, .int .i64 (l.getD j default).slot.col, .int .i64 (l.getD j default).slot.tier, .int .u8 ((l.getD j default).slot.half : Nat)]
          have HP := Lib.hid (HPD.out (l.getD j default))
          have hxt := hti _ (getD_memD hlt default)
          have a1 : j + 1 ≤ l.length := hlt
          have i0 : (0 : Int) ≤ (j : Int) := by omega
          have i1 : (j : Int) < (l.length : Int) := by omega
          clear HG hJj
          generalize topsOf p k (l.take j) = T at *
          generalize p (l.getD j default) = tb at *
          generalize l.getD j default = x at *
          obtain ⟨xb, xc, xt, xh⟩ := x
          simp only at d0 d1 d2 d3 HTS HP HK1 HJ1 hx hxt
          gi_upto_region 8 with fail
          clear d0 d1 d2 d3
          generalize V.heap.size = gx at *
          generalize (V.alloc _) = V1 at *
          have HC := HF.out.keep HK1.out
          have x0 : V1.cell? ⟨gx, 0, none⟩ = some (.int .i64 xb) := hx.cell 0
          have x1 : V1.cell? ⟨gx, 1, none⟩ = some (.int .i64 xc) := hx.cell 1
          have x2 : V1.cell? ⟨gx, 2, none⟩ = some (.int .i64 xt) := hx.cell 2
          have x3 : V1.cell? ⟨gx, 3, none⟩ = some (.int .u8 (xh : Nat)) := hx.cell 3
          have ei : V1.cell? ⟨gi, 0, none⟩ = some (.int .i64 k) := HC.bi.cell 0
          have ec : V1.cell? ⟨gc, 2, none⟩ = some (.bool deck) := HDK.out V1 HC
          have HCH := Lib.hid HC
          have HX := Lib.hid hx
          clear HC hx HK
          cases e1 : (xc == (k : Int)) with
          | false =>
            have e1' : (xc != (k : Int)) = true := by simpa using e1
            have HNO : Hid (J (K3 ++ topsOf p k (l.take (j + 1))) V1) := Lib.hid (by rw [HTS.out, HP.out, e1]; simpa using HJ1.out)
            gi_wp2
            go_roundw
            case rel => (repeat apply Exists.intro); (first | exact ⟨⟨j + 1, a1, by go_num, HNO.out, HK1⟩, rfl⟩ | exact ⟨j + 1, a1, by go_num, HNO.out, HK1⟩ | exact ⟨a1, by go_num, HNO.out, HK1⟩)
            case measure => simp [intOf]; omega
          | true =>
            have e1' : (xc != (k : Int)) = false := by simpa using e1
            cases deck with
            | false =>
              have HNO : Hid (J (K3 ++ topsOf p k (l.take (j + 1))) V1) := Lib.hid (by rw [HTS.out, HP.out]; simpa using HJ1.out)
              gi_wp2
              go_roundw
              case rel => (repeat apply Exists.intro); (first | exact ⟨⟨j + 1, a1, by go_num, HNO.out, HK1⟩, rfl⟩ | exact ⟨j + 1, a1, by go_num, HNO.out, HK1⟩ | exact ⟨a1, by go_num, HNO.out, HK1⟩)
              case measure => simp [intOf]; omega
            | true =>
              by_cases e3 : xt < 1
              · have HNO : Hid (J (K3 ++ topsOf p k (l.take (j + 1))) V1) := Lib.hid (by rw [HTS.out, HP.out, decide_eq_false (show ¬ 1 ≤ xt by omega)]; simpa using HJ1.out)
                gi_wp2
                go_roundw
                case rel => (repeat apply Exists.intro); (first | exact ⟨⟨j + 1, a1, by go_num, HNO.out, HK1⟩, rfl⟩ | exact ⟨j + 1, a1, by go_num, HNO.out, HK1⟩ | exact ⟨a1, by go_num, HNO.out, HK1⟩)
                case measure => simp [intOf]; omega
              · have hP2 : Hid (tb = decide (sumF boxes l (belowB ⟨xc, xt, xh⟩) + s.m0 < (findBx boxes xb).1.kilos)) := Lib.hid (by rw [HP.out, e1, decide_eq_true (show 1 ≤ xt by omega)]; simp)
                have KF := Lib.hid (stowFind_any A c boxes xb V1 (HCH.out.sb.up (Nat.le_trans hW HK1.out.1.size)) hbl)
                have KB : Hid (∀ V : World, Below V1.heap.size V1 V → Calls Try.prog 21 #[.slice A boxes.length c, .slice (some ⟨b, off, none⟩) l.length c2, .agg (sltL ⟨xc, xt, xh⟩).toArray] V (Ret V (.int .i64 (sumF boxes l (belowB ⟨xc, xt, xh⟩))))) := Lib.hid fun V hV =>
                  stackBelow_any A c boxes (some ⟨b, off, none⟩) c2 l ⟨xc, xt, xh⟩ V hkg (HCH.out.sb.below (hV.mono (Nat.le_trans hW HK1.out.1.size)) |>.up (Nat.le_trans (Nat.le_trans hW HK1.out.1.size) hV.size)) hbl (HCH.out.sl.below (hV.mono (Nat.le_trans hW HK1.out.1.size)) |>.up (Nat.le_trans (Nat.le_trans hW HK1.out.1.size) hV.size)) hl ⟨by simp only; omega, hxt⟩
                have hkb := find_kg hkg xb
                have hbb : -1000000000000000000 ≤ sumF boxes l (belowB ⟨xc, xt, xh⟩) ∧ sumF boxes l (belowB ⟨xc, xt, xh⟩) ≤ 1000000000000000000 := by
                  have := sum_bd2 (kgOf boxes (belowB ⟨xc, xt, xh⟩)) 1000000000000 l (fun x _ => kg_bd hkg _ x)
                  unfold sumF
                  omega
                clear HP
                unfold sltL at KB
                simp only at KB
                generalize findBx boxes xb = fb at *
                obtain ⟨⟨b0', b1', b2', b3', b4', b5', b6', b7', b8'⟩, ok⟩ := fb
                unfold bxL at KF
                simp only at KF hP2 hkb
                generalize sumF boxes l (belowB ⟨xc, xt, xh⟩) = bel at *
                obtain ⟨hkb0, hkb1⟩ := hkb
                obtain ⟨hbb0, hbb1⟩ := hbb
                have eb : V1.cell? ⟨gb, 0, none⟩ = some (.slice A boxes.length c) := HCH.out.bb.cell 0
                gi_upto_region 9 with fail
                gi_wp2
                refine ⟨trivial, fun _ => by omega, ?_⟩
                refine (callsIn_wide.2 KF.out).mono ?_
                rintro e w1 ⟨rfl, hb1⟩
                simp only
                have hb2 := hb1.alloc hb1.size (.cells #[.int .i64 b0', .string b1', .int .u8 (b2' : Nat), .bool b3', .int .i64 b4', .int .i64 b5', .int .i64 b6', .int .u8 (b7' : Nat), .bool b8'] 37)
                have hy := Bk.new w1 37 #[.int .i64 b0', .string b1', .int .u8 (b2' : Nat), .bool b3', .int .i64 b4', .int .i64 b5', .int .i64 b6', .int .u8 (b7' : Nat), .bool b8']
                gi_upto_region 10 with fail
                generalize w1.heap.size = gy at *
                generalize (w1.alloc _) = V2 at *
                clear KF x0 x1 x2 x3 ei ec eb hb1
                clear w1
                have HB2 := Lib.hid hb2
                have HC2 := HCH.out.keep (KpF.below hb2 (Nat.le_trans hW HK1.out.1.size))
                have HK2 := Lib.hid (HK1.out.trans (KpF.below hb2 (Nat.le_trans hW HK1.out.1.size)))
                have HX2 := HX.out.below hb2 HX.out.lt
                have r0 : ∀ p : Gr V2, p.W.cell? ⟨gx, 0, none⟩ = some (.int .i64 xb) := Gr.cell (HX2.cell 0)
                have r1 : ∀ p : Gr V2, p.W.cell? ⟨gx, 1, none⟩ = some (.int .i64 xc) := Gr.cell (HX2.cell 1)
                have r2 : ∀ p : Gr V2, p.W.cell? ⟨gx, 2, none⟩ = some (.int .i64 xt) := Gr.cell (HX2.cell 2)
                have r3 : ∀ p : Gr V2, p.W.cell? ⟨gx, 3, none⟩ = some (.int .u8 (xh : Nat)) := Gr.cell (HX2.cell 3)
                have y4 : ∀ p : Gr V2, p.W.cell? ⟨gy, 4, none⟩ = some (.int .i64 b4') := Gr.cell (hy.cell 4)
                have ei : ∀ p : Gr V2, p.W.cell? ⟨gi, 0, none⟩ = some (.int .i64 k) := Gr.cell (HC2.bi.cell 0)
                have eb : ∀ p : Gr V2, p.W.cell? ⟨gb, 0, none⟩ = some (.slice A boxes.length c) := Gr.cell (HC2.bb.cell 0)
                have el : ∀ p : Gr V2, p.W.cell? ⟨gl, 0, none⟩ = some (.slice (some ⟨b, off, none⟩) l.length c2) := Gr.cell (HC2.bl.cell 0)
                have et : ∀ p : Gr V2, p.W.cell? ⟨gs, 9, none⟩ = some (.int .i64 s.m0) := Gr.cell (HC2.bs.cell 9)
                have hw1 : IntKind.i64.wrap (bel + s.m0) = bel + s.m0 := IntWalk.i64_in _ (by omega)
                have HJ2 := Lib.hid (AbidesFrom.below hJ (W := V1) (W' := V2) HJ1.out hb2)
                have KB2 : Hid (∀ V : World, Below V2.heap.size V2 V → Calls Try.prog 21 #[.slice A boxes.length c, .slice (some ⟨b, off, none⟩) l.length c2, .agg #[.int .i64 xc, .int .i64 xt, .int .u8 (xh : Nat)]] V (Ret V (.int .i64 bel))) := Lib.hid fun V hV => KB.out V (HB2.out.trans (hV.mono HB2.out.size))
                have HXX := Lib.hid HX2
                have HYY := Lib.hid hy
                have HCC := Lib.hid HC2
                clear hy HX2 HC2 hb2 KB
                by_cases p1 : bel + s.m0 < b4'
                · have p2 : decide (bel + s.m0 < b4') = true := decide_eq_true p1
                  have HNO : Hid (topsOf p k (l.take (j + 1)) = T ++ [⟨k, 4, xb⟩]) := Lib.hid (by rw [HTS.out, hP2.out, p2]; rfl)
                  clear r0 r1 r2 r3 y4 ei eb el et
                  refine wpIn_region_at (by kernel_rfl) ?_
                  have b3 := drew_below V2 1
                  generalize V2.drewN 1 = V3 at *
                  have HX3 := HXX.out.below b3 HXX.out.lt
                  have HY3 := HYY.out.below b3 HYY.out.lt
                  have HC3 := HCC.out.keep (KpF.below b3 (Nat.le_trans hW HK2.out.1.size))
                  have r0 : ∀ p : Gr V3, p.W.cell? ⟨gx, 0, none⟩ = some (.int .i64 xb) := Gr.cell (HX3.cell 0)
                  have r1 : ∀ p : Gr V3, p.W.cell? ⟨gx, 1, none⟩ = some (.int .i64 xc) := Gr.cell (HX3.cell 1)
                  have r2 : ∀ p : Gr V3, p.W.cell? ⟨gx, 2, none⟩ = some (.int .i64 xt) := Gr.cell (HX3.cell 2)
                  have r3 : ∀ p : Gr V3, p.W.cell? ⟨gx, 3, none⟩ = some (.int .u8 (xh : Nat)) := Gr.cell (HX3.cell 3)
                  have y4 : ∀ p : Gr V3, p.W.cell? ⟨gy, 4, none⟩ = some (.int .i64 b4') := Gr.cell (HY3.cell 4)
                  have ei : ∀ p : Gr V3, p.W.cell? ⟨gi, 0, none⟩ = some (.int .i64 k) := Gr.cell (HC3.bi.cell 0)
                  have eb : ∀ p : Gr V3, p.W.cell? ⟨gb, 0, none⟩ = some (.slice A boxes.length c) := Gr.cell (HC3.bb.cell 0)
                  have el : ∀ p : Gr V3, p.W.cell? ⟨gl, 0, none⟩ = some (.slice (some ⟨b, off, none⟩) l.length c2) := Gr.cell (HC3.bl.cell 0)
                  have et : ∀ p : Gr V3, p.W.cell? ⟨gs, 9, none⟩ = some (.int .i64 s.m0) := Gr.cell (HC3.bs.cell 9)
                  have HB3 := Lib.hid b3
                  have HJ3 := Lib.hid (AbidesFrom.below hJ HJ2.out b3)
                  have HK3 := Lib.hid (HK2.out.trans (KpF.below b3 (Nat.le_trans hW HK2.out.1.size)))
                  have KB3 : Hid (∀ V : World, Below V3.heap.size V3 V → Calls Try.prog 21 #[.slice A boxes.length c, .slice (some ⟨b, off, none⟩) l.length c2, .agg #[.int .i64 xc, .int .i64 xt, .int .u8 (xh : Nat)]] V (Ret V (.int .i64 bel))) := Lib.hid fun V hV => KB2.out V (HB3.out.trans (hV.mono HB3.out.size))
                  clear HX3 HY3 HC3 b3 KB2
                  refine AnyIn.gr 18 rfl (by kernel_rfl) ?_
                  simp only [List.drop_succ_cons, List.drop_zero, Nat.reduceSub, List.take_succ_cons, List.take_zero]
                  repeat (gi_big_quiet_step (fail))
                  refine wpQuietIn_step (fun _ _ _ _ => trivial) (fun K hK => ?_)
                  rw [if_pos (by rfl)]
                  gi_big_quiet_op
                  apply Exists.intro
                  refine ⟨fun p => ?_, ?_⟩
                  · exact ⟨fun _ => by omega, Gr.callIn _ (fun V hV => KB3.out V hV)⟩
                  refine hK _ ?_
                  clear hK K
                  repeat (gi_big_quiet_step (fail))
                  refine wpQuietIn_nil ?_
                  rintro Y ⟨⟨_, hbY⟩, rfl⟩
                  have HJY := AbidesFrom.below hJ HJ3.out hbY
                  have HKY := Lib.hid (HK3.out.trans (KpF.below hbY (Nat.le_trans hW HK3.out.1.size)))
                  obtain ⟨fn, tmps, assign, body, hy, hR⟩ := hY (K3 ++ T) ⟨k, 4, xb⟩ _ HJY HPRE.out
                  unfold fltL at hy
                  simp only [Int.cast_ofNat_Int] at hy
                  clear HJY r0 r1 r2 r3 y4 ei eb el et
                  refine AnyIn.one (by kernel_rfl) rfl (fun K hK => ?_)
                  rw [if_pos (by rfl)]
                  gi_big_op
                  refine ⟨fun _ => by omega, ?_⟩
                  refine hR.mono ?_
                  rintro e V4 (⟨rfl, hJ4, hk4⟩ | ⟨rfl, hJx⟩)
                  · have hn4 := Nat.le_trans hW (HKY.out.trans hk4).1.size
                    have HNN := Lib.hid (show J (K3 ++ topsOf p k (l.take (j + 1))) V4 by rw [HNO.out, ← List.append_assoc]; exact hJ4)
                    have HK4 := Lib.hid (HKY.out.trans hk4)
                    clear hJ4 hk4
                    refine hK _ _ ?_
                    clear hK K
                    refine AnyIn.one (by kernel_rfl) rfl (fun K hK => ?_)
                    rw [if_pos (by rfl)]
                    try simp only [Act.put, List.setIfInBounds_toArray, List.set_cons_zero, List.set_cons_succ]
                    gi_big_op
                    refine hK _ _ ?_
                    clear hK K
                    refine AnyIn.one (by kernel_rfl) rfl (fun K hK => ?_)
                    rw [if_pos (by rfl)]
                    try simp only [Act.put, List.setIfInBounds_toArray, List.set_cons_zero, List.set_cons_succ]
                    gi_big_op
                    refine hK _ _ ?_
                    clear hK K
                    refine AnyIn.done rfl ?_
                    try simp only [Act.put, List.setIfInBounds_toArray, List.set_cons_zero, List.set_cons_succ]
                    clear HNO
                    have HNO := HNN
                    have HKN := HK4
                    gi_wp2
                    go_roundw
                    case rel => (first | exact ⟨_, _, _, _, ⟨j + 1, a1, by go_num, HNO.out⟩, rfl, rfl, rfl, rfl⟩ | ((repeat apply Exists.intro); exact ⟨⟨j + 1, a1, by go_num, HNO.out, HKN⟩, rfl⟩) | ((repeat apply Exists.intro); exact ⟨⟨j + 1, a1, by go_num, HNO.out⟩, rfl⟩))
                    case measure => simp [intOf]; omega
                  · have HJX := Lib.hid hJx
                    clear hJx
                    refine hK _ _ ?_
                    clear hK K
                    refine AnyIn.one (by kernel_rfl) rfl (fun K hK => ?_)
                    rw [if_pos (by rfl)]
                    try simp only [Act.put, List.setIfInBounds_toArray, List.set_cons_zero, List.set_cons_succ]
                    gi_big_op
                    refine hK _ _ ?_
                    clear hK K
                    refine AnyIn.one (by kernel_rfl) rfl (fun K hK => ?_)
                    rw [if_pos (by rfl)]
                    try simp only [Act.put, List.setIfInBounds_toArray, List.set_cons_zero, List.set_cons_succ]
                    gi_big_op
                    refine hK _ _ ?_
                    clear hK K
                    refine AnyIn.done rfl ?_
                    try simp only [Act.put, List.setIfInBounds_toArray, List.set_cons_zero, List.set_cons_succ]
                    gi_wp2
                    refine bodyPost_ret (results_none rfl _ _ _) rfl ?_
                    exact ⟨⟨_, rfl⟩, .inr ⟨_, trivial, HJX.out⟩⟩
                · have p2 : decide (bel + s.m0 < b4') = false := decide_eq_false p1
                  have HNO : Hid (∀ V, Below V2.heap.size V2 V → J (K3 ++ topsOf p k (l.take (j + 1))) V) := Lib.hid fun V hV => by
                    rw [HTS.out, hP2.out, p2]; simpa using AbidesFrom.below hJ HJ2.out hV
                  refine wpIn_region_gr rfl (by kernel_rfl) (by kernel_rfl) ?_
                  repeat (gi_big_quiet_step ((first | (with_reducible exact Gr.callIn _ (fun V hV => KB2.out V hV)))))
                  refine wpQuietIn_step (fun _ _ _ _ => trivial) (fun K hK => ?_)
                  rw [if_pos (by rfl)]
                  gi_big_quiet_op
                  apply Exists.intro
                  refine ⟨fun p => ?_, ?_⟩
                  · exact ⟨fun _ => by omega, Gr.callIn _ (fun V hV => KB2.out V hV)⟩
                  refine hK _ ?_
                  clear hK K
                  repeat (gi_big_quiet_step (fail))
                  refine wpQuietIn_step (fun _ _ _ _ => trivial) (fun K hK => ?_)
                  refine ite_no (by exact Bool.false_ne_true) ?_
                  refine hK _ ?_
                  clear hK K
                  try simp only [Act.put, List.setIfInBounds_toArray, List.set_cons_zero, List.set_cons_succ]
                  repeat (gi_big_quiet_step (fail))
                  refine wpQuietIn_nil ?_
                  rintro Y ⟨⟨_, hbY⟩, rfl⟩
                  replace HNO := Lib.hid (HNO.out _ hbY)
                  have HKN := Lib.hid (HK2.out.trans (KpF.below hbY (Nat.le_trans hW HK2.out.1.size)))
                  gi_wp2
                  go_roundw
                  case rel => (first | exact ⟨_, _, _, _, ⟨j + 1, a1, by go_num, HNO.out⟩, rfl, rfl, rfl, rfl⟩ | ((repeat apply Exists.intro); exact ⟨⟨j + 1, a1, by go_num, HNO.out, HKN⟩, rfl⟩) | ((repeat apply Exists.intro); exact ⟨⟨j + 1, a1, by go_num, HNO.out⟩, rfl⟩))
                  case measure => simp [intOf]; omega
        · obtain rfl : j = l.length := by omega
          rw [List.take_length] at hJj
          gi_wp2
          go_end0
          exact ⟨⟨_, rfl⟩, .inl ⟨_, HFD2.out.symm, hJj⟩⟩
end Go.Proofs.Ytmkplemdnglhmaa
