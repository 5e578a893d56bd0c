/-
  The walk of segregate.pairs: the iterator over the pairs of goods, in the wide fence.
-/
import Derived.Sort.CutIn
import Derived.Test.YtmhikcleekfbpaaDoorSgE
import Derived.Test.YtmhikcleekfbpaaDoorSgQ
namespace Go.Proofs.YtmhikcleekfbpaaDoor
open Go.RowKit Go.Shelf

/-- What a round over pairs keeps: what lay below n₀, and all blocks but those of clashes and of lists of clashes. -/
def KpP (n₀ : Nat) (W W' : World) : Prop := Below n₀ W W' ∧ ∀ g t cs, t ≠ 58 → t ≠ 50 → Bk W g t cs → Bk W' g t cs
theorem KpP.trans {n₀ : Nat} {A B C : World} (h : KpP n₀ A B) (k : KpP n₀ B C) : KpP n₀ A C := ⟨h.1.trans k.1, fun g t cs h1 h2 hg => k.2 g t cs h1 h2 (h.2 g t cs h1 h2 hg)⟩
theorem KpP.put {n₀ : Nat} {w : World} (hn : n₀ ≤ w.heap.size) (W : World) (l : Nat) (o o' : Obj) (hl : w.heap.size ≤ l) (h : W.heap[l]? = some o) (hc : o.isCells = false) (hw : o.isWalk = false) : KpP n₀ W (W.putObj l o') :=
  ⟨belowK_b hn W l o o' hl h hc hw, fun g t cs _ _ hg => hg.grown (grownBy_putObj' W l o') (by
    intro e; cases e
    unfold Bk at hg
    rw [h] at hg; cases hg; cases hc)⟩
theorem KpP.below {n₀ : Nat} {W W' : World} (h : Below W.heap.size W W') (hn : n₀ ≤ W.heap.size) : KpP n₀ W W' := ⟨h.mono hn, fun _ _ _ _ _ hg => hg.below h hg.lt⟩
/-- What pairs$1 reads all along. -/
structure PC (W : World) (n₀ : Nat) (A : Option Addr) (c : Nat) (l : List Gd) (gl : Nat) : Prop where
  bl : Bk W gl 78 #[.slice A l.length c]
  sl : SlT tGd W (Lt n₀) A l
theorem PC.keep {W W' : World} {n₀ : Nat} {A : Option Addr} {c : Nat} {l : List Gd} {gl : Nat} (f : PC W n₀ A c l gl) (hk : KpP n₀ W W') : PC W' n₀ A c l gl := ⟨hk.2 _ _ _ (by decide) (by decide) f.bl, f.sl.below hk.1⟩
def gdA (g : Gd) : Array Value := (gdL g).toArray
theorem pre_lt {l : List Gd} {i k : Nat} (hi : i < l.length) (hk : k < l.length - (i + 1)) : (pairsTo default l i ++ (rowG default l i).take k).length < l.length * l.length := by
  have h1 := pairsTo_len (default : Gd) l i
  have h2 : ((rowG (default : Gd) l i).take k).length ≤ k := List.length_take_le _ _
  have h3 : (i + 1) * l.length ≤ l.length * l.length := Nat.mul_le_mul_right _ hi
  rw [Nat.succ_mul] at h3
  rw [List.length_append]
  omega

attribute [local go_sem] Oper.semAt_some

set_option maxRecDepth 100000 in
set_option maxHeartbeats 8000000 in
theorem pairs1_in (m : Nat) (hn : 3 ≤ m) (lb n₀ : Nat) (A : Option Addr) (c : Nat) (l : List Gd) (gl : Nat) (J Jx : List (Gd × Gd) → World → Prop) (W : World) (hJ : AbidesFrom W.heap.size J)
    (hY : ∀ pre x W1, J pre W1 → pre.length < l.length * l.length → YieldAt Fence.wide (m - 1) Tryd.prog lb #[.agg (gdA x.1), .agg (gdA x.2)] W1 fun e W' =>
      (e = .returned (.bool true) ∧ J (pre ++ [x]) W' ∧ KpP n₀ W1 W') ∨ (e = .returned (.bool false) ∧ Jx (pre ++ [x]) W'))
    (hf : PC W n₀ A c l gl) (hW : n₀ ≤ W.heap.size) (hlc : l.length ≤ c) (hcm : c ≤ maxLen) (hl : l.length ≤ 1000) (h0 : J [] W) :
    CallsIn Fence.wide m Tryd.prog 44 #[.func (.yield lb) #[] #[], .pointer (some ⟨gl, 0, none⟩)] W fun e W' => (∃ v, e = .returned v) ∧
      ((∃ xs, xs = pairsG l ∧ J xs W') ∨ (∃ pre, True ∧ Jx pre W')) := by
  refine callsIn_of_wp Tryd.func44 rfl trivial ?_ rfl
  simp only [Tryd.ntmps44, List.size_toArray, List.length_cons, List.length_nil, Nat.reduceAdd, Nat.reduceSub, Array.replicate_succ, Array.replicate_zero, List.push_toArray, List.append_toArray, List.nil_append, List.cons_append]
  have HF := Lib.hid hf
  have el : W.cell? ⟨gl, 0, none⟩ = some (.slice A l.length c) := hf.bl.cell 0
  clear hf
  unfold maxLen at hcm
  gi_wp2
  clear el
  gi_loopw [9] (fun i wr => ∃ j : Nat, j ≤ l.length ∧ i = .int .i64 j ∧ J (pairsTo default l j) wr ∧ Hid (KpP n₀ W wr)) (fun i _ => l.length - (intOf i).toNat)
  case atStart => exact ⟨0, Nat.zero_le _, rfl, by simpa [pairsTo] using h0, Lib.hid ⟨Below.refl _ _, fun _ _ _ _ _ h => h⟩⟩
  case round =>
    obtain ⟨j, hj, rfl, hJj, HK⟩ := hrel
    obtain ⟨V, rfl⟩ : ∃ V, V = wr := ⟨_, rfl⟩
    by_cases hlt : j < l.length
    · have HG := HF.out.keep HK.out
      obtain ⟨b, off, hAe, hbB, d0, d1, d2, d3, d4⟩ := HG.sl.gd hlt
      subst hAe
      have HPS := Lib.hid (pairsTo_succ (default : Gd) l j)
      have HPL := Lib.hid (fun k hk => pre_lt (k := k) hlt hk)
      have HRL := Lib.hid (rowG_len (default : Gd) l j)
      have HRT := Lib.hid (fun k hk => rowG_take (default : Gd) l j (k := k) hk)
      have i0 : (0 : Int) ≤ (j : Int) := by omega
      have i1 : (j : Int) < (l.length : Int) := by omega
      clear HG
      have hq := ba1 V (.cells (gdA (l.getD j default)) 85)
      have HJ1 := Lib.hid (AbidesFrom.below hJ hJj hq)
      have HK1 : Hid (KpP n₀ W _) := Lib.hid (HK.out.trans (KpP.below hq (by have := HK.out.1.size; omega)))
      have HX := Lib.hid (Bk.new V 85 (gdA (l.getD j default)))
      clear hJj hq
      generalize l.getD j default = x at *
      obtain ⟨⟨x0, ⟨x1, x2, x3⟩⟩, x4⟩ := x
      simp only at d0 d1 d2 d3 d4
      unfold gdA gdL at HX HJ1 HK1
      simp only at HX HJ1 HK1
      gi_upto_region 3 with fail
      clear d0 d1 d2 d3 d4 HK
      generalize V.heap.size = ga at *
      generalize (V.alloc _) = V1 at *
      try clear V
      have el : V1.cell? ⟨gl, 0, none⟩ = some (.slice (some ⟨b, off, none⟩) l.length c) := (HF.out.keep HK1.out).bl.cell 0
      obtain ⟨AA, hAA⟩ : ∃ AA, (if c = j + 1 then (some ⟨b, off, none⟩ : Option Addr) else some ⟨b, off + (j + 1) * 5, none⟩) = AA := ⟨_, rfl⟩
      have HSB : Hid (∀ U : World, KpP n₀ W U → SlT tGd U (Lt n₀) AA (l.drop (j + 1))) := Lib.hid fun U hU => by
        have h1 := (HF.out.keep hU).sl.cut (c := c) (j := j + 1) hlt hlc
        have e : (if c = j + 1 then (some ⟨b, off, none⟩ : Option Addr) else Option.map (fun x : Addr => x.add ((j + 1) * tGd.k)) (some ⟨b, off, none⟩)) = AA := by
          rw [← hAA]
          split
          · rfl
          · simp [add_mk, tGd]
        rw [e] at h1
        exact h1
      have HDL : Hid ((l.drop (j + 1)).length = l.length - (j + 1)) := Lib.hid (by simp)
      have HDG : Hid (∀ k, (l.drop (j + 1)).getD k default = l.getD (j + 1 + k) default) := Lib.hid fun k => by simp [List.getD_eq_getElem?_getD]
      have hjc : j + 1 ≤ c := Nat.le_trans hlt hlc
      have i2 : (0 : Int) ≤ (j : Int) + 1 := by omega
      have i3 : (j : Int) + 1 ≤ (l.length : Int) := by omega
      gi_wp2
      clear el
      generalize hD : l.drop (j + 1) = D at *
      clear hAA
      generalize hnD : l.length - (j + 1) = n at *
      have HND : Hid (D.length = n) := HDL
      have HNJ : Hid (j + 1 + n = l.length) := Lib.hid (by omega)
      have hn1000 : n ≤ 1000 := by omega
      clear hnD HDL
      gi_loopw [19] (fun i wr => ∃ k : Nat, k ≤ n ∧ i = .int .i64 k ∧ J (pairsTo default l j ++ (rowG default l j).take k) wr ∧ Hid (KpP n₀ W wr) ∧ Hid (Bk wr ga 85 #[.int .i64 x0, .int .i64 x1, .int .i64 x2, .int .u8 (x3 : Nat), .int .u8 (x4 : Nat)])) (fun i _ => n - (intOf i).toNat)
      case atStart => exact ⟨0, Nat.zero_le _, rfl, by simpa using HJ1.out, HK1, HX⟩
      case round =>
        clear HJ1 HK1 HX
        try clear V1
        obtain ⟨k, hk, rfl, hJk, HK, HX⟩ := hrel
        obtain ⟨V, rfl⟩ : ∃ V, V = wr := ⟨_, rfl⟩
        by_cases hkn : k < n
        · obtain ⟨b2, off2, hA2, hb2, d0, d1, d2, d3, d4⟩ := (HSB.out V HK.out).gd (j := k) (by have := HND.out; omega)
          subst hA2
          have HRK := Lib.hid (HRT.out k (by have := HNJ.out; omega))
          rw [← HDG.out k] at HRK
          have HPK := Lib.hid (HPL.out k hkn)
          have k0 : (0 : Int) ≤ (k : Int) := by omega
          have k1 : (k : Int) < (n : Int) := by omega
          have hq := ba1 V (.cells (gdA (D.getD k default)) 85)
          have HJ1 := Lib.hid (AbidesFrom.below hJ hJk hq)
          have HK1 : Hid (KpP n₀ W _) := Lib.hid (HK.out.trans (KpP.below hq (by have := HK.out.1.size; omega)))
          have HY := Lib.hid (Bk.new V 85 (gdA (D.getD k default)))
          have HX1 := Lib.hid (HX.out.below hq HX.out.lt)
          clear hJk hq HK HX
          generalize D.getD k default = y at *
          obtain ⟨⟨y0, ⟨y1, y2, y3⟩⟩, y4⟩ := y
          simp only at d0 d1 d2 d3 d4
          unfold gdA gdL at HY HJ1 HK1 HX1
          simp only at HY HJ1 HK1 HX1
          gi_upto_region 6 with fail
          clear d0 d1 d2 d3 d4
          generalize V.heap.size = gb at *
          generalize (V.alloc _) = U at *
          try clear V
          obtain ⟨fn, tmps, assign, body, hy, hR⟩ := hY (pairsTo default l j ++ (rowG default l j).take k) (⟨⟨x0, ⟨x1, x2, x3⟩⟩, x4⟩, ⟨⟨y0, ⟨y1, y2, y3⟩⟩, y4⟩) U HJ1.out HPK.out
          unfold gdA gdL at hy
          simp only at hy
          have cx0 : U.cell? ⟨ga, 0, none⟩ = some (.int .i64 x0) := HX1.out.cell 0
          have cx1 : U.cell? ⟨ga, 1, none⟩ = some (.int .i64 x1) := HX1.out.cell 1
          have cx2 : U.cell? ⟨ga, 2, none⟩ = some (.int .i64 x2) := HX1.out.cell 2
          have cx3 : U.cell? ⟨ga, 3, none⟩ = some (.int .u8 (x3 : Nat)) := HX1.out.cell 3
          have cx4 : U.cell? ⟨ga, 4, none⟩ = some (.int .u8 (x4 : Nat)) := HX1.out.cell 4
          have cy0 : U.cell? ⟨gb, 0, none⟩ = some (.int .i64 y0) := HY.out.cell 0
          have cy1 : U.cell? ⟨gb, 1, none⟩ = some (.int .i64 y1) := HY.out.cell 1
          have cy2 : U.cell? ⟨gb, 2, none⟩ = some (.int .i64 y2) := HY.out.cell 2
          have cy3 : U.cell? ⟨gb, 3, none⟩ = some (.int .u8 (y3 : Nat)) := HY.out.cell 3
          have cy4 : U.cell? ⟨gb, 4, none⟩ = some (.int .u8 (y4 : Nat)) := HY.out.cell 4
          gi_wp2
          refine ⟨fun _ => by omega, ?_⟩
          refine hR.mono ?_
          rintro e V2 (⟨rfl, hJ2, hk2⟩ | ⟨rfl, hJx⟩)
          · have HX2 := Lib.hid (hk2.2 _ _ _ (by decide) (by decide) HX1.out)
            have HK2 := Lib.hid (HK1.out.trans hk2)
            have HJ3 : Hid (J (pairsTo default l j ++ (rowG default l j).take (k + 1)) V2) := Lib.hid (by rw [HRK.out, ← List.append_assoc]; exact hJ2)
            gi_wp2
            go_roundw
            case rel => (first | exact ⟨k + 1, by omega, by go_num, HJ3.out, HK2, HX2⟩ | ((repeat apply Exists.intro); (first | exact ⟨⟨k + 1, by omega, by go_num, HJ3.out, HK2, HX2⟩, rfl⟩ | exact ⟨(show k + 1 ≤ n from hkn), by go_num, HJ3.out, HK2, HX2⟩)))
            case measure => simp [intOf]; omega
          · gi_wp2
            refine bodyPost_ret (results_none rfl _ _ _) rfl ?_
            exact ⟨⟨_, rfl⟩, .inr ⟨_, trivial, hJx⟩⟩
        · obtain rfl : k = n := by omega
          have HTK : Hid ((rowG default l j).take k = rowG default l j) := Lib.hid (List.take_of_length_le (by rw [HRL.out]; have := HNJ.out; omega))
          rw [HTK.out, ← HPS.out] at hJk
          gi_wp2
          go_roundw
          case rel => (first | exact ⟨j + 1, by omega, by go_num, hJk, HK⟩ | ((repeat apply Exists.intro); (first | exact ⟨⟨j + 1, by omega, by go_num, hJk, HK⟩, rfl⟩ | exact ⟨hlt, by go_num, hJk, HK⟩)))
          case measure => simp [intOf]; omega
    · obtain rfl : j = l.length := by omega
      gi_wp2
      go_end0
      exact ⟨⟨_, rfl⟩, .inl ⟨_, pairsTo_all _ _, hJj⟩⟩
end Go.Proofs.YtmhikcleekfbpaaDoor
