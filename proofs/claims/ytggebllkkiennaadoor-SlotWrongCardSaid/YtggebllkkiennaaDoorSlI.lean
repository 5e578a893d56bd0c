/-
  The iterator of package slot: slots, walked in the wide fence.
-/
import Derived.RangeFuncNested
import Derived.RangeFuncBound
import Derived.RangeFuncCalls
import Derived.RangeFuncLeaves
import Derived.RangeFuncBox
import Derived.Shelf.Abstract
import Derived.Shelf.RegionOpen
import Derived.OwnWalkIn
import Derived.TacticsInMore
import Derived.LoopNIn
import Derived.LoopIn
import Derived.Test.YtggebllkkiennaaDoorSlE
namespace Go.Proofs.YtggebllkkiennaaDoor
open Go.RowKit Go.Shelf

def tierSlots (c t size : Nat) : List Slt := (halvesL size).map fun h => ⟨c, t, h⟩
def colSlots (c size T : Nat) : List Slt := (List.range T).flatMap fun t => tierSlots c t size
def tiersN (s : Shp) (c : Nat) : Nat := (s.cols.getD c default).tiers.toNat
def colsTo (s : Shp) (size n : Nat) : List Slt := (List.range n).flatMap fun c => colSlots c size (tiersN s c)
/-- All slots of a ship for boxes of a size. -/
def allF (s : Shp) (size : Nat) : List Slt := colsTo s size s.cols.length
theorem colSlots_succ (c size T : Nat) : colSlots c size (T + 1) = colSlots c size T ++ tierSlots c T size := by simp [colSlots, List.range_succ]
theorem colsTo_succ (s : Shp) (size n : Nat) : colsTo s size (n + 1) = colsTo s size n ++ colSlots n size (tiersN s n) := by simp [colsTo, List.range_succ]
theorem colSlots_mono (c size : Nat) {T U : Nat} (h : T ≤ U) : (colSlots c size T).length ≤ (colSlots c size U).length := by
  induction U with
  | zero => obtain rfl : T = 0 := by omega
            exact Nat.le_refl _
  | succ U ih =>
    by_cases e : T = U + 1
    · rw [e]; exact Nat.le_refl _
    · have := ih (by omega)
      rw [colSlots_succ, List.length_append]; omega
theorem colsTo_mono (s : Shp) (size : Nat) {n m : Nat} (h : n ≤ m) : (colsTo s size n).length ≤ (colsTo s size m).length := by
  induction m with
  | zero => obtain rfl : n = 0 := by omega
            exact Nat.le_refl _
  | succ m ih =>
    by_cases e : n = m + 1
    · rw [e]; exact Nat.le_refl _
    · have := ih (by omega)
      rw [colsTo_succ, List.length_append]; omega
theorem slots_bound (s : Shp) (size : Nat) {c t j : Nat} (hc : c < s.cols.length) (ht : t < tiersN s c) (hj : j < (halvesL size).length) : (colsTo s size c ++ colSlots c size t ++ (tierSlots c t size).take j).length < (allF s size).length := by
  have h1 := colsTo_mono s size (n := c + 1) (m := s.cols.length) hc
  have h2 := colSlots_mono c size (T := t + 1) (U := tiersN s c) ht
  rw [colsTo_succ, List.length_append] at h1
  rw [colSlots_succ, List.length_append] at h2
  have h3 : (tierSlots c t size).length = (halvesL size).length := by simp [tierSlots]
  simp only [List.length_append, List.length_take]
  unfold allF
  omega
theorem AbidesFrom.below {β : Type} {B : Nat} {J : β → World → Prop} (h : AbidesFrom B J) {x : β} {W W' : World} (hs : J x W) (hb : Below W.heap.size W W') : J x W' :=
  h x W W' none hs ⟨hb.os, hb.tape, hb.output, hb.size, fun k hk _ => hb.block k hk⟩ (by simp)

/-- What a round over slots keeps: what lay below n₀, and all rows of bytes. -/
def KpS (n₀ : Nat) (W W' : World) : Prop := Below n₀ W W' ∧ ∀ g cs, Bk W g 5 cs → Bk W' g 5 cs
theorem KpS.trans {n₀ : Nat} {A B C : World} (h : KpS n₀ A B) (k : KpS n₀ B C) : KpS n₀ A C := ⟨h.1.trans k.1, fun g cs hg => k.2 g cs (h.2 g cs hg)⟩
theorem KpS.put {n₀ : Nat} {w : World} (hn : n₀ ≤ w.heap.size) (W : World) (l : Nat) (o o' : Obj) (hl : w.heap.size ≤ l) (h : W.heap[l]? = some o) (hc : o.isCells = false) (hw : o.isWalk = false) : KpS n₀ W (W.putObj l o') :=
  ⟨belowK_b hn W l o o' hl h hc hw, fun g cs hg => hg.grown (grownBy_putObj' W l o') (by
    intro e; cases e
    unfold Bk at hg
    rw [h] at hg; cases hg; cases hc)⟩
def HalfRet (w : World) (L : List Nat) (e : Ending) (w' : World) : Prop := ∃ A c, e = .returned (.slice A L.length c) ∧ (0 < L.length → ∃ g, A = some ⟨g, 0, none⟩ ∧ Bk w' g 5 (u8s L).toArray) ∧ Below w.heap.size w w'
set_option maxHeartbeats 400000 in
theorem halves_bk (size : Nat) (w : World) : Calls Tryd.prog 57 #[.int .u8 (size : Nat)] w (HalfRet w (halvesL size)) := by
  unfold halvesL
  by_cases h40 : size = 40
  · subst h40
    go_enter Tryd.func57, Tryd.ntmps57
    go_wp2
    go_ret
    exact ⟨_, _, rfl, fun _ => ⟨_, rfl, Bk.new w 5 #[.int .u8 0]⟩, ba1 w _⟩
  · rw [if_neg h40]
    have n40 : ((size : Int) == 40) = false := by simp; omega
    by_cases h20 : size = 20
    · subst h20
      clear h40
      go_enter Tryd.func57, Tryd.ntmps57
      go_wp2
      go_ret
      exact ⟨_, _, rfl, fun _ => ⟨_, rfl, Bk.new w 5 #[.int .u8 1, .int .u8 2]⟩, ba1 w _⟩
    · rw [if_neg h20]
      have n20 : ((size : Int) == 20) = false := by simp; omega
      clear h40 h20
      go_enter Tryd.func57, Tryd.ntmps57
      go_wp2
      go_ret
      exact ⟨none, 0, rfl, fun h => absurd h (by simp), Below.refl _ _⟩

attribute [local go_sem] Oper.semAt_some

set_option maxRecDepth 100000 in
set_option maxHeartbeats 4000000 in
theorem slots1_in (m : Nat) (hn : 3 ≤ m) (l gs gz n₀ : Nat) (s : Shp) (h : Hd) (size : Nat) (J Jx : List Slt → World → Prop) (W : World) (hJ : AbidesFrom W.heap.size J)
    (hY : ∀ pre x W1, J pre W1 → pre.length < (allF s size).length → YieldAt Fence.wide (m - 1) Tryd.prog l #[.agg (sltL x).toArray] W1 fun e W' =>
      (e = .returned (.bool true) ∧ J (pre ++ [x]) W' ∧ KpS n₀ W1 W') ∨ (e = .returned (.bool false) ∧ Jx (pre ++ [x]) W'))
    (hs : ShpR W (Lt n₀) s h) (hg : Bk W gs 32 (shpA s h)) (hz : Bk W gz 5 #[.int .u8 (size : Nat)]) (hW : n₀ ≤ W.heap.size) (hl : s.cols.length ≤ 1000000) (hT : ∀ c, tiersN s c ≤ 1000000) (h0 : J [] W) :
    CallsIn Fence.wide m Tryd.prog 93 #[.func (.yield l) #[] #[], .pointer (some ⟨gs, 0, none⟩), .pointer (some ⟨gz, 0, none⟩)] W fun e W' => (∃ v, e = .returned v) ∧
      ((∃ xs, xs = allF s size ∧ J xs W') ∨ (∃ pre, True ∧ Jx pre W')) := by
  refine callsIn_of_wp Tryd.func93 rfl trivial ?_ rfl
  simp only [Tryd.ntmps93, List.size_toArray, List.length_cons, List.length_nil, Nat.reduceAdd, Nat.reduceSub, Array.replicate_succ, Array.replicate_zero, List.push_toArray, List.append_toArray, List.nil_append, List.cons_append]
  obtain ⟨A1, cc1, A2, cc2, A3, cc3, A4, cc4, A5, cc5⟩ := h
  have g0 : W.cell? ⟨gs, 0, none⟩ = some (.slice A1 s.cols.length cc1) := hg.cell 0
  have HSC := Lib.hid hs.cols
  simp only at HSC
  clear hs hg
  have HZ := Lib.hid hz
  clear hz
  gi_wp2
  gi_loopw [12] (fun i wr => ∃ c : Nat, c ≤ s.cols.length ∧ i = .int .i64 c ∧ J (colsTo s size c) wr ∧ Below n₀ W wr ∧ Hid (Bk wr gz 5 #[.int .u8 (size : Nat)])) (fun i _ => s.cols.length - (intOf i).toNat)
  case atStart => exact ⟨0, Nat.zero_le _, rfl, h0, Below.refl _ _, HZ⟩
  case round =>
    clear HZ
    obtain ⟨c, hc, rfl, hJc, hb, HZ⟩ := hrel
    obtain ⟨V, rfl⟩ : ∃ V, V = wr := ⟨_, rfl⟩
    by_cases hlt : c < s.cols.length
    · obtain ⟨b, off, Ap, q, hA1, hbB, _, _, c0, c1, c2, c3, c4, c5, c6, c7, c8, c9, c10, c11⟩ := (HSC.out.below hb).col hlt
      subst hA1
      have hbB : b < n₀ := hbB
      have hVW := hb.size
      have hbV : b < V.heap.size := by omega
      have i1 : (0 : Int) ≤ (c : Int) := by omega
      have i2 : (c : Int) < (s.cols.length : Int) := by omega
      have HT : Hid (tiersN s c = (s.cols.getD c default).tiers.toNat) := Lib.hid rfl
      have HCS := Lib.hid (colsTo_succ s size c)
      have HBD := Lib.hid (fun t j => slots_bound s size (c := c) (t := t) (j := j) hlt)
      have hTb := hT c
      generalize tiersN s c = T at *
      generalize hcol : s.cols.getD c default = col at *
      clear hcol
      obtain ⟨xb, xr, xd, xti, xhe, xk2, xk4, xl, xp, xx, xy, xz⟩ := col
      simp only at c0 c1 c2 c3 c4 c5 c6 c7 c8 c9 c10 c11 HT
      have hmx : (if xti < 0 then 0 else xti) = (T : Int) := by rw [HT.out]; split <;> omega
      gi_wp2
      have hq1 := ba1 V (.cells #[.int .i64 xb, .int .i64 xr, .bool xd, .int .i64 xti, .int .i64 xhe, .int .i64 xk2, .int .i64 xk4, .int .i64 xl, .slice Ap xp.length q, .int .i64 xx, .int .i64 xy, .int .i64 xz] 54)
      have hJ1 := AbidesFrom.below hJ hJc hq1
      have hb1 := hb.trans (hq1.mono (by omega))
      replace HZ := Lib.hid (HZ.out.below hq1 HZ.out.lt)
      clear hmx hq1 hb hJc c0 c1 c2 c3 c4 c5 c6 c7 c8 c9 c10 c11 HT
      generalize V.heap.size = gv at *
      generalize (V.alloc _) = V1 at *
      gi_loopw [20] (fun i wr => ∃ t : Nat, t ≤ T ∧ i = .int .i64 t ∧ J (colsTo s size c ++ colSlots c size t) wr ∧ Below n₀ W wr ∧ Hid (Bk wr gz 5 #[.int .u8 (size : Nat)])) (fun i _ => T - (intOf i).toNat)
      case atStart => exact ⟨0, Nat.zero_le _, rfl, by simpa [colSlots] using hJ1, hb1, HZ⟩
      case round =>
        clear hJ1 hb1 HZ
        clear V1
        obtain ⟨t, ht, rfl, hJt, hb, HZ⟩ := hrel
        obtain ⟨V, rfl⟩ : ∃ V, V = wr := ⟨_, rfl⟩
        by_cases htl : t < T
        · have e0 : V.cell? ⟨gz, 0, none⟩ = some (.int .u8 (size : Nat)) := HZ.out.cell 0
          have HH := Lib.hid (callsIn_wide.2 (halves_bk size V) : CallsIn Fence.wide (m - 1) _ _ _ _ _)
          have HTS := Lib.hid (colSlots_succ c size t)
          have HTD : Hid (tierSlots c t size = (halvesL size).map fun h => ⟨c, t, h⟩) := Lib.hid rfl
          have HBT := Lib.hid (fun j hj => HBD.out t j htl hj)
          have HLL := Lib.hid (halves_len size)
          generalize tierSlots c t size = TS at *
          generalize halvesL size = L at *
          gi_wp2
          refine ⟨trivial, fun _ => by omega, ?_⟩
          refine HH.out.mono ?_
          rintro e V1 ⟨AH, cH, rfl, hsH, hq⟩
          have hJ1 := AbidesFrom.below hJ hJt hq
          have hb1 := hb.trans (hq.mono (by have := hb.size; omega))
          have HSH := Lib.hid hsH
          replace HZ := Lib.hid (HZ.out.below hq HZ.out.lt)
          clear hq hb hJt e0 HH hsH
          clear V
          have hLL := HLL.out
          gi_wp2
          gi_loopw [26] (fun i wr => ∃ j : Nat, j ≤ L.length ∧ i = .int .i64 j ∧ J (colsTo s size c ++ colSlots c size t ++ TS.take j) wr ∧ Below n₀ W wr ∧ Hid (Bk wr gz 5 #[.int .u8 (size : Nat)]) ∧ Hid (0 < L.length → ∃ g, AH = some ⟨g, 0, none⟩ ∧ Bk wr g 5 (u8s L).toArray)) (fun i _ => L.length - (intOf i).toNat)
          case atStart => exact ⟨0, Nat.zero_le _, rfl, by simpa using hJ1, hb1, HZ, HSH⟩
          case round =>
            clear hJ1 hb1 HSH HZ
            obtain ⟨j, hj, rfl, hJj, hb, HZ, hsH⟩ := hrel
            obtain ⟨V, rfl⟩ : ∃ V, V = wr := ⟨_, rfl⟩
            by_cases hjl : j < L.length
            · obtain ⟨gh, rfl, hkh⟩ := hsH.out (by omega)
              have ch : V.cell? ⟨gh, j, none⟩ = some (.int .u8 (L.getD j 0 : Nat)) := by rw [hkh.cell j]; simp [u8s, hjl]
              have HKH := Lib.hid hkh
              clear hkh hsH
              have k1 : (0 : Int) ≤ (j : Int) := by omega
              have k2 : (j : Int) < (L.length : Int) := by omega
              have HTJ : Hid (TS.take (j + 1) = TS.take j ++ [⟨c, t, L.getD j 0⟩]) := Lib.hid (by
                rw [HTD.out, List.take_succ_eq_append_getElem (by simpa using hjl)]
                simp [hjl])
              obtain ⟨fn, tmps, assign, body, hy, hR⟩ := hY (colsTo s size c ++ colSlots c size t ++ TS.take j) ⟨c, t, L.getD j 0⟩ V hJj (HBT.out j hjl)
              unfold sltL at hy
              dsimp only at hy
              generalize L.getD j 0 = hv at *
              gi_wp2
              refine ⟨fun _ => by omega, ?_⟩
              refine hR.mono ?_
              rintro e V2 (⟨rfl, hJ2, hk2⟩ | ⟨rfl, hJx⟩)
              · gi_wp2
                go_roundw
                case rel => exact ⟨j + 1, by omega, by go_num, by rw [HTJ.out, ← List.append_assoc]; exact hJ2, hb.trans hk2.1, Lib.hid (hk2.2 _ _ HZ.out), Lib.hid fun _ => ⟨gh, rfl, hk2.2 _ _ HKH.out⟩⟩
                case measure => simp [intOf]; omega
              · gi_wp2
                refine bodyPost_ret (results_none rfl _ _ _) rfl ?_
                exact ⟨⟨_, rfl⟩, .inr ⟨_, trivial, hJx⟩⟩
            · obtain rfl : j = L.length := by omega
              have HTK : Hid (TS.take L.length = TS) := Lib.hid (List.take_of_length_le (by rw [HTD.out]; simp))
              rw [HTK.out] at hJj
              gi_wp2
              go_roundw
              case rel => exact ⟨t + 1, by omega, by go_num, by rw [HTS.out, ← List.append_assoc]; exact hJj, hb, HZ⟩
              case measure => simp [intOf]; omega
        · obtain rfl : t = T := by omega
          gi_wp2
          go_roundw
          case rel => exact ⟨c + 1, by omega, by go_num, by rw [HCS.out]; exact hJt, hb, HZ⟩
          case measure => simp [intOf]; omega
    · obtain rfl : c = s.cols.length := by omega
      gi_wp2
      go_end0
      exact ⟨⟨_, rfl⟩, .inl ⟨_, rfl, hJc⟩⟩

set_option maxHeartbeats 400000 in
/-- slots: the function value with the two boxes that it has captured. -/
theorem slots_in (m : Nat) (s : Shp) (h : Hd) (size : Nat) (W : World) :
    CallsIn Fence.wide m Tryd.prog 55 #[.agg (shpA s h), .int .u8 (size : Nat)] W fun e w' => e = .returned (.func (.func 93) #[] #[.pointer (some ⟨W.heap.size, 0, none⟩), .pointer (some ⟨W.heap.size + 1, 0, none⟩)]) ∧ w' = (W.alloc (.cells (shpA s h) 32)).alloc (.cells #[.int .u8 (size : Nat)] 5) := by
  refine callsIn_of_wp Tryd.func55 rfl trivial ?_ rfl
  simp only [Tryd.ntmps55, List.size_toArray, List.length_cons, List.length_nil, Nat.reduceAdd, Nat.reduceSub, Array.replicate_succ, Array.replicate_zero, List.push_toArray, List.append_toArray, List.nil_append, List.cons_append]
  unfold shpA
  gi_wp2
  go_ret
  exact ⟨rfl, rfl⟩
/-- The value that slots hands back: all slots come, or a round has said no more. -/
theorem slots_stops (m : Nat) (hm : 3 ≤ m) (gs gz n₀ : Nat) (s : Shp) (h : Hd) (size : Nat) (w : World) (hs : ShpR w (Lt n₀) s h) (hg : Bk w gs 32 (shpA s h)) (hz : Bk w gz 5 #[.int .u8 (size : Nat)]) (hW : n₀ ≤ w.heap.size) (hl : s.cols.length ≤ 1000000) (hT : ∀ c, tiersN s c ≤ 1000000) :
    SeqStopsK Fence.wide m Tryd.prog 93 #[.pointer (some ⟨gs, 0, none⟩), .pointer (some ⟨gz, 0, none⟩)] (fun x : Slt => #[.agg (sltL x).toArray]) (KpS n₀) (fun xs => xs = allF s size) (fun _ => True) (allF s size).length w := fun l J Jx W hb hJ _ hY h0 =>
  slots1_in m hm l gs gz n₀ s h size J Jx W hJ hY (hs.below (hb.mono hW)) (hg.below hb hg.lt) (hz.below hb hz.lt) (Nat.le_trans hW hb.size) hl hT h0
end Go.Proofs.YtggebllkkiennaaDoor
