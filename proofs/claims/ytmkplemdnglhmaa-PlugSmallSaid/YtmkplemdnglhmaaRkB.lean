/-
  Walks of the reference of chapter 12: Demand, Supply, Check, Spare.
-/
import Derived.Test.YtmkplemdnglhmaaRkA
import Derived.Test.YtmkplemdnglhmaaRhB
namespace Go.Proofs.Ytmkplemdnglhmaa
open Go.RowKit

def rfN (size : Nat) (bs : List Bx) : Nat := (bs.filter (reefB size)).length
theorem rfN_succ (size : Nat) (bs : List Bx) {k : Nat} (hk : k < bs.length) : rfN size (bs.take (k + 1)) = rfN size (bs.take k) + if reefB size (bs.getD k zBx) then 1 else 0 := by
  unfold rfN
  rw [filter_take _ bs hk zBx, List.length_append]
  split <;> simp
theorem rfN_le (size : Nat) (bs : List Bx) (k : Nat) : rfN size (bs.take k) ≤ k := by
  unfold rfN
  exact Nat.le_trans (List.length_filter_le _ _) (by simp; omega)
theorem dem_rf (bs : List Bx) : demF bs = ((2 * (rfN 40 bs : Nat) + (rfN 20 bs : Nat) + ((rfN 20 bs % 2 : Nat) : Int)) : Int) / 2 := by
  unfold demF
  have e1 : (bs.filter (reefB 40)).length = rfN 40 bs := rfl
  have e2 : (bs.filter (reefB 20)).length = rfN 20 bs := rfl
  rw [e1, e2]
  omega
/-- How many of the first tiers of a column have a plug. -/
def upN (s : Shp) (c : Nat) (t : Nat) : Nat := ((List.range t).filter fun (j : Nat) => pluggedB s (c : Int) (j : Int)).length
theorem upN_succ (s : Shp) (c t : Nat) : upN s c (t + 1) = upN s c t + if pluggedB s (c : Int) (t : Int) then 1 else 0 := by
  unfold upN
  rw [List.range_succ, List.filter_append, List.length_append]
  congr 1
  simp only [List.filter_cons, List.filter_nil]
  split <;> rfl
theorem upN_le (s : Shp) (c t : Nat) : upN s c t ≤ t := by
  unfold upN
  exact Nat.le_trans (List.length_filter_le _ _) (by simp)
theorem pairs_up (s : Shp) {c : Nat} (hc : c < s.cols.length) : (pairsTo s.cols (c + 1)).length = (pairsTo s.cols c).length + upN s c (tiersN s c) := by
  have hp : (pairsTo s.cols (c + 1)).Perm (pairsTo s.cols c ++ ((List.range (tiersN s c)).filter fun (j : Nat) => pluggedB s (c : Int) (j : Int)).map fun (j : Nat) => ((c : Int), (j : Int))) := by
    rw [List.perm_ext_iff_of_nodup (nodup_pairsTo _ _)]
    · intro x
      rw [mem_pairsTo, List.mem_append, mem_pairsTo, List.mem_map]
      constructor
      · rintro ⟨k, hk, h1, h2, h3, h4⟩
        rcases Nat.lt_succ_iff_lt_or_eq.1 hk with h | h
        · exact .inl ⟨k, h, h1, h2, h3, h4⟩
        · subst h
          refine .inr ⟨x.2.toNat, List.mem_filter.2 ⟨List.mem_range.2 (by unfold tiersN; omega), ?_⟩, ?_⟩
          · rw [plugged_iff]
            exact ⟨k, hc, rfl, by omega, by omega, by rw [show ((x.2.toNat : Nat) : Int) = x.2 by omega]; exact h4⟩
          · obtain ⟨a, b⟩ := x
            simp only at h1 h2 ⊢
            rw [h1, show ((b.toNat : Nat) : Int) = b by omega]
      · rintro (⟨k, hk, h⟩ | ⟨j, hj, rfl⟩)
        · exact ⟨k, by omega, h⟩
        · obtain ⟨_, hj2⟩ := List.mem_filter.1 hj
          obtain ⟨k, h1, h2, h3, h4, h5⟩ := plugged_iff.1 hj2
          obtain rfl : c = k := by omega
          exact ⟨c, by omega, rfl, h3, h4, h5⟩
    · rw [List.nodup_append]
      refine ⟨nodup_pairsTo _ _, ?_, ?_⟩
      · unfold List.Nodup
        rw [List.pairwise_map]
        exact (List.Pairwise.filter _ List.nodup_range).imp fun h e => h (by injection e with _ e; omega)
      · intro a ha b hb e
        subst e
        rw [mem_pairsTo] at ha
        obtain ⟨k, hk, h1, _⟩ := ha
        obtain ⟨j, _, rfl⟩ := List.mem_map.1 hb
        simp only at h1
        omega
  rw [hp.length_eq, List.length_append, List.length_map]
  rfl
theorem pairs_le (s : Shp) (hT : ∀ c ∈ s.cols, c.tiers ≤ 12) : ∀ c, c ≤ s.cols.length → (pairsTo s.cols c).length ≤ 12 * c
  | 0, _ => by simp [pairsTo]
  | c + 1, hc => by
    have ih := pairs_le s hT c (by omega)
    rw [pairs_up s (by omega)]
    have h1 := upN_le s c (tiersN s c)
    have h2 := hT _ (getD_memD (show c < s.cols.length by omega) default)
    have h3 : tiersN s c ≤ 12 := by unfold tiersN; omega
    omega
set_option maxRecDepth 100000 in
set_option maxHeartbeats 4000000 in
theorem refDemand_any (A : Option Addr) (c : Nat) (bs : List Bx) (w : World) (hb : SlT tBx w (Lt w.heap.size) A bs) (hbl : bs.length ≤ 1000000) :
    Calls Try.prog 41 #[.slice A bs.length c] w (Ret w (.int .i64 (demF bs))) := by
  have HS := Lib.hid hb
  have HD := Lib.hid (dem_rf bs)
  clear hb
  generalize demF bs = r at *
  go_enter Try.func41, Try.ntmps41
  go_wp2_with fail
  go_loopw [3, 4, 5] (fun v o i wr => ∃ (k a b : Nat) (h d : Int), k ≤ bs.length ∧ i = .int .i64 k ∧ v = .int .i64 h ∧ o = .int .i64 d ∧ (h = 2 * (a : Int) + (b : Int) ∧ d = ((b % 2 : Nat) : Int)) ∧ Hid (a = rfN 40 (bs.take k)) ∧ Hid (b = rfN 20 (bs.take k)) ∧ Hid (Below w.heap.size w wr)) (fun _ _ i _ => bs.length - (intOf i).toNat)
  case atStart => exact ⟨0, 0, 0, 0, 0, Nat.zero_le _, rfl, rfl, rfl, ⟨rfl, rfl⟩, Lib.hid (by simp [rfN]), Lib.hid (by simp [rfN]), Lib.hid (Below.refl _ _)⟩
  case round =>
    obtain ⟨k, a, b, h, d, hk, rfl, rfl, rfl, ⟨hh, hd⟩, HA, HB, HW⟩ := hrel
    obtain ⟨V, rfl⟩ : ∃ V, V = wr := ⟨_, rfl⟩
    have ha : a ≤ k := by rw [HA.out]; exact rfN_le _ _ _
    have hb : b ≤ k := by rw [HB.out]; exact rfN_le _ _ _
    by_cases hlt : k < bs.length
    · obtain ⟨b1, o1, rfl, _, hc⟩ := (HS.out.on HW.out).bx hlt
      have i0 : (0 : Int) ≤ (k : Int) := by omega
      have i1 : (k : Int) < (bs.length : Int) := by omega
      have HA1 := Lib.hid (rfN_succ 40 bs hlt)
      have HB1 := Lib.hid (rfN_succ 20 bs hlt)
      have h1 : 0 ≤ h := by omega
      have h2 : h ≤ 3000000 := by omega
      have d1 : 0 ≤ d := by omega
      have d2 : d ≤ 1 := by omega
      generalize bs.getD k zBx = x at *
      obtain ⟨x0, x1, x2, x3, x4, x5, x6, x7, x8⟩ := x
      have HR4 : Hid (reefB 40 ⟨x0, x1, x2, x3, x4, x5, x6, x7, x8⟩ = (x8 && ((x2 : Int) == 40))) := Lib.hid (by rw [show ((x2 : Int) == 40) = (x2 == 40) from int_beq x2 40]; rfl)
      have HR2 : Hid (reefB 20 ⟨x0, x1, x2, x3, x4, x5, x6, x7, x8⟩ = (x8 && ((x2 : Int) == 20))) := Lib.hid (by rw [show ((x2 : Int) == 20) = (x2 == 20) from int_beq x2 20]; rfl)
      unfold bxL at hc
      have c2 : V.cell? ⟨b1, o1 + k * 9 + 2, none⟩ = some (.int .u8 (x2 : Nat)) := hc 2 _ rfl
      have c8 : V.cell? ⟨b1, o1 + k * 9 + 8, none⟩ = some (.bool x8) := hc 8 _ rfl
      clear hc
      cases x8 with
      | false =>
        have HA2 : Hid (a = rfN 40 (bs.take (k + 1))) := Lib.hid (by rw [HA1.out, ← HA.out, HR4.out]; simp)
        have HB2 : Hid (b = rfN 20 (bs.take (k + 1))) := Lib.hid (by rw [HB1.out, ← HB.out, HR2.out]; simp)
        clear HA HB HA1 HB1 HR4 HR2
        go_wp2_with fail
        clear c2 c8
        go_roundw
        case rel => first | exact ⟨k + 1, a, b, _, _, by omega, by go_num, rfl, rfl, ⟨hh, hd⟩, HA2, HB2, HW⟩ | ((repeat apply Exists.intro); (first | exact ⟨⟨k + 1, a, b, _, _, by omega, by go_num, rfl, rfl, ⟨hh, hd⟩, HA2, HB2, HW⟩, rfl⟩ | exact ⟨by omega, by go_num, rfl, rfl, ⟨hh, hd⟩, HA2, HB2, HW⟩))
        case measure => simp [intOf]; omega
      | true =>
        cases q1 : ((x2 : Int) == 40) with
        | true =>
          have q2 : ((x2 : Int) == 20) = false := by simp at q1 ⊢; omega
          rw [q1] at HR4
          rw [q2] at HR2
          have HA2 : Hid (a + 1 = rfN 40 (bs.take (k + 1))) := Lib.hid (by rw [HA1.out, ← HA.out, HR4.out]; simp)
          have HB2 : Hid (b = rfN 20 (bs.take (k + 1))) := Lib.hid (by rw [HB1.out, ← HB.out, HR2.out]; simp)
          clear HA HB HA1 HB1 HR4 HR2
          go_wp2_with fail
          clear c2 c8
          go_roundw
          case rel => first | exact ⟨k + 1, a + 1, b, _, _, by omega, by go_num, rfl, rfl, ⟨by omega, hd⟩, HA2, HB2, HW⟩ | ((repeat apply Exists.intro); (first | exact ⟨⟨k + 1, a + 1, b, _, _, by omega, by go_num, rfl, rfl, ⟨by omega, hd⟩, HA2, HB2, HW⟩, rfl⟩ | exact ⟨by omega, by go_num, rfl, rfl, ⟨by omega, hd⟩, HA2, HB2, HW⟩))
          case measure => simp [intOf]; omega
        | false =>
          rw [q1] at HR4
          cases q2 : ((x2 : Int) == 20) with
          | true =>
            rw [q2] at HR2
            have HA2 : Hid (a = rfN 40 (bs.take (k + 1))) := Lib.hid (by rw [HA1.out, ← HA.out, HR4.out]; simp)
            have HB2 : Hid (b + 1 = rfN 20 (bs.take (k + 1))) := Lib.hid (by rw [HB1.out, ← HB.out, HR2.out]; simp)
            clear HA HB HA1 HB1 HR4 HR2
            go_wp2_with fail
            clear c2 c8
            go_roundw
            case rel => first | exact ⟨k + 1, a, b + 1, _, _, by omega, by go_num, rfl, rfl, ⟨by omega, by omega⟩, HA2, HB2, HW⟩ | ((repeat apply Exists.intro); (first | exact ⟨⟨k + 1, a, b + 1, _, _, by omega, by go_num, rfl, rfl, ⟨by omega, by omega⟩, HA2, HB2, HW⟩, rfl⟩ | exact ⟨by omega, by go_num, rfl, rfl, ⟨by omega, by omega⟩, HA2, HB2, HW⟩))
            case measure => simp [intOf]; omega
          | false =>
            rw [q2] at HR2
            have HA2 : Hid (a = rfN 40 (bs.take (k + 1))) := Lib.hid (by rw [HA1.out, ← HA.out, HR4.out]; simp)
            have HB2 : Hid (b = rfN 20 (bs.take (k + 1))) := Lib.hid (by rw [HB1.out, ← HB.out, HR2.out]; simp)
            clear HA HB HA1 HB1 HR4 HR2
            go_wp2_with fail
            clear c2 c8
            go_roundw
            case rel => first | exact ⟨k + 1, a, b, _, _, by omega, by go_num, rfl, rfl, ⟨hh, hd⟩, HA2, HB2, HW⟩ | ((repeat apply Exists.intro); (first | exact ⟨⟨k + 1, a, b, _, _, by omega, by go_num, rfl, rfl, ⟨hh, hd⟩, HA2, HB2, HW⟩, rfl⟩ | exact ⟨by omega, by go_num, rfl, rfl, ⟨hh, hd⟩, HA2, HB2, HW⟩))
            case measure => simp [intOf]; omega
    · obtain rfl : k = bs.length := by omega
      have HE : Hid (r = (h + d) / 2) := Lib.hid (by
        have e1 := HA.out
        have e2 := HB.out
        rw [List.take_length] at e1 e2
        rw [HD.out, ← e1, ← e2, hh, hd])
      have g0 : 0 ≤ h + d := by omega
      have g1 : h + d ≤ 4000000 := by omega
      clear hh hd HA HB
      go_wp2_with fail
      go_ret
      exact ⟨by rw [HE.out]; rfl, HW.out⟩
set_option maxRecDepth 100000 in
set_option maxHeartbeats 4000000 in
theorem refSupply_any (s : Shp) (h : Hd) (w : World) (hsh : ShpR w (Lt w.heap.size) s h) (hf : Few s) (hc20 : s.cols.length ≤ 1000) (hT : ∀ c ∈ s.cols, c.tiers ≤ 12) :
    Calls Try.prog 39 #[.agg (shpA s h)] w (Ret w (.int .i64 (supF s : Nat))) := by
  have hb0 := ba1 w (.cells (shpA s h) 32)
  have KE := Lib.hid (Bk.new w 32 (shpA s h))
  have HB0 := Lib.hid hb0
  have HSH := Lib.hid (hsh.on hb0)
  have KP := Lib.hid (fun (c t : Int) (U : World) (hU : Below (w.alloc (.cells (shpA s h) 32)).heap.size (w.alloc (.cells (shpA s h) 32)) U) => refPlugged_any s h c t U ((hsh.on hb0).on hU) hf)
  have HLE := Lib.hid (pairs_le s hT)
  have HT := Lib.hid hT
  have HS : Hid (supF s = (pairsTo s.cols s.cols.length).length) := Lib.hid rfl
  have HUP := Lib.hid (fun (c : Nat) (hc : c < s.cols.length) => pairs_up s hc)
  clear hsh hb0 hf hT
  generalize supF s = r at *
  unfold shpA at *
  go_enter Try.func39, Try.ntmps39
  go_upto_region 1 with fail
  generalize (w.alloc _) = W at *
  go_wp2_with fail
  go_loopw [3, 4] (fun v i wr => ∃ (k n : Nat), k ≤ s.cols.length ∧ i = .int .i64 k ∧ v = .int .i64 n ∧ Hid (n = (pairsTo s.cols k).length) ∧ Hid (Below W.heap.size W wr)) (fun _ i _ => s.cols.length - (intOf i).toNat)
  case atStart => exact ⟨0, 0, Nat.zero_le _, rfl, rfl, Lib.hid (by simp [pairsTo]), Lib.hid (Below.refl _ _)⟩
  case round =>
    obtain ⟨k, n, hk, rfl, rfl, HN, HB⟩ := hrel
    obtain ⟨V, rfl⟩ : ∃ V, V = wr := ⟨_, rfl⟩
    have e0 : V.cell? ⟨w.heap.size, 0, none⟩ = some (.slice h.A1 s.cols.length h.c1) := (KE.out.below HB.out KE.out.lt).cell 0
    by_cases hlt : k < s.cols.length
    · have i0 : (0 : Int) ≤ (k : Int) := by omega
      have i1 : (k : Int) < (s.cols.length : Int) := by omega
      have hn : n ≤ 12000 := by rw [HN.out]; have := HLE.out k (by omega); omega
      have ht12 := HT.out _ (getD_memD hlt default)
      have HTN : Hid (tiersN s k = (s.cols.getD k default).tiers.toNat) := Lib.hid rfl
      have HCOL := Lib.hid (fun (U : World) (hU : Below W.heap.size W U) => (HSH.out.on hU).cols.col hlt)
      have HU1 := Lib.hid (HUP.out k hlt)
      obtain ⟨T, hTT⟩ : ∃ T, (s.cols.getD k default).tiers = T := ⟨_, rfl⟩
      rw [hTT] at ht12 HTN
      have HD3 : Hid (∃ b1 o1, h.A1 = some ⟨b1, o1, none⟩ ∧ ∀ U : World, Below W.heap.size W U → U.cell? ⟨b1, o1 + k * 12 + 3, none⟩ = some (.int .i64 T)) := Lib.hid (by
        obtain ⟨b1, o1, _, _, hA, hbl, _, _, _, _, _, d3, _⟩ := HCOL.out W (Below.refl _ _)
        refine ⟨b1, o1, hA, fun U hU => ?_⟩
        rw [hTT] at d3
        exact (hU.cell (block_lt_of_cell d3)).trans d3)
      clear hTT HCOL
      obtain ⟨b1, o1, hA, hD⟩ := HD3.out
      have HA := Lib.hid hA
      have HD := Lib.hid hD
      clear hA hD HD3
      have HM0 : Hid (n + upN s k 0 = n) := Lib.hid rfl
      have HVB := Lib.hid HB.out
      go_wp2_with fail
      clear e0
      go_loopw [3, 5] (fun v i wr => ∃ (t m : Nat), (t = 0 ∨ (t : Int) ≤ T) ∧ i = .int .i64 t ∧ v = .int .i64 m ∧ Hid (m = n + upN s k t) ∧ Hid (Below W.heap.size W wr)) (fun _ i _ => T.toNat - (intOf i).toNat)
      case atStart => exact ⟨0, n, .inl rfl, rfl, rfl, Lib.hid HM0.out.symm, HVB⟩
      case round =>
        clear HVB
        obtain ⟨t, m, ht, rfl, rfl, HM, HB'⟩ := hrel
        obtain ⟨U, rfl⟩ : ∃ U, U = wr := ⟨_, rfl⟩
        have KEU := Lib.hid (KE.out.below HB'.out KE.out.lt)
        have e0 : U.cell? ⟨w.heap.size, 0, none⟩ = some (Value.slice h.A1 s.cols.length h.c1) := KEU.out.cell 0
        have e1 : U.cell? ⟨w.heap.size, 1, none⟩ = some (Value.slice h.A2 s.covs.length h.c2) := KEU.out.cell 1
        have e2 : U.cell? ⟨w.heap.size, 2, none⟩ = some (.int .i64 s.l0) := KEU.out.cell 2
        have e3 : U.cell? ⟨w.heap.size, 3, none⟩ = some (.int .i64 s.l1) := KEU.out.cell 3
        have e4 : U.cell? ⟨w.heap.size, 4, none⟩ = some (.int .i64 s.l2) := KEU.out.cell 4
        have e5 : U.cell? ⟨w.heap.size, 5, none⟩ = some (.int .i64 s.l3) := KEU.out.cell 5
        have e6 : U.cell? ⟨w.heap.size, 6, none⟩ = some (.slice h.A3 s.rows.length h.c3) := KEU.out.cell 6
        have e7 : U.cell? ⟨w.heap.size, 7, none⟩ = some (.slice h.A4 s.frames.length h.c4) := KEU.out.cell 7
        have e8 : U.cell? ⟨w.heap.size, 8, none⟩ = some (.slice h.A5 s.tanks.length h.c5) := KEU.out.cell 8
        have e9 : U.cell? ⟨w.heap.size, 9, none⟩ = some (.int .i64 s.m0) := KEU.out.cell 9
        have e10 : U.cell? ⟨w.heap.size, 10, none⟩ = some (.int .i64 s.m1) := KEU.out.cell 10
        have e11 : U.cell? ⟨w.heap.size, 11, none⟩ = some (.int .i64 s.m2) := KEU.out.cell 11
        have e12 : U.cell? ⟨w.heap.size, 12, none⟩ = some (.int .i64 s.m3) := KEU.out.cell 12
        rw [HA.out] at e0
        have d3 : U.cell? ⟨b1, o1 + k * 12 + 3, none⟩ = some (.int .i64 T) := HD.out U HB'.out
        have hup := upN_le s k t
        by_cases hlt2 : (t : Int) < T
        · have t0 : (0 : Int) ≤ (t : Int) := by omega
          have hm : m ≤ 12012 := by rw [HM.out]; omega
          have KPU := Lib.hid (KP.out (k : Int) (t : Int) U HB'.out)
          have HM1 : Hid (n + upN s k (t + 1) = m + if pluggedB s (k : Int) (t : Int) then 1 else 0) := Lib.hid (by rw [upN_succ, HM.out]; omega)
          generalize pluggedB s (k : Int) (t : Int) = pg at *
          rw [HA.out] at KPU
          go_wp2_with fail
          refine KPU.out.mono ?_
          rintro e U1 ⟨rfl, hb⟩
          simp only
          have HB2 := Lib.hid (HB'.out.trans (hb.mono HB'.out.size))
          clear hb KPU KEU HB' e0 e1 e2 e3 e4 e5 e6 e7 e8 e9 e10 e11 e12 d3 hup
          cases pg with
          | true =>
            have HM2 : Hid (m + 1 = n + upN s k (t + 1)) := Lib.hid HM1.out.symm
            clear HM HM1
            go_wp2_with fail
            go_roundw
            case rel => first | exact ⟨t + 1, m + 1, .inr (by omega), by go_num, by go_num, HM2, HB2⟩ | ((repeat apply Exists.intro); (first | exact ⟨⟨t + 1, m + 1, .inr (by omega), by go_num, by go_num, HM2, HB2⟩, rfl⟩ | exact ⟨.inr (by omega), by go_num, by go_num, HM2, HB2⟩))
            case measure => simp [intOf]; omega
          | false =>
            have HM2 : Hid (m = n + upN s k (t + 1)) := Lib.hid (by rw [HM1.out]; simp)
            clear HM HM1
            go_wp2_with fail
            go_roundw
            case rel => first | exact ⟨t + 1, m, .inr (by omega), by go_num, rfl, HM2, HB2⟩ | ((repeat apply Exists.intro); (first | exact ⟨⟨t + 1, m, .inr (by omega), by go_num, rfl, HM2, HB2⟩, rfl⟩ | exact ⟨.inr (by omega), by go_num, rfl, HM2, HB2⟩))
            case measure => simp [intOf]; omega
        · have HN2 : Hid (m = (pairsTo s.cols (k + 1)).length) := Lib.hid (by
            rw [HU1.out, ← HN.out, HM.out, HTN.out, show T.toNat = t by omega])
          clear HM hup KEU
          go_wp2_with fail
          clear e0 e1 e2 e3 e4 e5 e6 e7 e8 e9 e10 e11 e12 d3
          go_roundw
          case rel => first | exact ⟨k + 1, m, by omega, by go_num, rfl, HN2, HB'⟩ | ((repeat apply Exists.intro); (first | exact ⟨⟨k + 1, m, by omega, by go_num, rfl, HN2, HB'⟩, rfl⟩ | exact ⟨by omega, by go_num, rfl, HN2, HB'⟩))
          case measure => simp [intOf]; omega
    · obtain rfl : k = s.cols.length := by omega
      have HE : Hid (n = r) := Lib.hid (by rw [HN.out, HS.out])
      go_wp2_with fail
      go_ret
      exact ⟨by rw [← HE.out]; rfl, HB0.out.trans (HB.out.mono HB0.out.size)⟩
set_option maxRecDepth 100000 in
set_option maxHeartbeats 4000000 in
theorem refPCheck_any (s : Shp) (h : Hd) (A : Option Addr) (c : Nat) (boxes : List Bx) (A2 : Option Addr) (c2 : Nat) (l : List Stw) (w : World) (hsh : ShpR w (Lt w.heap.size) s h) (hf : Few s) (hcl : s.cols.length ≤ 1000000) (hb : SlT tBx w (Lt w.heap.size) A boxes) (hbl : boxes.length ≤ 1000000) (hs : SlT tStw w (Lt w.heap.size) A2 l) (hl : l.length ≤ 1000000) (hti : ∀ x ∈ l, x.slot.tier ≤ 9223372036854775807) (hsz : ∀ b ∈ boxes, b.size < 256) :
    Calls Try.prog 32 #[.agg (shpA s h), .slice A boxes.length c, .slice A2 l.length c2] w (fun e w' => Below w.heap.size w w' ∧ ∃ v, e = .returned (.tuple #[v, .int .i64 (if stowRight s boxes l then 0 else 2)]) ∧ OwnT tInt 3 w' w.heap.size v (if stowRight s boxes l then pfF s boxes l else [])) := by
  have hb0 := ba1 w (.cells (shpA s h) 32)
  have KE := Lib.hid (Bk.new w 32 (shpA s h))
  have HB0 := Lib.hid hb0
  have KR := Lib.hid (refStow_any s h A c boxes A2 c2 l (w.alloc (.cells (shpA s h) 32)) (hsh.on hb0) hf hcl (hb.on hb0) hbl (hs.on hb0) hl hti hsz)
  have KF := Lib.hid (fun (U : World) (hU : Below (w.alloc (.cells (shpA s h) 32)).heap.size (w.alloc (.cells (shpA s h) 32)) U) => refPFaults_any s h A c boxes A2 c2 l U ((hsh.on hb0).on hU) hf ((hb.on hb0).on hU) hbl ((hs.on hb0).on hU) hl)
  clear hsh hb hs hb0 hf hti hsz
  generalize pfF s boxes l = FL at *
  unfold shpA at *
  cases hr : stowRight s boxes l with
  | false =>
    rw [hr] at KR
    clear hr
    go_enter Try.func32, Try.ntmps32
    go_upto_region 1 with fail
    generalize (w.alloc _) = W at *
    have e0 : W.cell? ⟨w.heap.size, 0, none⟩ = some (Value.slice h.A1 s.cols.length h.c1) := KE.out.cell 0
    have e1 : W.cell? ⟨w.heap.size, 1, none⟩ = some (Value.slice h.A2 s.covs.length h.c2) := KE.out.cell 1
    have e2 : W.cell? ⟨w.heap.size, 2, none⟩ = some (.int .i64 s.l0) := KE.out.cell 2
    have e3 : W.cell? ⟨w.heap.size, 3, none⟩ = some (.int .i64 s.l1) := KE.out.cell 3
    have e4 : W.cell? ⟨w.heap.size, 4, none⟩ = some (.int .i64 s.l2) := KE.out.cell 4
    have e5 : W.cell? ⟨w.heap.size, 5, none⟩ = some (.int .i64 s.l3) := KE.out.cell 5
    have e6 : W.cell? ⟨w.heap.size, 6, none⟩ = some (.slice h.A3 s.rows.length h.c3) := KE.out.cell 6
    have e7 : W.cell? ⟨w.heap.size, 7, none⟩ = some (.slice h.A4 s.frames.length h.c4) := KE.out.cell 7
    have e8 : W.cell? ⟨w.heap.size, 8, none⟩ = some (.slice h.A5 s.tanks.length h.c5) := KE.out.cell 8
    have e9 : W.cell? ⟨w.heap.size, 9, none⟩ = some (.int .i64 s.m0) := KE.out.cell 9
    have e10 : W.cell? ⟨w.heap.size, 10, none⟩ = some (.int .i64 s.m1) := KE.out.cell 10
    have e11 : W.cell? ⟨w.heap.size, 11, none⟩ = some (.int .i64 s.m2) := KE.out.cell 11
    have e12 : W.cell? ⟨w.heap.size, 12, none⟩ = some (.int .i64 s.m3) := KE.out.cell 12
    go_wp2_with fail
    refine KR.out.mono ?_
    rintro e V ⟨rfl, hb⟩
    simp only
    have HE := Lib.hid (HB0.out.trans (hb.mono HB0.out.size))
    clear hb e0 e1 e2 e3 e4 e5 e6 e7 e8 e9 e10 e11 e12
    go_wp2_with fail
    go_ret2
    exact ⟨HE.out, _, rfl, OwnT.nil⟩
  | true =>
    rw [hr] at KR
    clear hr
    go_enter Try.func32, Try.ntmps32
    go_upto_region 1 with fail
    generalize (w.alloc _) = W at *
    have e0 : W.cell? ⟨w.heap.size, 0, none⟩ = some (Value.slice h.A1 s.cols.length h.c1) := KE.out.cell 0
    have e1 : W.cell? ⟨w.heap.size, 1, none⟩ = some (Value.slice h.A2 s.covs.length h.c2) := KE.out.cell 1
    have e2 : W.cell? ⟨w.heap.size, 2, none⟩ = some (.int .i64 s.l0) := KE.out.cell 2
    have e3 : W.cell? ⟨w.heap.size, 3, none⟩ = some (.int .i64 s.l1) := KE.out.cell 3
    have e4 : W.cell? ⟨w.heap.size, 4, none⟩ = some (.int .i64 s.l2) := KE.out.cell 4
    have e5 : W.cell? ⟨w.heap.size, 5, none⟩ = some (.int .i64 s.l3) := KE.out.cell 5
    have e6 : W.cell? ⟨w.heap.size, 6, none⟩ = some (.slice h.A3 s.rows.length h.c3) := KE.out.cell 6
    have e7 : W.cell? ⟨w.heap.size, 7, none⟩ = some (.slice h.A4 s.frames.length h.c4) := KE.out.cell 7
    have e8 : W.cell? ⟨w.heap.size, 8, none⟩ = some (.slice h.A5 s.tanks.length h.c5) := KE.out.cell 8
    have e9 : W.cell? ⟨w.heap.size, 9, none⟩ = some (.int .i64 s.m0) := KE.out.cell 9
    have e10 : W.cell? ⟨w.heap.size, 10, none⟩ = some (.int .i64 s.m1) := KE.out.cell 10
    have e11 : W.cell? ⟨w.heap.size, 11, none⟩ = some (.int .i64 s.m2) := KE.out.cell 11
    have e12 : W.cell? ⟨w.heap.size, 12, none⟩ = some (.int .i64 s.m3) := KE.out.cell 12
    go_wp2_with fail
    refine KR.out.mono ?_
    rintro e V ⟨rfl, hb⟩
    simp only
    have HV := Lib.hid hb
    have KEV := Lib.hid (KE.out.below hb KE.out.lt)
    clear hb e0 e1 e2 e3 e4 e5 e6 e7 e8 e9 e10 e11 e12
    have e0 : V.cell? ⟨w.heap.size, 0, none⟩ = some (Value.slice h.A1 s.cols.length h.c1) := KEV.out.cell 0
    have e1 : V.cell? ⟨w.heap.size, 1, none⟩ = some (Value.slice h.A2 s.covs.length h.c2) := KEV.out.cell 1
    have e2 : V.cell? ⟨w.heap.size, 2, none⟩ = some (.int .i64 s.l0) := KEV.out.cell 2
    have e3 : V.cell? ⟨w.heap.size, 3, none⟩ = some (.int .i64 s.l1) := KEV.out.cell 3
    have e4 : V.cell? ⟨w.heap.size, 4, none⟩ = some (.int .i64 s.l2) := KEV.out.cell 4
    have e5 : V.cell? ⟨w.heap.size, 5, none⟩ = some (.int .i64 s.l3) := KEV.out.cell 5
    have e6 : V.cell? ⟨w.heap.size, 6, none⟩ = some (.slice h.A3 s.rows.length h.c3) := KEV.out.cell 6
    have e7 : V.cell? ⟨w.heap.size, 7, none⟩ = some (.slice h.A4 s.frames.length h.c4) := KEV.out.cell 7
    have e8 : V.cell? ⟨w.heap.size, 8, none⟩ = some (.slice h.A5 s.tanks.length h.c5) := KEV.out.cell 8
    have e9 : V.cell? ⟨w.heap.size, 9, none⟩ = some (.int .i64 s.m0) := KEV.out.cell 9
    have e10 : V.cell? ⟨w.heap.size, 10, none⟩ = some (.int .i64 s.m1) := KEV.out.cell 10
    have e11 : V.cell? ⟨w.heap.size, 11, none⟩ = some (.int .i64 s.m2) := KEV.out.cell 11
    have e12 : V.cell? ⟨w.heap.size, 12, none⟩ = some (.int .i64 s.m3) := KEV.out.cell 12
    go_wp2_with fail
    refine (KF.out V HV.out).mono ?_
    rintro e V2 ⟨v, rfl, ho, hb⟩
    simp only
    have HE := Lib.hid (HB0.out.trans ((HV.out.trans (hb.mono HV.out.size)).mono HB0.out.size))
    have HO := Lib.hid (ho.down (Nat.le_trans HB0.out.size HV.out.size))
    clear hb ho e0 e1 e2 e3 e4 e5 e6 e7 e8 e9 e10 e11 e12
    go_wp2_with fail
    go_ret2
    exact ⟨HE.out, _, rfl, HO.out⟩
set_option maxRecDepth 100000 in
set_option maxHeartbeats 8000000 in
theorem refSpare_any (s : Shp) (h : Hd) (A2 : Option Addr) (c2 : Nat) (l : List Stw) (size : Nat) (w : World) (hsh : ShpR w (Lt w.heap.size) s h) (hf : Few s) (hcl : s.cols.length ≤ 60) (hT : ∀ c, tiersN s c ≤ 12) (hsz : size < 256) (hs : SlT tStw w (Lt w.heap.size) A2 l) (hl : l.length ≤ 1000000) :
    Calls Try.prog 44 #[.agg (shpA s h), .slice A2 l.length c2, .int .i64 (size : Nat)] w (OwnL tSlt 40 w (spareF s l size)) := by
  have hb0 := ba1 w (.cells (shpA s h) 32)
  have KE := Lib.hid (Bk.new w 32 (shpA s h))
  have HB0 := Lib.hid hb0
  have HST := Lib.hid (hs.on hb0)
  have KA := Lib.hid (refAll_any s h size (w.alloc (.cells (shpA s h) 32)) (hsh.on hb0) hcl hT hsz)
  have KP := Lib.hid (fun (c t : Int) (U : World) (hU : Below (w.alloc (.cells (shpA s h) 32)).heap.size (w.alloc (.cells (shpA s h) 32)) U) => refPlugged_any s h c t U ((hsh.on hb0).on hU) hf)
  have hLA : (allF s size).length ≤ 1440 := by
    have := colsT_len s size hT s.cols.length
    unfold allF
    omega
  have HSP : Hid (spareF s l size = (allF s size).filter (spareP s l)) := Lib.hid rfl
  have HSU := Lib.hid (fun (k : Nat) (hk : k < (allF s size).length) => filter_take (spareP s l) (allF s size) hk default)
  clear hsh hs hb0 hf hT
  rw [HSP.out]
  clear HSP
  generalize allF s size = LA at *
  have HLN : Hid (∀ k, ((LA.take k).filter (spareP s l)).length ≤ 1440) := Lib.hid fun k => Nat.le_trans (List.length_filter_le _ _) (by simp; omega)
  unfold shpA at *
  go_enter Try.func44, Try.ntmps44
  go_upto_region 1 with fail
  generalize (w.alloc _) = W at *
  have e0 : W.cell? ⟨w.heap.size, 0, none⟩ = some (Value.slice h.A1 s.cols.length h.c1) := KE.out.cell 0
  have e1 : W.cell? ⟨w.heap.size, 1, none⟩ = some (Value.slice h.A2 s.covs.length h.c2) := KE.out.cell 1
  have e2 : W.cell? ⟨w.heap.size, 2, none⟩ = some (.int .i64 s.l0) := KE.out.cell 2
  have e3 : W.cell? ⟨w.heap.size, 3, none⟩ = some (.int .i64 s.l1) := KE.out.cell 3
  have e4 : W.cell? ⟨w.heap.size, 4, none⟩ = some (.int .i64 s.l2) := KE.out.cell 4
  have e5 : W.cell? ⟨w.heap.size, 5, none⟩ = some (.int .i64 s.l3) := KE.out.cell 5
  have e6 : W.cell? ⟨w.heap.size, 6, none⟩ = some (.slice h.A3 s.rows.length h.c3) := KE.out.cell 6
  have e7 : W.cell? ⟨w.heap.size, 7, none⟩ = some (.slice h.A4 s.frames.length h.c4) := KE.out.cell 7
  have e8 : W.cell? ⟨w.heap.size, 8, none⟩ = some (.slice h.A5 s.tanks.length h.c5) := KE.out.cell 8
  have e9 : W.cell? ⟨w.heap.size, 9, none⟩ = some (.int .i64 s.m0) := KE.out.cell 9
  have e10 : W.cell? ⟨w.heap.size, 10, none⟩ = some (.int .i64 s.m1) := KE.out.cell 10
  have e11 : W.cell? ⟨w.heap.size, 11, none⟩ = some (.int .i64 s.m2) := KE.out.cell 11
  have e12 : W.cell? ⟨w.heap.size, 12, none⟩ = some (.int .i64 s.m3) := KE.out.cell 12
  go_wp2_with fail
  refine KA.out.mono ?_
  rintro e V0 ⟨v0, rfl, ho0, hb⟩
  obtain ⟨A, c, rfl, hc, _, hsl⟩ := ho0.sl
  simp only
  have HV0 := Lib.hid hb
  have HSL := Lib.hid hsl
  have HO0 : Hid (OwnT tSlt 40 V0 V0.heap.size (.slice none 0 0) ((LA.take 0).filter (spareP s l))) := Lib.hid OwnT.nil
  clear hb ho0 hsl KA e0 e1 e2 e3 e4 e5 e6 e7 e8 e9 e10 e11 e12
  go_wp2_with fail
  go_loopw [7, 9] (fun v i wr => ∃ k : Nat, k ≤ LA.length ∧ i = .int .i64 k ∧ Hid (OwnT tSlt 40 wr V0.heap.size v ((LA.take k).filter (spareP s l))) ∧ Hid (Below V0.heap.size V0 wr)) (fun _ i _ => LA.length - (intOf i).toNat)
  case atStart => exact ⟨0, Nat.zero_le _, rfl, HO0, Lib.hid (Below.refl _ _)⟩
  case round =>
    clear HO0
    obtain ⟨k, hk, rfl, HO, HB⟩ := hrel
    obtain ⟨V, rfl⟩ : ∃ V, V = wr := ⟨_, rfl⟩
    by_cases hlt : k < LA.length
    · obtain ⟨b, off, rfl, hbB, a0, a1, a2⟩ := (HSL.out.on HB.out).slt hlt
      have i0 : (0 : Int) ≤ (k : Int) := by omega
      have i1 : (k : Int) < (LA.length : Int) := by omega
      have HS1 := Lib.hid (HSU.out k hlt)
      generalize LA.getD k default = x at *
      obtain ⟨xc, xt, xh⟩ := x
      simp only at a0 a1 a2
      have HWV := Lib.hid (HV0.out.trans (HB.out.mono HV0.out.size))
      have HKE := Lib.hid (KE.out.below HWV.out KE.out.lt)
      have KPX := Lib.hid (fun (U : World) (hU : Below V.heap.size V U) => KP.out xc xt U (HWV.out.trans (hU.mono HWV.out.size)))
      have HSPX : Hid (spareP s l ⟨xc, xt, xh⟩ = (pluggedB s xc xt && !(l.any fun y => meetB ⟨xc, xt, xh⟩ y.slot))) := Lib.hid rfl
      generalize pluggedB s xc xt = pg at *
      go_step
      go_step
      go_upto_region 6 with fail
      have e0 : ∀ p : Gr V, p.W.cell? ⟨w.heap.size, 0, none⟩ = some (Value.slice h.A1 s.cols.length h.c1) := Gr.cell (HKE.out.cell 0)
      have e1 : ∀ p : Gr V, p.W.cell? ⟨w.heap.size, 1, none⟩ = some (Value.slice h.A2 s.covs.length h.c2) := Gr.cell (HKE.out.cell 1)
      have e2 : ∀ p : Gr V, p.W.cell? ⟨w.heap.size, 2, none⟩ = some (.int .i64 s.l0) := Gr.cell (HKE.out.cell 2)
      have e3 : ∀ p : Gr V, p.W.cell? ⟨w.heap.size, 3, none⟩ = some (.int .i64 s.l1) := Gr.cell (HKE.out.cell 3)
      have e4 : ∀ p : Gr V, p.W.cell? ⟨w.heap.size, 4, none⟩ = some (.int .i64 s.l2) := Gr.cell (HKE.out.cell 4)
      have e5 : ∀ p : Gr V, p.W.cell? ⟨w.heap.size, 5, none⟩ = some (.int .i64 s.l3) := Gr.cell (HKE.out.cell 5)
      have e6 : ∀ p : Gr V, p.W.cell? ⟨w.heap.size, 6, none⟩ = some (.slice h.A3 s.rows.length h.c3) := Gr.cell (HKE.out.cell 6)
      have e7 : ∀ p : Gr V, p.W.cell? ⟨w.heap.size, 7, none⟩ = some (.slice h.A4 s.frames.length h.c4) := Gr.cell (HKE.out.cell 7)
      have e8 : ∀ p : Gr V, p.W.cell? ⟨w.heap.size, 8, none⟩ = some (.slice h.A5 s.tanks.length h.c5) := Gr.cell (HKE.out.cell 8)
      have e9 : ∀ p : Gr V, p.W.cell? ⟨w.heap.size, 9, none⟩ = some (.int .i64 s.m0) := Gr.cell (HKE.out.cell 9)
      have e10 : ∀ p : Gr V, p.W.cell? ⟨w.heap.size, 10, none⟩ = some (.int .i64 s.m1) := Gr.cell (HKE.out.cell 10)
      have e11 : ∀ p : Gr V, p.W.cell? ⟨w.heap.size, 11, none⟩ = some (.int .i64 s.m2) := Gr.cell (HKE.out.cell 11)
      have e12 : ∀ p : Gr V, p.W.cell? ⟨w.heap.size, 12, none⟩ = some (.int .i64 s.m3) := Gr.cell (HKE.out.cell 12)
      have a0 : ∀ gp : Gr V, gp.W.cell? ⟨b, off + k * 3, none⟩ = some (.int .i64 xc) := Gr.cell a0
      have a1 : ∀ gp : Gr V, gp.W.cell? ⟨b, off + k * 3 + 1, none⟩ = some (.int .i64 xt) := Gr.cell a1
      have a2 : ∀ gp : Gr V, gp.W.cell? ⟨b, off + k * 3 + 2, none⟩ = some (.int .u8 (xh : Nat)) := Gr.cell a2
      refine wp_region_gr (by kernel_rfl) (by kernel_rfl) ?_
      repeat (go_big_quiet_step ((with_reducible exact Gr.call _ (fun V hV => KPX.out V hV))))
      refine wpQuiet_nil ?_
      rintro Y ⟨⟨_, hbY⟩, rfl⟩
      have HBY := Lib.hid (HB.out.trans (hbY.mono HB.out.size))
      have HOY := Lib.hid (HO.out.below hbY)
      have HCX : Hid (∀ U : World, Below Y.heap.size Y U → U.cell? ⟨b, off + k * 3, none⟩ = some (.int .i64 xc) ∧ U.cell? ⟨b, off + k * 3 + 1, none⟩ = some (.int .i64 xt) ∧ U.cell? ⟨b, off + k * 3 + 2, none⟩ = some (.int .u8 (xh : Nat))) := Lib.hid fun U hU => ⟨a0 ⟨U, hbY.trans (hU.mono hbY.size)⟩, a1 ⟨U, hbY.trans (hU.mono hbY.size)⟩, a2 ⟨U, hbY.trans (hU.mono hbY.size)⟩⟩
      clear hbY HB HO HWV HKE KPX a0 a1 a2 e0 e1 e2 e3 e4 e5 e6 e7 e8 e9 e10 e11 e12 hbB
      go_wp2_with fail
      go_loopw [10, 11] (fun v j wr => ∃ (m : Nat) (q : Bool), m ≤ l.length ∧ j = .int .i64 m ∧ v = .bool q ∧ Hid (q = (pg && !((l.take m).any fun y => meetB ⟨xc, xt, xh⟩ y.slot))) ∧ Hid (Below Y.heap.size Y wr)) (fun _ j _ => l.length - (intOf j).toNat)
      case atStart => exact ⟨0, pg, Nat.zero_le _, rfl, rfl, Lib.hid (by simp), Lib.hid (Below.refl _ _)⟩
      case round =>
        obtain ⟨m, q, hm, rfl, rfl, HQ, HU⟩ := hrel
        obtain ⟨U, rfl⟩ : ∃ U, U = wr := ⟨_, rfl⟩
        obtain ⟨a0, a1, a2⟩ := HCX.out U HU.out
        by_cases hlt2 : m < l.length
        · have HWU := Lib.hid (HV0.out.trans ((HBY.out.trans (HU.out.mono HBY.out.size)).mono HV0.out.size))
          obtain ⟨b2, off2, rfl, _, d0, d1, d2, d3⟩ := (HST.out.on HWU.out).stw hlt2
          have j0 : (0 : Int) ≤ (m : Int) := by omega
          have j1 : (m : Int) < (l.length : Int) := by omega
          have HAT := Lib.hid (any_take (fun y : Stw => meetB ⟨xc, xt, xh⟩ y.slot) hlt2 default)
          generalize l.getD m default = y at *
          obtain ⟨yb, yc, yt, yh⟩ := y
          simp only at d0 d1 d2 d3 HAT
          have KM := Lib.hid (fun (Z : World) (_ : Below U.heap.size U Z) => refMeet_any ⟨xc, xt, xh⟩ ⟨yc, yt, yh⟩ Z)
          unfold sltL at KM
          simp only at KM
          generalize meetB ⟨xc, xt, xh⟩ ⟨yc, yt, yh⟩ = mt at *
          go_step
          go_step
          go_upto_region 10 with fail
          have a0 : ∀ gp : Gr U, gp.W.cell? ⟨b, off + k * 3, none⟩ = some (.int .i64 xc) := Gr.cell a0
          have a1 : ∀ gp : Gr U, gp.W.cell? ⟨b, off + k * 3 + 1, none⟩ = some (.int .i64 xt) := Gr.cell a1
          have a2 : ∀ gp : Gr U, gp.W.cell? ⟨b, off + k * 3 + 2, none⟩ = some (.int .u8 (xh : Nat)) := Gr.cell a2
          have d0 : ∀ gp : Gr U, gp.W.cell? ⟨b2, off2 + m * 4, none⟩ = some (.int .i64 yb) := Gr.cell d0
          have d1 : ∀ gp : Gr U, gp.W.cell? ⟨b2, off2 + m * 4 + 1, none⟩ = some (.int .i64 yc) := Gr.cell d1
          have d2 : ∀ gp : Gr U, gp.W.cell? ⟨b2, off2 + m * 4 + 2, none⟩ = some (.int .i64 yt) := Gr.cell d2
          have d3 : ∀ gp : Gr U, gp.W.cell? ⟨b2, off2 + m * 4 + 3, none⟩ = some (.int .u8 (yh : Nat)) := Gr.cell d3
          refine wp_region_gr (by kernel_rfl) (by kernel_rfl) ?_
          repeat (go_big_quiet_step ((with_reducible exact Gr.call _ (fun V hV => KM.out V hV))))
          refine wpQuiet_nil ?_
          rintro Y2 ⟨⟨_, hbY2⟩, rfl⟩
          have HU2 := Lib.hid (HU.out.trans (hbY2.mono HU.out.size))
          clear hbY2 HU HWU a0 a1 a2 d0 d1 d2 d3 KM
          cases mt with
          | true =>
            have HQ2 : Hid (false = (pg && !((l.take (m + 1)).any fun y => meetB ⟨xc, xt, xh⟩ y.slot))) := Lib.hid (by rw [HAT.out]; simp)
            clear HQ HAT
            go_wp2_with fail
            go_roundw
            case rel => first | exact ⟨m + 1, false, by omega, by go_num, rfl, HQ2, HU2⟩ | ((repeat apply Exists.intro); (first | exact ⟨⟨m + 1, false, by omega, by go_num, rfl, HQ2, HU2⟩, rfl⟩ | exact ⟨by omega, by go_num, rfl, HQ2, HU2⟩))
            case measure => simp [intOf]; omega
          | false =>
            have HQ2 : Hid (q = (pg && !((l.take (m + 1)).any fun y => meetB ⟨xc, xt, xh⟩ y.slot))) := Lib.hid (by rw [HAT.out, HQ.out]; simp)
            clear HQ HAT
            go_wp2_with fail
            go_roundw
            case rel => first | exact ⟨m + 1, q, by omega, by go_num, rfl, HQ2, HU2⟩ | ((repeat apply Exists.intro); (first | exact ⟨⟨m + 1, q, by omega, by go_num, rfl, HQ2, HU2⟩, rfl⟩ | exact ⟨by omega, by go_num, rfl, HQ2, HU2⟩))
            case measure => simp [intOf]; omega
        · obtain rfl : m = l.length := by omega
          have HQ3 : Hid (spareP s l ⟨xc, xt, xh⟩ = q) := Lib.hid (by rw [HSPX.out, HQ.out, List.take_length])
          have HB3 := Lib.hid (HBY.out.trans (HU.out.mono HBY.out.size))
          have HO3 := Lib.hid (HOY.out.below HU.out)
          clear HQ HU HBY HOY
          cases q with
          | false =>
            have HO4 : Hid (OwnT tSlt 40 U V0.heap.size u7 ((LA.take (k + 1)).filter (spareP s l))) := Lib.hid (by rw [HS1.out, HQ3.out]; simpa using HO3.out)
            clear HO3 HS1
            go_wp2_with fail
            clear a0 a1 a2
            go_roundw
            case rel => first | exact ⟨k + 1, by omega, by go_num, HO4, HB3⟩ | ((repeat apply Exists.intro); (first | exact ⟨⟨k + 1, by omega, by go_num, HO4, HB3⟩, rfl⟩ | exact ⟨by omega, by go_num, HO4, HB3⟩))
            case measure => simp [intOf]; omega
          | true =>
            have HEQ : Hid ((LA.take (k + 1)).filter (spareP s l) = (LA.take k).filter (spareP s l) ++ [⟨xc, xt, xh⟩]) := Lib.hid (by rw [HS1.out, HQ3.out]; rfl)
            have hml := HLN.out k
            clear HS1 HQ3 HSPX
            generalize (LA.take k).filter (spareP s l) = M at *
            obtain ⟨xs, ho, hfl⟩ := HO3.out
            have hz9 := HB3.out.size
            go_wp2_with (at_builtin; (refine wpList_append1 el_slt rfl (.tmp 50) (.tmp 55) rfl V0.heap.size _ M.length xs rfl ho #[.int .i64 xc, .int .i64 xt, .int .u8 (xh : Nat)] _ rfl rfl rfl ?cA ?cB hz9 ?_))
            case cA => unfold maxLen; omega
            case cB => omega
            intro v' w3 hown' hgr hd3 hbel
            have HO4 : Hid (OwnT tSlt 40 w3 V0.heap.size v' ((LA.take (k + 1)).filter (spareP s l))) := Lib.hid (by rw [HEQ.out]; exact OwnT.append1 (T := tSlt) (x := ⟨xc, xt, xh⟩) hfl (cs := sltL ⟨xc, xt, xh⟩) rfl hown' hgr hd3)
            have HB4 := Lib.hid (HB3.out.trans hbel)
            clear hown' hgr hd3 hbel ho hfl hz9 HO3 HB3 HEQ a0 a1 a2
            go_wp2_with fail
            go_roundw
            case rel => first | exact ⟨k + 1, by omega, by go_num, HO4, HB4⟩ | ((repeat apply Exists.intro); (first | exact ⟨⟨k + 1, by omega, by go_num, HO4, HB4⟩, rfl⟩ | exact ⟨by omega, by go_num, HO4, HB4⟩))
            case measure => simp [intOf]; omega
    · obtain rfl : k = LA.length := by omega
      have HE := Lib.hid (HB0.out.trans ((HV0.out.trans (HB.out.mono HV0.out.size)).mono HB0.out.size))
      have HOE : Hid (OwnT tSlt 40 V w.heap.size u7 (LA.filter (spareP s l))) := Lib.hid (by
        have := HO.out.down (Nat.le_trans HB0.out.size HV0.out.size)
        rw [List.take_length] at this
        exact this)
      go_wp2_with fail
      go_ret
      exact ⟨_, rfl, HOE.out, HE.out⟩
end Go.Proofs.Ytmkplemdnglhmaa
