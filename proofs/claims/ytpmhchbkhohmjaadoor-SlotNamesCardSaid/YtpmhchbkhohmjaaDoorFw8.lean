/-
  Walk of twistlocklaw08.few.
-/
import Derived.Test.YtpmhchbkhohmjaaDoorB4
namespace Go.Proofs.YtpmhchbkhohmjaaDoor
open Go.RowKit

/-- A ship that is examined. -/
structure fewQ (s : Shp) : Prop where
  cols : s.cols.length ≤ 60
  covs : s.covs.length ≤ 50
  plugs : ∀ c ∈ s.cols, c.plugs.length ≤ 12 ∧ c.tiers ≤ 12
  rows : ∀ x ∈ s.covs, x.rows.length ≤ 40
def FewRet8 (s : Shp) (w : World) (e : Ending) (w' : World) : Prop := ∃ b, e = .returned (.bool b) ∧ (b = true ↔ fewQ s) ∧ Below w.heap.size w w'
theorem all_memD {α : Type} {l : List α} {d : α} {p : α → Prop} (h : ∀ j, j < l.length → p (l.getD j d)) : ∀ x ∈ l, p x := fun x hx => by
  obtain ⟨i, hi, rfl⟩ := List.getElem_of_mem hx
  simpa [hi] using h i hi
set_option maxRecDepth 100000 in
set_option maxHeartbeats 4000000 in
theorem few8_any (s : Shp) (h : Hd) (w : World) (hs : ShpR w (Lt w.heap.size) s h) :
    Calls Tryd.prog 5 #[.agg (shpA s h)] w (FewRet8 s w) := by
  have hb0 := ba1 w (.cells (shpA s h) 32)
  have KE := Lib.hid (Bk.new w 32 (shpA s h))
  have HS := Lib.hid (hs.on hb0)
  have HB0 := Lib.hid hb0
  have hm := hs.m1
  have hm2 := hs.m2
  clear hs hb0
  by_cases h1 : s.cols.length ≤ 60
  · have c1 : decide (60 < s.cols.length) = false := decide_eq_false (by omega)
    have c1' : decide ((60 : Int) < (s.cols.length : Int)) = false := decide_eq_false (by omega)
    by_cases h2 : s.covs.length ≤ 50
    · have c2 : decide (50 < s.covs.length) = false := decide_eq_false (by omega)
      have c2' : decide ((50 : Int) < (s.covs.length : Int)) = false := decide_eq_false (by omega)
      unfold shpA at *
      go_enter Tryd.func5, Tryd.ntmps5
      go_upto_region 3 with fail
      generalize hW : (w.alloc _) = W at *
      clear hW c1 c1' c2 c2'
      have e0 : W.cell? ⟨w.heap.size, 0, none⟩ = some (.slice h.A1 s.cols.length h.c1) := KE.out.cell 0
      have HBS := Lib.hid (Below.refl W.heap.size W)
      go_wp2_with fail
      clear e0
      go_loopw [20] (fun i wr => ∃ k : Nat, k ≤ s.cols.length ∧ i = .int .i64 k ∧ Hid ((∀ j, j < k → (s.cols.getD j default).plugs.length ≤ 12 ∧ (s.cols.getD j default).tiers ≤ 12) ∧ Below W.heap.size W wr)) (fun i _ => s.cols.length - (intOf i).toNat)
      case atStart => exact ⟨0, Nat.zero_le _, rfl, Lib.hid (And.intro (fun j hj => absurd hj (by omega)) HBS.out)⟩
      case round =>
        clear HBS
        try clear Y0
        obtain ⟨k, hk, rfl, HB⟩ := hrel
        obtain ⟨V, rfl⟩ : ∃ V, V = wr := ⟨_, rfl⟩
        by_cases hlt : k < s.cols.length
        · obtain ⟨b, off, Ap, p, hA, _, _, _, d0, d1, d2, d3, d4, d5, d6, d7, d8, d9, d10, d11⟩ := (HS.out.on HB.out.2).cols.col hlt
          have i0 : (0 : Int) ≤ (k : Int) := by omega
          have i1 : (k : Int) < (s.cols.length : Int) := by omega
          have HNX : Hid ((s.cols.getD k default).plugs.length ≤ 12 ∧ (s.cols.getD k default).tiers ≤ 12 → ∀ j, j < k + 1 → (s.cols.getD j default).plugs.length ≤ 12 ∧ (s.cols.getD j default).tiers ≤ 12) := Lib.hid fun hg j hj => by
            rcases Nat.lt_succ_iff_lt_or_eq.1 hj with h | h
            · exact HB.out.1 j h
            · rw [h]; exact hg
          have HBAD : Hid (¬ ((s.cols.getD k default).plugs.length ≤ 12 ∧ (s.cols.getD k default).tiers ≤ 12) → ¬ fewQ s) := Lib.hid fun hg hf => hg (hf.plugs _ (getD_memD hlt default))
          have HBV := Lib.hid HB.out.2
          clear HB
          rw [hA]
          generalize s.cols.getD k default = x at *
          obtain ⟨x0, x1, x2, x3, x4, x5, x6, x7, x8, x9, x10, x11⟩ := x
          simp only at d0 d1 d2 d3 d4 d5 d6 d7 d8 d9 d10 d11 HNX HBAD
          have HKX := Lib.hid (Bk.new V 62 #[.int .i64 x0, .int .i64 x1, .bool x2, .int .i64 x3, .int .i64 x4, .int .i64 x5, .int .i64 x6, .int .i64 x7, .slice Ap x8.length p, .int .i64 x9, .int .i64 x10, .int .i64 x11])
          have HB1 := Lib.hid (HBV.out.trans ((ba1 V (.cells #[.int .i64 x0, .int .i64 x1, .bool x2, .int .i64 x3, .int .i64 x4, .int .i64 x5, .int .i64 x6, .int .i64 x7, .slice Ap x8.length p, .int .i64 x9, .int .i64 x10, .int .i64 x11] 62)).mono HBV.out.size))
          go_upto_region 6 with fail
          clear d0 d1 d2 d3 d4 d5 d6 d7 d8 d9 d10 d11 HBV
          generalize V.heap.size = gx at *
          generalize (V.alloc _) = V1 at *
          try clear V
          have y8 : V1.cell? ⟨gx, 8, none⟩ = some (.slice Ap x8.length p) := HKX.out.cell 8
          have y3 : V1.cell? ⟨gx, 3, none⟩ = some (.int .i64 x3) := HKX.out.cell 3
          by_cases hp : x8.length ≤ 12
          · by_cases hq : x3 ≤ 12
            · have v1 : decide ((12 : Int) < x3) = false := decide_eq_false (by omega)
              have u1 : decide (12 < x8.length) = false := decide_eq_false (by omega)
              have u2 : decide ((12 : Int) < (x8.length : Int)) = false := decide_eq_false (by omega)
              have HN := Lib.hid (And.intro (HNX.out ⟨hp, hq⟩) HB1.out)
              clear hp hq HNX HBAD HB1 HKX
              go_wp2_with fail
              go_roundw
              case rel => first | exact ⟨k + 1, by omega, by go_num, HN⟩ | ((repeat apply Exists.intro); (first | exact ⟨⟨k + 1, by omega, by go_num, HN⟩, rfl⟩ | exact ⟨by omega, by go_num, HN⟩))
              case measure => simp [intOf]; omega
            · have v1 : decide ((12 : Int) < x3) = true := decide_eq_true (by omega)
              have u1 : decide (12 < x8.length) = false := decide_eq_false (by omega)
              have u2 : decide ((12 : Int) < (x8.length : Int)) = false := decide_eq_false (by omega)
              have HN := Lib.hid (HBAD.out (fun h => hq h.2))
              clear hp hq HNX HBAD HKX
              go_wp2_with fail
              go_ret
              exact ⟨false, rfl, ⟨fun h => Bool.noConfusion h, fun h => absurd h HN.out⟩, HB0.out.trans (HB1.out.mono HB0.out.size)⟩
          · have u1 : decide (12 < x8.length) = true := decide_eq_true (by omega)
            have u2 : decide ((12 : Int) < (x8.length : Int)) = true := decide_eq_true (by omega)
            have HN := Lib.hid (HBAD.out (fun h => hp h.1))
            clear hp HNX HBAD HKX
            go_wp2_with fail
            go_ret
            exact ⟨false, rfl, ⟨fun h => Bool.noConfusion h, fun h => absurd h HN.out⟩, HB0.out.trans (HB1.out.mono HB0.out.size)⟩
        · obtain rfl : k = s.cols.length := by omega
          have HPL : Hid (∀ c ∈ s.cols, c.plugs.length ≤ 12 ∧ c.tiers ≤ 12) := Lib.hid (all_memD HB.out.1)
          have HBS := Lib.hid HB.out.2
          have e1 : V.cell? ⟨w.heap.size, 1, none⟩ = some (.slice h.A2 s.covs.length h.c2) := (KE.out.below HBS.out KE.out.lt).cell 1
          clear HB
          go_upto_region 10 with fail
          clear e1
          obtain ⟨Y0, rfl⟩ : ∃ Y0, Y0 = V := ⟨_, rfl⟩
          go_loopw [37] (fun i wr => ∃ k : Nat, k ≤ s.covs.length ∧ i = .int .i64 k ∧ Hid ((∀ j, j < k → (s.covs.getD j default).rows.length ≤ 40) ∧ Below W.heap.size W wr)) (fun i _ => s.covs.length - (intOf i).toNat)
          case atStart => exact ⟨0, Nat.zero_le _, rfl, Lib.hid (And.intro (fun j hj => absurd hj (by omega)) HBS.out)⟩
          case round =>
            clear HBS
            try clear Y0
            obtain ⟨k, hk, rfl, HB⟩ := hrel
            obtain ⟨V, rfl⟩ : ∃ V, V = wr := ⟨_, rfl⟩
            by_cases hlt : k < s.covs.length
            · obtain ⟨b, off, Ap, p, hA, _, _, _, d0, d1⟩ := (HS.out.on HB.out.2).covs.cov hlt
              have i0 : (0 : Int) ≤ (k : Int) := by omega
              have i1 : (k : Int) < (s.covs.length : Int) := by omega
              have HNX : Hid ((s.covs.getD k default).rows.length ≤ 40 → ∀ j, j < k + 1 → (s.covs.getD j default).rows.length ≤ 40) := Lib.hid fun hg j hj => by
                rcases Nat.lt_succ_iff_lt_or_eq.1 hj with h | h
                · exact HB.out.1 j h
                · rw [h]; exact hg
              have HBAD : Hid (¬ (s.covs.getD k default).rows.length ≤ 40 → ¬ fewQ s) := Lib.hid fun hg hf => hg (hf.rows _ (getD_memD hlt default))
              have HBV := Lib.hid HB.out.2
              clear HB
              rw [hA]
              generalize s.covs.getD k default = x at *
              obtain ⟨x0, x1⟩ := x
              simp only at d0 d1 HNX HBAD
              have HKX := Lib.hid (Bk.new V 64 #[.int .i64 x0, .slice Ap x1.length p])
              have HB1 := Lib.hid (HBV.out.trans ((ba1 V (.cells #[.int .i64 x0, .slice Ap x1.length p] 64)).mono HBV.out.size))
              go_upto_region 12 with fail
              clear d0 d1 HBV
              generalize V.heap.size = gx at *
              generalize (V.alloc _) = V1 at *
              try clear V
              have y8 : V1.cell? ⟨gx, 1, none⟩ = some (.slice Ap x1.length p) := HKX.out.cell 1
              by_cases hp : x1.length ≤ 40
              · have u1 : decide (40 < x1.length) = false := decide_eq_false (by omega)
                have u2 : decide ((40 : Int) < (x1.length : Int)) = false := decide_eq_false (by omega)
                have HN := Lib.hid (And.intro (HNX.out hp) HB1.out)
                clear hp HNX HBAD HB1 HKX
                go_wp2_with fail
                go_roundw
                case rel => first | exact ⟨k + 1, by omega, by go_num, HN⟩ | ((repeat apply Exists.intro); (first | exact ⟨⟨k + 1, by omega, by go_num, HN⟩, rfl⟩ | exact ⟨by omega, by go_num, HN⟩))
                case measure => simp [intOf]; omega
              · have u1 : decide (40 < x1.length) = true := decide_eq_true (by omega)
                have u2 : decide ((40 : Int) < (x1.length : Int)) = true := decide_eq_true (by omega)
                have HN := Lib.hid (HBAD.out hp)
                clear hp HNX HBAD HKX
                go_wp2_with fail
                go_ret
                exact ⟨false, rfl, ⟨fun h => Bool.noConfusion h, fun h => absurd h HN.out⟩, HB0.out.trans (HB1.out.mono HB0.out.size)⟩
            · obtain rfl : k = s.covs.length := by omega
              have HF := Lib.hid (fewQ.mk h1 h2 HPL.out (all_memD HB.out.1))
              have HE := Lib.hid (HB0.out.trans (HB.out.2.mono HB0.out.size))
              clear HB
              go_wp2_with fail
              go_ret
              exact ⟨true, rfl, ⟨fun _ => HF.out, fun _ => rfl⟩, HE.out⟩
    · have c2 : decide (50 < s.covs.length) = true := decide_eq_true (by omega)
      have c2' : decide ((50 : Int) < (s.covs.length : Int)) = true := decide_eq_true (by omega)
      unfold shpA
      go_enter Tryd.func5, Tryd.ntmps5
      go_wp2_with fail
      go_ret
      exact ⟨false, rfl, ⟨fun h => Bool.noConfusion h, fun h => absurd h.covs h2⟩, HB0.out⟩
  · have c1 : decide (60 < s.cols.length) = true := decide_eq_true (by omega)
    have c1' : decide ((60 : Int) < (s.cols.length : Int)) = true := decide_eq_true (by omega)
    unfold shpA
    go_enter Tryd.func5, Tryd.ntmps5
    go_wp2_with fail
    go_ret
    exact ⟨false, rfl, ⟨fun h => Bool.noConfusion h, fun h => absurd h.cols h1⟩, HB0.out⟩
end Go.Proofs.YtpmhchbkhohmjaaDoor
