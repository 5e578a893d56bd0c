/-
  Few of law14, bounds of the slots, a box in a slot that came in.
-/
import Derived.Test.YtmhikcleekfbpaaGreatDoorSgP
import Derived.Test.YtmhikcleekfbpaaGreatDoorOpX
namespace Go.Proofs.YtmhikcleekfbpaaGreatDoor
open Go.RowKit

theorem all_memD {α : Type} {l : List α} {d : α} {p : α → Prop} (h : ∀ j, j < l.length → p (l.getD j d)) : ∀ x ∈ l, p x := fun x hx => by
  obtain ⟨i, hi, rfl⟩ := List.getElem_of_mem hx
  simpa [hi] using h i hi
/-- A ship, boxes and a state that are examined. -/
structure fewP14 (s : Shp) (boxes : List Bx) (l : List Stw) : Prop where
  cols : s.cols.length ≤ 20
  covs : s.covs.length ≤ 20
  nbx : boxes.length ≤ 40
  nst : l.length ≤ 30
  rows : ∀ x ∈ s.covs, x.rows.length ≤ 40
  each : ∀ c ∈ s.cols, c.plugs.length ≤ 12 ∧ c.tiers ≤ 12
def FewRet14 (s : Shp) (boxes : List Bx) (l : List Stw) (w : World) (e : Ending) (w' : World) : Prop := ∃ b, e = .returned (.bool b) ∧ (b = true → fewP14 s boxes l) ∧ Below w.heap.size w w'
set_option maxRecDepth 100000 in
set_option maxHeartbeats 4000000 in
theorem few14_any (s : Shp) (h : Hd) (A : Option Addr) (c : Nat) (boxes : List Bx) (A2 : Option Addr) (c2 : Nat) (l : List Stw) (w : World) (hs : ShpR w (Lt w.heap.size) s h) (hb : SlT tBx w (Lt w.heap.size) A boxes) (_hbc : boxes.length ≤ c) (_hcm : c ≤ maxLen) (_hlc : l.length ≤ c2) (_hcm2 : c2 ≤ maxLen) :
    Calls Tryz.prog 4 #[.agg (shpA s h), .slice A boxes.length c, .slice A2 l.length c2] w (FewRet14 s boxes l w) := by
  have hb0 := ba1 w (.cells (shpA s h) 32)
  have KE := Lib.hid (Bk.new w 32 (shpA s h))
  have HS := Lib.hid (hs.on hb0)
  have HBX := Lib.hid (hb.on hb0)
  have HB0 := Lib.hid hb0
  have hm := hs.m1
  have hm2 := hs.m2
  have hn1 := hs.n1
  have hn2 := hs.n2
  clear hs hb hb0
  unfold maxLen at *
  unfold shpA at *
  go_enter Tryz.func4, Tryz.ntmps4
  go_upto_region 1 with fail
  generalize hW : (w.alloc _) = W at *
  clear hW
  have e0 : W.cell? ⟨w.heap.size, 0, none⟩ = some (.slice h.A1 s.cols.length h.c1) := KE.out.cell 0
  have e1 : W.cell? ⟨w.heap.size, 1, none⟩ = some (.slice h.A2 s.covs.length h.c2) := KE.out.cell 1
  by_cases hp0 : s.cols.length ≤ 20
  · by_cases hp1 : s.covs.length ≤ 20
    · by_cases hp2 : boxes.length ≤ 40
      · by_cases hp3 : l.length ≤ 30
        · have u0a : decide (20 < s.cols.length) = false := decide_eq_false (by omega)
          have u0b : decide ((20 : Int) < (s.cols.length : Int)) = false := decide_eq_false (by omega)
          have u1a : decide (20 < s.covs.length) = false := decide_eq_false (by omega)
          have u1b : decide ((20 : Int) < (s.covs.length : Int)) = false := decide_eq_false (by omega)
          have u2a : decide (40 < boxes.length) = false := decide_eq_false (by omega)
          have u2b : decide ((40 : Int) < (boxes.length : Int)) = false := decide_eq_false (by omega)
          have u3a : decide (30 < l.length) = false := decide_eq_false (by omega)
          have u3b : decide ((30 : Int) < (l.length : Int)) = false := decide_eq_false (by omega)
          have hq0 := hp0
          have hq1 := hp1
          have hq2 := hp2
          have hq3 := hp3
          clear hp0 hp1 hp2 hp3
          go_upto_region 4 with fail
          clear e0 e1 u0a u0b u1a u1b u2a u2b u3a u3b
          have HBS := Lib.hid (Below.refl W.heap.size W)
          go_loopw [34] (fun i wr => ∃ k : Nat, k ≤ s.cols.length ∧ i = .int .i64 k ∧ Hid ((∀ j, j < k → (s.cols.getD j default).plugs.length ≤ 12 ∧ (s.cols.getD j default).tiers ≤ 12) ∧ Below W.heap.size W wr)) (fun i _ => s.cols.length - (intOf i).toNat)
          case atStart => exact ⟨0, Nat.zero_le _, rfl, Lib.hid (And.intro (fun j hj => absurd hj (by omega)) HBS.out)⟩
          case round =>
            clear HBS
            try clear Y0
            obtain ⟨k, hk, rfl, HB⟩ := hrel
            obtain ⟨V, rfl⟩ : ∃ V, V = wr := ⟨_, rfl⟩
            by_cases hlt : k < s.cols.length
            · obtain ⟨b, off, Ap, p, hA, _, hplc, _, d0, d1, d2, d3, d4, d5, d6, d7, d8, d9, d10, d11⟩ := (HS.out.on HB.out.2).cols.col hlt
              have i0 : (0 : Int) ≤ (k : Int) := by omega
              have i1 : (k : Int) < (s.cols.length : Int) := by omega
              have HNX : Hid (((s.cols.getD k default).plugs.length ≤ 12 ∧ (s.cols.getD k default).tiers ≤ 12) → ∀ j, j < k + 1 → (s.cols.getD j default).plugs.length ≤ 12 ∧ (s.cols.getD j default).tiers ≤ 12) := Lib.hid fun hg j hj => by
                rcases Nat.lt_succ_iff_lt_or_eq.1 hj with h | h
                · exact HB.out.1 j h
                · rw [h]; exact hg
              have HBV := Lib.hid HB.out.2
              clear HB
              rw [hA]
              generalize s.cols.getD k default = x at *
              obtain ⟨x0, x1, x2, x3, x4, x5, x6, x7, x8, x9, x10, x11⟩ := x
              simp only at d0 d1 d2 d3 d4 d5 d6 d7 d8 d9 d10 d11 HNX hplc
              have HKX := Lib.hid (Bk.new V 50 #[.int .i64 x0, .int .i64 x1, .bool x2, .int .i64 x3, .int .i64 x4, .int .i64 x5, .int .i64 x6, .int .i64 x7, .slice Ap x8.length p, .int .i64 x9, .int .i64 x10, .int .i64 x11])
              have HB1 := Lib.hid (HBV.out.trans ((ba1 V (.cells #[.int .i64 x0, .int .i64 x1, .bool x2, .int .i64 x3, .int .i64 x4, .int .i64 x5, .int .i64 x6, .int .i64 x7, .slice Ap x8.length p, .int .i64 x9, .int .i64 x10, .int .i64 x11] 50)).mono HBV.out.size))
              go_upto_region 6 with fail
              clear d0 d1 d2 d3 d4 d5 d6 d7 d8 d9 d10 d11 HBV
              generalize V.heap.size = gx at *
              generalize (V.alloc _) = V1 at *
              try clear V
              have y3 : V1.cell? ⟨gx, 3, none⟩ = some (.int .i64 x3) := HKX.out.cell 3
              have y8 : V1.cell? ⟨gx, 8, none⟩ = some (.slice Ap x8.length p) := HKX.out.cell 8
              by_cases hp0 : x8.length ≤ 12
              · by_cases hp1 : x3 ≤ 12
                · have u0a : decide (12 < x8.length) = false := decide_eq_false (by omega)
                  have u0b : decide ((12 : Int) < (x8.length : Int)) = false := decide_eq_false (by omega)
                  have v1 : decide ((12 : Int) < x3) = false := decide_eq_false (by omega)
                  have HNY := Lib.hid (HNX.out ⟨hp0, hp1⟩)
                  have HN := Lib.hid (And.intro HNY.out HB1.out)
                  clear HNX HNY HB1 HKX
                  go_wp2_with fail
                  go_roundw
                  case rel => first | exact ⟨k + 1, by omega, by go_num, HN⟩ | ((repeat apply Exists.intro); (first | exact ⟨⟨k + 1, by omega, by go_num, HN⟩, rfl⟩ | exact ⟨by omega, by go_num, HN⟩))
                  case measure => simp [intOf]; omega
                · have u0a : decide (12 < x8.length) = false := decide_eq_false (by omega)
                  have u0b : decide ((12 : Int) < (x8.length : Int)) = false := decide_eq_false (by omega)
                  have v1 : decide ((12 : Int) < x3) = true := decide_eq_true (by omega)
                  have HE := Lib.hid (HB0.out.trans (HB1.out.mono HB0.out.size))
                  go_wp2_with fail
                  go_ret
                  exact ⟨false, rfl, fun h => Bool.noConfusion h, HE.out⟩
              · have u0a : decide (12 < x8.length) = true := decide_eq_true (by omega)
                have u0b : decide ((12 : Int) < (x8.length : Int)) = true := decide_eq_true (by omega)
                have HE := Lib.hid (HB0.out.trans (HB1.out.mono HB0.out.size))
                go_wp2_with fail
                go_ret
                exact ⟨false, rfl, fun h => Bool.noConfusion h, HE.out⟩
            · obtain rfl : k = s.cols.length := by omega
              have HPL : Hid (∀ c ∈ s.cols, c.plugs.length ≤ 12 ∧ c.tiers ≤ 12) := Lib.hid (all_memD HB.out.1)
              have HBS := Lib.hid HB.out.2
              have e1 : V.cell? ⟨w.heap.size, 1, none⟩ = some (.slice h.A2 s.covs.length h.c2) := (KE.out.below HBS.out KE.out.lt).cell 1
              clear HB
              go_upto_region 10 with fail
              clear e1
              obtain ⟨Y0, rfl⟩ : ∃ Y0, Y0 = V := ⟨_, rfl⟩
              go_loopw [51] (fun i wr => ∃ k : Nat, k ≤ s.covs.length ∧ i = .int .i64 k ∧ Hid ((∀ j, j < k → (s.covs.getD j default).rows.length ≤ 40) ∧ Below W.heap.size W wr)) (fun i _ => s.covs.length - (intOf i).toNat)
              case atStart => exact ⟨0, Nat.zero_le _, rfl, Lib.hid (And.intro (fun j hj => absurd hj (by omega)) HBS.out)⟩
              case round =>
                clear HBS
                try clear Y0
                obtain ⟨k, hk, rfl, HB⟩ := hrel
                obtain ⟨V, rfl⟩ : ∃ V, V = wr := ⟨_, rfl⟩
                by_cases hlt : k < s.covs.length
                · obtain ⟨b, off, Ap, p, hA, _, hplc, _, d0, d1⟩ := (HS.out.on HB.out.2).covs.cov hlt
                  have i0 : (0 : Int) ≤ (k : Int) := by omega
                  have i1 : (k : Int) < (s.covs.length : Int) := by omega
                  have HNX : Hid ((s.covs.getD k default).rows.length ≤ 40 → ∀ j, j < k + 1 → (s.covs.getD j default).rows.length ≤ 40) := Lib.hid fun hg j hj => by
                    rcases Nat.lt_succ_iff_lt_or_eq.1 hj with h | h
                    · exact HB.out.1 j h
                    · rw [h]; exact hg
                  have HBV := Lib.hid HB.out.2
                  clear HB
                  rw [hA]
                  generalize s.covs.getD k default = x at *
                  obtain ⟨x0, x1⟩ := x
                  simp only at d0 d1 HNX hplc
                  have HKX := Lib.hid (Bk.new V 52 #[.int .i64 x0, .slice Ap x1.length p])
                  have HB1 := Lib.hid (HBV.out.trans ((ba1 V (.cells #[.int .i64 x0, .slice Ap x1.length p] 52)).mono HBV.out.size))
                  go_upto_region 12 with fail
                  clear d0 d1 HBV
                  generalize V.heap.size = gx at *
                  generalize (V.alloc _) = V1 at *
                  try clear V
                  have y8 : V1.cell? ⟨gx, 1, none⟩ = some (.slice Ap x1.length p) := HKX.out.cell 1
                  by_cases hp : x1.length ≤ 40
                  · have u1 : decide (40 < x1.length) = false := decide_eq_false (by omega)
                    have u2 : decide ((40 : Int) < (x1.length : Int)) = false := decide_eq_false (by omega)
                    have HN := Lib.hid (And.intro (HNX.out hp) HB1.out)
                    clear hp HNX HB1 HKX
                    go_wp2_with fail
                    go_roundw
                    case rel => first | exact ⟨k + 1, by omega, by go_num, HN⟩ | ((repeat apply Exists.intro); (first | exact ⟨⟨k + 1, by omega, by go_num, HN⟩, rfl⟩ | exact ⟨by omega, by go_num, HN⟩))
                    case measure => simp [intOf]; omega
                  · have u1 : decide (40 < x1.length) = true := decide_eq_true (by omega)
                    have u2 : decide ((40 : Int) < (x1.length : Int)) = true := decide_eq_true (by omega)
                    have HE := Lib.hid (HB0.out.trans (HB1.out.mono HB0.out.size))
                    clear hp HNX HKX
                    go_wp2_with fail
                    go_ret
                    exact ⟨false, rfl, fun h => Bool.noConfusion h, HE.out⟩
                · obtain rfl : k = s.covs.length := by omega
                  have HRW : Hid (∀ x ∈ s.covs, x.rows.length ≤ 40) := Lib.hid (all_memD HB.out.1)
                  have HBS := Lib.hid HB.out.2
                  clear HB
                  have HE := Lib.hid (HB0.out.trans (HBS.out.mono HB0.out.size))
                  go_wp2_with fail
                  go_ret
                  exact ⟨true, rfl, fun _ => ⟨hq0, hq1, hq2, hq3, HRW.out, HPL.out⟩, HE.out⟩
        · have u0a : decide (20 < s.cols.length) = false := decide_eq_false (by omega)
          have u0b : decide ((20 : Int) < (s.cols.length : Int)) = false := decide_eq_false (by omega)
          have u1a : decide (20 < s.covs.length) = false := decide_eq_false (by omega)
          have u1b : decide ((20 : Int) < (s.covs.length : Int)) = false := decide_eq_false (by omega)
          have u2a : decide (40 < boxes.length) = false := decide_eq_false (by omega)
          have u2b : decide ((40 : Int) < (boxes.length : Int)) = false := decide_eq_false (by omega)
          have u3a : decide (30 < l.length) = true := decide_eq_true (by omega)
          have u3b : decide ((30 : Int) < (l.length : Int)) = true := decide_eq_true (by omega)
          go_wp2_with fail
          go_ret
          exact ⟨false, rfl, fun h => Bool.noConfusion h, HB0.out⟩
      · have u0a : decide (20 < s.cols.length) = false := decide_eq_false (by omega)
        have u0b : decide ((20 : Int) < (s.cols.length : Int)) = false := decide_eq_false (by omega)
        have u1a : decide (20 < s.covs.length) = false := decide_eq_false (by omega)
        have u1b : decide ((20 : Int) < (s.covs.length : Int)) = false := decide_eq_false (by omega)
        have u2a : decide (40 < boxes.length) = true := decide_eq_true (by omega)
        have u2b : decide ((40 : Int) < (boxes.length : Int)) = true := decide_eq_true (by omega)
        go_wp2_with fail
        go_ret
        exact ⟨false, rfl, fun h => Bool.noConfusion h, HB0.out⟩
    · have u0a : decide (20 < s.cols.length) = false := decide_eq_false (by omega)
      have u0b : decide ((20 : Int) < (s.cols.length : Int)) = false := decide_eq_false (by omega)
      have u1a : decide (20 < s.covs.length) = true := decide_eq_true (by omega)
      have u1b : decide ((20 : Int) < (s.covs.length : Int)) = true := decide_eq_true (by omega)
      go_wp2_with fail
      go_ret
      exact ⟨false, rfl, fun h => Bool.noConfusion h, HB0.out⟩
  · have u0a : decide (20 < s.cols.length) = true := decide_eq_true (by omega)
    have u0b : decide ((20 : Int) < (s.cols.length : Int)) = true := decide_eq_true (by omega)
    go_wp2_with fail
    go_ret
    exact ⟨false, rfl, fun h => Bool.noConfusion h, HB0.out⟩

theorem halves_leG (size : Nat) : (halvesL size).length ≤ 2 := by unfold halvesL; split <;> (try split) <;> simp
theorem colSl_lenG (c size : Nat) : ∀ T, (colSlots c size T).length ≤ 2 * T
  | 0 => by simp [colSlots]
  | T + 1 => by
    have h1 := colSl_lenG c size T
    have h2 := halves_leG size
    rw [colSlots_succ, List.length_append]
    have h3 : (tierSlots c T size).length = (halvesL size).length := by simp [tierSlots]
    omega
theorem colsTo_lenG {s : Shp} (hT : ∀ c, tiersN s c ≤ 12) (size : Nat) : ∀ n, (colsTo s size n).length ≤ 24 * n
  | 0 => by simp [colsTo]
  | n + 1 => by
    have h1 := colsTo_lenG hT size n
    have h2 := colSl_lenG n size (tiersN s n)
    have h3 := hT n
    rw [colsTo_succ, List.length_append]
    omega
theorem all_leG {s : Shp} (hT : ∀ c, tiersN s c ≤ 12) (hc : s.cols.length ≤ 60) (size : Nat) : (allF s size).length ≤ 1000000 := by
  have h1 := colsTo_lenG hT size s.cols.length
  unfold allF
  omega
theorem tiers_leG {s : Shp} (h : ∀ c ∈ s.cols, c.tiers ≤ 12) (c : Nat) : tiersN s c ≤ 12 := by
  unfold tiersN
  by_cases hc : c < s.cols.length
  · have := h _ (getD_memD hc default)
    omega
  · rw [List.getD_eq_getElem?_getD, List.getElem?_eq_none (by omega)]
    decide
end Go.Proofs.YtmhikcleekfbpaaGreatDoor
namespace Go.Proofs.YtmhikcleekfbpaaGreatDoor
open Go.ChangeShapes Go.WideShapes Go.ChangeAt Go.RowKit

section
variable {H : Type} {enc : TypeId × Value → H} {W : World}
set_option maxRecDepth 100000 in
theorem open_stw {base : Nat} {r : Reach} {v : Value} {d : DataW H} {p : List MemPlace} (hv : Value.okWide Tryz.prog W r base 38 v) (h : DataW.Trod enc Tryz.prog W 0 (fun _ => true) true 38 v d p) :
    ∃ x : Stw, v = .agg (stwL x).toArray ∧ I64 x.box ∧ SltI x.slot := by
  obtain ⟨cs, rfl, hsz⟩ := okWide_struct Tryz.underlying38 hv
  obtain ⟨fuel, hf⟩ := h
  obtain ⟨x, hx, hq⟩ := opens_stw _ _ _ hf
  refine ⟨x, ?_, hq⟩
  have hx : cs.toList = stwL x := by simpa [Value.cells, tStw] using hx
  rw [← hx]
end
end Go.Proofs.YtmhikcleekfbpaaGreatDoor
