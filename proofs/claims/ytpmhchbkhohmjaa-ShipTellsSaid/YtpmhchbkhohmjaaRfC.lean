/-
  Walks of the reference of chapter 07: inside, Find, CoverOf, Along, Tallest, Places.
-/
import Derived.Test.YtpmhchbkhohmjaaRfB
namespace Go.Proofs.Ytpmhchbkhohmjaa
open Go.RowKit

theorem pick_hit {α : Type} {p : α → Bool} {l : List α} {i : Nat} {d : α} (h0 : pick p (l.take i) = []) (hi : i < l.length) (hp : p (l.getD i d) = true) : ∃ r, pick p l = (i : Int) :: r := by
  have h1 := pick_take p hi d
  rw [h0, if_pos hp] at h1
  refine ⟨pickFrom p (l.drop (i + 1)) (0 + (l.take (i + 1)).length), ?_⟩
  show pickFrom p l 0 = _
  conv => lhs; rw [← List.take_append_drop (i + 1) l, pickFrom_append]
  rw [show pickFrom p (l.take (i + 1)) 0 = [(i : Int)] from h1]
  rfl
theorem pick_next {α : Type} {p : α → Bool} {l : List α} {i : Nat} {d : α} (h0 : pick p (l.take i) = []) (hi : i < l.length) (hp : p (l.getD i d) = false) : pick p (l.take (i + 1)) = [] := by
  rw [pick_take p hi d, h0, hp]; simp
theorem pickFrom_pos {α : Type} (p : α → Bool) : ∀ (l : List α) (k : Nat), decide (0 < (pickFrom p l k).length) = l.any p
  | [], _ => rfl
  | x :: l, k => by
    have ih := pickFrom_pos p l (k + 1)
    unfold pickFrom
    rw [List.any_cons]
    split
    · rename_i h; rw [h]; simp
    · rename_i h
      have h' : p x = false := by simpa using h
      rw [ih, h']
      simp
set_option maxRecDepth 100000 in
set_option maxHeartbeats 4000000 in
theorem inside_any (A : Option Addr) (c : Nat) (l : List Int) (row : Int) (w : World) (hs : SlT tInt w (Lt w.heap.size) A l) (hl : l.length ≤ 17592186043904) :
    Calls Try.prog 38 #[.slice A l.length c, .int .i64 row] w (Ret w (.bool (decide (0 < (pick (· == row) l).length)))) := by
  have HV : Hid (decide (0 < (pick (· == row) l).length) = l.any (· == row)) := Lib.hid (pickFrom_pos _ _ _)
  generalize decide (0 < (pick (· == row) l).length) = r at *
  have HS := Lib.hid hs
  clear hs
  go_enter Try.func38, Try.ntmps38
  go_wp2_with fail
  go_loopw [5] (fun i wr => ∃ k : Nat, k ≤ l.length ∧ i = .int .i64 k ∧ Hid ((∀ j, j < k → l.getD j 0 ≠ row) ∧ Below w.heap.size w wr)) (fun i _ => l.length - (intOf i).toNat)
  case atStart => exact ⟨0, Nat.zero_le _, rfl, Lib.hid (And.intro (fun j hj => absurd hj (by omega)) (Below.refl _ _))⟩
  case round =>
    obtain ⟨k, hk, rfl, HB⟩ := hrel
    obtain ⟨V, rfl⟩ : ∃ V, V = wr := ⟨_, rfl⟩
    by_cases hlt : k < l.length
    · obtain ⟨b1, o1, rfl, _, e1⟩ := (HS.out.on HB.out.2).int hlt
      have i0 : (0 : Int) ≤ (k : Int) := by omega
      have i1 : (k : Int) < (l.length : Int) := by omega
      by_cases hx : l.getD k 0 = row
      · have HY : Hid (r = true) := Lib.hid (by rw [HV.out]; exact List.any_eq_true.2 ⟨_, getD_memD hlt 0, by simpa using hx⟩)
        have b1 : (l.getD k 0 == row) = true := by simpa using hx
        have HE := Lib.hid HB.out.2
        clear hx HB
        generalize l.getD k 0 = x at *
        go_wp2_with fail
        go_ret
        exact ⟨by rw [HY.out]; rfl, HE.out⟩
      · have b1 : (l.getD k 0 == row) = false := by simpa using hx
        have HN := Lib.hid (And.intro (show ∀ j, j < k + 1 → l.getD j 0 ≠ row from fun j hj => by
          rcases Nat.lt_succ_iff_lt_or_eq.1 hj with h | h
          · exact HB.out.1 j h
          · rw [h]; exact hx) HB.out.2)
        clear hx HB
        generalize l.getD k 0 = x at *
        go_wp2_with fail
        go_roundw
        case rel => first | exact ⟨k + 1, by omega, by go_num, HN⟩ | ((repeat apply Exists.intro); (first | exact ⟨⟨k + 1, by omega, by go_num, HN⟩, rfl⟩ | exact ⟨by omega, by go_num, HN⟩))
        case measure => simp [intOf]; omega
    · obtain rfl : k = l.length := by omega
      have HY : Hid (r = false) := Lib.hid (by
        rw [HV.out, List.any_eq_false]
        intro x hx
        obtain ⟨j, hj, rfl⟩ := List.getElem_of_mem hx
        have := HB.out.1 j hj
        simpa [hj] using this)
      have HE := Lib.hid HB.out.2
      clear HB
      go_wp2_with fail
      go_ret
      exact ⟨by rw [HY.out]; rfl, HE.out⟩
set_option maxRecDepth 100000 in
set_option maxHeartbeats 4000000 in
theorem refFind_any (s : Shp) (h : Hd) (bay row : Int) (deck : Bool) (w : World) (hs : ShpR w (Lt w.heap.size) s h) (hl : s.cols.length ≤ 1000000) :
    Calls Try.prog 9 #[.agg (shpA s h), .int .i64 bay, .int .i64 row, .bool deck] w (Ret w (.tuple #[.int .i64 (findF s bay row deck).1, .bool (findF s bay row deck).2])) := by
  have hb0 := ba1 w (.cells (shpA s h) 32)
  have KE := Lib.hid (Bk.new w 32 (shpA s h))
  have HS := Lib.hid (hs.on hb0)
  have HB0 := Lib.hid hb0
  clear hs hb0
  unfold shpA at *
  go_enter Try.func9, Try.ntmps9
  go_upto_region 1 with fail
  generalize hW : (w.alloc _) = W at *
  clear hW
  go_wp2_with fail
  go_loopw [10] (fun i wr => ∃ k : Nat, k ≤ s.cols.length ∧ i = .int .i64 k ∧ Hid (pick (findB bay row deck) (s.cols.take k) = [] ∧ Below W.heap.size W wr)) (fun i _ => s.cols.length - (intOf i).toNat)
  case atStart => exact ⟨0, Nat.zero_le _, rfl, Lib.hid (And.intro rfl (Below.refl _ _))⟩
  case round =>
    obtain ⟨k, hk, rfl, HB⟩ := hrel
    obtain ⟨V, rfl⟩ : ∃ V, V = wr := ⟨_, rfl⟩
    have e0 : V.cell? ⟨w.heap.size, 0, none⟩ = some (.slice h.A1 s.cols.length h.c1) := (KE.out.below HB.out.2 KE.out.lt).cell 0
    by_cases hlt : k < s.cols.length
    · skip
      obtain ⟨b1, o1, Ap1, p1', hA1, _, _, _, a0, a1, a2, a3, _⟩ := (HS.out.on HB.out.2).cols.col hlt
      rw [hA1] at e0
      clear hA1
      have i0 : (0 : Int) ≤ (k : Int) := by omega
      have i1 : (k : Int) < (s.cols.length : Int) := by omega
      cases p1 : ((s.cols.getD k default).bay == bay) with
      | false =>
        have HQ : Hid (findB bay row deck (s.cols.getD k default) = false) := Lib.hid (by unfold findB; simp only [p1, Bool.false_and, Bool.and_false, Bool.and_true])
        have HN := Lib.hid (And.intro (pick_next HB.out.1 hlt (d := default) HQ.out) HB.out.2)
        clear HB HQ
        generalize (s.cols.getD k default).bay = xb at *
        generalize (s.cols.getD k default).row = xr at *
        generalize (s.cols.getD k default).deck = xd at *
        go_wp2_with fail
        go_roundw
        case rel => first | exact ⟨k + 1, by omega, by go_num, HN⟩ | ((repeat apply Exists.intro); (first | exact ⟨⟨k + 1, by omega, by go_num, HN⟩, rfl⟩ | exact ⟨by omega, by go_num, HN⟩))
        case measure => simp [intOf]; omega
      | true =>
        cases p2 : ((s.cols.getD k default).row == row) with
        | false =>
          have HQ : Hid (findB bay row deck (s.cols.getD k default) = false) := Lib.hid (by unfold findB; simp only [p1, p2, Bool.false_and, Bool.and_false, Bool.and_true])
          have HN := Lib.hid (And.intro (pick_next HB.out.1 hlt (d := default) HQ.out) HB.out.2)
          clear HB HQ
          generalize (s.cols.getD k default).bay = xb at *
          generalize (s.cols.getD k default).row = xr at *
          generalize (s.cols.getD k default).deck = xd at *
          go_wp2_with fail
          go_roundw
          case rel => first | exact ⟨k + 1, by omega, by go_num, HN⟩ | ((repeat apply Exists.intro); (first | exact ⟨⟨k + 1, by omega, by go_num, HN⟩, rfl⟩ | exact ⟨by omega, by go_num, HN⟩))
          case measure => simp [intOf]; omega
        | true =>
          cases p3 : ((s.cols.getD k default).deck == deck) with
          | false =>
            have HQ : Hid (findB bay row deck (s.cols.getD k default) = false) := Lib.hid (by unfold findB; simp only [p1, p2, p3, Bool.false_and, Bool.and_false, Bool.and_true])
            have HN := Lib.hid (And.intro (pick_next HB.out.1 hlt (d := default) HQ.out) HB.out.2)
            clear HB HQ
            generalize (s.cols.getD k default).bay = xb at *
            generalize (s.cols.getD k default).row = xr at *
            generalize (s.cols.getD k default).deck = xd at *
            go_wp2_with fail
            go_roundw
            case rel => first | exact ⟨k + 1, by omega, by go_num, HN⟩ | ((repeat apply Exists.intro); (first | exact ⟨⟨k + 1, by omega, by go_num, HN⟩, rfl⟩ | exact ⟨by omega, by go_num, HN⟩))
            case measure => simp [intOf]; omega
          | true =>
            have HQ : Hid (findB bay row deck (s.cols.getD k default) = true) := Lib.hid (by unfold findB; simp only [p1, p2, p3, Bool.false_and, Bool.and_false, Bool.and_true])
            obtain ⟨rr, hr⟩ := pick_hit HB.out.1 hlt (d := default) HQ.out
            have HR : Hid (findF s bay row deck = ((k : Int), true)) := Lib.hid (by unfold findF; rw [hr])
            have HE := Lib.hid HB.out.2
            clear hr HB HQ rr
            generalize (s.cols.getD k default).bay = xb at *
            generalize (s.cols.getD k default).row = xr at *
            generalize (s.cols.getD k default).deck = xd at *
            go_wp2_with fail
            go_ret2
            exact ⟨by rw [HR.out]; rfl, HB0.out.trans (HE.out.mono HB0.out.size)⟩
    · obtain rfl : k = s.cols.length := by omega
      have HR : Hid (findF s bay row deck = (0, false)) := Lib.hid (by have := HB.out.1; rw [List.take_length] at this; unfold findF; rw [this])
      have HE := Lib.hid HB.out.2
      clear HB
      go_wp2_with fail
      go_ret2
      exact ⟨by rw [HR.out]; rfl, HB0.out.trans (HE.out.mono HB0.out.size)⟩
set_option maxRecDepth 100000 in
set_option maxHeartbeats 4000000 in
theorem refCoverOf_out (s : Shp) (h : Hd) (k : Int) (w : World) (hk : k < 0 ∨ (s.cols.length : Int) ≤ k) :
    Calls Try.prog 13 #[.agg (shpA s h), .int .i64 k] w (Ret w (.int .i64 (coverOfF s k))) := by
  have HV : Hid (coverOfF s k = -1) := Lib.hid (by unfold coverOfF; rw [if_pos hk])
  unfold shpA
  have hc : k < 0 ∨ (0 ≤ k ∧ (s.cols.length : Int) ≤ k) := by omega
  clear hk
  rcases hc with h1 | ⟨h1, h2⟩
  all_goals
    go_enter Try.func13, Try.ntmps13
    go_wp2
    go_ret
    exact ⟨by rw [HV.out]; rfl, ba1 w _⟩
set_option maxRecDepth 100000 in
set_option maxHeartbeats 4000000 in
theorem refCoverOf_in (s : Shp) (h : Hd) (c : Nat) (w : World) (hs : ShpR w (Lt w.heap.size) s h) (hf : Few s) (hc : c < s.cols.length) :
    Calls Try.prog 13 #[.agg (shpA s h), .int .i64 c] w (Ret w (.int .i64 (coverOfF s c))) := by
  have hb0 := ba1 w (.cells (shpA s h) 32)
  have KE := Lib.hid (Bk.new w 32 (shpA s h))
  have HS := Lib.hid (hs.on hb0)
  have HB0 := Lib.hid hb0
  clear hs hb0
  unfold shpA at *
  have hcl := hf.covs
  have HF := Lib.hid hf
  clear hf
  have k1 : (c : Int) < (s.cols.length : Int) := by omega
  have k2 : (0 : Int) ≤ (c : Int) := by omega
  have q0 : decide ((c : Int) < 0) = false := by simp
  have q1 : decide (s.cols.length ≤ c) = false := by simp; omega
  go_enter Try.func13, Try.ntmps13
  go_upto_region 3 with fail
  clear q0 q1
  generalize hW : (w.alloc _) = W at *
  clear hW
  go_wp2_with fail
  go_loopw [5] (fun i wr => ∃ k : Nat, k ≤ s.covs.length ∧ i = .int .i64 k ∧ Hid (pick (fun x => covB x (s.cols.getD c default)) (s.covs.take k) = [] ∧ Below W.heap.size W wr)) (fun i _ => s.covs.length - (intOf i).toNat)
  case atStart => exact ⟨0, Nat.zero_le _, rfl, Lib.hid (And.intro rfl (Below.refl _ _))⟩
  case round =>
    obtain ⟨k, hk, rfl, HB⟩ := hrel
    obtain ⟨V, rfl⟩ : ∃ V, V = wr := ⟨_, rfl⟩
    have e1 : V.cell? ⟨w.heap.size, 1, none⟩ = some (.slice h.A2 s.covs.length h.c2) := (KE.out.below HB.out.2 KE.out.lt).cell 1
    by_cases hlt : k < s.covs.length
    · have e0 : V.cell? ⟨w.heap.size, 0, none⟩ = some (.slice h.A1 s.cols.length h.c1) := (KE.out.below HB.out.2 KE.out.lt).cell 0
      obtain ⟨b1, o1, Ap1, q1, hA1, _, _, hs1, a0, a1⟩ := (HS.out.on HB.out.2).covs.cov hlt
      obtain ⟨b2, o2, Ap2, q2, hA2, _, _, _, d0, d1, _⟩ := (HS.out.on HB.out.2).cols.col hc
      rw [hA1] at e1
      rw [hA2] at e0
      clear hA1 hA2
      have i0 : (0 : Int) ≤ (k : Int) := by omega
      have i1 : (k : Int) < (s.covs.length : Int) := by omega
      have hrl := HF.out.rows _ (getD_memD hlt default)
      have KI := Lib.hid (fun (V' : World) (hV : Below V.heap.size V V') => inside_any Ap1 q1 (s.covs.getD k default).rows (s.cols.getD c default).row V' (hs1.on hV) (by omega))
      clear hs1 hrl
      generalize hq : decide (0 < (pick (· == (s.cols.getD c default).row) (s.covs.getD k default).rows).length) = q at *
      cases p1 : ((s.covs.getD k default).bay == (s.cols.getD c default).bay) with
      | false =>
        have HQ : Hid (covB (s.covs.getD k default) (s.cols.getD c default) = false) := Lib.hid (by unfold covB; simp only [p1, Bool.false_and])
        have HQ : Hid ((fun x => covB x (s.cols.getD c default)) (s.covs.getD k default) = false) := HQ
        have HN0 := Lib.hid (pick_next HB.out.1 hlt (d := default) HQ.out)
        clear HQ
        generalize hcc : s.covs.getD k default = x at *
        generalize hcd : s.cols.getD c default = y at *
        clear hcc hcd
        obtain ⟨xb, xrows⟩ := x
        obtain ⟨yb, yr, yd, _, _, _, _, _, _, _, _, _⟩ := y
        simp only at a0 a1 d0 d1 KI p1
        go_upto_region 6 with fail
        have e0 : ∀ p : Gr V, p.W.cell? ⟨w.heap.size, 0, none⟩ = some (.slice (some ⟨b2, o2, none⟩) s.cols.length h.c1) := Gr.cell e0
        have e1 : ∀ p : Gr V, p.W.cell? ⟨w.heap.size, 1, none⟩ = some (.slice (some ⟨b1, o1, none⟩) s.covs.length h.c2) := Gr.cell e1
        have a0 : ∀ p : Gr V, p.W.cell? ⟨b1, o1 + k * 2, none⟩ = some (.int .i64 xb) := Gr.cell a0
        have a1 : ∀ p : Gr V, p.W.cell? ⟨b1, o1 + k * 2 + 1, none⟩ = some (.slice Ap1 xrows.length q1) := Gr.cell a1
        have d0 : ∀ p : Gr V, p.W.cell? ⟨b2, o2 + c * 12, none⟩ = some (.int .i64 yb) := Gr.cell d0
        have d1 : ∀ p : Gr V, p.W.cell? ⟨b2, o2 + c * 12 + 1, none⟩ = some (.int .i64 yr) := Gr.cell d1
        refine wp_region_gr (by kernel_rfl) (by kernel_rfl) ?_
        repeat (go_big_quiet_step ((with_reducible exact Gr.call _ (fun V hV => KI.out V hV))))
        refine wpQuiet_nil ?_
        rintro Y ⟨⟨_, hbY⟩, rfl⟩
        clear e0 e1 a0 a1 d0 d1 KI
        have HN := Lib.hid (And.intro HN0.out (HB.out.2.trans (hbY.mono HB.out.2.size)))
        clear hbY HB HN0
        go_wp2_with fail
        go_roundw
        case rel => first | exact ⟨k + 1, by omega, by go_num, HN⟩ | ((repeat apply Exists.intro); (first | exact ⟨⟨k + 1, by omega, by go_num, HN⟩, rfl⟩ | exact ⟨by omega, by go_num, HN⟩))
        case measure => simp [intOf]; omega
      | true =>
        cases q with
        | false =>
          have HQ : Hid (covB (s.covs.getD k default) (s.cols.getD c default) = false) := Lib.hid (by unfold covB; simp only [p1, hq, Bool.and_false])
          have HQ : Hid ((fun x => covB x (s.cols.getD c default)) (s.covs.getD k default) = false) := HQ
          have HN0 := Lib.hid (pick_next HB.out.1 hlt (d := default) HQ.out)
          clear HQ
          generalize hcc : s.covs.getD k default = x at *
          generalize hcd : s.cols.getD c default = y at *
          clear hcc hcd
          obtain ⟨xb, xrows⟩ := x
          obtain ⟨yb, yr, yd, _, _, _, _, _, _, _, _, _⟩ := y
          simp only at a0 a1 d0 d1 KI p1
          go_upto_region 6 with fail
          have e0 : ∀ p : Gr V, p.W.cell? ⟨w.heap.size, 0, none⟩ = some (.slice (some ⟨b2, o2, none⟩) s.cols.length h.c1) := Gr.cell e0
          have e1 : ∀ p : Gr V, p.W.cell? ⟨w.heap.size, 1, none⟩ = some (.slice (some ⟨b1, o1, none⟩) s.covs.length h.c2) := Gr.cell e1
          have a0 : ∀ p : Gr V, p.W.cell? ⟨b1, o1 + k * 2, none⟩ = some (.int .i64 xb) := Gr.cell a0
          have a1 : ∀ p : Gr V, p.W.cell? ⟨b1, o1 + k * 2 + 1, none⟩ = some (.slice Ap1 xrows.length q1) := Gr.cell a1
          have d0 : ∀ p : Gr V, p.W.cell? ⟨b2, o2 + c * 12, none⟩ = some (.int .i64 yb) := Gr.cell d0
          have d1 : ∀ p : Gr V, p.W.cell? ⟨b2, o2 + c * 12 + 1, none⟩ = some (.int .i64 yr) := Gr.cell d1
          refine wp_region_gr (by kernel_rfl) (by kernel_rfl) ?_
          repeat (go_big_quiet_step ((with_reducible exact Gr.call _ (fun V hV => KI.out V hV))))
          refine wpQuiet_nil ?_
          rintro Y ⟨⟨_, hbY⟩, rfl⟩
          clear e0 e1 a0 a1 d0 d1 KI
          have HN := Lib.hid (And.intro HN0.out (HB.out.2.trans (hbY.mono HB.out.2.size)))
          clear hbY HB HN0
          go_wp2_with fail
          go_roundw
          case rel => first | exact ⟨k + 1, by omega, by go_num, HN⟩ | ((repeat apply Exists.intro); (first | exact ⟨⟨k + 1, by omega, by go_num, HN⟩, rfl⟩ | exact ⟨by omega, by go_num, HN⟩))
          case measure => simp [intOf]; omega
        | true =>
          have HQ : Hid (covB (s.covs.getD k default) (s.cols.getD c default) = true) := Lib.hid (by unfold covB; simp only [p1, hq, Bool.and_true])
          have HQ : Hid ((fun x => covB x (s.cols.getD c default)) (s.covs.getD k default) = true) := HQ
          obtain ⟨rr, hr⟩ := pick_hit HB.out.1 hlt (d := default) HQ.out
          have HR : Hid (coverOfF s c = (k : Int)) := Lib.hid (by unfold coverOfF; rw [if_neg (by omega), Int.toNat_natCast, hr])
          clear hr HQ rr
          generalize hcc : s.covs.getD k default = x at *
          generalize hcd : s.cols.getD c default = y at *
          clear hcc hcd
          obtain ⟨xb, xrows⟩ := x
          obtain ⟨yb, yr, yd, _, _, _, _, _, _, _, _, _⟩ := y
          simp only at a0 a1 d0 d1 KI p1
          go_upto_region 6 with fail
          have e0 : ∀ p : Gr V, p.W.cell? ⟨w.heap.size, 0, none⟩ = some (.slice (some ⟨b2, o2, none⟩) s.cols.length h.c1) := Gr.cell e0
          have e1 : ∀ p : Gr V, p.W.cell? ⟨w.heap.size, 1, none⟩ = some (.slice (some ⟨b1, o1, none⟩) s.covs.length h.c2) := Gr.cell e1
          have a0 : ∀ p : Gr V, p.W.cell? ⟨b1, o1 + k * 2, none⟩ = some (.int .i64 xb) := Gr.cell a0
          have a1 : ∀ p : Gr V, p.W.cell? ⟨b1, o1 + k * 2 + 1, none⟩ = some (.slice Ap1 xrows.length q1) := Gr.cell a1
          have d0 : ∀ p : Gr V, p.W.cell? ⟨b2, o2 + c * 12, none⟩ = some (.int .i64 yb) := Gr.cell d0
          have d1 : ∀ p : Gr V, p.W.cell? ⟨b2, o2 + c * 12 + 1, none⟩ = some (.int .i64 yr) := Gr.cell d1
          refine wp_region_gr (by kernel_rfl) (by kernel_rfl) ?_
          repeat (go_big_quiet_step ((with_reducible exact Gr.call _ (fun V hV => KI.out V hV))))
          refine wpQuiet_nil ?_
          rintro Y ⟨⟨_, hbY⟩, rfl⟩
          clear e0 e1 a0 a1 d0 d1 KI
          have HE := Lib.hid (HB0.out.trans ((HB.out.2.trans (hbY.mono HB.out.2.size)).mono HB0.out.size))
          clear hbY HB
          go_wp2_with fail
          go_ret
          exact ⟨by rw [HR.out]; rfl, HE.out⟩
    · obtain rfl : k = s.covs.length := by omega
      have HR : Hid (coverOfF s c = -1) := Lib.hid (by have := HB.out.1; rw [List.take_length] at this; unfold coverOfF; rw [if_neg (by omega), Int.toNat_natCast, this])
      have HE := Lib.hid HB.out.2
      clear HB
      go_wp2_with fail
      go_ret
      exact ⟨by rw [HR.out]; rfl, HB0.out.trans (HE.out.mono HB0.out.size)⟩
theorem refCoverOf_any (s : Shp) (h : Hd) (k : Int) (w : World) (hs : ShpR w (Lt w.heap.size) s h) (hf : Few s) :
    Calls Try.prog 13 #[.agg (shpA s h), .int .i64 k] w (Ret w (.int .i64 (coverOfF s k))) := by
  by_cases hk : k < 0 ∨ (s.cols.length : Int) ≤ k
  · exact refCoverOf_out s h k w hk
  · obtain ⟨n, rfl⟩ := Int.eq_ofNat_of_zero_le (show 0 ≤ k by omega)
    exact refCoverOf_in s h n w hs hf (by omega)
end Go.Proofs.Ytpmhchbkhohmjaa
