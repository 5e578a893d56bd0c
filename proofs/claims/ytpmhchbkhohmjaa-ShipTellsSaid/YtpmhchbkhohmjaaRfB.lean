/-
  Walks of the reference of chapter 07: Beside.
-/
import Derived.Test.YtpmhchbkhohmjaaRfA
import Derived.Test.YtpmhchbkhohmjaaB4
namespace Go.Proofs.Ytpmhchbkhohmjaa
open Go.RowKit

theorem besB_self (a : Col) : besB a a = false := by unfold besB; simp
theorem besB_no {a x : Col} (h : x.row = a.row ∨ (a.row < x.row ∧ a.row + 1 ≠ x.row) ∨ (x.row < a.row ∧ x.row + 1 ≠ a.row)) : besB a x = false := by
  unfold besB
  have : (decide (a.row < x.row) && (x.row - 1 == a.row) || decide (x.row < a.row) && (x.row + 1 == a.row)) = false := by
    simp only [Bool.or_eq_false_iff, Bool.and_eq_false_iff, decide_eq_false_iff_not, beq_eq_false_iff_ne]
    omega
  rw [this]; simp
theorem besB_yes {a x : Col} (h : (a.row < x.row ∧ a.row + 1 = x.row) ∨ (x.row < a.row ∧ x.row + 1 = a.row)) : besB a x = (x.bay == a.bay && x.deck == a.deck) := by
  unfold besB
  have : (decide (a.row < x.row) && (x.row - 1 == a.row) || decide (x.row < a.row) && (x.row + 1 == a.row)) = true := by
    simp only [Bool.or_eq_true, Bool.and_eq_true, decide_eq_true_eq, beq_iff_eq]
    omega
  rw [this]; simp
set_option maxRecDepth 100000 in
set_option maxHeartbeats 4000000 in
theorem refBeside_out (s : Shp) (h : Hd) (k : Int) (w : World) (hk : k < 0 ∨ (s.cols.length : Int) ≤ k) :
    Calls Try.prog 26 #[.agg (shpA s h), .int .i64 k] w (OwnInts w (besideF s k)) := by
  have HV : Hid (besideF s k = []) := Lib.hid (by unfold besideF; rw [if_pos hk])
  unfold shpA
  have hc : k < 0 ∨ (0 ≤ k ∧ (s.cols.length : Int) ≤ k) := by omega
  clear hk
  rcases hc with h1 | ⟨h1, h2⟩
  all_goals
    go_enter Try.func26, Try.ntmps26
    go_wp2
    go_ret
    exact ⟨_, rfl, by rw [HV.out]; exact OwnT.nil, ba1 w _⟩
set_option maxRecDepth 100000 in
set_option maxHeartbeats 4000000 in
theorem refBeside_in (s : Shp) (h : Hd) (k : Nat) (w : World) (hs : ShpR w (Lt w.heap.size) s h) (hl : s.cols.length ≤ 1000000) (hr : ∀ c ∈ s.cols, I64 c.row) (hk : k < s.cols.length) :
    Calls Try.prog 26 #[.agg (shpA s h), .int .i64 k] w (OwnInts w (besideF s k)) := by
  have HV : Hid (besideF s k = pick (besB (s.cols.getD k default)) s.cols) := Lib.hid (by unfold besideF; rw [if_neg (by omega), Int.toNat_natCast])
  have hb0 := ba1 w (.cells (shpA s h) 32)
  have KE := Lib.hid (Bk.new w 32 (shpA s h))
  have HS := Lib.hid (hs.on hb0)
  have HB0 := Lib.hid hb0
  have HR := Lib.hid hr
  clear hs hb0 hr
  have k1 : (k : Int) < (s.cols.length : Int) := by omega
  have k2 : (0 : Int) ≤ (k : Int) := by omega
  have q0 : decide ((k : Int) < 0) = false := by simp
  have q1 : decide (s.cols.length ≤ k) = false := by simp; omega
  unfold shpA at *
  go_enter Try.func26, Try.ntmps26
  go_upto_region 4 with fail
  clear q0 q1
  generalize hW : (w.alloc _) = W at *
  clear hW
  go_wp2_with fail
  go_loopw [5, 6] (fun v i wr => ∃ i0 : Nat, i0 ≤ s.cols.length ∧ i = .int .i64 i0 ∧ Hid (OwnT tInt 3 wr W.heap.size v (pick (besB (s.cols.getD k default)) (s.cols.take i0)) ∧ Below W.heap.size W wr)) (fun _ i _ => s.cols.length - (intOf i).toNat)
  case atStart => exact ⟨0, Nat.zero_le _, rfl, Lib.hid (And.intro OwnT.nil (Below.refl _ _))⟩
  case round =>
    obtain ⟨i, hi, rfl, HB⟩ := hrel
    obtain ⟨V, rfl⟩ : ∃ V, V = wr := ⟨_, rfl⟩
    have e0 : V.cell? ⟨w.heap.size, 0, none⟩ = some (.slice h.A1 s.cols.length h.c1) := (KE.out.below HB.out.2 KE.out.lt).cell 0
    by_cases hlt : i < s.cols.length
    · obtain ⟨b1, o1, Ap1, p1, hA1, _, _, _, a0, a1, a2, _⟩ := (HS.out.on HB.out.2).cols.col hlt
      obtain ⟨b2, o2, Ap2, p2, hA2, _, _, _, d0, d1, d2, _⟩ := (HS.out.on HB.out.2).cols.col hk
      rw [hA1] at hA2
      injection hA2 with hA2
      injection hA2 with e1 e2
      subst e1 e2
      rw [hA1] at e0
      clear hA1
      have i0 : (0 : Int) ≤ (i : Int) := by omega
      have i1 : (i : Int) < (s.cols.length : Int) := by omega
      have HP := Lib.hid (pick_take (besB (s.cols.getD k default)) hlt default)
      have hpl := pick_len (besB (s.cols.getD k default)) (s.cols.take i)
      have hpl2 : (s.cols.take i).length ≤ i := by rw [List.length_take]; omega
      have HO := Lib.hid HB.out.1
      have HBQ := Lib.hid HB.out.2
      clear HB
      have hxr := HR.out _ (getD_memD hlt default)
      have har := HR.out _ (getD_memD hk default)
      unfold I64 at hxr har
      by_cases hik : i = k
      · have HN : Hid (pick (besB (s.cols.getD k default)) (s.cols.take (i + 1)) = pick (besB (s.cols.getD k default)) (s.cols.take i)) := Lib.hid (by rw [HP.out, hik, besB_self]; simp)
        subst hik
        clear HP d0 d1 d2 hxr har
        generalize pick (besB (s.cols.getD i default)) (s.cols.take i) = L at *
        generalize (s.cols.getD i default).bay = xb at *
        generalize (s.cols.getD i default).row = xr at *
        generalize (s.cols.getD i default).deck = xd at *
        go_upto_region 7 with fail
        have e0 : ∀ p : Gr V, p.W.cell? ⟨w.heap.size, 0, none⟩ = some (.slice (some ⟨b1, o1, none⟩) s.cols.length h.c1) := Gr.cell e0
        have a0 : ∀ p : Gr V, p.W.cell? ⟨b1, o1 + i * 12, none⟩ = some (.int .i64 xb) := Gr.cell a0
        have a1 : ∀ p : Gr V, p.W.cell? ⟨b1, o1 + i * 12 + 1, none⟩ = some (.int .i64 xr) := Gr.cell a1
        have a2 : ∀ p : Gr V, p.W.cell? ⟨b1, o1 + i * 12 + 2, none⟩ = some (.bool xd) := Gr.cell a2
        refine wp_region_gr (by kernel_rfl) (by kernel_rfl) ?_
        repeat (go_big_quiet_step (fail))
        refine wpQuiet_nil ?_
        rintro Y ⟨⟨_, hbY⟩, rfl⟩
        have e0 : ∀ p : Gr Y, p.W.cell? ⟨w.heap.size, 0, none⟩ = some (.slice (some ⟨b1, o1, none⟩) s.cols.length h.c1) := Gr.cell (e0 ⟨Y, hbY⟩)
        have a0 : ∀ p : Gr Y, p.W.cell? ⟨b1, o1 + i * 12, none⟩ = some (.int .i64 xb) := Gr.cell (a0 ⟨Y, hbY⟩)
        have a1 : ∀ p : Gr Y, p.W.cell? ⟨b1, o1 + i * 12 + 1, none⟩ = some (.int .i64 xr) := Gr.cell (a1 ⟨Y, hbY⟩)
        have a2 : ∀ p : Gr Y, p.W.cell? ⟨b1, o1 + i * 12 + 2, none⟩ = some (.bool xd) := Gr.cell (a2 ⟨Y, hbY⟩)
        replace HO := Lib.hid (HO.out.below hbY)
        replace HBQ := Lib.hid (HBQ.out.trans (hbY.mono HBQ.out.size))
        clear hbY
        go_upto_region 9 with fail
        refine wp_region_gr (by kernel_rfl) (by kernel_rfl) ?_
        repeat (go_big_quiet_step (fail))
        refine wpQuiet_nil ?_
        rintro Z ⟨⟨_, hbZ⟩, rfl⟩
        replace HO := Lib.hid (HO.out.below hbZ)
        replace HBQ := Lib.hid (HBQ.out.trans (hbZ.mono HBQ.out.size))
        clear hbZ e0 a0 a1 a2
        go_wp2_with fail
        go_roundw
        case rel => first | exact ⟨i + 1, by omega, by go_num, Lib.hid (And.intro (by rw [HN.out]; exact HO.out) HBQ.out)⟩ | ((repeat apply Exists.intro); (first | exact ⟨⟨i + 1, by omega, by go_num, Lib.hid (And.intro (by rw [HN.out]; exact HO.out) HBQ.out)⟩, rfl⟩ | exact ⟨by omega, by go_num, Lib.hid (And.intro (by rw [HN.out]; exact HO.out) HBQ.out)⟩))
        case measure => simp [intOf]; omega
      · have hnr : ((s.cols.getD k default).row < (s.cols.getD i default).row ∧ (s.cols.getD k default).row + 1 = (s.cols.getD i default).row) ∨ ((s.cols.getD i default).row < (s.cols.getD k default).row ∧ (s.cols.getD i default).row + 1 = (s.cols.getD k default).row) ∨ ((s.cols.getD k default).row < (s.cols.getD i default).row ∧ (s.cols.getD k default).row + 1 ≠ (s.cols.getD i default).row) ∨ ((s.cols.getD i default).row < (s.cols.getD k default).row ∧ (s.cols.getD i default).row + 1 ≠ (s.cols.getD k default).row) ∨ (s.cols.getD i default).row = (s.cols.getD k default).row := by omega
        have HYES := Lib.hid (fun hh => besB_yes (a := s.cols.getD k default) (x := s.cols.getD i default) hh)
        have HNOO := Lib.hid (fun hh => besB_no (a := s.cols.getD k default) (x := s.cols.getD i default) hh)
        generalize besB (s.cols.getD k default) = bes at *
        generalize pick bes (s.cols.take i) = L at *
        generalize s.cols.getD i default = x at *
        generalize s.cols.getD k default = a at *
        obtain ⟨xb, xr, xd, _, _, _, _, _, _, _, _, _⟩ := x
        obtain ⟨ab, ar, ad, _, _, _, _, _, _, _, _, _⟩ := a
        simp only at a0 a1 a2 d0 d1 d2 hnr hxr har HYES HNOO
        generalize hp1 : (xb == ab) = p1 at *
        generalize hp2 : (xd == ad) = p2 at *
        rcases hnr with ⟨g1, g2⟩ | ⟨g1, g2⟩ | ⟨g1, g2⟩ | ⟨g1, g2⟩ | g1
        · have ddarxr : decide (ar < xr) = true := by simp; omega
          have ww : IntKind.i64.wrap (ar + 1) = ar + 1 := IntWalk.i64_in _ (by omega)
          have bb : (ar + 1 == xr) = true := by simp; omega
          have HX := Lib.hid (HYES.out (by omega))
          clear HYES HNOO hxr har g1 g2
          go_upto_region 7 with fail
          have e0 : ∀ p : Gr V, p.W.cell? ⟨w.heap.size, 0, none⟩ = some (.slice (some ⟨b1, o1, none⟩) s.cols.length h.c1) := Gr.cell e0
          have a0 : ∀ p : Gr V, p.W.cell? ⟨b1, o1 + i * 12, none⟩ = some (.int .i64 xb) := Gr.cell a0
          have a1 : ∀ p : Gr V, p.W.cell? ⟨b1, o1 + i * 12 + 1, none⟩ = some (.int .i64 xr) := Gr.cell a1
          have a2 : ∀ p : Gr V, p.W.cell? ⟨b1, o1 + i * 12 + 2, none⟩ = some (.bool xd) := Gr.cell a2
          have d0 : ∀ p : Gr V, p.W.cell? ⟨b1, o1 + k * 12, none⟩ = some (.int .i64 ab) := Gr.cell d0
          have d1 : ∀ p : Gr V, p.W.cell? ⟨b1, o1 + k * 12 + 1, none⟩ = some (.int .i64 ar) := Gr.cell d1
          have d2 : ∀ p : Gr V, p.W.cell? ⟨b1, o1 + k * 12 + 2, none⟩ = some (.bool ad) := Gr.cell d2
          refine wp_region_gr (by kernel_rfl) (by kernel_rfl) ?_
          repeat (go_big_quiet_step (fail))
          refine wpQuiet_nil ?_
          rintro Y ⟨⟨_, hbY⟩, rfl⟩
          have e0 : ∀ p : Gr Y, p.W.cell? ⟨w.heap.size, 0, none⟩ = some (.slice (some ⟨b1, o1, none⟩) s.cols.length h.c1) := Gr.cell (e0 ⟨Y, hbY⟩)
          have a0 : ∀ p : Gr Y, p.W.cell? ⟨b1, o1 + i * 12, none⟩ = some (.int .i64 xb) := Gr.cell (a0 ⟨Y, hbY⟩)
          have a1 : ∀ p : Gr Y, p.W.cell? ⟨b1, o1 + i * 12 + 1, none⟩ = some (.int .i64 xr) := Gr.cell (a1 ⟨Y, hbY⟩)
          have a2 : ∀ p : Gr Y, p.W.cell? ⟨b1, o1 + i * 12 + 2, none⟩ = some (.bool xd) := Gr.cell (a2 ⟨Y, hbY⟩)
          have d0 : ∀ p : Gr Y, p.W.cell? ⟨b1, o1 + k * 12, none⟩ = some (.int .i64 ab) := Gr.cell (d0 ⟨Y, hbY⟩)
          have d1 : ∀ p : Gr Y, p.W.cell? ⟨b1, o1 + k * 12 + 1, none⟩ = some (.int .i64 ar) := Gr.cell (d1 ⟨Y, hbY⟩)
          have d2 : ∀ p : Gr Y, p.W.cell? ⟨b1, o1 + k * 12 + 2, none⟩ = some (.bool ad) := Gr.cell (d2 ⟨Y, hbY⟩)
          replace HO := Lib.hid (HO.out.below hbY)
          replace HBQ := Lib.hid (HBQ.out.trans (hbY.mono HBQ.out.size))
          clear hbY
          go_upto_region 9 with fail
          cases p1 with
          | false =>
            have HN : Hid (pick bes (s.cols.take (i + 1)) = L) := Lib.hid (by rw [HP.out, HX.out]; simp)
            clear HX HP
            refine wp_region_gr (by kernel_rfl) (by kernel_rfl) ?_
            repeat (go_big_quiet_step (fail))
            refine wpQuiet_nil ?_
            rintro Z ⟨⟨_, hbZ⟩, rfl⟩
            replace HO := Lib.hid (HO.out.below hbZ)
            replace HBQ := Lib.hid (HBQ.out.trans (hbZ.mono HBQ.out.size))
            clear hbZ e0 a0 a1 a2 d0 d1 d2
            go_wp2_with fail
            go_roundw
            case rel => first | exact ⟨i + 1, by omega, by go_num, Lib.hid (And.intro (by rw [HN.out]; exact HO.out) HBQ.out)⟩ | ((repeat apply Exists.intro); (first | exact ⟨⟨i + 1, by omega, by go_num, Lib.hid (And.intro (by rw [HN.out]; exact HO.out) HBQ.out)⟩, rfl⟩ | exact ⟨by omega, by go_num, Lib.hid (And.intro (by rw [HN.out]; exact HO.out) HBQ.out)⟩))
            case measure => simp [intOf]; omega
          | true =>
            cases p2 with
            | false =>
              have HN : Hid (pick bes (s.cols.take (i + 1)) = L) := Lib.hid (by rw [HP.out, HX.out]; simp)
              clear HX HP
              refine wp_region_gr (by kernel_rfl) (by kernel_rfl) ?_
              repeat (go_big_quiet_step (fail))
              refine wpQuiet_nil ?_
              rintro Z ⟨⟨_, hbZ⟩, rfl⟩
              replace HO := Lib.hid (HO.out.below hbZ)
              replace HBQ := Lib.hid (HBQ.out.trans (hbZ.mono HBQ.out.size))
              clear hbZ e0 a0 a1 a2 d0 d1 d2
              go_wp2_with fail
              go_roundw
              case rel => first | exact ⟨i + 1, by omega, by go_num, Lib.hid (And.intro (by rw [HN.out]; exact HO.out) HBQ.out)⟩ | ((repeat apply Exists.intro); (first | exact ⟨⟨i + 1, by omega, by go_num, Lib.hid (And.intro (by rw [HN.out]; exact HO.out) HBQ.out)⟩, rfl⟩ | exact ⟨by omega, by go_num, Lib.hid (And.intro (by rw [HN.out]; exact HO.out) HBQ.out)⟩))
              case measure => simp [intOf]; omega
            | true =>
              have HN : Hid (pick bes (s.cols.take (i + 1)) = L ++ [(i : Int)]) := Lib.hid (by rw [HP.out, HX.out]; simp)
              clear HX HP
              refine wp_region_gr (by kernel_rfl) (by kernel_rfl) ?_
              repeat (go_big_quiet_step (fail))
              refine wpQuiet_nil ?_
              rintro Z ⟨⟨_, hbZ⟩, rfl⟩
              replace HO := Lib.hid (HO.out.below hbZ)
              replace HBQ := Lib.hid (HBQ.out.trans (hbZ.mono HBQ.out.size))
              clear hbZ e0 a0 a1 a2 d0 d1 d2
              obtain ⟨xs, ho, hf⟩ := HO.out
              go_wp2_with (at_builtin; (refine wpList_append1 el_int rfl (.tmp 90) (.tmp 92) rfl W.heap.size _ L.length xs rfl ho #[.int .i64 (i : Nat)] _ rfl rfl rfl ?c1 ?c2 ?c3 ?_))
              case c1 => unfold maxLen; omega
              case c2 => omega
              case c3 => exact HBQ.out.size
              intro v' w3 hown' hgr hd3 hbel
              have HN2 := Lib.hid (And.intro (OwnT.int1 hf hown' hgr hd3) (HBQ.out.trans hbel))
              clear hf ho hown' hgr hd3 hbel HO HBQ
              go_wp2
              go_roundw
              case rel => first | exact ⟨i + 1, by omega, by go_num, Lib.hid (And.intro (by rw [HN.out]; exact HN2.out.1) HN2.out.2)⟩ | ((repeat apply Exists.intro); (first | exact ⟨⟨i + 1, by omega, by go_num, Lib.hid (And.intro (by rw [HN.out]; exact HN2.out.1) HN2.out.2)⟩, rfl⟩ | exact ⟨by omega, by go_num, Lib.hid (And.intro (by rw [HN.out]; exact HN2.out.1) HN2.out.2)⟩))
              case measure => simp [intOf]; omega
        · have ddarxr : decide (ar < xr) = false := by simp; omega
          have ddxrar : decide (xr < ar) = true := by simp; omega
          have ww : IntKind.i64.wrap (xr + 1) = xr + 1 := IntWalk.i64_in _ (by omega)
          have bb : (xr + 1 == ar) = true := by simp; omega
          have HX := Lib.hid (HYES.out (by omega))
          clear HYES HNOO hxr har g1 g2
          go_upto_region 7 with fail
          have e0 : ∀ p : Gr V, p.W.cell? ⟨w.heap.size, 0, none⟩ = some (.slice (some ⟨b1, o1, none⟩) s.cols.length h.c1) := Gr.cell e0
          have a0 : ∀ p : Gr V, p.W.cell? ⟨b1, o1 + i * 12, none⟩ = some (.int .i64 xb) := Gr.cell a0
          have a1 : ∀ p : Gr V, p.W.cell? ⟨b1, o1 + i * 12 + 1, none⟩ = some (.int .i64 xr) := Gr.cell a1
          have a2 : ∀ p : Gr V, p.W.cell? ⟨b1, o1 + i * 12 + 2, none⟩ = some (.bool xd) := Gr.cell a2
          have d0 : ∀ p : Gr V, p.W.cell? ⟨b1, o1 + k * 12, none⟩ = some (.int .i64 ab) := Gr.cell d0
          have d1 : ∀ p : Gr V, p.W.cell? ⟨b1, o1 + k * 12 + 1, none⟩ = some (.int .i64 ar) := Gr.cell d1
          have d2 : ∀ p : Gr V, p.W.cell? ⟨b1, o1 + k * 12 + 2, none⟩ = some (.bool ad) := Gr.cell d2
          refine wp_region_gr (by kernel_rfl) (by kernel_rfl) ?_
          repeat (go_big_quiet_step (fail))
          refine wpQuiet_nil ?_
          rintro Y ⟨⟨_, hbY⟩, rfl⟩
          have e0 : ∀ p : Gr Y, p.W.cell? ⟨w.heap.size, 0, none⟩ = some (.slice (some ⟨b1, o1, none⟩) s.cols.length h.c1) := Gr.cell (e0 ⟨Y, hbY⟩)
          have a0 : ∀ p : Gr Y, p.W.cell? ⟨b1, o1 + i * 12, none⟩ = some (.int .i64 xb) := Gr.cell (a0 ⟨Y, hbY⟩)
          have a1 : ∀ p : Gr Y, p.W.cell? ⟨b1, o1 + i * 12 + 1, none⟩ = some (.int .i64 xr) := Gr.cell (a1 ⟨Y, hbY⟩)
          have a2 : ∀ p : Gr Y, p.W.cell? ⟨b1, o1 + i * 12 + 2, none⟩ = some (.bool xd) := Gr.cell (a2 ⟨Y, hbY⟩)
          have d0 : ∀ p : Gr Y, p.W.cell? ⟨b1, o1 + k * 12, none⟩ = some (.int .i64 ab) := Gr.cell (d0 ⟨Y, hbY⟩)
          have d1 : ∀ p : Gr Y, p.W.cell? ⟨b1, o1 + k * 12 + 1, none⟩ = some (.int .i64 ar) := Gr.cell (d1 ⟨Y, hbY⟩)
          have d2 : ∀ p : Gr Y, p.W.cell? ⟨b1, o1 + k * 12 + 2, none⟩ = some (.bool ad) := Gr.cell (d2 ⟨Y, hbY⟩)
          replace HO := Lib.hid (HO.out.below hbY)
          replace HBQ := Lib.hid (HBQ.out.trans (hbY.mono HBQ.out.size))
          clear hbY
          go_upto_region 9 with fail
          cases p1 with
          | false =>
            have HN : Hid (pick bes (s.cols.take (i + 1)) = L) := Lib.hid (by rw [HP.out, HX.out]; simp)
            clear HX HP
            refine wp_region_gr (by kernel_rfl) (by kernel_rfl) ?_
            repeat (go_big_quiet_step (fail))
            refine wpQuiet_nil ?_
            rintro Z ⟨⟨_, hbZ⟩, rfl⟩
            replace HO := Lib.hid (HO.out.below hbZ)
            replace HBQ := Lib.hid (HBQ.out.trans (hbZ.mono HBQ.out.size))
            clear hbZ e0 a0 a1 a2 d0 d1 d2
            go_wp2_with fail
            go_roundw
            case rel => first | exact ⟨i + 1, by omega, by go_num, Lib.hid (And.intro (by rw [HN.out]; exact HO.out) HBQ.out)⟩ | ((repeat apply Exists.intro); (first | exact ⟨⟨i + 1, by omega, by go_num, Lib.hid (And.intro (by rw [HN.out]; exact HO.out) HBQ.out)⟩, rfl⟩ | exact ⟨by omega, by go_num, Lib.hid (And.intro (by rw [HN.out]; exact HO.out) HBQ.out)⟩))
            case measure => simp [intOf]; omega
          | true =>
            cases p2 with
            | false =>
              have HN : Hid (pick bes (s.cols.take (i + 1)) = L) := Lib.hid (by rw [HP.out, HX.out]; simp)
              clear HX HP
              refine wp_region_gr (by kernel_rfl) (by kernel_rfl) ?_
              repeat (go_big_quiet_step (fail))
              refine wpQuiet_nil ?_
              rintro Z ⟨⟨_, hbZ⟩, rfl⟩
              replace HO := Lib.hid (HO.out.below hbZ)
              replace HBQ := Lib.hid (HBQ.out.trans (hbZ.mono HBQ.out.size))
              clear hbZ e0 a0 a1 a2 d0 d1 d2
              go_wp2_with fail
              go_roundw
              case rel => first | exact ⟨i + 1, by omega, by go_num, Lib.hid (And.intro (by rw [HN.out]; exact HO.out) HBQ.out)⟩ | ((repeat apply Exists.intro); (first | exact ⟨⟨i + 1, by omega, by go_num, Lib.hid (And.intro (by rw [HN.out]; exact HO.out) HBQ.out)⟩, rfl⟩ | exact ⟨by omega, by go_num, Lib.hid (And.intro (by rw [HN.out]; exact HO.out) HBQ.out)⟩))
              case measure => simp [intOf]; omega
            | true =>
              have HN : Hid (pick bes (s.cols.take (i + 1)) = L ++ [(i : Int)]) := Lib.hid (by rw [HP.out, HX.out]; simp)
              clear HX HP
              refine wp_region_gr (by kernel_rfl) (by kernel_rfl) ?_
              repeat (go_big_quiet_step (fail))
              refine wpQuiet_nil ?_
              rintro Z ⟨⟨_, hbZ⟩, rfl⟩
              replace HO := Lib.hid (HO.out.below hbZ)
              replace HBQ := Lib.hid (HBQ.out.trans (hbZ.mono HBQ.out.size))
              clear hbZ e0 a0 a1 a2 d0 d1 d2
              obtain ⟨xs, ho, hf⟩ := HO.out
              go_wp2_with (at_builtin; (refine wpList_append1 el_int rfl (.tmp 90) (.tmp 92) rfl W.heap.size _ L.length xs rfl ho #[.int .i64 (i : Nat)] _ rfl rfl rfl ?c1 ?c2 ?c3 ?_))
              case c1 => unfold maxLen; omega
              case c2 => omega
              case c3 => exact HBQ.out.size
              intro v' w3 hown' hgr hd3 hbel
              have HN2 := Lib.hid (And.intro (OwnT.int1 hf hown' hgr hd3) (HBQ.out.trans hbel))
              clear hf ho hown' hgr hd3 hbel HO HBQ
              go_wp2
              go_roundw
              case rel => first | exact ⟨i + 1, by omega, by go_num, Lib.hid (And.intro (by rw [HN.out]; exact HN2.out.1) HN2.out.2)⟩ | ((repeat apply Exists.intro); (first | exact ⟨⟨i + 1, by omega, by go_num, Lib.hid (And.intro (by rw [HN.out]; exact HN2.out.1) HN2.out.2)⟩, rfl⟩ | exact ⟨by omega, by go_num, Lib.hid (And.intro (by rw [HN.out]; exact HN2.out.1) HN2.out.2)⟩))
              case measure => simp [intOf]; omega
        · have ddarxr : decide (ar < xr) = true := by simp; omega
          have ddxrar : decide (xr < ar) = false := by simp; omega
          have ww : IntKind.i64.wrap (ar + 1) = ar + 1 := IntWalk.i64_in _ (by omega)
          have bb : (ar + 1 == xr) = false := by simp; omega
          have HX := Lib.hid (HNOO.out (by omega))
          clear HYES HNOO hxr har g1 g2
          go_upto_region 7 with fail
          have e0 : ∀ p : Gr V, p.W.cell? ⟨w.heap.size, 0, none⟩ = some (.slice (some ⟨b1, o1, none⟩) s.cols.length h.c1) := Gr.cell e0
          have a0 : ∀ p : Gr V, p.W.cell? ⟨b1, o1 + i * 12, none⟩ = some (.int .i64 xb) := Gr.cell a0
          have a1 : ∀ p : Gr V, p.W.cell? ⟨b1, o1 + i * 12 + 1, none⟩ = some (.int .i64 xr) := Gr.cell a1
          have a2 : ∀ p : Gr V, p.W.cell? ⟨b1, o1 + i * 12 + 2, none⟩ = some (.bool xd) := Gr.cell a2
          have d0 : ∀ p : Gr V, p.W.cell? ⟨b1, o1 + k * 12, none⟩ = some (.int .i64 ab) := Gr.cell d0
          have d1 : ∀ p : Gr V, p.W.cell? ⟨b1, o1 + k * 12 + 1, none⟩ = some (.int .i64 ar) := Gr.cell d1
          have d2 : ∀ p : Gr V, p.W.cell? ⟨b1, o1 + k * 12 + 2, none⟩ = some (.bool ad) := Gr.cell d2
          refine wp_region_gr (by kernel_rfl) (by kernel_rfl) ?_
          repeat (go_big_quiet_step (fail))
          refine wpQuiet_nil ?_
          rintro Y ⟨⟨_, hbY⟩, rfl⟩
          have e0 : ∀ p : Gr Y, p.W.cell? ⟨w.heap.size, 0, none⟩ = some (.slice (some ⟨b1, o1, none⟩) s.cols.length h.c1) := Gr.cell (e0 ⟨Y, hbY⟩)
          have a0 : ∀ p : Gr Y, p.W.cell? ⟨b1, o1 + i * 12, none⟩ = some (.int .i64 xb) := Gr.cell (a0 ⟨Y, hbY⟩)
          have a1 : ∀ p : Gr Y, p.W.cell? ⟨b1, o1 + i * 12 + 1, none⟩ = some (.int .i64 xr) := Gr.cell (a1 ⟨Y, hbY⟩)
          have a2 : ∀ p : Gr Y, p.W.cell? ⟨b1, o1 + i * 12 + 2, none⟩ = some (.bool xd) := Gr.cell (a2 ⟨Y, hbY⟩)
          have d0 : ∀ p : Gr Y, p.W.cell? ⟨b1, o1 + k * 12, none⟩ = some (.int .i64 ab) := Gr.cell (d0 ⟨Y, hbY⟩)
          have d1 : ∀ p : Gr Y, p.W.cell? ⟨b1, o1 + k * 12 + 1, none⟩ = some (.int .i64 ar) := Gr.cell (d1 ⟨Y, hbY⟩)
          have d2 : ∀ p : Gr Y, p.W.cell? ⟨b1, o1 + k * 12 + 2, none⟩ = some (.bool ad) := Gr.cell (d2 ⟨Y, hbY⟩)
          replace HO := Lib.hid (HO.out.below hbY)
          replace HBQ := Lib.hid (HBQ.out.trans (hbY.mono HBQ.out.size))
          clear hbY
          go_upto_region 9 with fail
          cases p1 with
          | false =>
            have HN : Hid (pick bes (s.cols.take (i + 1)) = L) := Lib.hid (by rw [HP.out, HX.out]; simp)
            clear HX HP
            refine wp_region_gr (by kernel_rfl) (by kernel_rfl) ?_
            repeat (go_big_quiet_step (fail))
            refine wpQuiet_nil ?_
            rintro Z ⟨⟨_, hbZ⟩, rfl⟩
            replace HO := Lib.hid (HO.out.below hbZ)
            replace HBQ := Lib.hid (HBQ.out.trans (hbZ.mono HBQ.out.size))
            clear hbZ e0 a0 a1 a2 d0 d1 d2
            go_wp2_with fail
            go_roundw
            case rel => first | exact ⟨i + 1, by omega, by go_num, Lib.hid (And.intro (by rw [HN.out]; exact HO.out) HBQ.out)⟩ | ((repeat apply Exists.intro); (first | exact ⟨⟨i + 1, by omega, by go_num, Lib.hid (And.intro (by rw [HN.out]; exact HO.out) HBQ.out)⟩, rfl⟩ | exact ⟨by omega, by go_num, Lib.hid (And.intro (by rw [HN.out]; exact HO.out) HBQ.out)⟩))
            case measure => simp [intOf]; omega
          | true =>
            cases p2 with
            | false =>
              have HN : Hid (pick bes (s.cols.take (i + 1)) = L) := Lib.hid (by rw [HP.out, HX.out]; simp)
              clear HX HP
              refine wp_region_gr (by kernel_rfl) (by kernel_rfl) ?_
              repeat (go_big_quiet_step (fail))
              refine wpQuiet_nil ?_
              rintro Z ⟨⟨_, hbZ⟩, rfl⟩
              replace HO := Lib.hid (HO.out.below hbZ)
              replace HBQ := Lib.hid (HBQ.out.trans (hbZ.mono HBQ.out.size))
              clear hbZ e0 a0 a1 a2 d0 d1 d2
              go_wp2_with fail
              go_roundw
              case rel => first | exact ⟨i + 1, by omega, by go_num, Lib.hid (And.intro (by rw [HN.out]; exact HO.out) HBQ.out)⟩ | ((repeat apply Exists.intro); (first | exact ⟨⟨i + 1, by omega, by go_num, Lib.hid (And.intro (by rw [HN.out]; exact HO.out) HBQ.out)⟩, rfl⟩ | exact ⟨by omega, by go_num, Lib.hid (And.intro (by rw [HN.out]; exact HO.out) HBQ.out)⟩))
              case measure => simp [intOf]; omega
            | true =>
              have HN : Hid (pick bes (s.cols.take (i + 1)) = L) := Lib.hid (by rw [HP.out, HX.out]; simp)
              clear HX HP
              refine wp_region_gr (by kernel_rfl) (by kernel_rfl) ?_
              repeat (go_big_quiet_step (fail))
              refine wpQuiet_nil ?_
              rintro Z ⟨⟨_, hbZ⟩, rfl⟩
              replace HO := Lib.hid (HO.out.below hbZ)
              replace HBQ := Lib.hid (HBQ.out.trans (hbZ.mono HBQ.out.size))
              clear hbZ e0 a0 a1 a2 d0 d1 d2
              go_wp2_with fail
              go_roundw
              case rel => first | exact ⟨i + 1, by omega, by go_num, Lib.hid (And.intro (by rw [HN.out]; exact HO.out) HBQ.out)⟩ | ((repeat apply Exists.intro); (first | exact ⟨⟨i + 1, by omega, by go_num, Lib.hid (And.intro (by rw [HN.out]; exact HO.out) HBQ.out)⟩, rfl⟩ | exact ⟨by omega, by go_num, Lib.hid (And.intro (by rw [HN.out]; exact HO.out) HBQ.out)⟩))
              case measure => simp [intOf]; omega
        · have ddarxr : decide (ar < xr) = false := by simp; omega
          have ddxrar : decide (xr < ar) = true := by simp; omega
          have ww : IntKind.i64.wrap (xr + 1) = xr + 1 := IntWalk.i64_in _ (by omega)
          have bb : (xr + 1 == ar) = false := by simp; omega
          have HX := Lib.hid (HNOO.out (by omega))
          clear HYES HNOO hxr har g1 g2
          go_upto_region 7 with fail
          have e0 : ∀ p : Gr V, p.W.cell? ⟨w.heap.size, 0, none⟩ = some (.slice (some ⟨b1, o1, none⟩) s.cols.length h.c1) := Gr.cell e0
          have a0 : ∀ p : Gr V, p.W.cell? ⟨b1, o1 + i * 12, none⟩ = some (.int .i64 xb) := Gr.cell a0
          have a1 : ∀ p : Gr V, p.W.cell? ⟨b1, o1 + i * 12 + 1, none⟩ = some (.int .i64 xr) := Gr.cell a1
          have a2 : ∀ p : Gr V, p.W.cell? ⟨b1, o1 + i * 12 + 2, none⟩ = some (.bool xd) := Gr.cell a2
          have d0 : ∀ p : Gr V, p.W.cell? ⟨b1, o1 + k * 12, none⟩ = some (.int .i64 ab) := Gr.cell d0
          have d1 : ∀ p : Gr V, p.W.cell? ⟨b1, o1 + k * 12 + 1, none⟩ = some (.int .i64 ar) := Gr.cell d1
          have d2 : ∀ p : Gr V, p.W.cell? ⟨b1, o1 + k * 12 + 2, none⟩ = some (.bool ad) := Gr.cell d2
          refine wp_region_gr (by kernel_rfl) (by kernel_rfl) ?_
          repeat (go_big_quiet_step (fail))
          refine wpQuiet_nil ?_
          rintro Y ⟨⟨_, hbY⟩, rfl⟩
          have e0 : ∀ p : Gr Y, p.W.cell? ⟨w.heap.size, 0, none⟩ = some (.slice (some ⟨b1, o1, none⟩) s.cols.length h.c1) := Gr.cell (e0 ⟨Y, hbY⟩)
          have a0 : ∀ p : Gr Y, p.W.cell? ⟨b1, o1 + i * 12, none⟩ = some (.int .i64 xb) := Gr.cell (a0 ⟨Y, hbY⟩)
          have a1 : ∀ p : Gr Y, p.W.cell? ⟨b1, o1 + i * 12 + 1, none⟩ = some (.int .i64 xr) := Gr.cell (a1 ⟨Y, hbY⟩)
          have a2 : ∀ p : Gr Y, p.W.cell? ⟨b1, o1 + i * 12 + 2, none⟩ = some (.bool xd) := Gr.cell (a2 ⟨Y, hbY⟩)
          have d0 : ∀ p : Gr Y, p.W.cell? ⟨b1, o1 + k * 12, none⟩ = some (.int .i64 ab) := Gr.cell (d0 ⟨Y, hbY⟩)
          have d1 : ∀ p : Gr Y, p.W.cell? ⟨b1, o1 + k * 12 + 1, none⟩ = some (.int .i64 ar) := Gr.cell (d1 ⟨Y, hbY⟩)
          have d2 : ∀ p : Gr Y, p.W.cell? ⟨b1, o1 + k * 12 + 2, none⟩ = some (.bool ad) := Gr.cell (d2 ⟨Y, hbY⟩)
          replace HO := Lib.hid (HO.out.below hbY)
          replace HBQ := Lib.hid (HBQ.out.trans (hbY.mono HBQ.out.size))
          clear hbY
          go_upto_region 9 with fail
          cases p1 with
          | false =>
            have HN : Hid (pick bes (s.cols.take (i + 1)) = L) := Lib.hid (by rw [HP.out, HX.out]; simp)
            clear HX HP
            refine wp_region_gr (by kernel_rfl) (by kernel_rfl) ?_
            repeat (go_big_quiet_step (fail))
            refine wpQuiet_nil ?_
            rintro Z ⟨⟨_, hbZ⟩, rfl⟩
            replace HO := Lib.hid (HO.out.below hbZ)
            replace HBQ := Lib.hid (HBQ.out.trans (hbZ.mono HBQ.out.size))
            clear hbZ e0 a0 a1 a2 d0 d1 d2
            go_wp2_with fail
            go_roundw
            case rel => first | exact ⟨i + 1, by omega, by go_num, Lib.hid (And.intro (by rw [HN.out]; exact HO.out) HBQ.out)⟩ | ((repeat apply Exists.intro); (first | exact ⟨⟨i + 1, by omega, by go_num, Lib.hid (And.intro (by rw [HN.out]; exact HO.out) HBQ.out)⟩, rfl⟩ | exact ⟨by omega, by go_num, Lib.hid (And.intro (by rw [HN.out]; exact HO.out) HBQ.out)⟩))
            case measure => simp [intOf]; omega
          | true =>
            cases p2 with
            | false =>
              have HN : Hid (pick bes (s.cols.take (i + 1)) = L) := Lib.hid (by rw [HP.out, HX.out]; simp)
              clear HX HP
              refine wp_region_gr (by kernel_rfl) (by kernel_rfl) ?_
              repeat (go_big_quiet_step (fail))
              refine wpQuiet_nil ?_
              rintro Z ⟨⟨_, hbZ⟩, rfl⟩
              replace HO := Lib.hid (HO.out.below hbZ)
              replace HBQ := Lib.hid (HBQ.out.trans (hbZ.mono HBQ.out.size))
              clear hbZ e0 a0 a1 a2 d0 d1 d2
              go_wp2_with fail
              go_roundw
              case rel => first | exact ⟨i + 1, by omega, by go_num, Lib.hid (And.intro (by rw [HN.out]; exact HO.out) HBQ.out)⟩ | ((repeat apply Exists.intro); (first | exact ⟨⟨i + 1, by omega, by go_num, Lib.hid (And.intro (by rw [HN.out]; exact HO.out) HBQ.out)⟩, rfl⟩ | exact ⟨by omega, by go_num, Lib.hid (And.intro (by rw [HN.out]; exact HO.out) HBQ.out)⟩))
              case measure => simp [intOf]; omega
            | true =>
              have HN : Hid (pick bes (s.cols.take (i + 1)) = L) := Lib.hid (by rw [HP.out, HX.out]; simp)
              clear HX HP
              refine wp_region_gr (by kernel_rfl) (by kernel_rfl) ?_
              repeat (go_big_quiet_step (fail))
              refine wpQuiet_nil ?_
              rintro Z ⟨⟨_, hbZ⟩, rfl⟩
              replace HO := Lib.hid (HO.out.below hbZ)
              replace HBQ := Lib.hid (HBQ.out.trans (hbZ.mono HBQ.out.size))
              clear hbZ e0 a0 a1 a2 d0 d1 d2
              go_wp2_with fail
              go_roundw
              case rel => first | exact ⟨i + 1, by omega, by go_num, Lib.hid (And.intro (by rw [HN.out]; exact HO.out) HBQ.out)⟩ | ((repeat apply Exists.intro); (first | exact ⟨⟨i + 1, by omega, by go_num, Lib.hid (And.intro (by rw [HN.out]; exact HO.out) HBQ.out)⟩, rfl⟩ | exact ⟨by omega, by go_num, Lib.hid (And.intro (by rw [HN.out]; exact HO.out) HBQ.out)⟩))
              case measure => simp [intOf]; omega
        · have ddarxr : decide (ar < xr) = false := by simp; omega
          have ddxrar : decide (xr < ar) = false := by simp; omega
          have HX := Lib.hid (HNOO.out (by omega))
          clear HYES HNOO hxr har g1
          go_upto_region 7 with fail
          have e0 : ∀ p : Gr V, p.W.cell? ⟨w.heap.size, 0, none⟩ = some (.slice (some ⟨b1, o1, none⟩) s.cols.length h.c1) := Gr.cell e0
          have a0 : ∀ p : Gr V, p.W.cell? ⟨b1, o1 + i * 12, none⟩ = some (.int .i64 xb) := Gr.cell a0
          have a1 : ∀ p : Gr V, p.W.cell? ⟨b1, o1 + i * 12 + 1, none⟩ = some (.int .i64 xr) := Gr.cell a1
          have a2 : ∀ p : Gr V, p.W.cell? ⟨b1, o1 + i * 12 + 2, none⟩ = some (.bool xd) := Gr.cell a2
          have d0 : ∀ p : Gr V, p.W.cell? ⟨b1, o1 + k * 12, none⟩ = some (.int .i64 ab) := Gr.cell d0
          have d1 : ∀ p : Gr V, p.W.cell? ⟨b1, o1 + k * 12 + 1, none⟩ = some (.int .i64 ar) := Gr.cell d1
          have d2 : ∀ p : Gr V, p.W.cell? ⟨b1, o1 + k * 12 + 2, none⟩ = some (.bool ad) := Gr.cell d2
          refine wp_region_gr (by kernel_rfl) (by kernel_rfl) ?_
          repeat (go_big_quiet_step (fail))
          refine wpQuiet_nil ?_
          rintro Y ⟨⟨_, hbY⟩, rfl⟩
          have e0 : ∀ p : Gr Y, p.W.cell? ⟨w.heap.size, 0, none⟩ = some (.slice (some ⟨b1, o1, none⟩) s.cols.length h.c1) := Gr.cell (e0 ⟨Y, hbY⟩)
          have a0 : ∀ p : Gr Y, p.W.cell? ⟨b1, o1 + i * 12, none⟩ = some (.int .i64 xb) := Gr.cell (a0 ⟨Y, hbY⟩)
          have a1 : ∀ p : Gr Y, p.W.cell? ⟨b1, o1 + i * 12 + 1, none⟩ = some (.int .i64 xr) := Gr.cell (a1 ⟨Y, hbY⟩)
          have a2 : ∀ p : Gr Y, p.W.cell? ⟨b1, o1 + i * 12 + 2, none⟩ = some (.bool xd) := Gr.cell (a2 ⟨Y, hbY⟩)
          have d0 : ∀ p : Gr Y, p.W.cell? ⟨b1, o1 + k * 12, none⟩ = some (.int .i64 ab) := Gr.cell (d0 ⟨Y, hbY⟩)
          have d1 : ∀ p : Gr Y, p.W.cell? ⟨b1, o1 + k * 12 + 1, none⟩ = some (.int .i64 ar) := Gr.cell (d1 ⟨Y, hbY⟩)
          have d2 : ∀ p : Gr Y, p.W.cell? ⟨b1, o1 + k * 12 + 2, none⟩ = some (.bool ad) := Gr.cell (d2 ⟨Y, hbY⟩)
          replace HO := Lib.hid (HO.out.below hbY)
          replace HBQ := Lib.hid (HBQ.out.trans (hbY.mono HBQ.out.size))
          clear hbY
          go_upto_region 9 with fail
          cases p1 with
          | false =>
            have HN : Hid (pick bes (s.cols.take (i + 1)) = L) := Lib.hid (by rw [HP.out, HX.out]; simp)
            clear HX HP
            refine wp_region_gr (by kernel_rfl) (by kernel_rfl) ?_
            repeat (go_big_quiet_step (fail))
            refine wpQuiet_nil ?_
            rintro Z ⟨⟨_, hbZ⟩, rfl⟩
            replace HO := Lib.hid (HO.out.below hbZ)
            replace HBQ := Lib.hid (HBQ.out.trans (hbZ.mono HBQ.out.size))
            clear hbZ e0 a0 a1 a2 d0 d1 d2
            go_wp2_with fail
            go_roundw
            case rel => first | exact ⟨i + 1, by omega, by go_num, Lib.hid (And.intro (by rw [HN.out]; exact HO.out) HBQ.out)⟩ | ((repeat apply Exists.intro); (first | exact ⟨⟨i + 1, by omega, by go_num, Lib.hid (And.intro (by rw [HN.out]; exact HO.out) HBQ.out)⟩, rfl⟩ | exact ⟨by omega, by go_num, Lib.hid (And.intro (by rw [HN.out]; exact HO.out) HBQ.out)⟩))
            case measure => simp [intOf]; omega
          | true =>
            cases p2 with
            | false =>
              have HN : Hid (pick bes (s.cols.take (i + 1)) = L) := Lib.hid (by rw [HP.out, HX.out]; simp)
              clear HX HP
              refine wp_region_gr (by kernel_rfl) (by kernel_rfl) ?_
              repeat (go_big_quiet_step (fail))
              refine wpQuiet_nil ?_
              rintro Z ⟨⟨_, hbZ⟩, rfl⟩
              replace HO := Lib.hid (HO.out.below hbZ)
              replace HBQ := Lib.hid (HBQ.out.trans (hbZ.mono HBQ.out.size))
              clear hbZ e0 a0 a1 a2 d0 d1 d2
              go_wp2_with fail
              go_roundw
              case rel => first | exact ⟨i + 1, by omega, by go_num, Lib.hid (And.intro (by rw [HN.out]; exact HO.out) HBQ.out)⟩ | ((repeat apply Exists.intro); (first | exact ⟨⟨i + 1, by omega, by go_num, Lib.hid (And.intro (by rw [HN.out]; exact HO.out) HBQ.out)⟩, rfl⟩ | exact ⟨by omega, by go_num, Lib.hid (And.intro (by rw [HN.out]; exact HO.out) HBQ.out)⟩))
              case measure => simp [intOf]; omega
            | true =>
              have HN : Hid (pick bes (s.cols.take (i + 1)) = L) := Lib.hid (by rw [HP.out, HX.out]; simp)
              clear HX HP
              refine wp_region_gr (by kernel_rfl) (by kernel_rfl) ?_
              repeat (go_big_quiet_step (fail))
              refine wpQuiet_nil ?_
              rintro Z ⟨⟨_, hbZ⟩, rfl⟩
              replace HO := Lib.hid (HO.out.below hbZ)
              replace HBQ := Lib.hid (HBQ.out.trans (hbZ.mono HBQ.out.size))
              clear hbZ e0 a0 a1 a2 d0 d1 d2
              go_wp2_with fail
              go_roundw
              case rel => first | exact ⟨i + 1, by omega, by go_num, Lib.hid (And.intro (by rw [HN.out]; exact HO.out) HBQ.out)⟩ | ((repeat apply Exists.intro); (first | exact ⟨⟨i + 1, by omega, by go_num, Lib.hid (And.intro (by rw [HN.out]; exact HO.out) HBQ.out)⟩, rfl⟩ | exact ⟨by omega, by go_num, Lib.hid (And.intro (by rw [HN.out]; exact HO.out) HBQ.out)⟩))
              case measure => simp [intOf]; omega
    · obtain rfl : i = s.cols.length := by omega
      have HO : Hid (OwnT tInt 3 V W.heap.size _ (besideF s k)) := Lib.hid (by have := HB.out.1; rw [List.take_length] at this; rw [HV.out]; exact this)
      have hbz := HB.out.2
      have HE : Hid (Below w.heap.size w V) := Lib.hid (HB0.out.trans (hbz.mono HB0.out.size))
      have hsz := HB0.out.size
      clear HB
      go_wp2_with fail
      go_ret
      exact ⟨_, rfl, HO.out.down hsz, HE.out⟩
theorem refBeside_any (s : Shp) (h : Hd) (k : Int) (w : World) (hs : ShpR w (Lt w.heap.size) s h) (hl : s.cols.length ≤ 1000000) (hr : ∀ c ∈ s.cols, I64 c.row) :
    Calls Try.prog 26 #[.agg (shpA s h), .int .i64 k] w (OwnInts w (besideF s k)) := by
  by_cases hk : k < 0 ∨ (s.cols.length : Int) ≤ k
  · exact refBeside_out s h k w hk
  · obtain ⟨n, rfl⟩ := Int.eq_ofNat_of_zero_le (show 0 ≤ k by omega)
    exact refBeside_in s h n w hs hl hr (by omega)
end Go.Proofs.Ytpmhchbkhohmjaa
