/-
  Walks of the reference of chapter 07: Along, Tallest, Places.
-/
import Derived.Test.YtpmhchbkhohmjaaRfC
namespace Go.Proofs.Ytpmhchbkhohmjaa
open Go.RowKit

set_option maxRecDepth 100000 in
set_option maxHeartbeats 4000000 in
theorem refAlong_out (s : Shp) (h : Hd) (k : Int) (deck : Bool) (w : World) (hk : k < 0 ∨ (s.covs.length : Int) ≤ k) :
    Calls Try.prog 17 #[.agg (shpA s h), .int .i64 k, .bool deck] w (OwnInts w (alongF s k deck)) := by
  have HV : Hid (alongF s k deck = []) := Lib.hid (by unfold alongF; rw [if_pos hk])
  unfold shpA
  have hc : k < 0 ∨ (0 ≤ k ∧ (s.covs.length : Int) ≤ k) := by omega
  clear hk
  rcases hc with h1 | ⟨h1, h2⟩
  all_goals
    go_enter Try.func17, Try.ntmps17
    go_wp2
    go_ret
    exact ⟨_, rfl, by rw [HV.out]; exact OwnT.nil, ba1 w _⟩
set_option maxRecDepth 100000 in
set_option maxHeartbeats 4000000 in
theorem refAlong_in (s : Shp) (h : Hd) (c : Nat) (deck : Bool) (w : World) (hs : ShpR w (Lt w.heap.size) s h) (hf : Few s) (hc : c < s.covs.length) :
    Calls Try.prog 17 #[.agg (shpA s h), .int .i64 c, .bool deck] w (OwnInts w (alongF s c deck)) := by
  have HV : Hid (alongF s c deck = pick (alongB (s.covs.getD c default) deck) s.cols) := Lib.hid (by unfold alongF; rw [if_neg (by omega), Int.toNat_natCast])
  have hb0 := ba1 w (.cells (shpA s h) 32)
  have KE := Lib.hid (Bk.new w 32 (shpA s h))
  have HS := Lib.hid (hs.on hb0)
  have HB0 := Lib.hid hb0
  clear hs hb0
  unfold shpA at *
  have hcl := hf.cols
  have hrl := hf.rows _ (getD_memD hc default)
  clear hf
  have k1 : (c : Int) < (s.covs.length : Int) := by omega
  have k2 : (0 : Int) ≤ (c : Int) := by omega
  have q0 : decide ((c : Int) < 0) = false := by simp
  have q1 : decide (s.covs.length ≤ c) = false := by simp; omega
  go_enter Try.func17, Try.ntmps17
  go_upto_region 4 with fail
  clear q0 q1
  generalize hW : (w.alloc _) = W at *
  clear hW
  go_wp2_with fail
  go_loopw [7, 8] (fun v i wr => ∃ k : Nat, k ≤ s.cols.length ∧ i = .int .i64 k ∧ Hid (OwnT tInt 3 wr W.heap.size v (pick (alongB (s.covs.getD c default) deck) (s.cols.take k)) ∧ Below W.heap.size W wr)) (fun _ i _ => s.cols.length - (intOf i).toNat)
  case atStart => exact ⟨0, Nat.zero_le _, rfl, Lib.hid (And.intro OwnT.nil (Below.refl _ _))⟩
  case round =>
    obtain ⟨k, hk, rfl, HB⟩ := hrel
    obtain ⟨V, rfl⟩ : ∃ V, V = wr := ⟨_, rfl⟩
    have e0 : V.cell? ⟨w.heap.size, 0, none⟩ = some (.slice h.A1 s.cols.length h.c1) := (KE.out.below HB.out.2 KE.out.lt).cell 0
    by_cases hlt : k < s.cols.length
    · have e1 : V.cell? ⟨w.heap.size, 1, none⟩ = some (.slice h.A2 s.covs.length h.c2) := (KE.out.below HB.out.2 KE.out.lt).cell 1
      obtain ⟨b1, o1, Ap1, q1, hA1, _, _, hs1, a0, a1⟩ := (HS.out.on HB.out.2).covs.cov hc
      obtain ⟨b2, o2, Ap2, q2, hA2, _, _, _, d0, d1, d2, _⟩ := (HS.out.on HB.out.2).cols.col hlt
      rw [hA1] at e1
      rw [hA2] at e0
      clear hA1 hA2
      have i0 : (0 : Int) ≤ (k : Int) := by omega
      have i1 : (k : Int) < (s.cols.length : Int) := by omega
      have KI := Lib.hid (fun (V' : World) (hV : Below V.heap.size V V') => inside_any Ap1 q1 (s.covs.getD c default).rows (s.cols.getD k default).row V' (hs1.on hV) (by omega))
      clear hs1
      have HP := Lib.hid (pick_take (alongB (s.covs.getD c default) deck) hlt default)
      have hpl := pick_len (alongB (s.covs.getD c default) deck) (s.cols.take k)
      have hpl2 : (s.cols.take k).length ≤ k := by rw [List.length_take]; omega
      have HO := Lib.hid HB.out.1
      have HBQ := Lib.hid HB.out.2
      clear HB
      have HX : Hid (alongB (s.covs.getD c default) deck (s.cols.getD k default) = ((s.cols.getD k default).deck == deck && ((s.cols.getD k default).bay == (s.covs.getD c default).bay && decide (0 < (pick (· == (s.cols.getD k default).row) (s.covs.getD c default).rows).length)))) := Lib.hid (by unfold alongB covB; rw [BEq.comm (a := (s.covs.getD c default).bay)])
      generalize alongB (s.covs.getD c default) deck = bes at *
      generalize pick bes (s.cols.take k) = L at *
      generalize hq : decide (0 < (pick (· == (s.cols.getD k default).row) (s.covs.getD c default).rows).length) = q at *
      clear hq
      cases p1 : ((s.cols.getD k default).deck == deck) with
      | false =>
        have HN : Hid (pick bes (s.cols.take (k + 1)) = L) := Lib.hid (by rw [HP.out, HX.out]; simp only [p1, Bool.false_and]; simp)
        clear HX HP
        generalize s.cols.getD k default = y at *
        generalize s.covs.getD c default = x at *
        obtain ⟨xb, xrows⟩ := x
        obtain ⟨yb, yr, yd, _, _, _, _, _, _, _, _, _⟩ := y
        simp only at a0 a1 d0 d1 d2 KI p1
        go_upto_region 7 with fail
        have e0 : ∀ p : Gr V, p.W.cell? ⟨w.heap.size, 0, none⟩ = some (.slice (some ⟨b2, o2, none⟩) s.cols.length h.c1) := Gr.cell e0
        have e1 : ∀ p : Gr V, p.W.cell? ⟨w.heap.size, 1, none⟩ = some (.slice (some ⟨b1, o1, none⟩) s.covs.length h.c2) := Gr.cell e1
        have a0 : ∀ p : Gr V, p.W.cell? ⟨b1, o1 + c * 2, none⟩ = some (.int .i64 xb) := Gr.cell a0
        have a1 : ∀ p : Gr V, p.W.cell? ⟨b1, o1 + c * 2 + 1, none⟩ = some (.slice Ap1 xrows.length q1) := Gr.cell a1
        have d0 : ∀ p : Gr V, p.W.cell? ⟨b2, o2 + k * 12, none⟩ = some (.int .i64 yb) := Gr.cell d0
        have d1 : ∀ p : Gr V, p.W.cell? ⟨b2, o2 + k * 12 + 1, none⟩ = some (.int .i64 yr) := Gr.cell d1
        have d2 : ∀ p : Gr V, p.W.cell? ⟨b2, o2 + k * 12 + 2, none⟩ = some (.bool yd) := Gr.cell d2
        refine wp_region_gr (by kernel_rfl) (by kernel_rfl) ?_
        repeat (go_big_quiet_step ((with_reducible exact Gr.call _ (fun V hV => KI.out V hV))))
        refine wpQuiet_nil ?_
        rintro Y ⟨⟨_, hbY⟩, rfl⟩
        replace HO := Lib.hid (HO.out.below hbY)
        replace HBQ := Lib.hid (HBQ.out.trans (hbY.mono HBQ.out.size))
        clear hbY e0 e1 a0 a1 d0 d1 d2 KI
        go_wp2_with fail
        go_roundw
        case rel => first | exact ⟨k + 1, by omega, by go_num, Lib.hid (And.intro (by rw [HN.out]; exact HO.out) HBQ.out)⟩ | ((repeat apply Exists.intro); (first | exact ⟨⟨k + 1, by omega, by go_num, Lib.hid (And.intro (by rw [HN.out]; exact HO.out) HBQ.out)⟩, rfl⟩ | exact ⟨by omega, by go_num, Lib.hid (And.intro (by rw [HN.out]; exact HO.out) HBQ.out)⟩))
        case measure => simp [intOf]; omega
      | true =>
        cases p2 : ((s.cols.getD k default).bay == (s.covs.getD c default).bay) with
        | false =>
          have HN : Hid (pick bes (s.cols.take (k + 1)) = L) := Lib.hid (by rw [HP.out, HX.out]; simp only [p1, p2, Bool.false_and, Bool.and_false]; simp)
          clear HX HP
          generalize s.cols.getD k default = y at *
          generalize s.covs.getD c default = x at *
          obtain ⟨xb, xrows⟩ := x
          obtain ⟨yb, yr, yd, _, _, _, _, _, _, _, _, _⟩ := y
          simp only at a0 a1 d0 d1 d2 KI p1 p2
          go_upto_region 7 with fail
          have e0 : ∀ p : Gr V, p.W.cell? ⟨w.heap.size, 0, none⟩ = some (.slice (some ⟨b2, o2, none⟩) s.cols.length h.c1) := Gr.cell e0
          have e1 : ∀ p : Gr V, p.W.cell? ⟨w.heap.size, 1, none⟩ = some (.slice (some ⟨b1, o1, none⟩) s.covs.length h.c2) := Gr.cell e1
          have a0 : ∀ p : Gr V, p.W.cell? ⟨b1, o1 + c * 2, none⟩ = some (.int .i64 xb) := Gr.cell a0
          have a1 : ∀ p : Gr V, p.W.cell? ⟨b1, o1 + c * 2 + 1, none⟩ = some (.slice Ap1 xrows.length q1) := Gr.cell a1
          have d0 : ∀ p : Gr V, p.W.cell? ⟨b2, o2 + k * 12, none⟩ = some (.int .i64 yb) := Gr.cell d0
          have d1 : ∀ p : Gr V, p.W.cell? ⟨b2, o2 + k * 12 + 1, none⟩ = some (.int .i64 yr) := Gr.cell d1
          have d2 : ∀ p : Gr V, p.W.cell? ⟨b2, o2 + k * 12 + 2, none⟩ = some (.bool yd) := Gr.cell d2
          refine wp_region_gr (by kernel_rfl) (by kernel_rfl) ?_
          repeat (go_big_quiet_step ((with_reducible exact Gr.call _ (fun V hV => KI.out V hV))))
          refine wpQuiet_nil ?_
          rintro Y ⟨⟨_, hbY⟩, rfl⟩
          replace HO := Lib.hid (HO.out.below hbY)
          replace HBQ := Lib.hid (HBQ.out.trans (hbY.mono HBQ.out.size))
          clear hbY e0 e1 a0 a1 d0 d1 d2 KI
          go_wp2_with fail
          go_roundw
          case rel => first | exact ⟨k + 1, by omega, by go_num, Lib.hid (And.intro (by rw [HN.out]; exact HO.out) HBQ.out)⟩ | ((repeat apply Exists.intro); (first | exact ⟨⟨k + 1, by omega, by go_num, Lib.hid (And.intro (by rw [HN.out]; exact HO.out) HBQ.out)⟩, rfl⟩ | exact ⟨by omega, by go_num, Lib.hid (And.intro (by rw [HN.out]; exact HO.out) HBQ.out)⟩))
          case measure => simp [intOf]; omega
        | true =>
          cases q with
          | false =>
            have HN : Hid (pick bes (s.cols.take (k + 1)) = L) := Lib.hid (by rw [HP.out, HX.out]; simp only [p1, p2, Bool.and_false]; simp)
            clear HX HP
            generalize s.cols.getD k default = y at *
            generalize s.covs.getD c default = x at *
            obtain ⟨xb, xrows⟩ := x
            obtain ⟨yb, yr, yd, _, _, _, _, _, _, _, _, _⟩ := y
            simp only at a0 a1 d0 d1 d2 KI p1 p2
            go_upto_region 7 with fail
            have e0 : ∀ p : Gr V, p.W.cell? ⟨w.heap.size, 0, none⟩ = some (.slice (some ⟨b2, o2, none⟩) s.cols.length h.c1) := Gr.cell e0
            have e1 : ∀ p : Gr V, p.W.cell? ⟨w.heap.size, 1, none⟩ = some (.slice (some ⟨b1, o1, none⟩) s.covs.length h.c2) := Gr.cell e1
            have a0 : ∀ p : Gr V, p.W.cell? ⟨b1, o1 + c * 2, none⟩ = some (.int .i64 xb) := Gr.cell a0
            have a1 : ∀ p : Gr V, p.W.cell? ⟨b1, o1 + c * 2 + 1, none⟩ = some (.slice Ap1 xrows.length q1) := Gr.cell a1
            have d0 : ∀ p : Gr V, p.W.cell? ⟨b2, o2 + k * 12, none⟩ = some (.int .i64 yb) := Gr.cell d0
            have d1 : ∀ p : Gr V, p.W.cell? ⟨b2, o2 + k * 12 + 1, none⟩ = some (.int .i64 yr) := Gr.cell d1
            have d2 : ∀ p : Gr V, p.W.cell? ⟨b2, o2 + k * 12 + 2, none⟩ = some (.bool yd) := Gr.cell d2
            refine wp_region_gr (by kernel_rfl) (by kernel_rfl) ?_
            repeat (go_big_quiet_step ((with_reducible exact Gr.call _ (fun V hV => KI.out V hV))))
            refine wpQuiet_nil ?_
            rintro Y ⟨⟨_, hbY⟩, rfl⟩
            replace HO := Lib.hid (HO.out.below hbY)
            replace HBQ := Lib.hid (HBQ.out.trans (hbY.mono HBQ.out.size))
            clear hbY e0 e1 a0 a1 d0 d1 d2 KI
            go_wp2_with fail
            go_roundw
            case rel => first | exact ⟨k + 1, by omega, by go_num, Lib.hid (And.intro (by rw [HN.out]; exact HO.out) HBQ.out)⟩ | ((repeat apply Exists.intro); (first | exact ⟨⟨k + 1, by omega, by go_num, Lib.hid (And.intro (by rw [HN.out]; exact HO.out) HBQ.out)⟩, rfl⟩ | exact ⟨by omega, by go_num, Lib.hid (And.intro (by rw [HN.out]; exact HO.out) HBQ.out)⟩))
            case measure => simp [intOf]; omega
          | true =>
            have HN : Hid (pick bes (s.cols.take (k + 1)) = L ++ [(k : Int)]) := Lib.hid (by rw [HP.out, HX.out]; simp only [p1, p2, Bool.and_true]; simp)
            clear HX HP
            generalize s.cols.getD k default = y at *
            generalize s.covs.getD c default = x at *
            obtain ⟨xb, xrows⟩ := x
            obtain ⟨yb, yr, yd, _, _, _, _, _, _, _, _, _⟩ := y
            simp only at a0 a1 d0 d1 d2 KI p1 p2
            go_upto_region 7 with fail
            have e0 : ∀ p : Gr V, p.W.cell? ⟨w.heap.size, 0, none⟩ = some (.slice (some ⟨b2, o2, none⟩) s.cols.length h.c1) := Gr.cell e0
            have e1 : ∀ p : Gr V, p.W.cell? ⟨w.heap.size, 1, none⟩ = some (.slice (some ⟨b1, o1, none⟩) s.covs.length h.c2) := Gr.cell e1
            have a0 : ∀ p : Gr V, p.W.cell? ⟨b1, o1 + c * 2, none⟩ = some (.int .i64 xb) := Gr.cell a0
            have a1 : ∀ p : Gr V, p.W.cell? ⟨b1, o1 + c * 2 + 1, none⟩ = some (.slice Ap1 xrows.length q1) := Gr.cell a1
            have d0 : ∀ p : Gr V, p.W.cell? ⟨b2, o2 + k * 12, none⟩ = some (.int .i64 yb) := Gr.cell d0
            have d1 : ∀ p : Gr V, p.W.cell? ⟨b2, o2 + k * 12 + 1, none⟩ = some (.int .i64 yr) := Gr.cell d1
            have d2 : ∀ p : Gr V, p.W.cell? ⟨b2, o2 + k * 12 + 2, none⟩ = some (.bool yd) := Gr.cell d2
            refine wp_region_gr (by kernel_rfl) (by kernel_rfl) ?_
            repeat (go_big_quiet_step ((with_reducible exact Gr.call _ (fun V hV => KI.out V hV))))
            refine wpQuiet_nil ?_
            rintro Y ⟨⟨_, hbY⟩, rfl⟩
            replace HO := Lib.hid (HO.out.below hbY)
            replace HBQ := Lib.hid (HBQ.out.trans (hbY.mono HBQ.out.size))
            clear hbY e0 e1 a0 a1 d0 d1 d2 KI
            obtain ⟨xs, ho, hf⟩ := HO.out
            go_wp2_with (at_builtin; (refine wpList_append1 el_int rfl (.tmp 64) (.tmp 66) rfl W.heap.size _ L.length xs rfl ho #[.int .i64 (k : Nat)] _ rfl rfl rfl ?c1 ?c2 ?c3 ?_))
            case c1 => unfold maxLen; omega
            case c2 => omega
            case c3 => exact HBQ.out.size
            intro v' w3 hown' hgr hd3 hbel
            have HN2 := Lib.hid (And.intro (OwnT.int1 hf hown' hgr hd3) (HBQ.out.trans hbel))
            clear hf ho hown' hgr hd3 hbel HO HBQ
            go_wp2
            go_roundw
            case rel => first | exact ⟨k + 1, by omega, by go_num, Lib.hid (And.intro (by rw [HN.out]; exact HN2.out.1) HN2.out.2)⟩ | ((repeat apply Exists.intro); (first | exact ⟨⟨k + 1, by omega, by go_num, Lib.hid (And.intro (by rw [HN.out]; exact HN2.out.1) HN2.out.2)⟩, rfl⟩ | exact ⟨by omega, by go_num, Lib.hid (And.intro (by rw [HN.out]; exact HN2.out.1) HN2.out.2)⟩))
            case measure => simp [intOf]; omega
    · obtain rfl : k = s.cols.length := by omega
      have HO : Hid (OwnT tInt 3 V W.heap.size _ (alongF s c deck)) := Lib.hid (by have := HB.out.1; rw [List.take_length] at this; rw [HV.out]; exact this)
      have hbz := HB.out.2
      have HE : Hid (Below w.heap.size w V) := Lib.hid (HB0.out.trans (hbz.mono HB0.out.size))
      have hsz := HB0.out.size
      clear HB
      go_wp2_with fail
      go_ret
      exact ⟨_, rfl, HO.out.down hsz, HE.out⟩
theorem refAlong_any (s : Shp) (h : Hd) (k : Int) (deck : Bool) (w : World) (hs : ShpR w (Lt w.heap.size) s h) (hf : Few s) :
    Calls Try.prog 17 #[.agg (shpA s h), .int .i64 k, .bool deck] w (OwnInts w (alongF s k deck)) := by
  by_cases hk : k < 0 ∨ (s.covs.length : Int) ≤ k
  · exact refAlong_out s h k deck w hk
  · obtain ⟨n, rfl⟩ := Int.eq_ofNat_of_zero_le (show 0 ≤ k by omega)
    exact refAlong_in s h n deck w hs hf (by omega)
set_option maxRecDepth 100000 in
set_option maxHeartbeats 4000000 in
theorem refTallest_any (s : Shp) (h : Hd) (w : World) (hs : ShpR w (Lt w.heap.size) s h) (hl : s.cols.length ≤ 1000000) :
    Calls Try.prog 19 #[.agg (shpA s h)] w (Ret w (.int .i64 (tallTo s.cols s.cols.length))) := by
  have hb0 := ba1 w (.cells (shpA s h) 32)
  have KE := Lib.hid (Bk.new w 32 (shpA s h))
  have HS := Lib.hid (hs.on hb0)
  have HB0 := Lib.hid hb0
  clear hs hb0
  unfold shpA at *
  go_enter Try.func19, Try.ntmps19
  go_upto_region 2 with fail
  generalize hW : (w.alloc _) = W at *
  clear hW
  go_wp2_with fail
  go_loopw [3, 4] (fun n i wr => ∃ k : Nat, k ≤ s.cols.length ∧ i = .int .i64 k ∧ n = .int .i64 (tallTo s.cols k) ∧ Hid (Below W.heap.size W wr)) (fun _ i _ => s.cols.length - (intOf i).toNat)
  case atStart => exact ⟨0, Nat.zero_le _, rfl, rfl, Lib.hid (Below.refl _ _)⟩
  case round =>
    obtain ⟨k, hk, rfl, rfl, HB⟩ := hrel
    obtain ⟨V, rfl⟩ : ∃ V, V = wr := ⟨_, rfl⟩
    have e0 : V.cell? ⟨w.heap.size, 0, none⟩ = some (.slice h.A1 s.cols.length h.c1) := (KE.out.below HB.out KE.out.lt).cell 0
    by_cases hlt : k < s.cols.length
    · skip
      obtain ⟨b1, o1, Ap1, q1, hA1, _, _, _, _, _, _, a3, _⟩ := (HS.out.on HB.out).cols.col hlt
      rw [hA1] at e0
      clear hA1
      have i0 : (0 : Int) ≤ (k : Int) := by omega
      have i1 : (k : Int) < (s.cols.length : Int) := by omega
      have HT : Hid (tallTo s.cols (k + 1) = if k = 0 ∨ tallTo s.cols k < (s.cols.getD k default).tiers then (s.cols.getD k default).tiers else tallTo s.cols k) := Lib.hid rfl
      generalize (s.cols.getD k default).tiers = x at *
      generalize hTT : tallTo s.cols k = t at *
      clear hTT
      by_cases hz : k = 0
      · have HN : Hid (tallTo s.cols (k + 1) = x) := Lib.hid (by rw [HT.out, if_pos (.inl hz)])
        clear HT
        subst hz
        simp only [Nat.zero_mul, Nat.add_zero] at a3
        go_wp2_with fail
        go_roundw
        case rel => first | exact ⟨0 + 1, by omega, by go_num, by rw [HN.out], HB⟩ | ((repeat apply Exists.intro); (first | exact ⟨⟨0 + 1, by omega, by go_num, by rw [HN.out], HB⟩, rfl⟩ | exact ⟨by omega, by go_num, by rw [HN.out], HB⟩))
        case measure => simp [intOf]; omega
      · have z1 : ((k : Int) == 0) = false := by simp; omega
        have z2 : (k == 0) = false := by simp; omega
        by_cases hg : t < x
        · have HN : Hid (tallTo s.cols (k + 1) = x) := Lib.hid (by rw [HT.out, if_pos (.inr hg)])
          have z3 : decide (t < x) = true := decide_eq_true hg
          clear HT
          go_wp2_with fail
          go_roundw
          case rel => first | exact ⟨k + 1, by omega, by go_num, by rw [HN.out], HB⟩ | ((repeat apply Exists.intro); (first | exact ⟨⟨k + 1, by omega, by go_num, by rw [HN.out], HB⟩, rfl⟩ | exact ⟨by omega, by go_num, by rw [HN.out], HB⟩))
          case measure => simp [intOf]; omega
        · have HN : Hid (tallTo s.cols (k + 1) = t) := Lib.hid (by rw [HT.out, if_neg (by omega)])
          have z3 : decide (t < x) = false := decide_eq_false hg
          clear HT
          go_wp2_with fail
          go_roundw
          case rel => first | exact ⟨k + 1, by omega, by go_num, by rw [HN.out], HB⟩ | ((repeat apply Exists.intro); (first | exact ⟨⟨k + 1, by omega, by go_num, by rw [HN.out], HB⟩, rfl⟩ | exact ⟨by omega, by go_num, by rw [HN.out], HB⟩))
          case measure => simp [intOf]; omega
    · obtain rfl : k = s.cols.length := by omega
      have HE := Lib.hid (HB0.out.trans (HB.out.mono HB0.out.size))
      go_wp2_with fail
      go_ret
      exact ⟨rfl, HE.out⟩
set_option maxRecDepth 100000 in
set_option maxHeartbeats 4000000 in
theorem refPlaces_any (s : Shp) (h : Hd) (w : World) (hs : ShpR w (Lt w.heap.size) s h) (hl : s.cols.length ≤ 1000000) :
    Calls Try.prog 21 #[.agg (shpA s h)] w (Ret w (.int .i64 (placesTo s.cols s.cols.length))) := by
  have hb0 := ba1 w (.cells (shpA s h) 32)
  have KE := Lib.hid (Bk.new w 32 (shpA s h))
  have HS := Lib.hid (hs.on hb0)
  have HB0 := Lib.hid hb0
  clear hs hb0
  unfold shpA at *
  go_enter Try.func21, Try.ntmps21
  go_upto_region 2 with fail
  generalize hW : (w.alloc _) = W at *
  clear hW
  go_wp2_with fail
  go_loopw [3, 4] (fun n i wr => ∃ k : Nat, k ≤ s.cols.length ∧ i = .int .i64 k ∧ n = .int .i64 (placesTo s.cols k) ∧ Hid (Below W.heap.size W wr)) (fun _ i _ => s.cols.length - (intOf i).toNat)
  case atStart => exact ⟨0, Nat.zero_le _, rfl, rfl, Lib.hid (Below.refl _ _)⟩
  case round =>
    obtain ⟨k, hk, rfl, rfl, HB⟩ := hrel
    obtain ⟨V, rfl⟩ : ∃ V, V = wr := ⟨_, rfl⟩
    have e0 : V.cell? ⟨w.heap.size, 0, none⟩ = some (.slice h.A1 s.cols.length h.c1) := (KE.out.below HB.out KE.out.lt).cell 0
    by_cases hlt : k < s.cols.length
    · skip
      obtain ⟨b1, o1, Ap1, q1, hA1, _, _, _, _, _, _, a3, _⟩ := (HS.out.on HB.out).cols.col hlt
      rw [hA1] at e0
      clear hA1
      have i0 : (0 : Int) ≤ (k : Int) := by omega
      have i1 : (k : Int) < (s.cols.length : Int) := by omega
      have HT : Hid (placesTo s.cols (k + 1) = wrap64 (wrap64 (placesTo s.cols k + (s.cols.getD k default).tiers) + (s.cols.getD k default).tiers)) := Lib.hid (by
        show wrap64 (placesTo s.cols k + wrap64 (2 * (s.cols.getD k default).tiers)) = _
        unfold wrap64
        omega)
      generalize (s.cols.getD k default).tiers = x at *
      generalize hTT : placesTo s.cols k = t at *
      clear hTT
      go_upto_region 5 with fail
      have e0 : ∀ p : Gr V, p.W.cell? ⟨w.heap.size, 0, none⟩ = some (.slice (some ⟨b1, o1, none⟩) s.cols.length h.c1) := Gr.cell e0
      have a3 : ∀ p : Gr V, p.W.cell? ⟨b1, o1 + k * 12 + 3, none⟩ = some (.int .i64 x) := Gr.cell a3
      refine wp_region_gr (by kernel_rfl) (by kernel_rfl) ?_
      repeat (go_big_quiet_step (fail))
      refine wpQuiet_nil ?_
      rintro Y ⟨⟨_, hbY⟩, rfl⟩
      have HBY := Lib.hid (HB.out.trans (hbY.mono HB.out.size))
      clear hbY HB e0 a3
      go_wp2_with fail
      go_roundw
      case rel => first | exact ⟨k + 1, by omega, by go_num, by rw [HT.out], HBY⟩ | ((repeat apply Exists.intro); (first | exact ⟨⟨k + 1, by omega, by go_num, by rw [HT.out], HBY⟩, rfl⟩ | exact ⟨by omega, by go_num, by rw [HT.out], HBY⟩))
      case measure => simp [intOf]; omega
    · obtain rfl : k = s.cols.length := by omega
      have HE := Lib.hid (HB0.out.trans (HB.out.mono HB0.out.size))
      go_wp2_with fail
      go_ret
      exact ⟨rfl, HE.out⟩
end Go.Proofs.Ytpmhchbkhohmjaa
