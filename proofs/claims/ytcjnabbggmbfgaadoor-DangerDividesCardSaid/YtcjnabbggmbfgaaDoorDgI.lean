/-
  The walk of the statement DangerDivides.
-/
import Derived.Test.YtcjnabbggmbfgaaDoorDgH
import Derived.Test.YtcjnabbggmbfgaaDoorDgPlain4
import Derived.Test.YtcjnabbggmbfgaaDoorDgG
namespace Go.Proofs.YtcjnabbggmbfgaaDoor
open Go.RowKit

theorem flat_take {R : List (List Nat)} {i : Nat} (h : i < R.length) : (R.take (i + 1)).flatten = (R.take i).flatten ++ R.getD i [] := by
  rw [List.take_succ_eq_append_getElem h, List.flatten_append, List.flatten_singleton]; congr 1; simp [h]
theorem Groups.at_ {w : World} {base : Nat} {v : Value} {R : List (List Nat)} (h : Groups w base v R) : ∃ A c, v = .slice A R.length c ∧ R.length ≤ c ∧
    ∀ i, i < R.length → ∃ b off Ai ci, A = some ⟨b, off, none⟩ ∧ b < w.heap.size ∧ w.cell? ⟨b, off + i, none⟩ = some (.slice Ai (R.getD i []).length ci) ∧ (R.getD i []).length ≤ ci ∧ Sl w w.heap.size 1 Ai (R.getD i []).length (u8s (R.getD i [])) := by
  obtain ⟨vs, ho, hl, hi⟩ := h
  obtain ⟨A, c, rfl, hc, _, hs⟩ := own_sl ho
  refine ⟨A, c, rfl, hc, fun i hlt => ?_⟩
  obtain ⟨b, off, hA, hb, hcell⟩ := hs.at_ hlt
  obtain ⟨Ai, ci, e, hci, _, si⟩ := own_sl (hi i hlt)
  exact ⟨b, off, Ai, ci, hA, hb, by rw [hcell, e], hci, si⟩

theorem mem_clsTo (p : List Nat) (c : Nat) : ∀ k, c ∈ Dg.clsTo p k ↔ 1 ≤ c ∧ c ≤ k ∧ 0 < p.count c
  | 0 => by simp [Dg.clsTo]; omega
  | k + 1 => by
    have ih := mem_clsTo p c k
    unfold Dg.clsTo
    split
    · rw [List.mem_append, ih, List.mem_singleton]
      constructor
      · rintro (h | h)
        · omega
        · subst h; omega
      · intro h
        by_cases e : c = k + 1
        · exact .inr e
        · exact .inl (by omega)
    · rw [ih]
      constructor
      · omega
      · intro h
        by_cases e : c = k + 1
        · subst e; omega
        · omega
theorem groups_nil (w : World) (base : Nat) : Groups w base (.slice none 0 0) [] := ⟨[], World.ownsRow_nil _ _ _ _, rfl, fun i hi => by simp at hi⟩
/-- What is known of one group. -/
def RowOK (Ri : List Nat) (prev i : Nat) : Prop := 0 < Ri.length ∧ Ri.length ≤ 9 ∧ (0 < i → prev < Ri.getD 0 0) ∧ ∀ k, k < Ri.length → 1 ≤ Ri.getD k 0 ∧ Ri.getD k 0 ≤ 9 ∧ (0 < k → Ri.getD (k - 1) 0 < Ri.getD k 0) ∧ ∀ j, j < k → Dg.tab (Ri.getD k 0) (Ri.getD j 0) = 0
theorem good_row {cs : List Nat} {R : List (List Nat)} (h : Dg.Good cs R) {i : Nat} (hi : i < R.length) : RowOK (R.getD i []) ((R.getD (i - 1) []).getD 0 0) i := h.1.2 i hi

set_option maxRecDepth 100000 in
set_option maxHeartbeats 8000000 in
theorem divides_any (A : Option Addr) (n c : Nat) (l : List Nat) (w : World) (ht : TabOK w) (hs : Sl w w.heap.size 1 A n (u8s l)) (hl : ∀ x ∈ l, x < 256) (hn : n ≤ maxLen) :
    Calls Tryd.prog 3 #[.slice A n c] w (TrueRet w) := by
  have HT := Lib.hid ht; clear ht
  have Hs := Lib.hid hs; clear hs
  have HL := Lib.hid hl; clear hl
  go_enter Tryd.func3, Tryd.ntmps3
  go_wp2_with fail
  refine (awake_true _ HT.out).mono ?_
  rintro e w1 ⟨rfl, hb1⟩
  go_wp2_with fail
  refine (classes_any A n c l w1 ((Hs.out.below hb1).more hb1.size) HL.out hn).mono ?_
  rintro e w2 ⟨v2, rfl, ho2, hb2⟩
  obtain ⟨A2, c2, rfl, hc21, hc22, hs2⟩ := own_sl ho2
  have hL10 := mods_lt l 100
  have hLl := mods_len l 100
  generalize mods l 100 = L at *
  have hpe := Dg.pre_all (l := L) (by omega) (fun y hy => by have := hL10 y hy; omega)
  have HT2 := Lib.hid ((HT.out.below hb1 HT.out.lt).below hb2 (by have := HT.out.lt; have := hb1.size; omega))
  have hdv := divide_ok A2 L.length c2 L w2 HT2.out hs2 hpe.2
  rw [hpe.1] at hdv
  have hgood := Dg.divide_good L
  generalize Dg.divide L = R at *
  have hcsub : ∀ c, c < 10 → (c ∈ Dg.clsTo L 9 ↔ (1 ≤ c ∧ 0 < L.count c)) := fun c hc => by rw [mem_clsTo]; omega
  have HD := Lib.hid hdv; clear hdv hpe
  have HG := Lib.hid hgood; clear hgood
  have HCS := Lib.hid hcsub; clear hcsub
  have H10 := Lib.hid hL10; clear hL10
  clear ho2
  have hbw2 := hb1.trans (hb2.mono hb1.size)
  go_wp2_with fail
  refine HD.out.mono ?_
  rintro e w3 ⟨v3, rfl, hG3, hb3⟩
  obtain ⟨A3, c3, rfl, hc31, hat3⟩ := hG3.at_
  have Hat3 := Lib.hid hat3; clear hat3
  have hR9 := HG.out.1.1
  have hbw3 := hbw2.trans (hb3.mono hbw2.size)
  have Hs3 := Lib.hid ((hs2.below hb3).more hb3.size)
  have HT3 := Lib.hid (HT2.out.below hb3 HT2.out.lt)
  clear HD hs2
  go_wp2
  -- the counts of the list
  go_loopw [30] (fun i wr => ∃ k : Nat, k ≤ L.length ∧ i = .int .i64 k ∧ Bk wr w3.heap.size 29 (cntA (L.take k)) ∧ Bk wr (w3.heap.size + 1) 29 (cntA []) ∧ Below w3.heap.size w3 wr) (fun i _ => L.length - (intOf i).toNat)
  case atStart =>
    refine ⟨0, Nat.zero_le _, rfl, ?_, ?_, ((Below.refl _ _).alloc (Nat.le_refl _) _).alloc (by simp) _⟩
    · rw [List.take_zero, cntA_nil]; exact (Bk.new w3 _ _).alloc _
    · rw [cntA_nil]; exact heap_alloc2_new w3 _ _
  case round =>
    obtain ⟨k, hk, rfl, h0, h1, hb⟩ := hrel
    by_cases hlt : k < L.length
    · obtain ⟨b, off, rfl, hbB, hc⟩ := (Hs3.out.below hb).u8 hlt
      have hx10 := H10.out _ (getD_mem hlt)
      have HX := Lib.hid (count_take_succ hlt rfl)
      generalize L.getD k 0 = x at *
      have c1 := (h0.cell x).trans (cntA_at _ x hx10)
      have f1 := h0.frozen x
      have hcb : ((L.take k).count x) ≤ 1000 := by have := List.count_le_length (a := x) (l := L.take k); simp at this; omega
      have R1 : Bk (wr.setCell ⟨w3.heap.size, x, none⟩ (.int .i64 (((L.take k).count x : Int) + 1))) w3.heap.size 29 (cntA (L.take (k + 1))) := by
        rw [HX.out, ← cntA_snoc _ _ hx10]; exact h0.set_ _ _
      have R0 : Bk (wr.setCell ⟨w3.heap.size, x, none⟩ (.int .i64 (((L.take k).count x : Int) + 1))) (w3.heap.size + 1) 29 (cntA []) := h1.far (by simp) _
      have RB : Below w3.heap.size w3 (wr.setCell ⟨w3.heap.size, x, none⟩ (.int .i64 (((L.take k).count x : Int) + 1))) := hb.setCell (by simp) _
      have HR := Lib.hid (And.intro R1 (And.intro R0 RB)); clear R1 R0 RB
      generalize (L.take k).count x = q at *
      go_wp2
      go_roundw
      case rel => exact ⟨k + 1, by omega, by go_num, HR.out⟩
      case measure => simp [intOf]; omega
    · have hkn : L.take k = L := List.take_of_length_le (by omega)
      rw [hkn] at h0
      clear hkn
      obtain ⟨wo, rfl⟩ : ∃ wo : World, wo = wr := ⟨_, rfl⟩
      go_wp2
      go_loopw [42] (fun i wr => ∃ k : Nat, k ≤ R.length ∧ i = .int .i64 k ∧ Bk wr w3.heap.size 29 (cntA L) ∧ Bk wr (w3.heap.size + 1) 29 (cntA (R.take k).flatten) ∧ Below w3.heap.size w3 wr) (fun i _ => R.length - (intOf i).toNat)
      case atStart => exact ⟨0, Nat.zero_le _, rfl, h0, h1, hb⟩
      case round =>
        obtain ⟨i, hi, rfl, h0, h1, hb⟩ := hrel
        by_cases hlt2 : i < R.length
        · have hrow := good_row HG.out hlt2
          obtain ⟨b, off, Ai, ci, rfl, hbl, hcell, hci, hsl⟩ := Hat3.out i hlt2
          have HFT := Lib.hid (flat_take hlt2)
          generalize hRi : R.getD i [] = Ri at *
          have HRi := Lib.hid hRi; clear hRi
          have HROW := Lib.hid hrow; clear hrow
          have hp0 := HROW.out.1
          have hp9 := HROW.out.2.1
          have hcw : wr.cell? ⟨b, off + i, none⟩ = some (.slice Ai Ri.length ci) := (hb.cell (p := ⟨b, off + i, none⟩) hbl).trans hcell
          have Hsw := Lib.hid (hsl.below hb)
          have Hsl3 := Lib.hid hsl
          obtain ⟨bi, oi, rfl, hbi, hci0⟩ := Hsw.out.u8 (j := 0) hp0
          rw [Nat.add_zero] at hci0
          have hg0 : ((Ri.length : Int) == 0) = false := by rw [beq_eq_false_iff_ne]; omega
          have hi4 : (i : Int) < (R.length : Int) := by omega
          clear hsl hcell
          go_upto_region 17 with fail
          go_cut [66] (fun v wx => v = .bool false ∧ ∃ m, wx = wr.drewN m)
          case first =>
            by_cases hi0 : 0 < i
            · have hd0 : decide ((0 : Int) < (i : Int)) = true := by simp; omega
              obtain ⟨b', off', Ap, cp, hAA, _, hcellp, _, hslp⟩ := Hat3.out (i - 1) (by omega)
              have hGp := (good_row HG.out (show i - 1 < R.length by omega)).1
              have hord := HROW.out.2.2.1 hi0
              generalize R.getD (i - 1) [] = Rp at *
              have hcp : wr.cell? ⟨b, off + (i - 1), none⟩ = some (.slice Ap Rp.length cp) := by
                injection hAA with hAA; injection hAA with e1 e2; subst e1 e2
                exact (hb.cell (p := ⟨b, off + (i - 1), none⟩) hbl).trans hcellp
              obtain ⟨bp, op, rfl, hbp, hcp0⟩ := (hslp.below hb).u8 (j := 0) hGp
              rw [Nat.add_zero] at hcp0
              have hleq : decide (Ri.getD 0 0 ≤ Rp.getD 0 0) = false := by rw [decide_eq_false_iff_not]; omega
              have hi1 : (0 : Int) ≤ (i : Int) - 1 := by omega
              have hi2 : (i : Int) - 1 < (R.length : Int) := by omega
              have hi3 : IntKind.i64.wrap ((i : Int) - 1) = (i : Int) - 1 := IntWalk.i64_in _ (by omega)
              have hi5 : ((i : Int) - 1).toNat = i - 1 := by omega
              clear hAA hcellp hslp hord HROW HRi HFT Hsw
              generalize Ri.getD 0 0 = x at *
              generalize Rp.getD 0 0 = y at *
              go_quiet (fail)
              go_wp2_with fail
              go_meet
              exact ⟨rfl, nq, rfl⟩
            · have hd0 : decide ((0 : Int) < (i : Int)) = false := by simp; omega
              go_quiet (fail)
              go_wp2_with fail
              go_meet
              exact ⟨rfl, nq, rfl⟩
          case rest =>
            obtain ⟨rfl, m1, rfl⟩ := hcut
            obtain ⟨wi, hwi⟩ : ∃ wi, wi = wr.drewN m1 := ⟨_, rfl⟩
            rw [← hwi]
            have k0 : Bk wi w3.heap.size 29 (cntA L) := by rw [hwi]; exact h0
            have k1 : Bk wi (w3.heap.size + 1) 29 (cntA (R.take i).flatten) := by rw [hwi]; exact h1
            have kb : Below w3.heap.size w3 wi := by rw [hwi]; exact below_drewN hb _
            clear hwi h0 h1 hb Hsw hcw hci0
            have hfl : ∀ c, ((R.take (i + 1)).flatten).count c ≤ R.flatten.count c := fun c => by
              conv => rhs; rw [← List.take_append_drop (i + 1) R, List.flatten_append, List.count_append]
              omega
            have HFL := Lib.hid hfl; clear hfl
            go_wp2
            go_loopw [69] (fun i2 wr => ∃ k : Nat, k ≤ Ri.length ∧ i2 = .int .i64 k ∧ Bk wr w3.heap.size 29 (cntA L) ∧ Bk wr (w3.heap.size + 1) 29 (cntA ((R.take i).flatten ++ Ri.take k)) ∧ Below w3.heap.size w3 wr) (fun i _ => Ri.length - (intOf i).toNat)
            case atStart => exact ⟨0, Nat.zero_le _, rfl, k0, by simpa using k1, kb⟩
            case round =>
              obtain ⟨k2, hk2, rfl, h0, h1, hb⟩ := hrel
              by_cases hlt3 : k2 < Ri.length
              · obtain ⟨hx1, hx9, hxp, hxt⟩ := HROW.out.2.2.2 k2 hlt3
                obtain ⟨bx, ox, hAx, hbx, hcx⟩ := (Hsl3.out.below hb).u8 hlt3
                obtain ⟨rfl, rfl⟩ : bi = bx ∧ oi = ox := by injection hAx with h; injection h with e1 e2; exact ⟨e1, e2⟩
                have HTS := Lib.hid (count_take_succ hlt3 rfl)
                have hcnt : ((R.take i).flatten ++ Ri.take k2).count (Ri.getD k2 0) ≤ 1000 := by
                  have h1 := HFL.out (Ri.getD k2 0)
                  rw [HFT.out, List.count_append] at h1
                  have h2 := (HG.out.2.1 (Ri.getD k2 0) (by omega)).1
                  have h3 : (Ri.take k2).count (Ri.getD k2 0) ≤ Ri.count (Ri.getD k2 0) := (List.take_sublist k2 Ri).count_le _
                  rw [List.count_append]; omega
                have HXT := Lib.hid hxt; clear hxt
                have HXP : Hid (0 < k2 → ∃ y, y < Ri.getD k2 0 ∧ wr.cell? ⟨bi, oi + (k2 - 1), none⟩ = some (.int .u8 (y : Nat))) := Lib.hid fun h => by
                  obtain ⟨b', o', hA', _, hc'⟩ := (Hsl3.out.below hb).u8 (j := k2 - 1) (by omega)
                  obtain ⟨rfl, rfl⟩ : bi = b' ∧ oi = o' := by injection hA' with h; injection h with e1 e2; exact ⟨e1, e2⟩
                  exact ⟨_, hxp h, hc'⟩
                clear hAx hxp
                generalize hxk : Ri.getD k2 0 = x at *
                have HXK := Lib.hid hxk; clear hxk
                have c1 := (h1.cell x).trans (cntA_at _ x (by omega))
                have f1 := h1.frozen x
                have R1 : Bk (wr.setCell ⟨w3.heap.size + 1, x, none⟩ (.int .i64 ((((R.take i).flatten ++ Ri.take k2).count x : Int) + 1))) (w3.heap.size + 1) 29 (cntA ((R.take i).flatten ++ Ri.take (k2 + 1))) := by
                  rw [HTS.out, ← List.append_assoc, ← cntA_snoc _ _ (by omega)]; exact h1.set_ _ _
                have R0 : Bk (wr.setCell ⟨w3.heap.size + 1, x, none⟩ (.int .i64 ((((R.take i).flatten ++ Ri.take k2).count x : Int) + 1))) w3.heap.size 29 (cntA L) := h0.far (by simp) _
                have RB : Below w3.heap.size w3 (wr.setCell ⟨w3.heap.size + 1, x, none⟩ (.int .i64 ((((R.take i).flatten ++ Ri.take k2).count x : Int) + 1))) := hb.setCell (by simp) _
                generalize ((R.take i).flatten ++ Ri.take k2).count x = q at *
                have HR := Lib.hid (And.intro R0 (And.intro R1 RB)); clear R0 R1 RB
                have hd1 : decide ((x : Int) < 1) = false := by rw [decide_eq_false_iff_not]; omega
                have hd9 : decide ((9 : Int) < (x : Int)) = false := by rw [decide_eq_false_iff_not]; omega
                have hkci : k2 ≤ ci := by omega
                have hk0 : (0 < k2 ∧ ∃ y, y < x ∧ wr.cell? ⟨bi, oi + (k2 - 1), none⟩ = some (.int .u8 (y : Nat))) ∨ k2 = 0 := by
                  rcases Nat.eq_zero_or_pos k2 with h | h
                  · exact .inr h
                  · exact .inl ⟨h, HXP.out h⟩
                clear HXP
                obtain ⟨bk, hbk, hdk⟩ : ∃ bk : Bool, (bk = true → ∃ y, decide (x ≤ y) = false ∧ wr.cell? ⟨bi, oi + (k2 - 1), none⟩ = some (.int .u8 (y : Nat))) ∧ decide ((0 : Int) < (k2 : Int)) = bk := by
                  rcases hk0 with ⟨hk0, y, hy, hcy⟩ | hk0
                  · exact ⟨true, fun _ => ⟨y, by rw [decide_eq_false_iff_not]; omega, hcy⟩, by rw [decide_eq_true_iff]; omega⟩
                  · exact ⟨false, (fun h => by cases h), by rw [decide_eq_false_iff_not]; omega⟩
                clear hk0
                have HFIN := Lib.hid (show ∀ j, j < k2 → ∃ d, wr.cell? ⟨bi, oi + j, none⟩ = some (.int .u8 (d : Nat)) ∧ d < 10 ∧ Dg.tab x d = 0 from fun j hj => by
                  obtain ⟨b', o', hA', _, hc'⟩ := (Hsl3.out.below hb).u8 (j := j) (by omega)
                  obtain ⟨rfl, rfl⟩ : bi = b' ∧ oi = o' := by injection hA' with h; injection h with e1 e2; exact ⟨e1, e2⟩
                  exact ⟨_, hc', by have := (HROW.out.2.2.2 j (by omega)).2.1; omega, HXT.out j hj⟩)
                cases bk with
                | true =>
                  obtain ⟨y, hdy, hcy⟩ := hbk rfl
                  clear hbk
                  have hkk : 0 < k2 := by rw [decide_eq_true_iff] at hdk; omega
                  go_wp2
                  go_loop [102] (fun i3 => ∃ j : Nat, j ≤ k2 ∧ i3 = .int .i64 j) (fun i3 => k2 - (intOf i3).toNat)
                  case atStart => exact ⟨0, Nat.zero_le _, rfl⟩
                  case round =>
                    obtain ⟨j, hj, rfl⟩ := hrel
                    by_cases hjl : j < k2
                    · obtain ⟨d, hcd, hd10, hdz⟩ := HFIN.out j hjl
                      have HDZ := Lib.hid hdz; clear hdz
                      go_wp2_with (go_at_call 12; refine (lcode_ok x d _ (by omega) hd10 (HT3.out.below HR.out.2.2 HT3.out.lt)).mono ?_; rintro e w' ⟨rfl, rfl⟩; rw [HDZ.out])
                      go_round
                      case rel => exact ⟨j + 1, by omega, by go_num⟩
                      case measure => simp [intOf]; omega
                    · go_wp2
                      go_roundw
                      case rel => exact ⟨k2 + 1, by omega, by go_num, HR.out⟩
                      case measure => simp [intOf]; omega
                | false =>
                  clear hbk
                  have hkk : ¬ 0 < k2 := by rw [decide_eq_false_iff_not] at hdk; omega
                  go_wp2
                  go_loop [102] (fun i3 => ∃ j : Nat, j ≤ k2 ∧ i3 = .int .i64 j) (fun i3 => k2 - (intOf i3).toNat)
                  case atStart => exact ⟨0, Nat.zero_le _, rfl⟩
                  case round =>
                    obtain ⟨j, hj, rfl⟩ := hrel
                    by_cases hjl : j < k2
                    · obtain ⟨d, hcd, hd10, hdz⟩ := HFIN.out j hjl
                      have HDZ := Lib.hid hdz; clear hdz
                      go_wp2_with (go_at_call 12; refine (lcode_ok x d _ (by omega) hd10 (HT3.out.below HR.out.2.2 HT3.out.lt)).mono ?_; rintro e w' ⟨rfl, rfl⟩; rw [HDZ.out])
                      go_round
                      case rel => exact ⟨j + 1, by omega, by go_num⟩
                      case measure => simp [intOf]; omega
                    · go_wp2
                      go_roundw
                      case rel => exact ⟨k2 + 1, by omega, by go_num, HR.out⟩
                      case measure => simp [intOf]; omega
              · have hkn : Ri.take k2 = Ri := List.take_of_length_le (by omega)
                rw [hkn, ← HFT.out] at h1
                clear hkn
                go_wp2
                go_roundw
                case rel => exact ⟨i + 1, by omega, by go_num, h0, h1, hb⟩
                case measure => simp [intOf]; omega
        · obtain rfl : i = R.length := by omega
          rw [List.take_length] at h1
          have HGC := HG.out.2.1
          have HCNT := Lib.hid (show ∀ c, 1 ≤ c → c < 10 → (R.flatten.count c = 1 ∧ 0 < L.count c) ∨ (R.flatten.count c = 0 ∧ L.count c = 0) from fun c h1 h2 => by
            have a := HGC c h2
            have b := HCS.out c h2
            rw [b] at a
            omega)
          have HCOL := Lib.hid HG.out.2.2
          have HLc : Hid (∀ c, L.count c ≤ 100) := Lib.hid fun c => by have := List.count_le_length (a := c) (l := L); omega
          clear HGC
          generalize R.flatten = F at *
          obtain ⟨wp, rfl⟩ : ∃ wp : World, wp = wr := ⟨_, rfl⟩
          have hpz := hb.size
          have hg1 := h1.lt
          go_wp2
          go_loopw [9, 16] (fun v i wr => ∃ k : Nat, k ≤ 9 ∧ i = .int .u8 (k + 1) ∧ wr.ownsRow wp.heap.size 5 1 v (Dg.clsTo L k).length (u8s (Dg.clsTo L k)) ∧ Below wp.heap.size wp wr) (fun _ i _ => 10 - (intOf i).toNat)
          case atStart => exact ⟨0, Nat.zero_le _, rfl, World.ownsRow_nil _ _ _ _, Below.refl _ _⟩
          case round =>
            obtain ⟨k5, hk5, rfl, hown, hb5⟩ := hrel
            have hz5 := hb5.size
            by_cases hlt5 : k5 < 9
            · have cin := ((h1.below hb5 (by omega)).cell (k5 + 1)).trans (cntA_at F (k5 + 1) (by omega))
              have cma := ((h0.below hb5 (by omega)).cell (k5 + 1)).trans (cntA_at L (k5 + 1) (by omega))
              have hcl := Dg.clsTo_len L k5
              have HS : Hid (Dg.clsTo L (k5 + 1) = if 0 < L.count (k5 + 1) then Dg.clsTo L k5 ++ [k5 + 1] else Dg.clsTo L k5) := Lib.hid rfl
              have hcase := HCNT.out (k5 + 1) (by omega) (by omega)
              have hcnt := HLc.out (k5 + 1)
              generalize L.count (k5 + 1) = qm at *
              generalize F.count (k5 + 1) = qi at *
              generalize Dg.clsTo L k5 = C at *
              have hix1 : (k5 : Int) + 1 < 10 := by omega
              have hix2 : ((k5 : Int) + 1).toNat = k5 + 1 := by omega
              rcases hcase with ⟨rfl, hqm⟩ | ⟨rfl, rfl⟩
              · have hqd : decide ((0 : Int) < (qm : Int)) = true := by rw [decide_eq_true_iff]; omega
                go_wp2
                go_quiet (fail)
                obtain ⟨wn, hwn⟩ : ∃ wn, wn = wr.drewN nq := ⟨_, rfl⟩
                rw [← hwn]
                have ownn : wn.ownsRow wp.heap.size 5 1 u9 C.length (u8s C) := by rw [hwn]; exact hown
                have cinn : wn.cell? ⟨w3.heap.size + 1, k5 + 1, none⟩ = some (.int .i64 ((1 : Nat) : Int)) := by rw [hwn]; exact cin
                have hb5n : Below wp.heap.size wp wn := by rw [hwn]; exact below_drewN hb5 _
                have hz5n := hb5n.size
                clear hwn hown cin cma hb5 hz5
                go_wp2_with (at_builtin; (refine wpList_append1 el_u8 rfl (.tmp 136) (.tmp 138) rfl wp.heap.size _ C.length (u8s C) rfl ownn #[.int .u8 (k5 + 1)] _ rfl rfl rfl ?c1 ?c2 ?c3 ?_))
                case c1 => unfold maxLen; omega
                case c2 => omega
                case c3 => omega
                intro v' w6 hown' hgr hd6 hbel
                go_wp2
                go_roundw
                case rel => exact ⟨k5 + 1, by omega, by go_num, by rw [HS.out, if_pos hqm]; simpa [u8s] using hown', hb5n.trans hbel⟩
                case measure => simp [intOf]; omega
              · go_wp2
                go_quiet (fail)
                go_wp2
                go_roundw
                case rel => exact ⟨k5 + 1, by omega, by go_num, by rw [HS.out]; exact hown, below_drewN hb5 _⟩
                case measure => simp [intOf]; omega
            · obtain rfl : k5 = 9 := by omega
              have hcl := Dg.clsTo_lt L 9 (by omega)
              have hcn := Dg.clsTo_len L 9
              have HCL := Lib.hid hcl; clear hcl
              generalize Dg.clsTo L 9 = cs at *
              obtain ⟨A9, c9, rfl, hc91, hc92, hs9⟩ := own_sl hown
              have hbw9 := hbw3.trans ((hb.mono hbw3.size).trans (hb5.mono (by have := hbw3.size; omega)))
              have HPRE := Lib.hid (show ColPre wr wr.heap.size A9 cs.length c9 cs (.slice none ([] : List (List Nat)).length 0) [] from
                ⟨HT3.out.below (hb.trans (hb5.mono hpz)) HT3.out.lt, hs9, hc91, fun x hx => (HCL.out x hx).2, groups_nil _ _, by simp, by simp; omega, fun i => by simp; omega, by have := HT3.out.lt; omega, Nat.le_refl _⟩)
              rcases HCOL.out with hR0 | hcol
              · have hRl : R.length = 0 := by rw [hR0]; rfl
                have hRb : ((R.length : Int) == 0) = true := by rw [beq_iff_eq]; omega
                clear hR0
                go_wp2
                go_ret
                exact ⟨rfl, hbw9⟩
              · by_cases hRl : R.length = 0
                · have hRb : ((R.length : Int) == 0) = true := by rw [beq_iff_eq]; omega
                  go_wp2
                  go_ret
                  exact ⟨rfl, hbw9⟩
                · have hRb : ((R.length : Int) == 0) = false := by rw [beq_eq_false_iff_ne]; omega
                  have hcall := col_any (R.length - 1) (by omega) wr.heap.size cs wr A9 cs.length c9 none 0 [] HPRE.out
                  rw [hcol, show ((R.length - 1 : Nat) : Int) = (R.length : Int) - 1 from by omega] at hcall
                  have HCA := Lib.hid hcall; clear hcall hcol
                  go_wp2_with fail
                  refine HCA.out.mono ?_
                  rintro e w9 ⟨rfl, hg9⟩
                  go_wp2
                  go_ret
                  exact ⟨rfl, hbw9.trans ⟨hg9.os, hg9.tape, hg9.output, hg9.size, fun k hk => hg9.block k (by have := hbw9.size; omega) (by simp [Value.ownBlock])⟩⟩
end Go.Proofs.YtcjnabbggmbfgaaDoor
