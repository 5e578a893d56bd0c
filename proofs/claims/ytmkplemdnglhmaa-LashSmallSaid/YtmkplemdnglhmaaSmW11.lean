/-
  The walk of the statement LashSmall.
-/
import Derived.Test.YtmkplemdnglhmaaSmA
import Derived.Test.YtmkplemdnglhmaaTmB
import Derived.Test.YtmkplemdnglhmaaLaG
namespace Go.Proofs.Ytmkplemdnglhmaa
open Go.RowKit

def P11 (x : Col) (_ : Int) : Prop := (x.plugs = [] ∧ x.tiers = 3 ∧ x.bay = 0 ∧ x.row = 0) ∧ (-100000000 ≤ x.lash ∧ x.lash ≤ 100000000)
def Q11 (x : Bx) : Prop := x.size < 256 ∧ -1000000 ≤ x.kilos ∧ x.kilos ≤ 1000000
theorem set2_mem {x : Col} {p : Col → Prop} {l : List Col} (h1 : p x) (h2 : ∀ c ∈ l, p c) : ∀ c ∈ l.set 2 x, p c := fun c hc => by
  rcases List.mem_or_eq_of_mem_set hc with h | rfl
  · exact h2 c h
  · exact h1
theorem few_small11 {x : Col} {m : Int} (hP : P11 x m) {bl : List Bx} (hQ : ∀ b ∈ bl, Q11 b) (hb : bl.length = 4) {l : List Stw} (hl : l.length ≤ 3) : fewP11 { s11 with cols := s11.cols.set 2 x, m0 := m } bl l := by
  obtain ⟨⟨p1, p2, p3, p4⟩, p5⟩ := hP
  refine ⟨by simp only [List.length_set]; decide, (by decide : s11.covs.length ≤ 20), by omega, by omega, (by decide : ∀ x ∈ s11.covs, x.rows.length ≤ 40), ?_, fun b hb => by have := (hQ b hb).2; omega⟩
  refine set2_mem ⟨by rw [p1]; decide, by omega, by omega, by omega⟩ (by decide)
theorem ints_small11 {x : Col} {m : Int} (hP : P11 x m) : Ints { s11 with cols := s11.cols.set 2 x, m0 := m } := by
  obtain ⟨⟨p1, p2, p3, p4⟩, p5⟩ := hP
  exact ⟨set2_mem ⟨by unfold I64; omega, by unfold I64; omega, by unfold I64; omega⟩ (by unfold I64; decide)⟩
theorem SW.tells11 {w V : World} {g gb b cc : Nat} {gs : List Nat} {h : Hd} (r : SW w V g gb b cc gs s11 h P11 Q11) : ∃ (s' : Shp) (h' : Hd), Bk V g 32 (shpA s' h') ∧
    ∀ (U : World) (A2 : Option Addr) (c2 : Nat) (l : List Stw) (x : Slt), Below V.heap.size V U → SlT tStw U (Lt U.heap.size) A2 l → l.length ≤ c2 → l.length ≤ 3 → (∀ y ∈ l, -9223372036854775808 ≤ y.slot.tier ∧ y.slot.tier ≤ 9223372036854775807) → (-9223372036854775808 ≤ x.tier ∧ x.tier ≤ 9223372036854775807) →
      Calls Try.prog 16 #[.agg (shpA s' h'), .slice (some ⟨gb, 0, none⟩) 4 4, .slice A2 l.length c2, .agg (sltL x).toArray] U (Ret U (.bool true)) := by
  obtain ⟨x0, m, hP, hk, _⟩ := r.rd
  refine ⟨_, _, hk, fun U A2 c2 l x hU hs hl hl3 hti ht => ?_⟩
  have rU := r.on hU
  obtain ⟨x1, m1, hP1, hk1, hr1⟩ := rU.rd
  obtain ⟨bl, hb4, hQ, hbs⟩ := rU.bxs
  have hkU := hk.below hU hk.lt
  have he : shpA { s11 with cols := s11.cols.set 2 x0, m0 := m } { h with A1 := some ⟨b, 0, none⟩, c1 := cc } = shpA { s11 with cols := s11.cols.set 2 x1, m0 := m1 } { h with A1 := some ⟨b, 0, none⟩, c1 := cc } := by
    unfold Bk at hkU hk1
    rw [hkU] at hk1
    injection hk1 with hk1
    injection hk1
  rw [he]
  have := tells11_any _ _ (some ⟨gb, 0, none⟩) 4 bl A2 c2 l x U hr1 (ints_small11 hP1) hbs hs hl (few_small11 hP1 hQ hb4 hl3) (fun b hb => (hQ b hb).1) hti ht
  rw [hb4] at this
  exact this
@[reducible] def IA : Array Value := #[.int .i64 (-1), .int .i64 0, .int .i64 2, .int .i64 4, .int .i64 5, .int .i64 4611686018427387904]
theorem ia_at {j : Nat} (h : j < 6) : ∃ z : Int, IA[j]? = some (.int .i64 z) ∧ I64 z := by
  unfold I64
  match j, h with
  | 0, _ => exact ⟨-1, rfl, by decide⟩
  | 1, _ => exact ⟨0, rfl, by decide⟩
  | 2, _ => exact ⟨2, rfl, by decide⟩
  | 3, _ => exact ⟨4, rfl, by decide⟩
  | 4, _ => exact ⟨5, rfl, by decide⟩
  | 5, _ => exact ⟨4611686018427387904, rfl, by decide⟩
@[reducible] def LA8 : Array Value := #[.int .i64 0, .int .i64 1, .int .i64 2591, .int .i64 5182, .int .i64 5487, .int .i64 9000, .int .i64 2590, .int .i64 (-1)]
theorem la8_at {j : Nat} (h : j < 8) : ∃ z : Int, LA8[j]? = some (.int .i64 z) ∧ -10000 ≤ z ∧ z ≤ 10000 := by
  match j, h with
  | 0, _ => exact ⟨0, rfl, by decide⟩
  | 1, _ => exact ⟨1, rfl, by decide⟩
  | 2, _ => exact ⟨2591, rfl, by decide⟩
  | 3, _ => exact ⟨5182, rfl, by decide⟩
  | 4, _ => exact ⟨5487, rfl, by decide⟩
  | 5, _ => exact ⟨9000, rfl, by decide⟩
  | 6, _ => exact ⟨2590, rfl, by decide⟩
  | 7, _ => exact ⟨-1, rfl, by decide⟩
theorem s11_p : P11 (s11.cols.getD 2 default) s11.m0 := by unfold P11; decide
theorem sw11 {w w1 : World} {h : Hd} {gv gb : Nat} (so : ShOwn w w1 gv s11 h) (kb : Bk w1 gb 37 b11A) (hg : w.heap.size ≤ gb) (hb : Below w.heap.size w w1) :
    ∃ b gs, SW w (w1.alloc (.cells (shpA s11 h) 32)) w1.heap.size gb b h.c1 gs s11 h P11 Q11 := by
  have hba := ba1 w1 (.cells (shpA s11 h) 32)
  have hrd := so.rd (Lt w1.heap.size) fun x t cs hk _ => hk.lt
  obtain ⟨b, gs, r1, r2⟩ := so.lw
  have r3 := r1.on hba
  refine ⟨b, gs, ⟨_, _, s11_p, ⟨?_, ?_, r3.cov, r3.be, hb.size, r3.lb, ?_, r3.cm⟩⟩, ⟨b11.getD 0 default, b11.getD 1 default, b11.getD 2 default, b11.getD 3 default, ⟨by unfold Q11; decide, by unfold Q11; decide, by unfold Q11; decide, by unfold Q11; decide⟩, kb.alloc _⟩, hg, by decide, so.z, w1, _, hrd⟩
  · have hk := Bk.new w1 32 (shpA s11 h)
    rw [show shpA { ({ s11 with m0 := s11.m0 } : Shp) with cols := s11.cols.set 2 (s11.cols.getD 2 default) } { h with A1 := some ⟨b, 0, none⟩, c1 := h.c1 } = shpA s11 h by rw [show s11.cols.set 2 (s11.cols.getD 2 default) = s11.cols by decide, ← r2]]
    exact hk
  · rw [show s11.cols.set 2 (s11.cols.getD 2 default) = s11.cols by decide]; exact r3.own
  · rw [show s11.cols.set 2 (s11.cols.getD 2 default) = s11.cols by decide]; exact r3.lc
set_option maxRecDepth 100000 in
set_option maxHeartbeats 16000000 in
theorem lashSmall_any (w : World) : Calls Try.prog 5 #[] w (TrueRet w) := by
  go_enter Try.func5, Try.ntmps5
  go_wp2_with fail
  refine (example11_any w).mono ?_
  rintro e w1 ⟨h, gv, gb, gl, rfl, so1, kb1, kl1, hb1, hgb⟩
  simp only
  obtain ⟨b, gs, hs0⟩ := sw11 so1 kb1 hgb hb1
  generalize h.c1 = cc at hs0
  have HS := Lib.hid hs0
  clear hs0 so1 kb1 kl1 hgb hb1
  unfold shpA at HS ⊢
  go_upto_region 2 with fail
  generalize w1.heap.size = g at *
  generalize (w1.alloc _) = V at *
  clear w1
  go_wp2_with fail
  go_loopw [15] (fun i wr => ∃ k : Nat, k ≤ 5832 ∧ i = .int .i64 k ∧ Hid (SW w wr g gb b cc gs s11 h P11 Q11)) (fun i _ => 5832 - (intOf i).toNat)
  case atStart => exact ⟨0, Nat.zero_le _, rfl, HS⟩
  case round =>
    clear HS
    try clear V
    obtain ⟨k, hk, rfl, HS⟩ := hrel
    obtain ⟨V, rfl⟩ : ∃ V, V = wr := ⟨_, rfl⟩
    by_cases hlt : k < 5832
    · have hi1 : (k : Int) < 5832 := by omega
      obtain ⟨⟨_, k4⟩, f4⟩ := HS.out.bc 4 (by decide)
      obtain ⟨⟨_, k12⟩, f12⟩ := HS.out.bc 12 (by decide)
      obtain ⟨⟨_, k22⟩, f22⟩ := HS.out.bc 22 (by decide)
      go_step
      go_step
      go_upto_region 6 with fail
      have HX : ∀ d : Bool, Hid (SW w (((V.setCell ⟨gb, 4, none⟩ (.int .i64 (1 + (k : Int) % 2))).setCell ⟨gb, 12, none⟩ (.bool d)).setCell ⟨gb, 22, none⟩ (.int .i64 (1 + 3 * ((k : Int) / 4 % 2)))) g gb b cc gs s11 h P11 Q11) := fun d => Lib.hid (((HS.out.kil0 (1 + (k : Int) % 2) (fun x hx => ⟨hx.1, by simp only; omega⟩)).box 12 (.bool d) (fun x1 x2 x3 x4 h1 h2 h3 h4 => ⟨x1, { x2 with high := d }, x3, x4, ⟨h1, h2, h3, h4⟩, rfl⟩)).kil2 (1 + 3 * ((k : Int) / 4 % 2)) (fun x hx => ⟨hx.1, by simp only; omega⟩))
      generalize hU : (((V.setCell _ _).setCell _ _).setCell _ _) = U
      have H3 : Hid (SW w U g gb b cc gs s11 h P11 Q11) := by rw [← hU]; exact HX _
      clear k4 k12 k22 f4 f12 f22 HS HX hU
      try clear V
      have hx0 : 0 ≤ (k : Int) / 8 ∧ (k : Int) / 8 ≤ 5832 := by omega
      go_wp2_with fail
      go_loopw [5, 6, 41] (fun xv lv iv wr => ∃ (j : Nat) (x : Int) (m : List Stw), j ≤ 3 ∧ xv = .int .i64 x ∧ iv = .int .i64 j ∧ (0 ≤ x ∧ x ≤ 5832) ∧ m.length = j ∧ Hid (∀ y ∈ m, -9223372036854775808 ≤ y.slot.tier ∧ y.slot.tier ≤ 9223372036854775807) ∧ OwnT tStw 42 wr U.heap.size lv m ∧ Below U.heap.size U wr) (fun _ _ iv _ => 3 - (intOf iv).toNat)
      case atStart => exact ⟨0, _, [], by omega, rfl, rfl, hx0, rfl, Lib.hid (fun y hy => by cases hy), OwnT.nil, Below.refl _ _⟩
      case round =>
        clear hx0
        obtain ⟨j, x, m, hj, rfl, rfl, hx, hm, HM, hown, hb⟩ := hrel
        obtain ⟨V, rfl⟩ : ∃ V, V = wr := ⟨_, rfl⟩
        by_cases hlt2 : j < 3
        · have hj1 : (j : Int) < 3 := by omega
          obtain ⟨n3, e3, hn3⟩ : ∃ n : Nat, x % 3 = (n : Int) ∧ n < 3 := ⟨(x % 3).toNat, by omega, by omega⟩
          obtain ⟨t6, e6, ht6⟩ : ∃ t : Int, x % 9 / 3 = t ∧ (0 ≤ t ∧ t ≤ 10) := ⟨_, rfl, by omega⟩
          have hK := Lib.hid (fun (U : World) => at11 ((j : Int) + 1) 2 t6 (n3 : Int) U)
          go_step
          go_step
          go_upto_region 11 with fail
          go_wp2_with fail
          refine (hK.out _).mono ?_
          rintro e V4 ⟨rfl, hb4⟩
          simp only
          have HO := Lib.hid (hown.below hb4)
          have HBV := Lib.hid (hb.trans (hb4.mono hb.size))
          clear hown hb hb4 hK e3 e6
          try clear V
          obtain ⟨xs, ho, hfl⟩ := HO.out
          have hz0 := HBV.out.size
          go_wp2_with (at_builtin; (refine wpList_append1 el_stw rfl (.tmp 44) (.tmp 54) rfl U.heap.size _ m.length xs rfl ho #[.int .i64 ((j : Int) + 1), .int .i64 2, .int .i64 t6, .int .u8 (n3 : Nat)] _ rfl rfl rfl ?c1 ?c2 ?c3 ?_))
          case c1 => unfold maxLen; omega
          case c2 => omega
          case c3 => exact hz0
          intro v' w3 hown' hgr hd3 hbel
          have HN := Lib.hid (OwnT.append1 (T := tStw) (x := ⟨(j : Int) + 1, ⟨2, t6, n3⟩⟩) hfl (cs := stwL ⟨(j : Int) + 1, ⟨2, t6, n3⟩⟩) rfl (by rw [hm]; exact hown') hgr hd3)
          have HB9 := Lib.hid (HBV.out.trans hbel)
          have HM2 : Hid (∀ y ∈ m ++ [(⟨(j : Int) + 1, ⟨2, t6, n3⟩⟩ : Stw)], -9223372036854775808 ≤ y.slot.tier ∧ y.slot.tier ≤ 9223372036854775807) := Lib.hid fun y hy => by
            rcases List.mem_append.1 hy with h | h
            · exact HM.out y h
            · obtain rfl := List.mem_singleton.1 h
              simp only
              omega
          clear hown' hgr hd3 hbel HO ho hfl HM HBV hz0
          go_wp2_with fail
          go_roundw
          case rel => first | exact ⟨j + 1, x / 9, _, by omega, rfl, by go_num, by omega, by simp [hm], HM2, HN.out, HB9.out⟩ | ((repeat apply Exists.intro); exact ⟨⟨j + 1, x / 9, _, by omega, rfl, by go_num, by omega, by simp [hm], HM2, HN.out, HB9.out⟩, rfl⟩)
          case measure => simp [intOf]; omega
        · obtain rfl : j = 3 := by omega
          obtain ⟨b2, c2, rfl, hc2, hcm2, hsl⟩ := SL.at_end (H3.out.on hb) hown (by omega)
          have HS := Lib.hid hsl
          rw [hm] at hc2
          have HM3 := Lib.hid hm
          rw [hm]
          clear hown hb hsl H3 hm
          try clear U
          generalize U.heap.size = B at *
          obtain ⟨q8, e8, hq8⟩ : ∃ n : Nat, (k : Int) % 8 = (n : Int) ∧ n < 8 := ⟨k % 8, by omega, by omega⟩
          obtain ⟨z8, hz8, hz9⟩ := la8_at hq8
          have HZ8 := Lib.hid hz8
          obtain ⟨PR, hPR, hPB⟩ : ∃ PR : Int, z8 * (1 + (k : Int) % 3) = PR ∧ -100000000 ≤ PR ∧ PR ≤ 100000000 := by
            refine ⟨_, rfl, ?_⟩
            have h3 : (k : Int) % 3 = 0 ∨ (k : Int) % 3 = 1 ∨ (k : Int) % 3 = 2 := by omega
            rcases h3 with h3 | h3 | h3 <;> rw [h3] <;> omega
          have hp1 : IntKind.i64.wrap (z8 * (1 + (k : Int) % 3)) = PR := by rw [hPR]; exact IntWalk.i64_in _ (by omega)
          have hp2 : wrap64 (z8 * (1 + (k : Int) % 3)) = PR := by rw [← hp1]; exact (IntWalk.i64_left _).symm
          have HE8 := Lib.hid e8
          have HPB := Lib.hid hPB
          have j1 : (0 : Int) ≤ (q8 : Int) := by omega
          have j2 : (q8 : Int) < 8 := by omega
          clear hPR hPB hz8 hz9 e8
          go_upto_region 14 with fail
          have HC0 : Hid (SL w (V.drewN 1) g gb b cc gs s11 h P11 Q11 B b2 c2 m) := Lib.hid (HS.out.on (below_drewN (Below.refl _ _) 1))
          refine wp_region_og [.val 0 (.pointer (some ⟨g, 0, none⟩)),
              .val 1 (.slice (some ⟨b, 0, none⟩) 5 cc),
              .val 2 (.pointer (some ⟨g, 0, none⟩)),
              .val 3 (.slice (some ⟨b, 0, none⟩) 5 cc),
              .sl 4 8 3 LA8 0,
              .val 5 (.int .i64 (k : Nat)),
              .val 6 (.int .i64 (q8 : Nat)),
              (⟨[7], fun x V => ∃ gq, x 7 = .pointer (some ⟨gq, q8, none⟩) ∧ Bk V gq 3 LA8, fun h ⟨g, e, r⟩ => ⟨g, (h 7 (by simp)).symm.trans e, r⟩, fun hb ⟨g, e, r⟩ => ⟨g, e, r.below hb r.lt⟩⟩ : As),
              .val 8 (.int .i64 z8),
              .val 9 (.int .i64 (k : Nat)),
              .val 10 (.int .i64 ((k : Int) % 3)),
              .val 11 (.int .i64 (1 + (k : Int) % 3)),
              .val 12 (.int .i64 PR),
              .val 13 (.int .i64 (k : Nat)),
              .val 14 (.int .i64 ((k : Int) % 5)),
              (As.bool 15),
              .val 16 (.pointer (some ⟨b, 24, none⟩)),
              .val 17 (.pointer (some ⟨b, 31, none⟩)),
              (As.no),
              .val 19 (.pointer (some ⟨b, 24, none⟩)),
              .val 20 (.pointer (some ⟨b, 26, none⟩)),
              (As.no)]
            [[], [0], [], [2], [], [], [5], [4, 6], [7], [], [9], [10], [8, 11], [], [13], [14], [1], [16], [17, 12], [3], [19], [20, 15]] [] (fun V => SL w V g gb b cc gs s11 h P11 Q11 B b2 c2 m) (by kernel_rfl) (by kernel_rfl) (HC0.out) ⟨?_, ?_, ?_, ?_, ?_, ?_, ?_, ?_, ?_, ?_, ?_, ?_, ?_, ?_, ?_, ?_, ?_, ?_, ?_, ?_, ?_, ?_, trivial⟩ ?_
          case refine_1 =>
            refine StepL.grow SL.on fun x V hV hu K Q hK => ?_
            clear hu
            rw [owp_eq]
            go_big_op
            exact hK _ _ (Below.refl _ _) (rfl)
          case refine_2 =>
            refine StepL.grow SL.on fun x V hV hu K Q hK => ?_
            have u0 : x 0 = _ := hu 0 (by decide)
            have f0 := hV.sw.cell0
            clear hu
            simp only [putL, List.set_cons_zero, List.set_cons_succ] at hK ⊢
            rw [owp_eq]
            go_big_op
            exact hK _ _ (Below.refl _ _) (rfl)
          case refine_3 =>
            refine StepL.grow SL.on fun x V hV hu K Q hK => ?_
            clear hu
            simp only [putL, List.set_cons_zero, List.set_cons_succ] at hK ⊢
            rw [owp_eq]
            go_big_op
            exact hK _ _ (Below.refl _ _) (rfl)
          case refine_4 =>
            refine StepL.grow SL.on fun x V hV hu K Q hK => ?_
            have u2 : x 2 = _ := hu 2 (by decide)
            have f0 := hV.sw.cell0
            clear hu
            simp only [putL, List.set_cons_zero, List.set_cons_succ] at hK ⊢
            rw [owp_eq]
            go_big_op
            exact hK _ _ (Below.refl _ _) (rfl)
          case refine_5 =>
            refine StepL.grow SL.on fun x V hV hu K Q hK => ?_
            clear hu
            simp only [putL, List.set_cons_zero, List.set_cons_succ] at hK ⊢
            rw [owp_eq]
            go_big_op
            exact hK _ _ (ba1 V _) ⟨_, rfl, Nat.zero_le _, Bk.new V _ _⟩
          case refine_6 =>
            refine StepL.grow SL.on fun x V hV hu K Q hK => ?_
            clear hu
            simp only [putL, List.set_cons_zero, List.set_cons_succ] at hK ⊢
            rw [owp_eq]
            go_big_op
            exact hK _ _ (Below.refl _ _) (rfl)
          case refine_7 =>
            refine StepL.grow SL.on fun x V hV hu K Q hK => ?_
            have u5 : x 5 = _ := hu 5 (by decide)
            clear hu
            simp only [putL, List.set_cons_zero, List.set_cons_succ] at hK ⊢
            rw [owp_eq]
            go_big_op
            exact hK _ _ (Below.refl _ _) (congrArg (Value.int .i64) HE8.out)
          case refine_8 =>
            refine StepL.grow SL.on fun x V hV hu K Q hK => ?_
            obtain ⟨gu4, u4, hg4, hk4⟩ := hu 4 (by decide)
            have u6 : x 6 = _ := hu 6 (by decide)
            clear hu
            simp only [putL, List.set_cons_zero, List.set_cons_succ] at hK ⊢
            rw [owp_eq]
            go_big_op
            exact hK _ _ (Below.refl _ _) (⟨_, rfl, hk4⟩)
          case refine_9 =>
            refine StepL.grow SL.on fun x V hV hu K Q hK => ?_
            obtain ⟨g7, u7, k7⟩ := hu 7 (by decide)
            have f7 : V.cell? ⟨g7, q8, none⟩ = some (.int .i64 z8) := (k7.cell q8).trans HZ8.out
            clear k7
            clear hu
            simp only [putL, List.set_cons_zero, List.set_cons_succ] at hK ⊢
            rw [owp_eq]
            go_big_op
            exact hK _ _ (Below.refl _ _) (rfl)
          case refine_10 =>
            refine StepL.grow SL.on fun x V hV hu K Q hK => ?_
            clear hu
            simp only [putL, List.set_cons_zero, List.set_cons_succ] at hK ⊢
            rw [owp_eq]
            go_big_op
            exact hK _ _ (Below.refl _ _) (rfl)
          case refine_11 =>
            refine StepL.grow SL.on fun x V hV hu K Q hK => ?_
            have u9 : x 9 = _ := hu 9 (by decide)
            clear hu
            simp only [putL, List.set_cons_zero, List.set_cons_succ] at hK ⊢
            rw [owp_eq]
            go_big_op
            exact hK _ _ (Below.refl _ _) (rfl)
          case refine_12 =>
            refine StepL.grow SL.on fun x V hV hu K Q hK => ?_
            have u10 : x 10 = _ := hu 10 (by decide)
            clear hu
            simp only [putL, List.set_cons_zero, List.set_cons_succ] at hK ⊢
            rw [owp_eq]
            go_big_op
            exact hK _ _ (Below.refl _ _) (rfl)
          case refine_13 =>
            refine StepL.grow SL.on fun x V hV hu K Q hK => ?_
            have u8 : x 8 = _ := hu 8 (by decide)
            have u11 : x 11 = _ := hu 11 (by decide)
            clear hu
            simp only [putL, List.set_cons_zero, List.set_cons_succ] at hK ⊢
            rw [owp_eq]
            go_big_op
            exact hK _ _ (Below.refl _ _) (rfl)
          case refine_14 =>
            refine StepL.grow SL.on fun x V hV hu K Q hK => ?_
            clear hu
            simp only [putL, List.set_cons_zero, List.set_cons_succ] at hK ⊢
            rw [owp_eq]
            go_big_op
            exact hK _ _ (Below.refl _ _) (rfl)
          case refine_15 =>
            refine StepL.grow SL.on fun x V hV hu K Q hK => ?_
            have u13 : x 13 = _ := hu 13 (by decide)
            clear hu
            simp only [putL, List.set_cons_zero, List.set_cons_succ] at hK ⊢
            rw [owp_eq]
            go_big_op
            exact hK _ _ (Below.refl _ _) (rfl)
          case refine_16 =>
            refine StepL.grow SL.on fun x V hV hu K Q hK => ?_
            have u14 : x 14 = _ := hu 14 (by decide)
            clear hu
            simp only [putL, List.set_cons_zero, List.set_cons_succ] at hK ⊢
            rw [owp_eq]
            go_big_op
            exact hK _ _ (Below.refl _ _) (⟨_, rfl⟩)
          case refine_17 =>
            refine StepL.grow SL.on fun x V hV hu K Q hK => ?_
            have u1 : x 1 = _ := hu 1 (by decide)
            clear hu
            simp only [putL, List.set_cons_zero, List.set_cons_succ] at hK ⊢
            rw [owp_eq]
            go_big_op
            exact hK _ _ (Below.refl _ _) (rfl)
          case refine_18 =>
            refine StepL.grow SL.on fun x V hV hu K Q hK => ?_
            have u16 : x 16 = _ := hu 16 (by decide)
            clear hu
            simp only [putL, List.set_cons_zero, List.set_cons_succ] at hK ⊢
            rw [owp_eq]
            go_big_op
            exact hK _ _ (Below.refl _ _) (rfl)
          case refine_19 =>
            refine StepL.wr [2, 3, 13, 14, 15] (by kernel_rfl) fun x V hV hu K Q hK => ?_
            have u17 : x 17 = _ := hu 17 (by decide)
            have u12 : x 12 = _ := hu 12 (by decide)
            obtain ⟨x0, m0, Ap, q, _, hc, hf⟩ := hV.sw.colAt
            have f1 := hc 7 _ rfl
            have f2 := hf 7
            clear hc hf
            clear hu
            simp only [putL, List.set_cons_zero, List.set_cons_succ] at hK ⊢
            rw [owp_eq]
            go_big_op
            refine hK undef _ (hV.col 7 (.int .i64 PR) (by decide) fun x0 m0 hp => ⟨{ x0 with lash := PR }, ⟨hp.1, HPB.out⟩, rfl, fun A p => rfl⟩) trivial (fun k hk' => by
              simp only [List.mem_cons, List.not_mem_nil, or_false] at hk'
              rcases hk' with rfl | rfl | rfl | rfl | rfl
              · exact fun h => h
              · exact fun h => h
              · exact fun h => h
              · exact fun h => h
              · exact fun h => h)
          case refine_20 =>
            refine StepL.grow SL.on fun x V hV hu K Q hK => ?_
            have u3 : x 3 = _ := hu 3 (by decide)
            clear hu
            simp only [putL, List.set_cons_zero, List.set_cons_succ] at hK ⊢
            rw [owp_eq]
            go_big_op
            exact hK _ _ (Below.refl _ _) (rfl)
          case refine_21 =>
            refine StepL.grow SL.on fun x V hV hu K Q hK => ?_
            have u19 : x 19 = _ := hu 19 (by decide)
            clear hu
            simp only [putL, List.set_cons_zero, List.set_cons_succ] at hK ⊢
            rw [owp_eq]
            go_big_op
            exact hK _ _ (Below.refl _ _) (rfl)
          case refine_22 =>
            refine StepL.wr [] (by kernel_rfl) fun x V hV hu K Q hK => ?_
            have u20 : x 20 = _ := hu 20 (by decide)
            obtain ⟨z15, u15⟩ := hu 15 (by decide)
            obtain ⟨x0, m0, Ap, q, _, hc, hf⟩ := hV.sw.colAt
            have f1 := hc 2 _ rfl
            have f2 := hf 2
            clear hc hf
            clear hu
            simp only [putL, List.set_cons_zero, List.set_cons_succ] at hK ⊢
            rw [owp_eq]
            go_big_op
            refine hK undef _ (hV.col 2 (.bool z15) (by decide) fun x0 m0 hp => ⟨{ x0 with deck := z15 }, hp, rfl, fun A p => rfl⟩) trivial (fun k hk' => by cases hk')
          case refine_23 =>
            refine fun x w' hC hx => ?_
            clear hx
            have HS1 := Lib.hid hC
            clear hC HC0 HS hp1 hp2 HPB HE8 HZ8 hq8 j1 j2
            simp only [layL, putL, List.set_cons_zero, List.set_cons_succ]
            obtain ⟨⟨_, k13⟩, f13⟩ := HS1.out.sw.bc 13 (by decide)
            go_upto_region 16 with fail
            have HS2' := Lib.hid (HS1.out.kil1 9 (fun x hx => ⟨hx.1, by simp only; omega⟩))
            generalize hU : World.setCell w' _ _ = U
            have HS2 : Hid (SL w U g gb b cc gs s11 h P11 Q11 B b2 c2 m) := by rw [← hU]; exact HS2'
            clear hU HS2' HS1 k13 f13
            try clear w'
            obtain ⟨s', h', hbk, hT⟩ := HS2.out.sw.tells11
            obtain ⟨n3, eq3, hn3⟩ : ∃ n : Nat, (k : Int) / 4 % 3 = (n : Int) ∧ n < 3 := ⟨((k : Int) / 4 % 3).toNat, by omega, by omega⟩
            have KT : Hid (∀ X : World, Below U.heap.size U X → Calls Try.prog 16 #[(.agg #[Value.slice h'.A1 s'.cols.length h'.c1, Value.slice h'.A2 s'.covs.length h'.c2, .int .i64 s'.l0, .int .i64 s'.l1, .int .i64 s'.l2, .int .i64 s'.l3, Value.slice h'.A3 s'.rows.length h'.c3, Value.slice h'.A4 s'.frames.length h'.c4, Value.slice h'.A5 s'.tanks.length h'.c5, .int .i64 s'.m0, .int .i64 s'.m1, .int .i64 s'.m2, .int .i64 s'.m3]), .slice (some ⟨gb, 0, none⟩) 4 4, .slice (some ⟨b2, 0, none⟩) 3 c2, .agg #[.int .i64 2, .int .i64 ((k : Int) % 4), .int .u8 (n3 : Nat)]] X (Ret X (.bool true))) := Lib.hid fun X hX => by
              have := hT X (some ⟨b2, 0, none⟩) c2 m ⟨2, (k : Int) % 4, n3⟩ hX (HS2.out.on hX).sts (by rw [HM3.out]; exact hc2) (by rw [HM3.out]; omega) HM.out (by simp only; omega)
              rw [HM3.out] at this
              exact this
            have HBK := Lib.hid hbk
            clear hT hbk
            unfold shpA at HBK
            have e0 : U.cell? ⟨g, 0, none⟩ = some (Value.slice h'.A1 s'.cols.length h'.c1) := HBK.out.cell 0
            have e1 : U.cell? ⟨g, 1, none⟩ = some (Value.slice h'.A2 s'.covs.length h'.c2) := HBK.out.cell 1
            have e2 : U.cell? ⟨g, 2, none⟩ = some (.int .i64 s'.l0) := HBK.out.cell 2
            have e3 : U.cell? ⟨g, 3, none⟩ = some (.int .i64 s'.l1) := HBK.out.cell 3
            have e4 : U.cell? ⟨g, 4, none⟩ = some (.int .i64 s'.l2) := HBK.out.cell 4
            have e5 : U.cell? ⟨g, 5, none⟩ = some (.int .i64 s'.l3) := HBK.out.cell 5
            have e6 : U.cell? ⟨g, 6, none⟩ = some (Value.slice h'.A3 s'.rows.length h'.c3) := HBK.out.cell 6
            have e7 : U.cell? ⟨g, 7, none⟩ = some (Value.slice h'.A4 s'.frames.length h'.c4) := HBK.out.cell 7
            have e8 : U.cell? ⟨g, 8, none⟩ = some (Value.slice h'.A5 s'.tanks.length h'.c5) := HBK.out.cell 8
            have e9 : U.cell? ⟨g, 9, none⟩ = some (.int .i64 s'.m0) := HBK.out.cell 9
            have e10 : U.cell? ⟨g, 10, none⟩ = some (.int .i64 s'.m1) := HBK.out.cell 10
            have e11 : U.cell? ⟨g, 11, none⟩ = some (.int .i64 s'.m2) := HBK.out.cell 11
            have e12 : U.cell? ⟨g, 12, none⟩ = some (.int .i64 s'.m3) := HBK.out.cell 12
            go_wp2_with fail
            refine (KT.out _ (Below.refl _ _)).mono ?_
            rintro e X ⟨rfl, hb⟩
            simp only
            have HS3 := Lib.hid (HS2.out.on hb).sw
            clear hb e0 e1 e2 e3 e4 e5 e6 e7 e8 e9 e10 e11 e12 KT HBK HS2 eq3
            go_wp2_with fail
            go_roundw
            case rel => first | exact ⟨k + 1, by omega, by go_num, HS3⟩ | ((repeat apply Exists.intro); (first | exact ⟨⟨k + 1, by omega, by go_num, HS3⟩, rfl⟩ | exact ⟨by omega, by go_num, HS3⟩))
            case measure => simp [intOf]; omega
    · obtain rfl : k = 5832 := by omega
      go_wp2_with fail
      have HI := Lib.hid (Bk.new V 3 IA)
      have HS1 := Lib.hid (HS.out.on (ba1 V (.cells IA 3)))
      clear HS
      unfold IA at HI HS1
      generalize V.heap.size = gi at *
      generalize (V.alloc _) = U at *
      try clear V
      go_loopw [97] (fun iv wr => ∃ j : Nat, j ≤ 6 ∧ iv = .int .i64 j ∧ Hid (SW w wr g gb b cc gs s11 h P11 Q11) ∧ Hid (Bk wr gi 3 IA)) (fun iv _ => 6 - (intOf iv).toNat)
      case atStart => exact ⟨0, by omega, rfl, HS1, HI⟩
      case round =>
        clear HS1 HI
        try clear U
        obtain ⟨j, hj, rfl, HS, HI⟩ := hrel
        obtain ⟨V, rfl⟩ : ∃ V, V = wr := ⟨_, rfl⟩
        by_cases hlt4 : j < 6
        · have hj1 : (j : Int) < 6 := by omega
          obtain ⟨z, hz, hzr⟩ := ia_at hlt4
          have ci : V.cell? ⟨gi, j, none⟩ = some (.int .i64 z) := (HI.out.cell j).trans hz
          clear hz
          go_step
          go_step
          go_upto_region 22 with fail
          obtain ⟨s', h', hbk, hT⟩ := HS.out.tells11
          have KA := Lib.hid (fun (i a b h : Int) (X : World) => at11 i a b h X)
          have KT : Hid (∀ (X : World) (g5 : Nat), Below V.heap.size V X → Bk X g5 42 #[.int .i64 1, .int .i64 z, .int .i64 0, .int .u8 1, .int .i64 9, .int .i64 z, .int .i64 0, .int .u8 2, .int .i64 3, .int .i64 z, .int .i64 1, .int .u8 0] → Calls Try.prog 16 #[(.agg #[Value.slice h'.A1 s'.cols.length h'.c1, Value.slice h'.A2 s'.covs.length h'.c2, .int .i64 s'.l0, .int .i64 s'.l1, .int .i64 s'.l2, .int .i64 s'.l3, Value.slice h'.A3 s'.rows.length h'.c3, Value.slice h'.A4 s'.frames.length h'.c4, Value.slice h'.A5 s'.tanks.length h'.c5, .int .i64 s'.m0, .int .i64 s'.m1, .int .i64 s'.m2, .int .i64 s'.m3]), .slice (some ⟨gb, 0, none⟩) 4 4, .slice (some ⟨g5, 0, none⟩) 3 3, .agg #[.int .i64 z, .int .i64 2, .int .u8 3]] X (Ret X (.bool true))) := Lib.hid fun X g5 hX hk =>
            hT X (some ⟨g5, 0, none⟩) 3 [⟨1, ⟨z, 0, 1⟩⟩, ⟨9, ⟨z, 0, 2⟩⟩, ⟨3, ⟨z, 1, 0⟩⟩] ⟨z, 2, 3⟩ hX (sl_flat hk (flat_stw [⟨1, ⟨z, 0, 1⟩⟩, ⟨9, ⟨z, 0, 2⟩⟩, ⟨3, ⟨z, 1, 0⟩⟩]) hk.lt) (Nat.le_refl 3) (show (3 : Nat) ≤ 3 by decide) (by
              intro y hy
              simp only [List.mem_cons, List.not_mem_nil, or_false] at hy
              rcases hy with rfl | rfl | rfl
              · exact (show (-9223372036854775808 : Int) ≤ 0 ∧ (0 : Int) ≤ 9223372036854775807 by decide)
              · exact (show (-9223372036854775808 : Int) ≤ 0 ∧ (0 : Int) ≤ 9223372036854775807 by decide)
              · exact (show (-9223372036854775808 : Int) ≤ 1 ∧ (1 : Int) ≤ 9223372036854775807 by decide)) (show (-9223372036854775808 : Int) ≤ 2 ∧ (2 : Int) ≤ 9223372036854775807 by decide)
          have HBK := Lib.hid hbk
          clear hT hbk ci
          unfold shpA at HBK
          have e0 : V.cell? ⟨g, 0, none⟩ = some (Value.slice h'.A1 s'.cols.length h'.c1) := HBK.out.cell 0
          have e1 : V.cell? ⟨g, 1, none⟩ = some (Value.slice h'.A2 s'.covs.length h'.c2) := HBK.out.cell 1
          have e2 : V.cell? ⟨g, 2, none⟩ = some (.int .i64 s'.l0) := HBK.out.cell 2
          have e3 : V.cell? ⟨g, 3, none⟩ = some (.int .i64 s'.l1) := HBK.out.cell 3
          have e4 : V.cell? ⟨g, 4, none⟩ = some (.int .i64 s'.l2) := HBK.out.cell 4
          have e5 : V.cell? ⟨g, 5, none⟩ = some (.int .i64 s'.l3) := HBK.out.cell 5
          have e6 : V.cell? ⟨g, 6, none⟩ = some (Value.slice h'.A3 s'.rows.length h'.c3) := HBK.out.cell 6
          have e7 : V.cell? ⟨g, 7, none⟩ = some (Value.slice h'.A4 s'.frames.length h'.c4) := HBK.out.cell 7
          have e8 : V.cell? ⟨g, 8, none⟩ = some (Value.slice h'.A5 s'.tanks.length h'.c5) := HBK.out.cell 8
          have e9 : V.cell? ⟨g, 9, none⟩ = some (.int .i64 s'.m0) := HBK.out.cell 9
          have e10 : V.cell? ⟨g, 10, none⟩ = some (.int .i64 s'.m1) := HBK.out.cell 10
          have e11 : V.cell? ⟨g, 11, none⟩ = some (.int .i64 s'.m2) := HBK.out.cell 11
          have e12 : V.cell? ⟨g, 12, none⟩ = some (.int .i64 s'.m3) := HBK.out.cell 12
          obtain ⟨V9, rfl⟩ : ∃ V9, V9 = V := ⟨_, rfl⟩
          refine wp_region_ogG [.val 0 (.agg #[Value.slice h'.A1 s'.cols.length h'.c1, Value.slice h'.A2 s'.covs.length h'.c2, .int .i64 s'.l0, .int .i64 s'.l1, .int .i64 s'.l2, .int .i64 s'.l3, Value.slice h'.A3 s'.rows.length h'.c3, Value.slice h'.A4 s'.frames.length h'.c4, Value.slice h'.A5 s'.tanks.length h'.c5, .int .i64 s'.m0, .int .i64 s'.m1, .int .i64 s'.m2, .int .i64 s'.m3]),
    .val 1 (.slice (some ⟨gb, 0, none⟩) 4 4),
    .val 2 (.int .i64 z),
    .val 3 (.agg #[.int .i64 1, .int .i64 z, .int .i64 0, .int .u8 1]),
    .val 4 (.int .i64 z),
    .val 5 (.agg #[.int .i64 9, .int .i64 z, .int .i64 0, .int .u8 2]),
    .val 6 (.int .i64 z),
    .val 7 (.agg #[.int .i64 3, .int .i64 z, .int .i64 1, .int .u8 0]),
    .sl 8 3 42 #[.int .i64 1, .int .i64 z, .int .i64 0, .int .u8 1, .int .i64 9, .int .i64 z, .int .i64 0, .int .u8 2, .int .i64 3, .int .i64 z, .int .i64 1, .int .u8 0] V9.heap.size,
    .val 9 (.int .i64 z),
    .val 10 (.agg #[.int .i64 z, .int .i64 2, .int .u8 3]),
    .val 11 (.bool true),
    .val 12 (.bool false)]
            [[], [], [], [2], [], [4], [], [6], [3, 5, 7], [], [9], [0, 1, 8, 10], [11]] [12] (Cb V9) (by kernel_rfl) (by kernel_rfl) (Cb.drew V9) ⟨?_, ?_, ?_, ?_, ?_, ?_, ?_, ?_, ?_, ?_, ?_, ?_, ?_, trivial⟩ ?_
          case refine_1 =>
            refine StepG.of rfl ?_
            refine StepL.up fun x V hV hu K Q hK => ?_
            have fe0 := hV.cell e0
            have fe1 := hV.cell e1
            have fe2 := hV.cell e2
            have fe3 := hV.cell e3
            have fe4 := hV.cell e4
            have fe5 := hV.cell e5
            have fe6 := hV.cell e6
            have fe7 := hV.cell e7
            have fe8 := hV.cell e8
            have fe9 := hV.cell e9
            have fe10 := hV.cell e10
            have fe11 := hV.cell e11
            have fe12 := hV.cell e12
            clear hu
            rw [owp_eq]
            go_big_op
            exact hK _ _ (Below.refl _ _) rfl
          case refine_2 =>
            refine StepG.of rfl ?_
            refine StepL.up fun x V hV hu K Q hK => ?_
            clear hu
            simp only [putL, List.set_cons_zero, List.set_cons_succ] at hK ⊢
            rw [owp_eq]
            go_big_op
            exact hK _ _ (Below.refl _ _) rfl
          case refine_3 =>
            refine StepG.of rfl ?_
            refine StepL.up fun x V hV hu K Q hK => ?_
            clear hu
            simp only [putL, List.set_cons_zero, List.set_cons_succ] at hK ⊢
            rw [owp_eq]
            go_big_op
            exact hK _ _ (Below.refl _ _) rfl
          case refine_4 =>
            refine StepG.of rfl ?_
            refine StepL.up fun x V hV hu K Q hK => ?_
            have u2 : x 2 = _ := hu 2 (by decide)
            clear hu
            simp only [putL, List.set_cons_zero, List.set_cons_succ] at hK ⊢
            rw [owp_eq]
            go_big_op
            refine (KA.out 1 z 0 1 V).mono ?_
            rintro e V' ⟨rfl, hb⟩
            exact hK _ _ hb rfl
          case refine_5 =>
            refine StepG.of rfl ?_
            refine StepL.up fun x V hV hu K Q hK => ?_
            clear hu
            simp only [putL, List.set_cons_zero, List.set_cons_succ] at hK ⊢
            rw [owp_eq]
            go_big_op
            exact hK _ _ (Below.refl _ _) rfl
          case refine_6 =>
            refine StepG.of rfl ?_
            refine StepL.up fun x V hV hu K Q hK => ?_
            have u4 : x 4 = _ := hu 4 (by decide)
            clear hu
            simp only [putL, List.set_cons_zero, List.set_cons_succ] at hK ⊢
            rw [owp_eq]
            go_big_op
            refine (KA.out 9 z 0 2 V).mono ?_
            rintro e V' ⟨rfl, hb⟩
            exact hK _ _ hb rfl
          case refine_7 =>
            refine StepG.of rfl ?_
            refine StepL.up fun x V hV hu K Q hK => ?_
            clear hu
            simp only [putL, List.set_cons_zero, List.set_cons_succ] at hK ⊢
            rw [owp_eq]
            go_big_op
            exact hK _ _ (Below.refl _ _) rfl
          case refine_8 =>
            refine StepG.of rfl ?_
            refine StepL.up fun x V hV hu K Q hK => ?_
            have u6 : x 6 = _ := hu 6 (by decide)
            clear hu
            simp only [putL, List.set_cons_zero, List.set_cons_succ] at hK ⊢
            rw [owp_eq]
            go_big_op
            refine (KA.out 3 z 1 0 V).mono ?_
            rintro e V' ⟨rfl, hb⟩
            exact hK _ _ hb rfl
          case refine_9 =>
            refine StepG.of rfl ?_
            refine StepL.up fun x V hV hu K Q hK => ?_
            have u3 : x 3 = _ := hu 3 (by decide)
            have u5 : x 5 = _ := hu 5 (by decide)
            have u7 : x 7 = _ := hu 7 (by decide)
            clear hu
            simp only [putL, List.set_cons_zero, List.set_cons_succ] at hK ⊢
            rw [owp_eq]
            go_big_op
            exact hK _ _ (ba1 V _) ⟨_, rfl, Below.size hV, Bk.new V _ _⟩
          case refine_10 =>
            refine StepG.of rfl ?_
            refine StepL.up fun x V hV hu K Q hK => ?_
            clear hu
            simp only [putL, List.set_cons_zero, List.set_cons_succ] at hK ⊢
            rw [owp_eq]
            go_big_op
            exact hK _ _ (Below.refl _ _) rfl
          case refine_11 =>
            refine StepG.of rfl ?_
            refine StepL.up fun x V hV hu K Q hK => ?_
            have u9 : x 9 = _ := hu 9 (by decide)
            clear hu
            simp only [putL, List.set_cons_zero, List.set_cons_succ] at hK ⊢
            rw [owp_eq]
            go_big_op
            exact hK _ _ (Below.refl _ _) rfl
          case refine_12 =>
            refine StepG.of rfl ?_
            refine StepL.up fun x V hV hu K Q hK => ?_
            have u0 : x 0 = _ := hu 0 (by decide)
            have u1 : x 1 = _ := hu 1 (by decide)
            obtain ⟨gu8, u8, hg8, hk8⟩ := hu 8 (by decide)
            have u10 : x 10 = _ := hu 10 (by decide)
            clear hu
            simp only [putL, List.set_cons_zero, List.set_cons_succ] at hK ⊢
            rw [owp_eq]
            go_big_op
            refine (KT.out V gu8 hV hk8).mono ?_
            rintro e V' ⟨rfl, hb⟩
            exact hK _ _ hb rfl
          case refine_13 =>
            refine StepG.of rfl ?_
            refine StepL.up fun x V hV hu K Q hK => ?_
            have u11 : x 11 = _ := hu 11 (by decide)
            clear hu
            simp only [putL, List.set_cons_zero, List.set_cons_succ] at hK ⊢
            rw [owp_eq]
            go_big_op
            exact hK _ _ (Below.refl _ _) rfl
          case refine_14 =>
          refine fun x w' hC hx => ?_
          have hx9 : x 12 = _ := hx 12 (by decide) (by decide)
          clear hx
          simp only [layL, putL, List.set_cons_zero, List.set_cons_succ, hx9]
          have HS3 := Lib.hid (HS.out.on hC)
          have HI3 := Lib.hid (HI.out.below hC HI.out.lt)
          clear hC hx9 e0 e1 e2 e3 e4 e5 e6 e7 e8 e9 e10 e11 e12 KT KA HBK HS HI
          go_wp2_with fail
          go_roundw
          case rel => first | exact ⟨j + 1, by omega, by go_num, HS3, HI3⟩ | ((repeat apply Exists.intro); (first | exact ⟨⟨j + 1, by omega, by go_num, HS3, HI3⟩, rfl⟩ | exact ⟨by omega, by go_num, HS3, HI3⟩))
          case measure => simp [intOf]; omega
        · obtain rfl : j = 6 := by omega
          have HE := Lib.hid HS.out.be
          clear HS HI
          go_wp2_with fail
          refine (awake11_true _).mono ?_
          rintro e Z ⟨rfl, hz⟩
          simp only
          go_wp2_with fail
          go_ret
          exact ⟨rfl, HE.out.trans (hz.mono HE.out.size)⟩
end Go.Proofs.Ytmkplemdnglhmaa
