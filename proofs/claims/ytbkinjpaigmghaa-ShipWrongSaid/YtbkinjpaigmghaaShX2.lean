/-
  The walk of the statement ShipWrong.
-/
import Derived.Test.YtbkinjpaigmghaaShX
namespace Go.Proofs.Ytbkinjpaigmghaa
open Go.RowKit

set_option maxRecDepth 100000 in
set_option maxHeartbeats 16000000 in
theorem shipWrong_any (A : Option Addr) (c : Nat) (pl : List (Nat × Nat × Nat × Bool)) (covers a way : Nat) (n : Int) (ha : a < 256) (hway : way < 256) (hn : I64 n) (w : World) (hs : SlT tPl w (Lt w.heap.size) A pl) (hl : ∀ p ∈ pl, p.1 < 256 ∧ p.2.1 < 256 ∧ p.2.2.1 < 256) (hc : pl.length ≤ c) (hcm : c ≤ maxLen) :
    Calls Try.prog 8 #[.slice A pl.length c, .int .u32 covers, .int .u8 a, .int .u8 way, .int .i64 n] w (TrueRet w) := by
  have HC := Lib.hid (built_s (covers := covers) hs hl hc hcm)
  clear hs hl hc hcm
  go_enter Try.func8, Try.ntmps8
  go_wp2_with fail
  refine HC.out.mono ?_
  rintro e w1 ⟨s, h, gs, rfl, hBu, ho1, ho2, hrd, hb1⟩
  clear HC ho1 ho2
  have hS : ShB w (w1.alloc (.cells (shpA s h) 32)) w1.heap.size w1.heap.size s h := ⟨hrd.below (ba1 w1 _), Bk.new w1 _ _, hb1.trans ((ba1 w1 _).mono hb1.size), by simp⟩
  have hgw := hb1.size
  clear hrd hb1
  have hl1 := hBu.one
  have hl12 := hBu.few
  have hm1 : a % s.cols.length < s.cols.length := Nat.mod_lt _ (by omega)
  have hn0 : (s.cols.length : Int) ≠ 0 := by omega
  have c1 := hS.rd.n1
  have c1m := hS.rd.m1
  unfold maxLen at c1m
  have e0 : (w1.alloc (.cells (shpA s h) 32)).cell? ⟨w1.heap.size, 0, none⟩ = some (.slice h.A1 s.cols.length h.c1) := hS.bk.cell 0
  have f0 := hS.bk.frozen 0
  have hgW := hS.bk.lt
  have hgS : ∀ b, Lt w1.heap.size b → b < (w1.alloc (.cells (shpA s h) 32)).heap.size := fun b hb => Nat.lt_trans hb hgW
  have HCP := Lib.hid (copy_front (e := 53) hS.rd.cols hS.le s.cols.length)
  rw [List.take_length] at HCP
  have HS := Lib.hid hS
  have HGS := Lib.hid hgS
  clear hS hgS e0
  unfold shpA at HS HGS HCP f0 hgW ⊢
  go_wp2_with (at_builtin; go_loud (refine wpList_append_S el_col rfl (.tmp 26) (.tmp 28) rfl (w1.heap.size + 1) (Lt w1.heap.size) (.slice (some ⟨w1.heap.size + 1, 0, none⟩) 0 0) [] rfl (by simpa using OwnS.empty tCol 53 _ _ (Lt w1.heap.size) (Nat.le_refl _) HGS.out) h.A1 s.cols.length h.c1 s.cols rfl rfl HCP.out ?c1 ?c2 ?c3 ?_))
  case c1 => unfold maxLen; simp; omega
  case c2 => simp; omega
  case c3 => simp
  intro v1 w2 hO1 hg1 hb1
  rw [show (a : Int) % (s.cols.length : Int) = ((a % s.cols.length : Nat) : Int) from (Int.natCast_emod _ _).symm]
  clear hn0
  have hS := HS.out
  have hb1' : Below (w1.heap.size + 1) (w1.alloc (.cells (shpA s h) 32)) w2 := by
    have := (ba1 (w1.alloc (.cells (shpA s h) 32)) (.cells #[] 53))
    simp only [World.size_alloc] at this
    exact this.trans hb1
  clear hb1 hg1 HS HGS HCP
  generalize hg : w1.heap.size = g at *
  have hSz : (w1.alloc (.cells (shpA s h) 32)).heap.size = g + 1 := by simp [hg]
  unfold shpA at hSz hb1'
  generalize (w1.alloc _) = W at *
  clear hg
  clear w1
  generalize a % s.cols.length = k at *
  obtain ⟨b, cc, rfl, hbb, hcc, hccm⟩ := hO1.form (by omega)
  have y0 := (hb1'.cell (p := ⟨g, 0, none⟩) (by show g < g + 1; omega)).trans (hS.bk.cell 0)
  have y1 := (hb1'.frozen (p := ⟨g, 0, none⟩) (by show g < g + 1; omega)).trans f0
  have R : CW w (w2.setCell ⟨g, 0, none⟩ (.slice (some ⟨b, 0, none⟩) s.cols.length cc)) (Lt g) g g b cc s h s.cols := by
    refine ⟨(hS.rd.below (hb1'.mono (by omega))).keep fun x o hx => cell_far (by have hx : x < g := hx; show x ≠ g; omega), ?_, hO1.far _ _ (by simp [Value.ownBlock]; omega) (by simp [Lt]), (hS.be.trans (hb1'.mono (by omega))).setCell hgw _, Nat.le_refl _, by omega, hgw, hcc, hccm⟩
    have := (hS.bk.below hb1' (by omega)).set_ 0 (.slice (some ⟨b, 0, none⟩) s.cols.length cc)
    exact this
  have HR := Lib.hid R
  clear R hO1 hb1' hS f0 hgW hSz
  have i1 : (0 : Int) ≤ (k : Int) := by omega
  have i2 : (k : Int) < (s.cols.length : Int) := by omega
  go_upto_region 6 with fail
  generalize (w2.setCell _ _) = V at *
  go_cut [15, 16] (fun x y wx => V = wx ∧ ∃ hi lo, x = .int .i64 hi ∧ y = .int .i64 lo ∧ 0 ≤ hi ∧ I64 hi ∧ lo ≤ -1 ∧ I64 lo)
  case first =>
    unfold I64 at hn
    rcases Int.lt_trichotomy n 0 with h0 | h0 | h0
    · go_wp2_with fail
      go_meet
      exact ⟨rfl, 0, n, rfl, rfl, by omega, by unfold I64; omega, by omega, by unfold I64; omega⟩
    · subst h0
      go_wp2_with fail
      go_meet
      exact ⟨rfl, 0, -1, rfl, rfl, by omega, by unfold I64; omega, by omega, by unfold I64; omega⟩
    · go_wp2_with fail
      go_meet
      exact ⟨rfl, n, -1, rfl, rfl, by omega, by unfold I64; omega, by omega, by unfold I64; omega⟩
  case rest =>
    obtain ⟨rfl, hi, lo, rfl, rfl, hh0, hhI, hl0, hlI⟩ := hcut
    go_upto_block 0 with fail
    have hm14 : way % 14 < 14 := Nat.mod_lt _ (by omega)
    rw [show (way : Int) % 14 = ((way % 14 : Nat) : Int) from by omega]
    generalize way % 14 = m at *
    go_cut [15, 16] (fun x y wx => x = .int .i64 hi ∧ y = .int .i64 lo ∧ ∃ s' h', Sh w wx g s' h' ∧ WrongS s')
    case first =>
      have hcells := HR.out.bk.cell 0
      unfold I64 at hhI hlI
      have hOT : ∀ j, j < 12 → V.frozen? ⟨b, k * 12 + j, none⟩ = false := fun j hj => by
        obtain ⟨xs, ho, _, _⟩ := HR.out.own
        exact ho.frozenAt _
      obtain ⟨Ap, q, HX, p0, p1, p3, p4, p5, p6, p7, p8, p9⟩ : ∃ Ap q, (q = q ∧ V.cell? ⟨b, k * 12 + 2, none⟩ = some (.bool (s.cols.getD k default).deck) ∧ V.cell? ⟨b, k * 12 + 10, none⟩ = some (.int .i64 (s.cols.getD k default).y) ∧ V.cell? ⟨b, k * 12 + 11, none⟩ = some (.int .i64 (s.cols.getD k default).z) ∧ (s.cols.getD k default).plugs.length ≤ q ∧ SlT tInt V (Lt g) Ap (s.cols.getD k default).plugs) ∧ V.cell? ⟨b, k * 12, none⟩ = some (.int .i64 (s.cols.getD k default).bay) ∧ V.cell? ⟨b, k * 12 + 1, none⟩ = some (.int .i64 (s.cols.getD k default).row) ∧ V.cell? ⟨b, k * 12 + 3, none⟩ = some (.int .i64 (s.cols.getD k default).tiers) ∧ V.cell? ⟨b, k * 12 + 4, none⟩ = some (.int .i64 (s.cols.getD k default).height) ∧ V.cell? ⟨b, k * 12 + 5, none⟩ = some (.int .i64 (s.cols.getD k default).k20) ∧ V.cell? ⟨b, k * 12 + 6, none⟩ = some (.int .i64 (s.cols.getD k default).k40) ∧ V.cell? ⟨b, k * 12 + 7, none⟩ = some (.int .i64 (s.cols.getD k default).lash) ∧ V.cell? ⟨b, k * 12 + 8, none⟩ = some (.slice Ap (s.cols.getD k default).plugs.length q) ∧ V.cell? ⟨b, k * 12 + 9, none⟩ = some (.int .i64 (s.cols.getD k default).x) := by
        obtain ⟨xs, ho, hfl, _⟩ := HR.out.own
        obtain ⟨cs, ⟨Ap, q, rfl, hq1, hq2⟩, hc⟩ := hfl.at_ (getD_some hm1)
        have hcell : ∀ j u, (colL (s.cols.getD k default) Ap q)[j]? = some u → V.cell? ⟨b, k * 12 + j, none⟩ = some u := fun j u hu => by
          have := ho.cells (g := b) rfl (k * 12 + j) u (hc j u hu)
          rw [add_mk, Nat.zero_add] at this
          exact this
        exact ⟨Ap, q, ⟨rfl, hcell 2 _ rfl, hcell 10 _ rfl, hcell 11 _ rfl, hq1, hq2⟩, hcell 0 _ rfl, hcell 1 _ rfl, hcell 3 _ rfl, hcell 4 _ rfl, hcell 5 _ rfl, hcell 6 _ rfl, hcell 7 _ rfl, hcell 8 _ rfl, hcell 9 _ rfl⟩
      have f0 := hOT 0 (by omega)
      have f1 := hOT 1 (by omega)
      have f3 := hOT 3 (by omega)
      have f4 := hOT 4 (by omega)
      have f5 := hOT 5 (by omega)
      have f6 := hOT 6 (by omega)
      have f7 := hOT 7 (by omega)
      have f8 := hOT 8 (by omega)
      have f9 := hOT 9 (by omega)
      rw [Nat.add_zero] at f0
      clear hOT
      have hbV : b < V.heap.size := by
        obtain ⟨xs, ho, _, _⟩ := HR.out.own
        exact (ho.lt b rfl).2
      have hgV := HR.out.bk.lt
      have hgf := HR.out.bk.frozen 0
      have hgf1 := HR.out.bk.frozen 1
      have hgc1 : V.cell? ⟨g, 1, none⟩ = some (.slice h.A2 s.covs.length h.c2) := HR.out.bk.cell 1
      have hngb := HR.out.gb
      have hcase : m = 0 ∨ m = 1 ∨ m = 2 ∨ m = 3 ∨ m = 4 ∨ m = 5 ∨ m = 6 ∨ m = 7 ∨ m = 8 ∨ m = 9 ∨ m = 10 ∨ m = 11 ∨ m = 12 ∨ m = 13 := by omega
      clear hm14
      rcases hcase with rfl | rfl | rfl | rfl | rfl | rfl | rfl | rfl | rfl | rfl | rfl | rfl | rfl | rfl
      · as_aux_lemma =>
        clear HX
        rcases Int.lt_trichotomy hi 40 with h0 | h0 | h0
        · go_wp2_with fail
          go_meet
          exact ⟨rfl, rfl, w_bay hBu hm1 HR.out 40 (by omega) (by unfold I64; omega)⟩
        · subst h0
          go_wp2_with fail
          go_meet
          exact ⟨rfl, rfl, w_bay hBu hm1 HR.out 40 (by omega) (by unfold I64; omega)⟩
        · go_wp2_with fail
          go_meet
          exact ⟨rfl, rfl, w_bay hBu hm1 HR.out hi (by omega) (by unfold I64; omega)⟩
      · as_aux_lemma =>
        clear HX
        go_wp2_with fail
        go_meet
        exact ⟨rfl, rfl, w_row hBu hm1 HR.out lo (by omega) (by unfold I64; omega)⟩
      · as_aux_lemma =>
        clear HX
        rcases Int.lt_trichotomy hi 11 with h0 | h0 | h0
        · go_wp2_with fail
          go_meet
          exact ⟨rfl, rfl, w_tiers hBu hm1 HR.out 11 (by omega) (by unfold I64; omega)⟩
        · subst h0
          go_wp2_with fail
          go_meet
          exact ⟨rfl, rfl, w_tiers hBu hm1 HR.out 11 (by omega) (by unfold I64; omega)⟩
        · go_wp2_with fail
          go_meet
          exact ⟨rfl, rfl, w_tiers hBu hm1 HR.out hi (by omega) (by unfold I64; omega)⟩
      · as_aux_lemma =>
        clear HX
        rcases Int.lt_trichotomy hi 40001 with h0 | h0 | h0
        · go_wp2_with fail
          go_meet
          exact ⟨rfl, rfl, w_height hBu hm1 HR.out 40001 (by omega) (by unfold I64; omega)⟩
        · subst h0
          go_wp2_with fail
          go_meet
          exact ⟨rfl, rfl, w_height hBu hm1 HR.out 40001 (by omega) (by unfold I64; omega)⟩
        · go_wp2_with fail
          go_meet
          exact ⟨rfl, rfl, w_height hBu hm1 HR.out hi (by omega) (by unfold I64; omega)⟩
      · as_aux_lemma =>
        clear HX
        go_wp2_with fail
        go_meet
        exact ⟨rfl, rfl, w_k20 hBu hm1 HR.out lo (by omega) (by unfold I64; omega)⟩
      · as_aux_lemma =>
        clear HX
        rcases Int.lt_trichotomy hi 500000001 with h0 | h0 | h0
        · go_wp2_with fail
          go_meet
          exact ⟨rfl, rfl, w_k40 hBu hm1 HR.out 500000001 (by omega) (by unfold I64; omega)⟩
        · subst h0
          go_wp2_with fail
          go_meet
          exact ⟨rfl, rfl, w_k40 hBu hm1 HR.out 500000001 (by omega) (by unfold I64; omega)⟩
        · go_wp2_with fail
          go_meet
          exact ⟨rfl, rfl, w_k40 hBu hm1 HR.out hi (by omega) (by unfold I64; omega)⟩
      · as_aux_lemma =>
        clear HX
        rcases Int.lt_trichotomy hi 1000000000001 with h0 | h0 | h0
        · go_wp2_with fail
          go_meet
          exact ⟨rfl, rfl, w_lash hBu hm1 HR.out 1000000000001 (by omega) (by unfold I64; omega)⟩
        · subst h0
          go_wp2_with fail
          go_meet
          exact ⟨rfl, rfl, w_lash hBu hm1 HR.out 1000000000001 (by omega) (by unfold I64; omega)⟩
        · go_wp2_with fail
          go_meet
          exact ⟨rfl, rfl, w_lash hBu hm1 HR.out hi (by omega) (by unfold I64; omega)⟩
      · as_aux_lemma =>
        clear HX
        have ht := (hBu.col hm1).tiers
        have hwp := Lib.hid (w_plugs hBu hm1 HR.out [0, (s.cols.getD k default).tiers] _ rfl (bad_plugs1 (by omega)) (by simp))
        generalize (s.cols.getD k default).tiers = tr at *
        go_wp2_with fail
        go_meet
        refine ⟨rfl, rfl, ?_⟩
        rw [← World.setCell_alloc_past _ _ _ _ hbV]
        exact hwp.out
      · as_aux_lemma =>
        clear HX
        have hwp := Lib.hid (w_plugs hBu hm1 HR.out [1, 1] _ rfl bad_plugs2 (by simp))
        go_wp2_with fail
        go_meet
        refine ⟨rfl, rfl, ?_⟩
        rw [← World.setCell_alloc_past _ _ _ _ hbV]
        exact hwp.out
      · as_aux_lemma =>
        clear HX
        rcases Int.lt_trichotomy lo (-500001) with h0 | h0 | h0
        · go_wp2_with fail
          go_meet
          exact ⟨rfl, rfl, w_x hBu hm1 HR.out lo (by omega) (by unfold I64; omega)⟩
        · subst h0
          go_wp2_with fail
          go_meet
          exact ⟨rfl, rfl, w_x hBu hm1 HR.out (-500001) (by omega) (by unfold I64; omega)⟩
        · go_wp2_with fail
          go_meet
          exact ⟨rfl, rfl, w_x hBu hm1 HR.out (-500001) (by omega) (by unfold I64; omega)⟩
      · skip
        obtain ⟨-, p2, p10, p11, hq1, hq2⟩ := HX
        have hdup := wrong_dup hBu hm1
        have HSRC := Lib.hid (src_col (Nat.le_of_lt hgV) hq1 hq2)
        have HOW := Lib.hid (HR.out.own.below (ba1 V (.cells (colL (s.cols.getD k default) Ap q).toArray 53)))
        clear hq2
        generalize s.cols.getD k default = x at *
        obtain ⟨xb, xr, xd, xt, xh, x2, x4, xl, xp, xx, xy, xz⟩ := x
        simp only [colL] at HSRC HOW p0 p1 p2 p3 p4 p5 p6 p7 p8 p9 p10 p11
        go_wp2_with (at_builtin; go_loud (refine wpList_append_R (T := tCol) el_col rfl (.tmp 113) (.tmp 117) rfl (g + 1) (Lt g) (.slice (some ⟨b, 0, none⟩) s.cols.length cc) s.cols rfl HOW.out (some ⟨V.heap.size, 0, none⟩) 1 1 [⟨xb, xr, xd, xt, xh, x2, x4, xl, xp, xx, xy, xz⟩] rfl rfl HSRC.out ?q1 ?q2 ?q3 ?_))
        case q1 => unfold maxLen; omega
        case q2 => omega
        case q3 => omega
        intro v3 w3 hO3 hg3 hb3
        have hb3' : Below (g + 1) V w3 := ((Below.refl _ _).alloc (by omega) _).trans hb3
        have y0 := (hb3'.cell (p := ⟨g, 0, none⟩) (by show g < g + 1; omega)).trans hcells
        have y1 := (hb3'.frozen (p := ⟨g, 0, none⟩) (by show g < g + 1; omega)).trans hgf
        obtain ⟨h', hV⟩ := cw_cols HR.out hb3' hO3 (by simp [Lt])
        obtain ⟨b3, c3, rfl, _, _, _⟩ := hO3.form (by simp)
        simp only [List.length_append, List.length_singleton] at hV
        have HV := Lib.hid hV; clear hV
        go_wp2_with fail
        go_meet
        exact ⟨rfl, rfl, _, h', HV.out, hdup⟩
      · skip
        clear HX
        have hW := wrong_covs1 hBu
        have hcv := bu_covs hBu
        have hcn := HR.out.rd.n2
        have HF := Lib.hid (copy_front (e := 55) HR.out.rd.covs (Nat.le_of_lt hgV) s.covs.length)
        rw [List.take_length] at HF
        have HE := Lib.hid (OwnS.empty tCov 55 V V.heap.size (Lt g) (Nat.le_refl _) fun x hx => Nat.lt_trans hx hgV)
        go_wp2_with (at_builtin; (refine wpList_append_S (T := tCov) el_cov rfl (.tmp 122) (.tmp 124) rfl V.heap.size (Lt g) (.slice (some ⟨V.heap.size, 0, none⟩) 0 0) [] rfl HE.out h.A2 s.covs.length h.c2 s.covs rfl rfl HF.out ?q1 ?q2 ?q3 ?_))
        case q1 => unfold maxLen; simp; omega
        case q2 => simp; omega
        case q3 => simp
        intro v3 w3 hO3 hg3 hb3
        have hb3' : Below V.heap.size V w3 := (ba1 V _).trans hb3
        have hz3 := hb3'.size
        obtain ⟨A3, c3, rfl, _, _, _⟩ := hO3.sl
        have HO := Lib.hid (own_cov2 hO3 (.cells #[.int .i64 5] 3) (.cells #[.int .i64 4, .int .i64 5] 3) (.cells #[.int .i64 3, .slice (some ⟨w3.heap.size, 0, none⟩) 1 1, .int .i64 3, .slice (some ⟨w3.heap.size + 1, 0, none⟩) 2 2] 55))
        have HS2 := Lib.hid (src_cov2 w3 g)
        clear hO3 hg3 hb3
        go_wp2_with (at_builtin; (refine wpList_append_R (T := tCov) el_cov rfl (.tmp 125) (.tmp 130) rfl V.heap.size (S2 g w3.heap.size) (.slice A3 s.covs.length c3) s.covs rfl HO.out (some ⟨w3.heap.size + 1 + 1, 0, none⟩) 2 2 [⟨3, [5]⟩, ⟨3, [4, 5]⟩] rfl rfl HS2.out ?q1 ?q2 ?q3 ?_))
        case q1 => unfold maxLen; omega
        case q2 => omega
        case q3 => simp; omega
        intro v4 w4 hO4 hg4 hb4
        have hb4' : Below V.heap.size V w4 := hb3'.trans (((((Below.refl _ _).alloc hz3 _).alloc (by simp; omega) _).alloc (by simp; omega) _).trans hb4)
        have y0 := (hb4'.cell (p := ⟨g, 1, none⟩) hgV).trans hgc1
        have y1 := (hb4'.frozen (p := ⟨g, 1, none⟩) hgV).trans hgf1
        obtain ⟨h', hV⟩ := cw_covs HR.out (by simp [Lt]) hb4' hO4 (by simp only [S2, Lt]; omega)
        obtain ⟨A4, c4, rfl, _, _, _⟩ := hO4.sl
        simp only [List.length_append, List.length_cons, List.length_nil, Nat.zero_add, Nat.reduceAdd] at hV
        have HV := Lib.hid hV; clear hV
        go_wp2_with fail
        go_meet
        exact ⟨rfl, rfl, _, h', HV.out, hW⟩
      · skip
        clear HX
        have hW := wrong_covs2 hBu
        have hcv := bu_covs hBu
        have hcn := HR.out.rd.n2
        have HF := Lib.hid (copy_front (e := 55) HR.out.rd.covs (Nat.le_of_lt hgV) s.covs.length)
        rw [List.take_length] at HF
        have HE := Lib.hid (OwnS.empty tCov 55 V V.heap.size (Lt g) (Nat.le_refl _) fun x hx => Nat.lt_trans hx hgV)
        go_wp2_with (at_builtin; (refine wpList_append_S (T := tCov) el_cov rfl (.tmp 135) (.tmp 137) rfl V.heap.size (Lt g) (.slice (some ⟨V.heap.size, 0, none⟩) 0 0) [] rfl HE.out h.A2 s.covs.length h.c2 s.covs rfl rfl HF.out ?q1 ?q2 ?q3 ?_))
        case q1 => unfold maxLen; simp; omega
        case q2 => simp; omega
        case q3 => simp
        intro v3 w3 hO3 hg3 hb3
        have hb3' : Below V.heap.size V w3 := (ba1 V _).trans hb3
        have hz3 := hb3'.size
        obtain ⟨A3, c3, rfl, _, _, _⟩ := hO3.sl
        have HO := Lib.hid (hO3.below (ba1 w3 (.cells #[.int .i64 4, .slice none 0 0] 55)))
        have HS2 : Hid (Src tCov (w3.alloc (.cells #[.int .i64 4, .slice none 0 0] 55)) (Lt g) (some ⟨w3.heap.size, 0, none⟩) 1 [(⟨4, []⟩ : Cov)]) := Lib.hid (Src.new (Flat.single ⟨none, 0, rfl, Nat.le_refl _, SlT.nil⟩) rfl)
        clear hO3 hg3 hb3
        go_wp2_with (at_builtin; (refine wpList_append_R (T := tCov) el_cov rfl (.tmp 138) (.tmp 140) rfl V.heap.size (Lt g) (.slice A3 s.covs.length c3) s.covs rfl HO.out (some ⟨w3.heap.size, 0, none⟩) 1 1 [⟨4, []⟩] rfl rfl HS2.out ?q1 ?q2 ?q3 ?_))
        case q1 => unfold maxLen; omega
        case q2 => omega
        case q3 => simp; omega
        intro v4 w4 hO4 hg4 hb4
        have hb4' : Below V.heap.size V w4 := hb3'.trans (((Below.refl _ _).alloc hz3 _).trans hb4)
        have y0 := (hb4'.cell (p := ⟨g, 1, none⟩) hgV).trans hgc1
        have y1 := (hb4'.frozen (p := ⟨g, 1, none⟩) hgV).trans hgf1
        obtain ⟨h', hV⟩ := cw_covs HR.out (by simp [Lt]) hb4' hO4 (by simp [Lt])
        obtain ⟨A4, c4, rfl, _, _, _⟩ := hO4.sl
        simp only [List.length_append, List.length_cons, List.length_nil, Nat.zero_add, Nat.reduceAdd] at hV
        have HV := Lib.hid hV; clear hV
        go_wp2_with fail
        go_meet
        exact ⟨rfl, rfl, _, h', HV.out, hW⟩
      · as_aux_lemma =>
        clear HX
        have hnil := wrong_nil hBu
        obtain ⟨h', hV⟩ := cw_cols (S' := Lt g) (l' := []) HR.out (Below.refl _ _) (OwnS.nil fun x hx => Nat.lt_trans hx hgV) (by simp [Lt])
        have HV := Lib.hid hV; clear hV
        go_wp2_with fail
        go_meet
        exact ⟨rfl, rfl, _, h', HV.out, hnil⟩
    case rest =>
      clear HR
      obtain ⟨rfl, rfl, s', h', hS0, hW⟩ := hcut
      obtain ⟨zA1, zc1, zA2, zc2, zA3, zc3, zA4, zc4, zA5, zc5⟩ := h'
      have hcol : s'.cols.length ≤ 1000000 := hW.few.cols
      have hcv := hW.covs
      have hup : alongF s' (if hi < 100 then 100 else hi) true = [] := by unfold alongF; rw [if_pos (by right; split <;> omega)]
      have hun : alongF s' lo false = [] := by unfold alongF; rw [if_pos (by omega)]
      have hbe : besideF s' lo = [] := by unfold besideF; rw [if_pos (by omega)]
      have hco : coverOfF s' lo = -1 := by unfold coverOfF; rw [if_pos (by omega)]
      have C1 : ∀ (U : World), Sh w U g s' ⟨zA1, zc1, zA2, zc2, zA3, zc3, zA4, zc4, zA5, zc5⟩ → _ := fun U hV => shipRight_any s' _ U hV.rd hW.few hW.ints
      have C2 : ∀ (U : World), Sh w U g s' ⟨zA1, zc1, zA2, zc2, zA3, zc3, zA4, zc4, zA5, zc5⟩ → _ := fun U hV => coverOf_out s' ⟨zA1, zc1, zA2, zc2, zA3, zc3, zA4, zc4, zA5, zc5⟩ lo U (by omega)
      have C3 : ∀ (U : World), Sh w U g s' ⟨zA1, zc1, zA2, zc2, zA3, zc3, zA4, zc4, zA5, zc5⟩ → _ := fun U hV => under_any s' _ lo U hV.rd hW.few
      have C4 : ∀ (U : World), Sh w U g s' ⟨zA1, zc1, zA2, zc2, zA3, zc3, zA4, zc4, zA5, zc5⟩ → _ := fun U hV => upon_any s' _ (if hi < 100 then 100 else hi) U hV.rd hW.few
      have C5 : ∀ (U : World), Sh w U g s' ⟨zA1, zc1, zA2, zc2, zA3, zc3, zA4, zc4, zA5, zc5⟩ → _ := fun U hV => beside_out s' ⟨zA1, zc1, zA2, zc2, zA3, zc3, zA4, zc4, zA5, zc5⟩ lo U (by omega)
      rw [hW.right] at C1
      rw [hco] at C2
      rw [hun] at C3
      rw [hup] at C4
      rw [hbe] at C5
      unfold shpA at C1 C2 C3 C4 C5
      simp only at C1 C2 C3 C4 C5
      have D1 := Lib.hid C1
      have D2 := Lib.hid C2
      have D3 := Lib.hid C3
      have D4 := Lib.hid C4
      have D5 := Lib.hid C5
      have hS : Sh w wc.drew g s' ⟨zA1, zc1, zA2, zc2, zA3, zc3, zA4, zc4, zA5, zc5⟩ := hS0.on (Below.drew (Below.refl _ _))
      clear C1 C2 C3 C4 C5 hup hun hbe hco hS0 hW hBu hcol hcv
      obtain ⟨mx, hmx⟩ : ∃ mx, (if hi < 100 then 100 else hi) = mx := ⟨_, rfl⟩
      rw [hmx] at D4
      go_upto_region 36 with fail
      go_region_held3 (fun w' => w'.cell? ⟨g, 0, none⟩ = some (.slice zA1 s'.cols.length zc1) ∧ w'.cell? ⟨g, 1, none⟩ = some (.slice zA2 s'.covs.length zc2) ∧ w'.cell? ⟨g, 2, none⟩ = some (.int .i64 s'.l0) ∧ w'.cell? ⟨g, 3, none⟩ = some (.int .i64 s'.l1) ∧ w'.cell? ⟨g, 4, none⟩ = some (.int .i64 s'.l2) ∧ w'.cell? ⟨g, 5, none⟩ = some (.int .i64 s'.l3) ∧ w'.cell? ⟨g, 6, none⟩ = some (.slice zA3 s'.rows.length zc3) ∧ w'.cell? ⟨g, 7, none⟩ = some (.slice zA4 s'.frames.length zc4) ∧ w'.cell? ⟨g, 8, none⟩ = some (.slice zA5 s'.tanks.length zc5) ∧ w'.cell? ⟨g, 9, none⟩ = some (.int .i64 s'.m0) ∧ w'.cell? ⟨g, 10, none⟩ = some (.int .i64 s'.m1) ∧ w'.cell? ⟨g, 11, none⟩ = some (.int .i64 s'.m2) ∧ w'.cell? ⟨g, 12, none⟩ = some (.int .i64 s'.m3)) ((have q1 := hS.cells; simp only at q1; obtain ⟨a0, a1, a2, a3, a4, a5, a6, a7, a8, a9, a10, a11, a12⟩ := q1; exact ⟨a0, a1, a2, a3, a4, a5, a6, a7, a8, a9, a10, a11, a12⟩))
        (first
          | (go_at_call 14; refine (D1.out _ hS).mono ?_; rintro e w1 ⟨rfl, hq⟩; replace hS := hS.on hq)
          | (go_at_call 16; refine (D2.out _ hS).mono ?_; rintro e w1 ⟨rfl, hq⟩; replace hS := hS.on hq)
          | (go_at_call 18; refine (D3.out _ hS).mono ?_; intro e w1 hO; obtain ⟨AU, cU, rfl, _, _, hq⟩ := OwnInts.sl hO; clear hO; replace hS := hS.on hq)
          | (go_at_call 19; refine (D4.out _ hS).mono ?_; intro e w1 hO; obtain ⟨AV, cV, rfl, _, _, hq⟩ := OwnInts.sl hO; clear hO; replace hS := hS.on hq)
          | (go_at_call 29; refine (D5.out _ hS).mono ?_; intro e w1 hO; obtain ⟨AB, cB, rfl, _, _, hq⟩ := OwnInts.sl hO; clear hO; replace hS := hS.on hq)
          | (go_at_call 20; refine ((sameInts_any none none 0 0 [] [] (Lt 0) (Lt 0) _ SlT.nil SlT.nil (by simp)).mono fun e w' hh => hh.below).mono ?_; rintro e w1 ⟨rfl, hq⟩; replace hS := hS.on hq)
          | (go_at_call 10; refine (awake_true _).mono ?_; rintro e w1 ⟨rfl, hq⟩; replace hS := hS.on hq))
      all_goals
        go_wp2
        go_ret
        exact ⟨rfl, hS.be⟩
end Go.Proofs.Ytbkinjpaigmghaa
