/-
  The walk of twistlocklaw11.Lashed, with the fact that no box of 20 feet is high.
-/
import Derived.Test.YtncfakkajknhaaaLaF
namespace Go.Proofs.Ytncfakkajknhaaa
open Go.RowKit

/-- No small box is high. -/
def LowB (bs : List Bx) : Prop := ∀ b ∈ bs, b.size = 20 → b.high = false
theorem loaded_low (s : Shp) (ds : List Drp) : LowB (loadedF s ds 9).1 := by
  unfold loadedF
  intro b hb h2
  rw [load_boxes] at hb
  obtain ⟨i, hi, rfl⟩ := List.mem_map.1 hb
  revert h2
  unfold dropB
  simp only
  split
  · intro _; rfl
  · intro h; omega
def LimRetB (w : World) (e : Ending) (w' : World) : Prop :=
  ∃ (s : Shp) (h : Hd) (v1 v2 : Value) (bs : List Bx) (st : List Stw), e = .returned (.tuple #[.agg (shpA s h), v1, v2]) ∧ Lm s ∧ Ld s bs st ∧ LowB bs ∧ ShpR w' (Ap2 w' v1 v2) s h ∧ OwnP tBx 43 w' w.heap.size v1 bs ∧ OwnP tStw 61 w' w.heap.size v2 st ∧ Below w.heap.size w w'
set_option maxRecDepth 100000 in
set_option maxHeartbeats 8000000 in
theorem lashedShipB_any (A : Option Addr) (c : Nat) (pl : List (Nat × Nat × Nat × Bool)) (covers q : Nat) (hq : q < 65536) (A2 : Option Addr) (c2 : Nat) (ds : List Drp) (w : World)
    (hs : SlT tPl w (Lt w.heap.size) A pl) (hl : ∀ p ∈ pl, p.1 < 256 ∧ p.2.1 < 256 ∧ p.2.2.1 < 256) (hc : pl.length ≤ c) (hcm : c ≤ maxLen)
    (hs2 : SlT tDrp w (Lt w.heap.size) A2 ds) (hd : ∀ d ∈ ds, d.col < 256 ∧ d.kilos < 256) (hc2 : ds.length ≤ c2) (hcm2 : c2 ≤ maxLen) :
    Calls Try.prog 28 #[.slice A pl.length c, .int .u32 covers, .int .u16 (q : Nat), .slice A2 ds.length c2] w (LimRetB w) := by
  have bw := ba1 w (.cells zS 37)
  have kr := Bk.new w 37 zS
  have HC := Lib.hid (built_s (covers := covers) (hs.on bw) hl hc hcm)
  have HDS := Lib.hid hs2
  have KR := Lib.hid kr
  have BW := Lib.hid bw
  clear hs hl hc hcm hs2 bw kr
  dsimp only [zS] at HC BW KR
  go_enter Try.func28, Try.ntmps28
  go_upto_region 1 with fail
  go_wp2_with fail
  refine HC.out.mono ?_
  rintro e w1 ⟨s, h, gs, rfl, hBu, ho1, ho2, hrd, hb1⟩
  simp only
  have hrows : s.rows = [] ∧ s.frames = [] ∧ s.tanks = [] := by rw [hBu.eq]; exact ⟨rfl, rfl, rfl⟩
  have hm0 : s.m0 = 0 := by rw [hBu.eq]; rfl
  have hp0 : ∀ c ∈ s.cols, c.plugs = [] := fun c hc => (hBu.cols.1 c hc).plugs
  have hoP := own_free hp0 ho1
  have h1 := hBu.one
  obtain ⟨b, cc, e1, hbb, hcc, hccm⟩ := OwnS.form hoP (by omega)
  injection e1 with eA _ ec
  have HRD : Hid (∃ w0 S, ShpR w0 S s h) := Lib.hid ⟨_, _, hrd⟩
  have hbw1 := ba1 w1 (.cells (shpA s h) 37)
  have hl0 : limTo (fL q) s.cols 0 = s.cols := by unfold limTo; simp
  have HL0 : Hid (LW w (w1.alloc (.cells (shpA s h) 37)) w1.heap.size b cc gs s h (limTo (fL q) s.cols 0)) := Lib.hid (by
    rw [hl0]
    have hsz := BW.out.size
    have hsz1 := hb1.size
    have hbe1 : Below w.heap.size w w1 := BW.out.trans (hb1.mono hsz)
    have hkg := Bk.new w1 37 (shpA s h)
    have hoQ := (OwnP.down hoP hsz).on hbw1
    refine ⟨?_, ?_, (ho2.down hsz).below hbw1, hbe1.trans (hbw1.mono hbe1.size), Nat.le_trans hsz hsz1, Nat.le_trans hsz hbb, hcc, hccm⟩
    · have : shpA { s with cols := s.cols } { h with A1 := some ⟨b, 0, none⟩, c1 := cc } = shpA s h := by unfold shpA; rw [eA, ec]
      rw [this]; exact hkg
    · rw [eA, ec] at hoQ; exact hoQ)
  have KR1 : Hid (Bk (w1.alloc (.cells (shpA s h) 37)) w.heap.size 37 zS) := Lib.hid ((KR.out.below hb1 KR.out.lt).alloc (.cells (shpA s h) 37))
  have HRW := Lib.hid hrows
  have HM0 := Lib.hid hm0
  have HGZ : Hid (w1.heap.size ≠ w.heap.size) := Lib.hid (by have := KR.out.lt; have := hb1.size; omega)
  clear HC KR BW ho1 ho2 hrd hb1 hoP hbb hbw1 hl0 eA ec hrows hm0
  unfold shpA at HL0 KR1 ⊢
  go_upto_region 2 with fail
  generalize w1.heap.size = g at *
  generalize (w1.alloc _) = V at *
  clear w1
  have hn12 := hBu.few
  have e0 : V.cell? ⟨g, 0, none⟩ = some (.slice (some ⟨b, 0, none⟩) s.cols.length cc) := by
    have h0 : V.cell? ⟨g, 0, none⟩ = some (.slice (some ⟨b, 0, none⟩) (limTo (fL q) s.cols 0).length cc) := HL0.out.bk.cell 0
    rw [limTo_len] at h0
    exact h0
  go_wp2_with fail
  clear e0
  go_loopw [21] (fun i wr => ∃ k : Nat, k ≤ s.cols.length ∧ i = .int .i64 k ∧ Hid (LW w wr g b cc gs s h (limTo (fL q) s.cols k)) ∧ Hid (Bk wr w.heap.size 37 zS)) (fun i _ => s.cols.length - (intOf i).toNat)
  case atStart => exact ⟨0, Nat.zero_le _, rfl, HL0, KR1⟩
  case round =>
    clear HL0 KR1
    clear V
    obtain ⟨k, hk, rfl, HL, KR⟩ := hrel
    obtain ⟨V, rfl⟩ : ∃ V, V = wr := ⟨_, rfl⟩
    by_cases hlt : k < s.cols.length
    · have i0 : (0 : Int) ≤ (k : Int) := by omega
      have i1 : (k : Int) < (s.cols.length : Int) := by omega
      have hk1 : k + 1 ≤ s.cols.length := hlt
      have hgood := hBu.cols.1 _ (getD_memD hlt default)
      have hat := limTo_at (fL q) s.cols hlt
      have hset := limTo_set (fL q) s.cols hlt
      rw [← las_x q hgood] at hset
      have hln := limTo_len (fL q) s.cols k
      have e0 : V.cell? ⟨g, 0, none⟩ = some (.slice (some ⟨b, 0, none⟩) s.cols.length cc) := by
        have h0 : V.cell? ⟨g, 0, none⟩ = some (.slice (some ⟨b, 0, none⟩) (limTo (fL q) s.cols k).length cc) := HL.out.bk.cell 0
        rw [limTo_len] at h0
        exact h0
      generalize s.cols.getD k default = x at *
      obtain ⟨Ap, qq, hcl, hfr⟩ := HL.out.at_ hat
      have d7 : V.cell? ⟨b, k * 12 + 7, none⟩ = some (.int .i64 x.lash) := hcl 7 _ rfl
      have f7 := hfr 7
      have hq0 : IntKind.i64.wrap (q : Int) = (q : Int) := IntWalk.i64_in _ (by omega)
      have hq1 : IntKind.i64.wrap (4000 * (q : Int)) = 4000 * (q : Int) := IntWalk.i64_in _ (by omega)
      have HLN : Hid (LW w (V.setCell ⟨b, k * 12 + 7, none⟩ (.int .i64 (4000 * (q : Int)))) g b cc gs s h (limTo (fL q) s.cols (k + 1))) := Lib.hid (by
        have := HL.out.set (i := k) (j := 7) (u := .int .i64 (4000 * (q : Int))) (x' := { x with lash := 4000 * (q : Int) }) hat (by decide) (rd_f 7 _ _ rfl fun _ _ => rfl)
        rw [hset] at this
        exact this)
      have KRN : Hid (Bk (V.setCell ⟨b, k * 12 + 7, none⟩ (.int .i64 (4000 * (q : Int)))) w.heap.size 37 zS) := Lib.hid (by
        obtain ⟨cs, hkb⟩ := HL.out.blk
        exact KR.out.far (Bk.ne_ KR.out hkb (by decide)) _)
      clear hcl hfr hat hset hln hgood HL KR
      go_wp2_with fail
      go_roundw
      case rel => (repeat apply Exists.intro); (first | exact ⟨⟨k + 1, hk1, by go_num, HLN, KRN⟩, rfl⟩ | exact ⟨hk1, by go_num, HLN, KRN⟩)
      case measure => simp [intOf]; omega
    · obtain rfl : k = s.cols.length := by omega
      obtain ⟨s', h', SO, KS, RD, LM, BE, KR2⟩ : ∃ s' h', Hid (ShOwn w V g s' h') ∧ Hid (Bk V g 37 (shpA s' h')) ∧ Hid (ShpR V (Lt V.heap.size) s' h') ∧ Hid (Lm s') ∧ Hid (Below w.heap.size w V) ∧ Hid (Bk V w.heap.size 37 zS) := by
        obtain ⟨w0, S0, hrd⟩ := HRD.out
        have r2 := HL.out
        have r3 := r2.rd HRW.out.1 HRW.out.2.1 HRW.out.2.2 (w0 := w0) (S := S0) hrd s.m0
        have hall := limTo_all (fL q) s.cols
        rw [hall] at r3 r2
        refine ⟨limS (fL q) s.m0 s, { h with A1 := some ⟨b, 0, none⟩, c1 := cc }, Lib.hid ⟨⟨b, gs, ⟨r2.bk, r2.own, r2.cov, r2.be, r2.lg, r2.lb, r2.lc, r2.cm⟩, rfl⟩, HRW.out, hrd.n2, hrd.m2, hrd.m3, hrd.m4, hrd.m5⟩, Lib.hid r2.bk, Lib.hid r3, Lib.hid (lim_lm hBu _ _ (fun _ => ?_) ?_), Lib.hid r2.be, Lib.hid KR.out⟩
        · unfold fL; simp only; omega
        · rw [HM0.out]; omega
      go_step
      go_step
      go_upto_region 7 with fail
      clear HL KR
      obtain ⟨e0, e1, e2, e3, e4, e5, e6, e7, e8, e9, e10, e11, e12⟩ : V.cell? ⟨g, 0, none⟩ = some (.slice h'.A1 s'.cols.length h'.c1) ∧ V.cell? ⟨g, 1, none⟩ = some (.slice h'.A2 s'.covs.length h'.c2) ∧ V.cell? ⟨g, 2, none⟩ = some (.int .i64 s'.l0) ∧ V.cell? ⟨g, 3, none⟩ = some (.int .i64 s'.l1) ∧ V.cell? ⟨g, 4, none⟩ = some (.int .i64 s'.l2) ∧ V.cell? ⟨g, 5, none⟩ = some (.int .i64 s'.l3) ∧ V.cell? ⟨g, 6, none⟩ = some (.slice h'.A3 s'.rows.length h'.c3) ∧ V.cell? ⟨g, 7, none⟩ = some (.slice h'.A4 s'.frames.length h'.c4) ∧ V.cell? ⟨g, 8, none⟩ = some (.slice h'.A5 s'.tanks.length h'.c5) ∧ V.cell? ⟨g, 9, none⟩ = some (.int .i64 s'.m0) ∧ V.cell? ⟨g, 10, none⟩ = some (.int .i64 s'.m1) ∧ V.cell? ⟨g, 11, none⟩ = some (.int .i64 s'.m2) ∧ V.cell? ⟨g, 12, none⟩ = some (.int .i64 s'.m3) := ⟨KS.out.cell 0, KS.out.cell 1, KS.out.cell 2, KS.out.cell 3, KS.out.cell 4, KS.out.cell 5, KS.out.cell 6, KS.out.cell 7, KS.out.cell 8, KS.out.cell 9, KS.out.cell 10, KS.out.cell 11, KS.out.cell 12⟩
      have HLD := Lib.hid (loaded_any s' h' A2 c2 ds 9 V (by decide) RD.out LM.out.right LM.out.few LM.out.ints LM.out.one LM.out.short (fun c => Nat.le_trans (LM.out.tiersN c) (by decide)) LM.out.all ((HDS.out.below BE.out).up BE.out.size) hd hc2 hcm2)
      have HLL := Lib.hid (And.intro (loaded_ld (s := s') LM.out.right ds hd) (loaded_low s' ds))
      generalize loadedF s' ds 9 = r at *
      obtain ⟨bs, st⟩ := r
      unfold shpA at HLD
      unfold maxLen at hcm2
      go_wp2_with fail
      refine HLD.out.mono ?_
      rintro e w9 ⟨v1, v2, rfl, ob, os, hb9⟩
      simp only
      clear e0 e1 e2 e3 e4 e5 e6 e7 e8 e9 e10 e11 e12 HLD
      have OB := Lib.hid (OwnS.toP plain_bx ob)
      have OS := Lib.hid (OwnS.toP plain_stw os)
      have KS9 := Lib.hid (KS.out.below hb9 KS.out.lt)
      have KR9 := Lib.hid (KR2.out.below hb9 KR2.out.lt)
      have SO9 := Lib.hid (SO.out.on hb9)
      have BE9 := Lib.hid (BE.out.trans (hb9.mono BE.out.size))
      have BZ := Lib.hid (BE.out.size)
      have KRL := Lib.hid KR2.out.lt
      have KSL := Lib.hid KS.out.lt
      clear KS KR2 RD BE ob os hb9 SO
      generalize V.heap.size = B at *
      clear V
      obtain ⟨e0, e1, e2, e3, e4, e5, e6, e7, e8, e9, e10, e11, e12⟩ : w9.cell? ⟨g, 0, none⟩ = some (.slice h'.A1 s'.cols.length h'.c1) ∧ w9.cell? ⟨g, 1, none⟩ = some (.slice h'.A2 s'.covs.length h'.c2) ∧ w9.cell? ⟨g, 2, none⟩ = some (.int .i64 s'.l0) ∧ w9.cell? ⟨g, 3, none⟩ = some (.int .i64 s'.l1) ∧ w9.cell? ⟨g, 4, none⟩ = some (.int .i64 s'.l2) ∧ w9.cell? ⟨g, 5, none⟩ = some (.int .i64 s'.l3) ∧ w9.cell? ⟨g, 6, none⟩ = some (.slice h'.A3 s'.rows.length h'.c3) ∧ w9.cell? ⟨g, 7, none⟩ = some (.slice h'.A4 s'.frames.length h'.c4) ∧ w9.cell? ⟨g, 8, none⟩ = some (.slice h'.A5 s'.tanks.length h'.c5) ∧ w9.cell? ⟨g, 9, none⟩ = some (.int .i64 s'.m0) ∧ w9.cell? ⟨g, 10, none⟩ = some (.int .i64 s'.m1) ∧ w9.cell? ⟨g, 11, none⟩ = some (.int .i64 s'.m2) ∧ w9.cell? ⟨g, 12, none⟩ = some (.int .i64 s'.m3) := ⟨KS9.out.cell 0, KS9.out.cell 1, KS9.out.cell 2, KS9.out.cell 3, KS9.out.cell 4, KS9.out.cell 5, KS9.out.cell 6, KS9.out.cell 7, KS9.out.cell 8, KS9.out.cell 9, KS9.out.cell 10, KS9.out.cell 11, KS9.out.cell 12⟩
      have kr := KR9.out
      have z0 : w9.cell? ⟨w.heap.size, 0, none⟩ = some (.slice none 0 0) := kr.cell 0
      have f0 := kr.frozen 0
      have z1 : w9.cell? ⟨w.heap.size, 1, none⟩ = some (.slice none 0 0) := kr.cell 1
      have f1 := kr.frozen 1
      have z2 : w9.cell? ⟨w.heap.size, 2, none⟩ = some (.int .i64 0) := kr.cell 2
      have f2 := kr.frozen 2
      have z3 : w9.cell? ⟨w.heap.size, 3, none⟩ = some (.int .i64 0) := kr.cell 3
      have f3 := kr.frozen 3
      have z4 : w9.cell? ⟨w.heap.size, 4, none⟩ = some (.int .i64 0) := kr.cell 4
      have f4 := kr.frozen 4
      have z5 : w9.cell? ⟨w.heap.size, 5, none⟩ = some (.int .i64 0) := kr.cell 5
      have f5 := kr.frozen 5
      have z6 : w9.cell? ⟨w.heap.size, 6, none⟩ = some (.slice none 0 0) := kr.cell 6
      have f6 := kr.frozen 6
      have z7 : w9.cell? ⟨w.heap.size, 7, none⟩ = some (.slice none 0 0) := kr.cell 7
      have f7 := kr.frozen 7
      have z8 : w9.cell? ⟨w.heap.size, 8, none⟩ = some (.slice none 0 0) := kr.cell 8
      have f8 := kr.frozen 8
      have z9 : w9.cell? ⟨w.heap.size, 9, none⟩ = some (.int .i64 0) := kr.cell 9
      have f9 := kr.frozen 9
      have z10 : w9.cell? ⟨w.heap.size, 10, none⟩ = some (.int .i64 0) := kr.cell 10
      have f10 := kr.frozen 10
      have z11 : w9.cell? ⟨w.heap.size, 11, none⟩ = some (.int .i64 0) := kr.cell 11
      have f11 := kr.frozen 11
      have z12 : w9.cell? ⟨w.heap.size, 12, none⟩ = some (.int .i64 0) := kr.cell 12
      have f12 := kr.frozen 12
      clear kr
      go_wp2_with fail
      refine bodyPost_ret (results_row_tmp2 rfl _ _ (w.heap.size) 37 #[.slice h'.A1 s'.cols.length h'.c1, .slice h'.A2 s'.covs.length h'.c2, .int .i64 s'.l0, .int .i64 s'.l1, .int .i64 s'.l2, .int .i64 s'.l3, .slice h'.A3 s'.rows.length h'.c3, .slice h'.A4 s'.frames.length h'.c4, .slice h'.A5 s'.tanks.length h'.c5, .int .i64 s'.m0, .int .i64 s'.m1, .int .i64 s'.m2, .int .i64 s'.m3] _ rfl (set13 KR9.out _ _ _ _ _ _ _ _ _ _ _ _ _ rfl) Try.underlying37 rfl info_ship) rfl ?_
      have hg13 := grown13 w9 (w.heap.size) (.slice h'.A1 s'.cols.length h'.c1) (.slice h'.A2 s'.covs.length h'.c2) (.int .i64 s'.l0) (.int .i64 s'.l1) (.int .i64 s'.l2) (.int .i64 s'.l3) (.slice h'.A3 s'.rows.length h'.c3) (.slice h'.A4 s'.frames.length h'.c4) (.slice h'.A5 s'.tanks.length h'.c5) (.int .i64 s'.m0) (.int .i64 s'.m1) (.int .i64 s'.m2) (.int .i64 s'.m3)
      have hgq : g ≠ w.heap.size := HGZ.out
      have OB2 := Lib.hid (OB.out.grown hg13 (.inr (OB.out.ne KR9.out (by decide))))
      have OS2 := Lib.hid (OS.out.grown hg13 (.inr (OS.out.ne KR9.out (by decide))))
      have SO2 := Lib.hid (SO9.out.off KR9.out hgq (Nat.le_refl _) hg13)
      have BE2 := Lib.hid (BE9.out.trans (below_of_grown hg13 (Nat.le_refl _) BE9.out.size))
      clear hg13
      generalize (World.setCell (World.setCell _ _ _) _ _) = W13 at *
      exact ⟨s', h', v1, v2, bs, st, rfl, LM.out, HLL.out.1, HLL.out.2, SO2.out.rd _ (fun x t cs hk ht => ⟨hk.lt, OB2.out.ne hk (by rcases ht with rfl | rfl | rfl <;> decide), OS2.out.ne hk (by rcases ht with rfl | rfl | rfl <;> decide)⟩), OB2.out.down BZ.out, OS2.out.down BZ.out, BE2.out⟩
end Go.Proofs.Ytncfakkajknhaaa
