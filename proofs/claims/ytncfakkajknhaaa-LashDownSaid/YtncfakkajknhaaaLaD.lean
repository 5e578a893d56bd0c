/-
  Walks of package lash: Moment, lashed, Faults.
-/
import Derived.Test.YtncfakkajknhaaaLaC
import Derived.Test.YtncfakkajknhaaaStM
namespace Go.Proofs.Ytncfakkajknhaaa
open Go.RowKit

def momP (boxes : List Bx) (l : List Stw) (p : Slt × Bx) : Int := IntKind.i64.wrap (p.2.kilos * liftF boxes l p.1)
def momentF (boxes : List Bx) (l : List Stw) (col : Int) (h : Nat) : Int := ((halfL boxes l col h).map fun p => p.2.kilos * liftF boxes l p.1).sum
/-- Kilos are no greater than a bound. -/
def KgL (boxes : List Bx) : Prop := ∀ b ∈ boxes, -2000000000 ≤ b.kilos ∧ b.kilos ≤ 2000000000
theorem mem_halfL {boxes : List Bx} {l : List Stw} {c : Int} {h : Nat} {p : Slt × Bx} (hp : p ∈ halfL boxes l c h) : ∃ x ∈ l, inHalf c h x.slot = true ∧ findBx boxes x.box = (p.2, true) ∧ p.1 = x.slot := by
  unfold halfL at hp
  obtain ⟨x, hx, e⟩ := List.mem_filterMap.1 hp
  unfold halfOf at e
  split at e
  · rename_i hc
    simp only [Bool.and_eq_true] at hc
    injection e with e
    subst e
    refine ⟨x, hx, hc.1, ?_, rfl⟩
    have := hc.2
    generalize findBx boxes x.box = fb at *
    obtain ⟨a, b⟩ := fb
    simp only at this
    rw [this]
  · cases e
theorem lift_bd (boxes : List Bx) {l : List Stw} (hl : l.length ≤ 1000) (x : Slt) : 0 ≤ liftF boxes l x ∧ liftF boxes l x ≤ 2896000 := by
  have := liftTo_bd boxes l x (hvL x).length
  unfold liftF
  omega
theorem mul_bd {k L : Int} (h1 : -2000000000 ≤ k) (h2 : k ≤ 2000000000) (h3 : 0 ≤ L) (h4 : L ≤ 2896000) : -5792000000000000 ≤ k * L ∧ k * L ≤ 5792000000000000 := by
  have a1 : k * L ≤ 2000000000 * L := Int.mul_le_mul_of_nonneg_right h2 h3
  have a2 : -2000000000 * L ≤ k * L := Int.mul_le_mul_of_nonneg_right h1 h3
  omega
theorem momP_eq {boxes : List Bx} {l : List Stw} (hk : KgL boxes) (hl : l.length ≤ 1000) {c : Int} {h : Nat} {p : Slt × Bx} (hp : p ∈ halfL boxes l c h) : momP boxes l p = p.2.kilos * liftF boxes l p.1 ∧ -5792000000000000 ≤ momP boxes l p ∧ momP boxes l p ≤ 5792000000000000 := by
  obtain ⟨x, _, _, hf, _⟩ := mem_halfL hp
  have h1 := hk _ (find_some hf).1
  have h2 := lift_bd boxes hl p.1
  have h3 := mul_bd h1.1 h1.2 h2.1 h2.2
  unfold momP
  rw [IntWalk.i64_in _ (by omega)]
  exact ⟨rfl, h3⟩
theorem moment_eq {boxes : List Bx} {l : List Stw} (hk : KgL boxes) (hl : l.length ≤ 1000) (c : Int) (h : Nat) : sumW (momP boxes l) (halfL boxes l c h) = momentF boxes l c h := by
  rw [sumW_eq (momP boxes l) 5792000000000000 (by omega) 1000 (by omega) _ (Nat.le_trans (halfL_len boxes l c h) hl) (fun p hp => (momP_eq hk hl hp).2)]
  unfold momentF
  congr 1
  exact List.map_congr_left fun p hp => (momP_eq hk hl hp).1
theorem moment_bd {boxes : List Bx} {l : List Stw} (hk : KgL boxes) (hl : l.length ≤ 1000) (c : Int) (h : Nat) : -5792000000000000000 ≤ momentF boxes l c h ∧ momentF boxes l c h ≤ 5792000000000000000 := by
  have h1 := sum_bd2 (fun p : Slt × Bx => p.2.kilos * liftF boxes l p.1) 5792000000000000 (halfL boxes l c h) (fun p hp => by have := momP_eq hk hl hp; omega)
  have h2 := halfL_len boxes l c h
  unfold momentF
  omega
set_option maxRecDepth 100000 in
set_option maxHeartbeats 2000000 in
theorem moment1_any (A : Option Addr) (c : Nat) (boxes : List Bx) (A2 : Option Addr) (c2 : Nat) (l : List Stw) (y : Slt) (b : Bx) (g4 g5 : Nat) (w : World) (h4 : Bk w g4 38 #[.slice A boxes.length c]) (h5 : Bk w g5 39 #[.slice A2 l.length c2])
    (hb : SlT tBx w (Lt w.heap.size) A boxes) (hbl : boxes.length ≤ 1000000) (hs : SlT tStw w (Lt w.heap.size) A2 l) (hl : l.length ≤ 1000) :
    Calls Try.prog 65 #[.agg (sltL y).toArray, .agg (bxL b).toArray, .pointer (some ⟨g4, 0, none⟩), .pointer (some ⟨g5, 0, none⟩)] w (Ret w (.int .i64 (momP boxes l (y, b)))) := by
  obtain ⟨yc, yt, yh⟩ := y
  obtain ⟨z0, z1, z2, z3, z4, z5, z6, z7, z8⟩ := b
  have hbs := ba2 w (.cells (sltL ⟨yc, yt, yh⟩).toArray 47) (.cells (bxL ⟨z0, z1, z2, z3, z4, z5, z6, z7, z8⟩).toArray 43)
  have kY := (Bk.new w 47 (sltL ⟨yc, yt, yh⟩).toArray).alloc (.cells (bxL ⟨z0, z1, z2, z3, z4, z5, z6, z7, z8⟩).toArray 43)
  have kB : Bk ((w.alloc (.cells (sltL ⟨yc, yt, yh⟩).toArray 47)).alloc (.cells (bxL ⟨z0, z1, z2, z3, z4, z5, z6, z7, z8⟩).toArray 43)) (w.heap.size + 1) 43 (bxL ⟨z0, z1, z2, z3, z4, z5, z6, z7, z8⟩).toArray := Bk.at_ _ _ (by simp)
  have H4 := Lib.hid (h4.below hbs h4.lt)
  have H5 := Lib.hid (h5.below hbs h5.lt)
  have KL := Lib.hid (fun V hV => lift_any A c boxes A2 c2 l ⟨yc, yt, yh⟩ V ((hb.on hbs).on hV) hbl ((hs.on hbs).on hV) hl)
  have HBE := Lib.hid hbs
  have HV : Hid (momP boxes l (⟨yc, yt, yh⟩, ⟨z0, z1, z2, z3, z4, z5, z6, z7, z8⟩) = IntKind.i64.wrap (z4 * liftF boxes l ⟨yc, yt, yh⟩)) := Lib.hid rfl
  generalize momP boxes l (⟨yc, yt, yh⟩, ⟨z0, z1, z2, z3, z4, z5, z6, z7, z8⟩) = v at *
  generalize liftF boxes l ⟨yc, yt, yh⟩ = lf at *
  obtain ⟨T, hT⟩ : ∃ T, IntKind.i64.wrap (z4 * lf) = T := ⟨_, rfl⟩
  have hT2 : wrap64 (z4 * lf) = T := by rw [← hT]; exact (IntWalk.i64_left _).symm
  rw [hT] at HV
  unfold sltL bxL at kY kB HBE H4 H5 KL
  simp only at kY kB HBE H4 H5 KL
  have HKB := Lib.hid kB
  have HKY := Lib.hid kY
  unfold sltL bxL
  simp only
  clear h4 h5 hb hs hbs kY kB
  go_enter Try.func65, Try.ntmps65
  go_upto_region 1 with fail
  obtain ⟨gy, hgy⟩ : ∃ gy, gy = w.heap.size := ⟨_, rfl⟩
  rw [← hgy] at HKY HKB ⊢
  have HGY := Lib.hid hgy
  clear hgy
  generalize (World.alloc _ _) = W at *
  have e4 : ∀ p : Gr W, p.W.cell? ⟨g4, 0, none⟩ = some (.slice A boxes.length c) := Gr.cell (H4.out.cell 0)
  have e5 : ∀ p : Gr W, p.W.cell? ⟨g5, 0, none⟩ = some (.slice A2 l.length c2) := Gr.cell (H5.out.cell 0)
  have y0 : ∀ p : Gr W, p.W.cell? ⟨gy, 0, none⟩ = some (.int .i64 yc) := Gr.cell (HKY.out.cell 0)
  have y1 : ∀ p : Gr W, p.W.cell? ⟨gy, 1, none⟩ = some (.int .i64 yt) := Gr.cell (HKY.out.cell 1)
  have y2 : ∀ p : Gr W, p.W.cell? ⟨gy, 2, none⟩ = some (.int .u8 (yh : Nat)) := Gr.cell (HKY.out.cell 2)
  have c4 : ∀ p : Gr W, p.W.cell? ⟨gy + 1, 4, none⟩ = some (.int .i64 z4) := Gr.cell (HKB.out.cell 4)
  refine wp_region_gr (by kernel_rfl) (by kernel_rfl) ?_
  repeat (go_big_quiet_step ((with_reducible exact Gr.call _ (fun V hV => KL.out V hV))))
  refine wpQuiet_nil ?_
  rintro Y ⟨⟨_, hbY⟩, rfl⟩
  clear e4 e5 y0 y1 y2 c4 KL
  go_wp2_with fail
  go_ret
  exact ⟨by rw [HV.out]; rfl, HBE.out.trans (hbY.mono HBE.out.size)⟩
set_option maxRecDepth 100000 in
set_option maxHeartbeats 2000000 in
theorem moment_any (A : Option Addr) (c : Nat) (boxes : List Bx) (A2 : Option Addr) (c2 : Nat) (l : List Stw) (col : Int) (hf : Nat) (w : World) (hk : KgL boxes)
    (hb : SlT tBx w (Lt w.heap.size) A boxes) (hbl : boxes.length ≤ 1000000) (hs : SlT tStw w (Lt w.heap.size) A2 l) (hl : l.length ≤ 1000) :
    Calls Try.prog 33 #[.slice A boxes.length c, .slice A2 l.length c2, .int .i64 col, .int .u8 (hf : Nat)] w (Ret w (.int .i64 (momentF boxes l col hf))) := by
  have hbs := ba2 w (.cells #[.slice A boxes.length c] 38) (.cells #[.slice A2 l.length c2] 39)
  have k4 := (Bk.new w 38 #[.slice A boxes.length c]).alloc (.cells #[.slice A2 l.length c2] 39)
  have k5 : Bk ((w.alloc (.cells #[.slice A boxes.length c] 38)).alloc (.cells #[.slice A2 l.length c2] 39)) (w.heap.size + 1) 39 #[.slice A2 l.length c2] := Bk.at_ _ _ (by simp)
  have HB := Lib.hid (hb.on hbs)
  have HS := Lib.hid (hs.on hbs)
  have H4 := Lib.hid k4
  have H5 := Lib.hid k5
  have HBE := Lib.hid hbs
  have HEQ := Lib.hid (moment_eq hk hl col hf)
  clear hb hs hbs k4 k5
  go_enter Try.func33, Try.ntmps33
  go_upto_region 1 with fail
  obtain ⟨g4, hg4⟩ : ∃ g4, g4 = w.heap.size := ⟨_, rfl⟩
  rw [← hg4] at H4 H5 ⊢
  have HG4 := Lib.hid hg4
  clear hg4
  generalize (World.alloc _ _) = W at *
  have e4 : W.cell? ⟨g4, 0, none⟩ = some (.slice A boxes.length c) := H4.out.cell 0
  have e5 : W.cell? ⟨g4 + 1, 0, none⟩ = some (.slice A2 l.length c2) := H5.out.cell 0
  go_wp2_with fail
  refine (half_any A c boxes.length A2 c2 l.length col hf W).mono ?_
  rintro e V1 ⟨gl, gi, gh, gb, rfl, hhb, hb⟩
  simp only
  clear e4 e5
  have HHB := Lib.hid hhb
  have HBr := Lib.hid hb
  clear hb hhb
  have KS := Lib.hid (lsum_any A c boxes A2 c2 l col hf gl gi gh gb 65 #[.pointer (some ⟨g4, 0, none⟩), .pointer (some ⟨g4 + 1, 0, none⟩)] (momP boxes l) V1 (HB.out.on HBr.out) hbl (HS.out.on HBr.out) (by omega) HHB.out Try.call65
    (fun p w' hw => moment1_any A c boxes A2 c2 l p.1 p.2 g4 (g4 + 1) w' ((H4.out.below HBr.out H4.out.lt).below hw (H4.out.below HBr.out H4.out.lt).lt) ((H5.out.below HBr.out H5.out.lt).below hw (H5.out.below HBr.out H5.out.lt).lt) ((HB.out.on HBr.out).on hw) hbl ((HS.out.on HBr.out).on hw) hl))
  rw [HEQ.out] at KS
  generalize momentF boxes l col hf = mv at *
  clear HHB HEQ
  go_wp2_with fail
  refine KS.out.mono ?_
  rintro e V2 ⟨rfl, hb⟩
  simp only
  clear KS
  go_wp2_with fail
  go_ret
  exact ⟨rfl, HBE.out.trans ((HBr.out.trans (hb.mono HBr.out.size)).mono HBE.out.size)⟩
def lashF (s : Shp) (col : Int) : Int := if thereB s col && (s.cols.getD col.toNat default).deck then (if (s.cols.getD col.toNat default).lash < 0 then 0 else (s.cols.getD col.toNat default).lash) else 0
theorem lashF_bd {s : Shp} (hs : ∀ c ∈ s.cols, c.lash ≤ 1000000000000000) (col : Int) : 0 ≤ lashF s col ∧ lashF s col ≤ 1000000000000000 := by
  unfold lashF thereB
  split
  · rename_i h
    simp only [Bool.and_eq_true, decide_eq_true_eq] at h
    have := hs _ (getD_memD (k := col.toNat) (by omega) default)
    split <;> omega
  · omega
set_option maxRecDepth 100000 in
set_option maxHeartbeats 2000000 in
theorem lashed_any (s : Shp) (h : Hd) (col : Int) (w : World) (hsh : ShpR w (Lt w.heap.size) s h) (hcl : s.cols.length ≤ 1000000) : Calls Try.prog 60 #[.agg (shpA s h), .int .i64 col] w (Ret w (.int .i64 (lashF s col))) := by
  have hx := ba1 w (.cells (shpA s h) 37)
  have e0 : (w.alloc (.cells (shpA s h) 37)).cell? ⟨w.heap.size, 0, none⟩ = some (.slice h.A1 s.cols.length h.c1) := (Bk.new w 37 (shpA s h)).cell 0
  have HS := Lib.hid (hsh.on hx)
  have HBE := Lib.hid hx
  clear hsh hx
  by_cases h0 : 0 ≤ col
  · by_cases h1 : col < (s.cols.length : Int)
    · obtain ⟨k, rfl⟩ : ∃ k : Nat, col = (k : Int) := ⟨col.toNat, by omega⟩
      have hk : k < s.cols.length := by omega
      have HV : Hid (lashF s (k : Int) = if (s.cols.getD k default).deck then (if (s.cols.getD k default).lash < 0 then 0 else (s.cols.getD k default).lash) else 0) := Lib.hid (by
        unfold lashF
        rw [show thereB s (k : Int) = true by unfold thereB; simp; omega, Int.toNat_natCast, Bool.true_and])
      obtain ⟨b, off, Ap, q, hA1, hbB, hpq, hpl, c0, c1, c2, c3, c4, c5, c6, c7, c8, c9, c10, c11⟩ := HS.out.cols.col (i := k) hk
      clear c0 c1 c3 c4 c5 c6 c8 c9 c10 c11 hpq hpl
      have hn0 : ¬ (k : Int) < 0 := by omega
      have hn1 : ¬ (s.cols.length : Int) ≤ (k : Int) := by omega
      rw [hA1] at e0
      unfold shpA at e0 HBE HS c2 c7 ⊢
      rw [hA1] at e0 HBE HS c2 c7 ⊢
      generalize s.cols.getD k default = cl at *
      obtain ⟨z0, z1, z2, z3, z4, z5, z6, z7, z8, z9, z10, z11⟩ := cl
      simp only at c2 c7 HV
      clear hA1 HS
      cases z2 with
      | false =>
        go_enter Try.func60, Try.ntmps60
        go_wp2_with fail
        go_ret
        exact ⟨by rw [HV.out]; rfl, HBE.out⟩
      | true =>
        by_cases hz : z7 < 0
        · have HV2 : Hid (lashF s (k : Int) = 0) := Lib.hid (by rw [HV.out, if_pos rfl, if_pos hz])
          go_enter Try.func60, Try.ntmps60
          go_wp2_with fail
          go_ret
          exact ⟨by rw [HV2.out]; rfl, HBE.out⟩
        · have HV2 : Hid (lashF s (k : Int) = z7) := Lib.hid (by rw [HV.out, if_pos rfl, if_neg hz])
          go_enter Try.func60, Try.ntmps60
          go_wp2_with fail
          go_ret
          exact ⟨by rw [HV2.out]; rfl, HBE.out⟩
    · have HV : Hid (lashF s col = 0) := Lib.hid (by unfold lashF thereB; rw [decide_eq_false h1]; simp)
      have h1' : (s.cols.length : Int) ≤ col := by omega
      have hn0 : ¬ col < 0 := by omega
      unfold shpA at e0 HBE ⊢
      clear HS h1 h0
      go_enter Try.func60, Try.ntmps60
      go_wp2_with fail
      go_ret
      exact ⟨by rw [HV.out]; rfl, HBE.out⟩
  · have HV : Hid (lashF s col = 0) := Lib.hid (by unfold lashF thereB; rw [decide_eq_false h0]; simp)
    have h0' : col < 0 := by omega
    unfold shpA at e0 HBE ⊢
    clear HS h0
    go_enter Try.func60, Try.ntmps60
    go_wp2_with fail
    go_ret
    exact ⟨by rw [HV.out]; rfl, HBE.out⟩
/-- The halves of a column that are overstrained: the first k of two. -/
def lfTo (boxes : List Bx) (l : List Stw) (L col : Int) (k : Nat) : List Flt := (List.range k).filterMap fun i => if L < momentF boxes l col (1 + i) then some ⟨col, 1 + i, momentF boxes l col (1 + i) - L⟩ else none
def lfaultsF (s : Shp) (boxes : List Bx) (l : List Stw) (col : Int) : List Flt := if lashF s col = 0 then [] else lfTo boxes l (lashF s col) col 2
theorem lfTo_succ (boxes : List Bx) (l : List Stw) (L col : Int) (k : Nat) : lfTo boxes l L col (k + 1) = lfTo boxes l L col k ++ if L < momentF boxes l col (1 + k) then [⟨col, 1 + k, momentF boxes l col (1 + k) - L⟩] else [] := by
  unfold lfTo
  rw [List.range_succ, List.filterMap_append]
  congr 1
  simp only [List.filterMap_cons, List.filterMap_nil]
  split <;> rename_i h
  · split at h
    · cases h
    · rename_i h2; rw [if_neg h2]
  · split at h
    · rename_i h2; rw [if_pos h2]; injection h with h; rw [h]
    · cases h
theorem lfTo_len (boxes : List Bx) (l : List Stw) (L col : Int) (k : Nat) : (lfTo boxes l L col k).length ≤ k := by
  unfold lfTo
  exact Nat.le_trans (List.length_filterMap_le _ _) (by simp)
theorem lfaults_len (s : Shp) (boxes : List Bx) (l : List Stw) (col : Int) : (lfaultsF s boxes l col).length ≤ 2 := by
  unfold lfaultsF
  split
  · simp
  · exact lfTo_len _ _ _ _ _
theorem el_lflt : El Try.prog 82 92 3 24 := El.mk' Try.underlying82 (by kernel_rfl) (by decide)
def OwnLf (w : World) (l : List Flt) (e : Ending) (w' : World) : Prop := ∃ v, e = .returned v ∧ OwnT tFlt 92 w' w.heap.size v l ∧ Below w.heap.size w w'
set_option maxRecDepth 100000 in
set_option maxHeartbeats 4000000 in
theorem lFaults_any (s : Shp) (h : Hd) (A : Option Addr) (c : Nat) (boxes : List Bx) (A2 : Option Addr) (c2 : Nat) (l : List Stw) (col : Int) (w : World) (hk : KgL boxes) (hlh : ∀ c ∈ s.cols, c.lash ≤ 1000000000000000) (hsh : ShpR w (Lt w.heap.size) s h) (hcl : s.cols.length ≤ 1000000)
    (hb : SlT tBx w (Lt w.heap.size) A boxes) (hbl : boxes.length ≤ 1000000) (hs : SlT tStw w (Lt w.heap.size) A2 l) (hl : l.length ≤ 1000) :
    Calls Try.prog 30 #[.agg (shpA s h), .slice A boxes.length c, .slice A2 l.length c2, .int .i64 col] w (OwnLf w (lfaultsF s boxes l col)) := by
  have hx := ba1 w (.cells (shpA s h) 37)
  have SC := Bk.new w 37 (shpA s h)
  have KL := Lib.hid (lashed_any s h col _ (hsh.on hx) hcl)
  have KM := Lib.hid (fun (V : World) (hV : Below w.heap.size w V) (hf : Nat) => moment_any A c boxes A2 c2 l col hf V hk (hb.on hV) hbl (hs.on hV) hl)
  have HMB := Lib.hid (fun hf => moment_bd hk hl col hf)
  have HBE := Lib.hid hx
  have hLb := lashF_bd hlh col
  have HV : Hid (lfaultsF s boxes l col = if lashF s col = 0 then [] else lfTo boxes l (lashF s col) col 2) := Lib.hid rfl
  clear hsh hb hs hx hk hlh
  generalize lfaultsF s boxes l col = RF at *
  generalize lashF s col = L at *
  obtain ⟨hL0, hL1⟩ := hLb
  have HLS := Lib.hid (fun k => lfTo_succ boxes l L col k)
  have HLN := Lib.hid (fun k => lfTo_len boxes l L col k)
  have HLZ : Hid (lfTo boxes l L col 0 = []) := Lib.hid rfl
  generalize lfTo boxes l L col = LT at *
  generalize momentF boxes l col = MF at *
  unfold shpA at KL HBE SC ⊢
  have e0 : (w.alloc (.cells #[.slice h.A1 s.cols.length h.c1, .slice h.A2 s.covs.length h.c2, .int .i64 s.l0, .int .i64 s.l1, .int .i64 s.l2, .int .i64 s.l3, .slice h.A3 s.rows.length h.c3, .slice h.A4 s.frames.length h.c4, .slice h.A5 s.tanks.length h.c5, .int .i64 s.m0, .int .i64 s.m1, .int .i64 s.m2, .int .i64 s.m3] 37)).cell? ⟨w.heap.size, 0, none⟩ = some (.slice h.A1 s.cols.length h.c1) := SC.cell 0
  have e1 : (w.alloc (.cells #[.slice h.A1 s.cols.length h.c1, .slice h.A2 s.covs.length h.c2, .int .i64 s.l0, .int .i64 s.l1, .int .i64 s.l2, .int .i64 s.l3, .slice h.A3 s.rows.length h.c3, .slice h.A4 s.frames.length h.c4, .slice h.A5 s.tanks.length h.c5, .int .i64 s.m0, .int .i64 s.m1, .int .i64 s.m2, .int .i64 s.m3] 37)).cell? ⟨w.heap.size, 1, none⟩ = some (.slice h.A2 s.covs.length h.c2) := SC.cell 1
  have e2 : (w.alloc (.cells #[.slice h.A1 s.cols.length h.c1, .slice h.A2 s.covs.length h.c2, .int .i64 s.l0, .int .i64 s.l1, .int .i64 s.l2, .int .i64 s.l3, .slice h.A3 s.rows.length h.c3, .slice h.A4 s.frames.length h.c4, .slice h.A5 s.tanks.length h.c5, .int .i64 s.m0, .int .i64 s.m1, .int .i64 s.m2, .int .i64 s.m3] 37)).cell? ⟨w.heap.size, 2, none⟩ = some (.int .i64 s.l0) := SC.cell 2
  have e3 : (w.alloc (.cells #[.slice h.A1 s.cols.length h.c1, .slice h.A2 s.covs.length h.c2, .int .i64 s.l0, .int .i64 s.l1, .int .i64 s.l2, .int .i64 s.l3, .slice h.A3 s.rows.length h.c3, .slice h.A4 s.frames.length h.c4, .slice h.A5 s.tanks.length h.c5, .int .i64 s.m0, .int .i64 s.m1, .int .i64 s.m2, .int .i64 s.m3] 37)).cell? ⟨w.heap.size, 3, none⟩ = some (.int .i64 s.l1) := SC.cell 3
  have e4 : (w.alloc (.cells #[.slice h.A1 s.cols.length h.c1, .slice h.A2 s.covs.length h.c2, .int .i64 s.l0, .int .i64 s.l1, .int .i64 s.l2, .int .i64 s.l3, .slice h.A3 s.rows.length h.c3, .slice h.A4 s.frames.length h.c4, .slice h.A5 s.tanks.length h.c5, .int .i64 s.m0, .int .i64 s.m1, .int .i64 s.m2, .int .i64 s.m3] 37)).cell? ⟨w.heap.size, 4, none⟩ = some (.int .i64 s.l2) := SC.cell 4
  have e5 : (w.alloc (.cells #[.slice h.A1 s.cols.length h.c1, .slice h.A2 s.covs.length h.c2, .int .i64 s.l0, .int .i64 s.l1, .int .i64 s.l2, .int .i64 s.l3, .slice h.A3 s.rows.length h.c3, .slice h.A4 s.frames.length h.c4, .slice h.A5 s.tanks.length h.c5, .int .i64 s.m0, .int .i64 s.m1, .int .i64 s.m2, .int .i64 s.m3] 37)).cell? ⟨w.heap.size, 5, none⟩ = some (.int .i64 s.l3) := SC.cell 5
  have e6 : (w.alloc (.cells #[.slice h.A1 s.cols.length h.c1, .slice h.A2 s.covs.length h.c2, .int .i64 s.l0, .int .i64 s.l1, .int .i64 s.l2, .int .i64 s.l3, .slice h.A3 s.rows.length h.c3, .slice h.A4 s.frames.length h.c4, .slice h.A5 s.tanks.length h.c5, .int .i64 s.m0, .int .i64 s.m1, .int .i64 s.m2, .int .i64 s.m3] 37)).cell? ⟨w.heap.size, 6, none⟩ = some (.slice h.A3 s.rows.length h.c3) := SC.cell 6
  have e7 : (w.alloc (.cells #[.slice h.A1 s.cols.length h.c1, .slice h.A2 s.covs.length h.c2, .int .i64 s.l0, .int .i64 s.l1, .int .i64 s.l2, .int .i64 s.l3, .slice h.A3 s.rows.length h.c3, .slice h.A4 s.frames.length h.c4, .slice h.A5 s.tanks.length h.c5, .int .i64 s.m0, .int .i64 s.m1, .int .i64 s.m2, .int .i64 s.m3] 37)).cell? ⟨w.heap.size, 7, none⟩ = some (.slice h.A4 s.frames.length h.c4) := SC.cell 7
  have e8 : (w.alloc (.cells #[.slice h.A1 s.cols.length h.c1, .slice h.A2 s.covs.length h.c2, .int .i64 s.l0, .int .i64 s.l1, .int .i64 s.l2, .int .i64 s.l3, .slice h.A3 s.rows.length h.c3, .slice h.A4 s.frames.length h.c4, .slice h.A5 s.tanks.length h.c5, .int .i64 s.m0, .int .i64 s.m1, .int .i64 s.m2, .int .i64 s.m3] 37)).cell? ⟨w.heap.size, 8, none⟩ = some (.slice h.A5 s.tanks.length h.c5) := SC.cell 8
  have e9 : (w.alloc (.cells #[.slice h.A1 s.cols.length h.c1, .slice h.A2 s.covs.length h.c2, .int .i64 s.l0, .int .i64 s.l1, .int .i64 s.l2, .int .i64 s.l3, .slice h.A3 s.rows.length h.c3, .slice h.A4 s.frames.length h.c4, .slice h.A5 s.tanks.length h.c5, .int .i64 s.m0, .int .i64 s.m1, .int .i64 s.m2, .int .i64 s.m3] 37)).cell? ⟨w.heap.size, 9, none⟩ = some (.int .i64 s.m0) := SC.cell 9
  have e10 : (w.alloc (.cells #[.slice h.A1 s.cols.length h.c1, .slice h.A2 s.covs.length h.c2, .int .i64 s.l0, .int .i64 s.l1, .int .i64 s.l2, .int .i64 s.l3, .slice h.A3 s.rows.length h.c3, .slice h.A4 s.frames.length h.c4, .slice h.A5 s.tanks.length h.c5, .int .i64 s.m0, .int .i64 s.m1, .int .i64 s.m2, .int .i64 s.m3] 37)).cell? ⟨w.heap.size, 10, none⟩ = some (.int .i64 s.m1) := SC.cell 10
  have e11 : (w.alloc (.cells #[.slice h.A1 s.cols.length h.c1, .slice h.A2 s.covs.length h.c2, .int .i64 s.l0, .int .i64 s.l1, .int .i64 s.l2, .int .i64 s.l3, .slice h.A3 s.rows.length h.c3, .slice h.A4 s.frames.length h.c4, .slice h.A5 s.tanks.length h.c5, .int .i64 s.m0, .int .i64 s.m1, .int .i64 s.m2, .int .i64 s.m3] 37)).cell? ⟨w.heap.size, 11, none⟩ = some (.int .i64 s.m2) := SC.cell 11
  have e12 : (w.alloc (.cells #[.slice h.A1 s.cols.length h.c1, .slice h.A2 s.covs.length h.c2, .int .i64 s.l0, .int .i64 s.l1, .int .i64 s.l2, .int .i64 s.l3, .slice h.A3 s.rows.length h.c3, .slice h.A4 s.frames.length h.c4, .slice h.A5 s.tanks.length h.c5, .int .i64 s.m0, .int .i64 s.m1, .int .i64 s.m2, .int .i64 s.m3] 37)).cell? ⟨w.heap.size, 12, none⟩ = some (.int .i64 s.m3) := SC.cell 12
  clear SC
  go_enter Try.func30, Try.ntmps30
  go_wp2_with fail
  refine KL.out.mono ?_
  rintro e W1 ⟨rfl, hb⟩
  simp only
  clear KL
  clear e0 e1 e2 e3 e4 e5 e6 e7 e8 e9 e10 e11 e12
  have HB1 := Lib.hid (HBE.out.trans (hb.mono HBE.out.size))
  clear hb HBE
  by_cases hz : L = 0
  · have HV0 : Hid (RF = []) := Lib.hid (by rw [HV.out, if_pos hz])
    clear HV HLS
    subst hz
    go_wp2_with fail
    go_ret
    exact ⟨_, rfl, by rw [HV0.out]; exact OwnT.nil, HB1.out⟩
  · have HV0 : Hid (RF = LT 2) := Lib.hid (by rw [HV.out, if_neg hz])
    clear HV
    have hzb : (L == 0) = false := by simpa using hz
    clear hz
    go_upto_region 5 with fail
    clear hzb
    have HK5 : Hid (Bk (W1.alloc (.cells #[.int .u8 1, .int .u8 2] 5)) W1.heap.size 5 #[.int .u8 1, .int .u8 2]) := Lib.hid (Bk.new _ _ _)
    have HB2 := Lib.hid (HB1.out.trans ((ba1 W1 (.cells #[.int .u8 1, .int .u8 2] 5)).mono HB1.out.size))
    go_upto_block 0 with fail
    generalize W1.heap.size = g5 at *
    generalize (W1.alloc _) = W2 at *
    clear HB1
    go_wp2_with fail
    go_loopw [10, 21] (fun v i wr => ∃ (k : Nat), k ≤ 2 ∧ i = .int .i64 k ∧ OwnT tFlt 92 wr W2.heap.size v (LT k) ∧ Hid (Below W2.heap.size W2 wr)) (fun _ i _ => 2 - (intOf i).toNat)
    case atStart => exact ⟨0, by omega, rfl, by rw [HLZ.out]; exact OwnT.nil, Lib.hid (Below.refl _ _)⟩
    case round =>
      obtain ⟨k, hk, rfl, hown, HB⟩ := hrel
      obtain ⟨V, rfl⟩ : ∃ V, V = wr := ⟨_, rfl⟩
      by_cases hlt : k < 2
      · have k0 : (0 : Int) ≤ (k : Int) := by omega
        have k1 : (k : Int) < 2 := by omega
        have hk1 : k + 1 ≤ 2 := hlt
        obtain ⟨hf, rfl⟩ : ∃ hf, hf = 1 + k := ⟨_, rfl⟩
        have cH : V.cell? ⟨g5, k, none⟩ = some (.int .u8 ((1 + k : Nat) : Int)) := by
          have kb := HK5.out.below HB.out HK5.out.lt
          obtain rfl | rfl : k = 0 ∨ k = 1 := by omega
          · exact kb.cell 0
          · exact kb.cell 1
        have HL2 := Lib.hid (HLS.out k)
        have hmb := HMB.out (1 + k)
        have hln := HLN.out k
        generalize hhf : 1 + k = hf at *
        have HHF := Lib.hid hhf
        clear hhf
        have hf9 : hf < 256 := by have := HHF.out; omega
        have KM1 := Lib.hid (KM.out V (HB2.out.trans (HB.out.mono HB2.out.size)) hf)
        generalize MF hf = mv at *
        obtain ⟨mb0, mb1⟩ := hmb
        generalize LT k = lk at *
        have HOW := Lib.hid hown
        clear hown
        go_upto_region 8 with fail
        clear cH
        go_wp2_with fail
        refine KM1.out.mono ?_
        rintro e V1 ⟨rfl, hb⟩
        simp only
        clear KM1
        have HBV := Lib.hid (HB.out.trans (hb.mono HB.out.size))
        have HOW1 := Lib.hid (HOW.out.below hb)
        clear hb HOW HB
        by_cases hgt : L < mv
        · have HF : Hid (LT (k + 1) = lk ++ [⟨col, hf, mv - L⟩]) := Lib.hid (by rw [HL2.out, if_pos hgt])
          clear HL2
          obtain ⟨xs, ho, hfl⟩ := HOW1.out
          have hz0 := HBV.out.size
          go_wp2_with (at_builtin; (refine wpList_append1 el_lflt rfl (.tmp 33) (.tmp 40) rfl W2.heap.size _ lk.length xs rfl ho #[.int .i64 col, .int .u8 (hf : Nat), .int .i64 (mv - L)] _ rfl rfl rfl (by unfold maxLen; omega) (by omega) hz0 ?_))
          intro v' w3 hown' hgr hd3 hbel
          have HB3 := Lib.hid (HBV.out.trans hbel)
          have hfin : OwnT tFlt 92 w3 W2.heap.size v' (LT (k + 1)) := by
            rw [HF.out]
            exact OwnT.append1 (T := tFlt) (x := ⟨col, hf, mv - L⟩) hfl (cs := fltL ⟨col, hf, mv - L⟩) rfl hown' hgr hd3
          go_wp2
          go_roundw
          case rel => (repeat apply Exists.intro); (first | exact ⟨⟨k + 1, hk1, by go_num, hfin, HB3⟩, rfl⟩ | exact ⟨hk1, by go_num, hfin, HB3⟩)
          case measure => simp [intOf]; omega
        · have hfin : OwnT tFlt 92 V1 W2.heap.size u10 (LT (k + 1)) := by rw [HL2.out, if_neg hgt, List.append_nil]; exact HOW1.out
          clear HL2
          go_wp2_with fail
          go_roundw
          case rel => (repeat apply Exists.intro); (first | exact ⟨⟨k + 1, hk1, by go_num, hfin, HBV⟩, rfl⟩ | exact ⟨hk1, by go_num, hfin, HBV⟩)
          case measure => simp [intOf]; omega
      · obtain rfl : k = 2 := by omega
        have h2 := HB2.out.size
        have hown9 := hown.down (base' := w.heap.size) h2
        rw [← HV0.out] at hown9
        go_wp2_with fail
        go_ret
        exact ⟨_, rfl, hown9, HB2.out.trans (HB.out.mono HB2.out.size)⟩
end Go.Proofs.Ytncfakkajknhaaa
