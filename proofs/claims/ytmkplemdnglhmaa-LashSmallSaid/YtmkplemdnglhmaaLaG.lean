/-
  The examples of the chapter of lashings.
-/
import Derived.Test.YtmkplemdnglhmaaLaF
import Derived.Test.YtmkplemdnglhmaaStT
namespace Go.Proofs.Ytmkplemdnglhmaa
open Go.RowKit

set_option maxHeartbeats 1000000 in
theorem at11 (i a b h : Int) (w : World) : Calls Try.prog 15 #[.int .i64 i, .int .i64 a, .int .i64 b, .int .u8 h] w (Ret w (.agg #[.int .i64 i, .int .i64 a, .int .i64 b, .int .u8 h])) := by
  go_enter Try.func15, Try.ntmps15
  go_wp2
  exact bodyPost_ret (results_row1 rfl _ _ w.heap.size 42 #[.int .i64 i, .int .i64 a, .int .i64 b, .int .u8 h] _ rfl (Bk.new w _ _) Try.underlying42 rfl info_stw) rfl ⟨rfl, ba1 w _⟩
def fE11 (_ : Col) : Int × Int × Int := (0, 0, 50000000)
def s11 : Shp := limS fE11 0 exShp
def b11 : List Bx := [⟨1, ⟨#[]⟩, 20, false, 15000, 0, 0, 0, false⟩, ⟨2, ⟨#[]⟩, 20, false, 9000, 0, 0, 0, false⟩, ⟨3, ⟨#[]⟩, 40, true, 10000, 0, 0, 0, false⟩, ⟨4, ⟨#[]⟩, 40, false, 8000, 0, 0, 0, false⟩]
def l11 : List Stw := [⟨1, 2, 0, 1⟩, ⟨2, 2, 0, 2⟩, ⟨3, 2, 1, 0⟩, ⟨4, 2, 2, 0⟩]
@[reducible] def b11A : Array Value := #[.int .i64 1, .string ⟨#[]⟩, .int .u8 20, .bool false, .int .i64 15000, .int .i64 0, .int .i64 0, .int .u8 0, .bool false, .int .i64 2, .string ⟨#[]⟩, .int .u8 20, .bool false, .int .i64 9000, .int .i64 0, .int .i64 0, .int .u8 0, .bool false, .int .i64 3, .string ⟨#[]⟩, .int .u8 40, .bool true, .int .i64 10000, .int .i64 0, .int .i64 0, .int .u8 0, .bool false, .int .i64 4, .string ⟨#[]⟩, .int .u8 40, .bool false, .int .i64 8000, .int .i64 0, .int .i64 0, .int .u8 0, .bool false]
@[reducible] def l11A : Array Value := #[.int .i64 1, .int .i64 2, .int .i64 0, .int .u8 1, .int .i64 2, .int .i64 2, .int .i64 0, .int .u8 2, .int .i64 3, .int .i64 2, .int .i64 1, .int .u8 0, .int .i64 4, .int .i64 2, .int .i64 2, .int .u8 0]
/-- What example returns. -/
def ExRet11 (w : World) (e : Ending) (w' : World) : Prop := ∃ (h : Hd) (gv gb gs : Nat), e = .returned (.tuple #[.agg (shpA s11 h), .slice (some ⟨gb, 0, none⟩) 4 4, .slice (some ⟨gs, 0, none⟩) 4 4]) ∧ ShOwn w w' gv s11 h ∧ Bk w' gb 37 b11A ∧ Bk w' gs 42 l11A ∧ Below w.heap.size w w' ∧ w.heap.size ≤ gb
theorem ex_x11 {x : Col} (hx : x.k20 = 0 ∧ x.k40 = 0) : { x with lash := 50000000 } = limC fE11 x := by
  unfold limC fE11
  simp only
  obtain ⟨h1, h2⟩ := hx
  cases x
  simp only at h1 h2 ⊢
  rw [h1, h2]
theorem ex_k11 : ∀ x ∈ exShp.cols, x.k20 = 0 ∧ x.k40 = 0 := by decide
set_option maxRecDepth 100000 in
set_option maxHeartbeats 8000000 in
theorem example11_any (w : World) : Calls Try.prog 14 #[] w (ExRet11 w) := by
  have kr := Bk.new w 32 zS
  have bw := ba1 w (.cells zS 32)
  obtain ⟨W, hW⟩ : ∃ W, W = w.alloc (.cells zS 32) := ⟨_, rfl⟩
  rw [← hW] at bw kr
  have HX := Lib.hid (ex_exact W)
  have HL0 := Lib.hid (ex_lw (w := w) (w1 := W) bw fE11)
  have HGZ : Hid ((exW W).heap.size ≠ w.heap.size) := Lib.hid (by have := exW_size W; have := bw.size; omega)
  have KR1 := Lib.hid ((kr.below (exW_below W) kr.lt).alloc (.cells (shpA exShp (exH W.heap.size)) 32))
  have hW' := hW.symm
  dsimp only [zS] at hW'
  generalize hsh : exShp = s at HX HL0 KR1
  have HSH := Lib.hid hsh
  clear hsh
  generalize hh : exH W.heap.size = h at *
  have HHD := Lib.hid hh
  clear hh
  have HH : Hid (s.cols.length = 5 ∧ ∀ x ∈ s.cols, x.k20 = 0 ∧ x.k40 = 0) := Lib.hid (by rw [← HSH.out]; exact ⟨rfl, ex_k11⟩)
  have HZ : Hid ((s.rows = [] ∧ s.frames = [] ∧ s.tanks = []) ∧ s.covs.length ≤ h.c2 ∧ h.c2 ≤ maxLen ∧ h.c3 ≤ maxLen ∧ h.c4 ≤ maxLen ∧ h.c5 ≤ maxLen) := Lib.hid (by rw [← HSH.out, ← HHD.out]; exact ⟨⟨rfl, rfl, rfl⟩, (by decide : (1 : Nat) ≤ 1), (by decide : (1 : Nat) ≤ maxLen), (by decide : (0 : Nat) ≤ maxLen), (by decide : (0 : Nat) ≤ maxLen), (by decide : (0 : Nat) ≤ maxLen)⟩)
  clear bw kr hW
  go_enter Try.func14, Try.ntmps14
  go_upto_region 1 with fail
  try rw [hW']
  clear hW'
  go_wp2_with fail
  refine HX.out.mono ?_
  rintro e w1 ⟨rfl, hw1⟩
  simp only
  rw [← hw1] at HL0 HGZ KR1
  clear HX hw1
  unfold shpA at HL0 KR1 ⊢
  go_upto_region 2 with fail
  generalize w1.heap.size = g at *
  generalize (w1.alloc _) = V at *
  clear w1
  generalize W.heap.size + 1 = b at *
  generalize [b + 1] = gs at *
  clear HHD
  try clear W
  have hn6 : s.cols.length ≤ 6 := by rw [HH.out.1]; omega
  have e0 : V.cell? ⟨g, 0, none⟩ = some (.slice (some ⟨b, 0, none⟩) s.cols.length 5) := by
    have h0 : V.cell? ⟨g, 0, none⟩ = some (.slice (some ⟨b, 0, none⟩) (limTo fE11 s.cols 0).length 5) := HL0.out.bk.cell 0
    rw [limTo_len] at h0
    exact h0
  go_wp2_with fail
  clear e0
  go_loopw [10] (fun i wr => ∃ k : Nat, k ≤ s.cols.length ∧ i = .int .i64 k ∧ Hid (LW w wr g b 5 gs s h (limTo fE11 s.cols k)) ∧ Hid (Bk wr w.heap.size 32 zS)) (fun i _ => s.cols.length - (intOf i).toNat)
  case atStart => exact ⟨0, Nat.zero_le _, rfl, HL0, KR1⟩
  case round =>
    clear HL0 KR1
    clear V
    obtain ⟨k, hk, rfl, HL, KR⟩ := hrel
    obtain ⟨V, rfl⟩ : ∃ V, V = wr := ⟨_, rfl⟩
    by_cases hlt : k < s.cols.length
    · have i0 : (0 : Int) ≤ (k : Int) := by omega
      have i1 : (k : Int) < (s.cols.length : Int) := by omega
      have hk1 : k + 1 ≤ s.cols.length := hlt
      have hgood := HH.out.2 _ (getD_memD hlt default)
      have hat := limTo_at fE11 s.cols hlt
      have hset := limTo_set fE11 s.cols hlt
      rw [← ex_x11 hgood] at hset
      have hln := limTo_len fE11 s.cols k
      have e0 : V.cell? ⟨g, 0, none⟩ = some (.slice (some ⟨b, 0, none⟩) s.cols.length 5) := by
        have h0 : V.cell? ⟨g, 0, none⟩ = some (.slice (some ⟨b, 0, none⟩) (limTo fE11 s.cols k).length 5) := HL.out.bk.cell 0
        rw [limTo_len] at h0
        exact h0
      generalize s.cols.getD k default = x at *
      obtain ⟨Ap, qq, hcl, hfr⟩ := HL.out.at_ hat
      have d7 : V.cell? ⟨b, k * 12 + 7, none⟩ = some (.int .i64 x.lash) := hcl 7 _ rfl
      have f7 := hfr 7
      have HLN : Hid (LW w (V.setCell ⟨b, k * 12 + 7, none⟩ (.int .i64 50000000)) g b 5 gs s h (limTo fE11 s.cols (k + 1))) := Lib.hid (by
        have := HL.out.set (i := k) (j := 7) (u := .int .i64 50000000) (x' := { x with lash := 50000000 }) hat (by decide) (rd_f 7 _ _ rfl fun _ _ => rfl)
        rw [hset] at this
        exact this)
      have KRN : Hid (Bk (V.setCell ⟨b, k * 12 + 7, none⟩ (.int .i64 50000000)) w.heap.size 32 zS) := Lib.hid (by
        obtain ⟨cs, hkb⟩ := HL.out.blk
        exact KR.out.far (Bk.ne_ KR.out hkb (by decide)) _)
      clear hcl hfr hat hset hln hgood HL KR
      go_wp2_with fail
      go_roundw
      case rel => (repeat apply Exists.intro); (first | exact ⟨⟨k + 1, hk1, by go_num, HLN, KRN⟩, rfl⟩ | exact ⟨hk1, by go_num, HLN, KRN⟩)
      case measure => simp [intOf]; omega
    · obtain rfl : k = s.cols.length := by omega
      have hgz : g ≠ w.heap.size := HGZ.out
      have SO : Hid (ShOwn w V g (limS fE11 0 s) { h with A1 := some ⟨b, 0, none⟩, c1 := 5 }) := Lib.hid (by
        have r2 := HL.out
        rw [limTo_all] at r2
        have e : limS fE11 0 s = limS fE11 s.m0 s := by rw [← HSH.out]; rfl
        rw [e]
        exact ⟨⟨b, gs, ⟨r2.bk, r2.own, r2.cov, r2.be, r2.lg, r2.lb, r2.lc, r2.cm⟩, rfl⟩, HZ.out.1, HZ.out.2.1, HZ.out.2.2.1, HZ.out.2.2.2.1, HZ.out.2.2.2.2.1, HZ.out.2.2.2.2.2⟩)
      have KS : Hid (Bk V g 32 (shpA (limS fE11 0 s) { h with A1 := some ⟨b, 0, none⟩, c1 := 5 })) := Lib.hid (by
        have r2 := HL.out
        rw [limTo_all] at r2
        have e : limS fE11 0 s = limS fE11 s.m0 s := by rw [← HSH.out]; rfl
        rw [e]
        exact r2.bk)
      rw [show limS fE11 0 s = s11 by rw [← HSH.out]; rfl] at SO KS
      generalize ({ h with A1 := some ⟨b, 0, none⟩, c1 := 5 } : Hd) = h' at *
      have HBE := Lib.hid HL.out.be
      have KB := Lib.hid (Bk.new V 37 b11A)
      have hx := ba1 V (.cells b11A 37)
      replace SO := Lib.hid (SO.out.on hx)
      replace KS := Lib.hid (KS.out.below hx KS.out.lt)
      replace KR := Lib.hid (KR.out.below hx KR.out.lt)
      replace HBE := Lib.hid (HBE.out.trans (hx.mono HBE.out.size))
      have HGB0 := HL.out.be.size
      clear HL hx
      dsimp only [b11A] at KB SO KS KR HBE
      have HGB : Hid (w.heap.size ≤ V.heap.size) := Lib.hid HGB0
      clear HGB0
      go_upto_region 8 with fail
      generalize V.heap.size = gb at *
      generalize (V.alloc _) = V2 at *
      clear V
      generalize hs11 : s11 = s' at *
      have HS11 := Lib.hid hs11
      clear hs11
      let C : World → Prop := fun V => ∃ cs, cs.size = 13 ∧ Hid (Bk V w.heap.size 32 cs) ∧ Hid (ShOwn w V g s' h') ∧ Hid (Bk V g 32 (shpA s' h')) ∧ Hid (Bk V gb 37 #[.int .i64 1, .string ⟨#[]⟩, .int .u8 20, .bool false, .int .i64 15000, .int .i64 0, .int .i64 0, .int .u8 0, .bool false, .int .i64 2, .string ⟨#[]⟩, .int .u8 20, .bool false, .int .i64 9000, .int .i64 0, .int .i64 0, .int .u8 0, .bool false, .int .i64 3, .string ⟨#[]⟩, .int .u8 40, .bool true, .int .i64 10000, .int .i64 0, .int .i64 0, .int .u8 0, .bool false, .int .i64 4, .string ⟨#[]⟩, .int .u8 40, .bool false, .int .i64 8000, .int .i64 0, .int .i64 0, .int .u8 0, .bool false]) ∧ Hid (Below w.heap.size w V)
      have hC : ∀ {w w' : World}, C w → Below w.heap.size w w' → C w' := fun ⟨cs, h0, h1, h2, h3, h4, h5⟩ hb => ⟨cs, h0, Lib.hid (h1.out.below hb h1.out.lt), Lib.hid (h2.out.on hb), Lib.hid (h3.out.below hb h3.out.lt), Lib.hid (h4.out.below hb h4.out.lt), Lib.hid (h5.out.trans (hb.mono h5.out.size))⟩
      have hC0 : C V2 := ⟨zS, rfl, KR, SO, KS, KB, HBE⟩
      refine wp_region_og [.val 0 (.agg (shpA s' h')),
        .val 1 (.slice (some ⟨gb, 0, none⟩) 4 4),
        .val 2 (.agg #[.int .i64 1, .int .i64 2, .int .i64 0, .int .u8 1]),
        .val 3 (.agg #[.int .i64 2, .int .i64 2, .int .i64 0, .int .u8 2]),
        .val 4 (.agg #[.int .i64 3, .int .i64 2, .int .i64 1, .int .u8 0]),
        .val 5 (.agg #[.int .i64 4, .int .i64 2, .int .i64 2, .int .u8 0]),
        .sl 6 4 42 #[.int .i64 1, .int .i64 2, .int .i64 0, .int .u8 1, .int .i64 2, .int .i64 2, .int .i64 0, .int .u8 2, .int .i64 3, .int .i64 2, .int .i64 1, .int .u8 0, .int .i64 4, .int .i64 2, .int .i64 2, .int .u8 0] 0,
        ⟨[], fun _ V => Bk V w.heap.size 32 (shpA s' h'), fun _ h => h, fun hb h => h.below hb h.lt⟩,
        .val 8 (.slice (some ⟨gb, 0, none⟩) 4 4),
        ⟨[9], fun x V => ∃ gl, x 9 = .slice (some ⟨gl, 0, none⟩) 4 4 ∧ Bk V gl 42 #[.int .i64 1, .int .i64 2, .int .i64 0, .int .u8 1, .int .i64 2, .int .i64 2, .int .i64 0, .int .u8 2, .int .i64 3, .int .i64 2, .int .i64 1, .int .u8 0, .int .i64 4, .int .i64 2, .int .i64 2, .int .u8 0], fun h ⟨g, e, r⟩ => ⟨g, (h 9 (by simp)).symm.trans e, r⟩, fun hb ⟨g, e, k⟩ => ⟨g, e, k.below hb k.lt⟩⟩]
        [[], [], [], [], [], [], [2, 3, 4, 5], [0], [1], [6]] [7, 8, 9] C (by kernel_rfl) (by kernel_rfl) (hC hC0 (Cb.drew V2)) ⟨?_, ?_, ?_, ?_, ?_, ?_, ?_, ?_, ?_, ?_, trivial⟩ ?_
      case refine_1 =>
        refine StepL.grow hC fun x V hV hu K Q hK => ?_
        obtain ⟨cs, h0, h1, h2, h3, h4, h5⟩ := hV
        have ks := h3.out
        clear h1 h2 h3 h4 h5
        have e0 : V.cell? ⟨g, 0, none⟩ = some (.slice h'.A1 s'.cols.length h'.c1) := ks.cell 0
        have e1 : V.cell? ⟨g, 1, none⟩ = some (.slice h'.A2 s'.covs.length h'.c2) := ks.cell 1
        have e2 : V.cell? ⟨g, 2, none⟩ = some (.int .i64 s'.l0) := ks.cell 2
        have e3 : V.cell? ⟨g, 3, none⟩ = some (.int .i64 s'.l1) := ks.cell 3
        have e4 : V.cell? ⟨g, 4, none⟩ = some (.int .i64 s'.l2) := ks.cell 4
        have e5 : V.cell? ⟨g, 5, none⟩ = some (.int .i64 s'.l3) := ks.cell 5
        have e6 : V.cell? ⟨g, 6, none⟩ = some (.slice h'.A3 s'.rows.length h'.c3) := ks.cell 6
        have e7 : V.cell? ⟨g, 7, none⟩ = some (.slice h'.A4 s'.frames.length h'.c4) := ks.cell 7
        have e8 : V.cell? ⟨g, 8, none⟩ = some (.slice h'.A5 s'.tanks.length h'.c5) := ks.cell 8
        have e9 : V.cell? ⟨g, 9, none⟩ = some (.int .i64 s'.m0) := ks.cell 9
        have e10 : V.cell? ⟨g, 10, none⟩ = some (.int .i64 s'.m1) := ks.cell 10
        have e11 : V.cell? ⟨g, 11, none⟩ = some (.int .i64 s'.m2) := ks.cell 11
        have e12 : V.cell? ⟨g, 12, none⟩ = some (.int .i64 s'.m3) := ks.cell 12
        clear ks
        clear hu
        rw [owp_eq]
        go_big_op
        exact hK _ _ (Below.refl _ _) rfl
      case refine_2 =>
        refine StepL.grow hC fun x V hV hu K Q hK => ?_
        clear hu
        simp only [putL, List.set_cons_zero, List.set_cons_succ] at hK ⊢
        rw [owp_eq]
        go_big_op
        exact hK _ _ (Below.refl _ _) rfl
      case refine_3 =>
        refine StepL.grow hC fun x V hV hu K Q hK => ?_
        clear hu
        simp only [putL, List.set_cons_zero, List.set_cons_succ] at hK ⊢
        rw [owp_eq]
        go_big_op
        refine (at11 _ _ _ _ _).mono ?_
        rintro e V' ⟨rfl, hb⟩
        exact hK _ _ hb rfl
      case refine_4 =>
        refine StepL.grow hC fun x V hV hu K Q hK => ?_
        clear hu
        simp only [putL, List.set_cons_zero, List.set_cons_succ] at hK ⊢
        rw [owp_eq]
        go_big_op
        refine (at11 _ _ _ _ _).mono ?_
        rintro e V' ⟨rfl, hb⟩
        exact hK _ _ hb rfl
      case refine_5 =>
        refine StepL.grow hC fun x V hV hu K Q hK => ?_
        clear hu
        simp only [putL, List.set_cons_zero, List.set_cons_succ] at hK ⊢
        rw [owp_eq]
        go_big_op
        refine (at11 _ _ _ _ _).mono ?_
        rintro e V' ⟨rfl, hb⟩
        exact hK _ _ hb rfl
      case refine_6 =>
        refine StepL.grow hC fun x V hV hu K Q hK => ?_
        clear hu
        simp only [putL, List.set_cons_zero, List.set_cons_succ] at hK ⊢
        rw [owp_eq]
        go_big_op
        refine (at11 _ _ _ _ _).mono ?_
        rintro e V' ⟨rfl, hb⟩
        exact hK _ _ hb rfl
      case refine_7 =>
        refine StepL.grow hC fun x V hV hu K Q hK => ?_
        have u2 : x 2 = _ := hu 2 (by decide)
        have u3 : x 3 = _ := hu 3 (by decide)
        have u4 : x 4 = _ := hu 4 (by decide)
        have u5 : x 5 = _ := hu 5 (by decide)
        clear hu
        simp only [putL, List.set_cons_zero, List.set_cons_succ] at hK ⊢
        rw [owp_eq]
        go_big_op
        exact hK _ _ (ba1 V _) ⟨_, rfl, Nat.zero_le _, Bk.new V _ _⟩
      case refine_8 =>
        refine StepL.wr [1, 2, 3, 4, 5, 6] (by kernel_rfl) fun x V hV hu K Q hK => ?_
        have u0 : x 0 = _ := hu 0 (by decide)
        obtain ⟨cs, h0, h1, h2, h3, h4, h5⟩ := hV
        clear hu
        simp only [putL, List.set_cons_zero, List.set_cons_succ] at hK ⊢
        refine wp_store_og 32 (.tmp 0) (.tmp 24) rfl w.heap.size (shpA s' h') rfl u0 32 cs h1.out info_ship h0 (by simp [shpA, Value.oneCell']) fun V' k1 k2 => ?_
        have hgz : g ≠ w.heap.size := HGZ.out
        refine hK undef _ ⟨shpA s' h', rfl, Lib.hid k1, Lib.hid (h2.out.off h1.out hgz (Nat.le_refl _) k2), Lib.hid (h3.out.grown k2 (by simpa using hgz)), Lib.hid (h4.out.grown k2 (by have := Bk.ne_ h4.out h1.out (by decide); simpa using this)), Lib.hid (h5.out.trans (below_of_grown k2 (Nat.le_refl _) h5.out.size))⟩ k1 fun j hj => ?_
        simp only [List.mem_cons, List.not_mem_nil, or_false] at hj
        rcases hj with rfl | rfl | rfl | rfl | rfl | rfl
        · exact fun h => h
        · exact fun h => h
        · exact fun h => h
        · exact fun h => h
        · exact fun h => h
        · rintro ⟨g', e', l', k'⟩; exact ⟨g', e', l', k'.grown k2 (by have := Bk.ne_ k' h1.out (by decide); simpa using this)⟩
      case refine_9 =>
        refine StepL.grow hC fun x V hV hu K Q hK => ?_
        have u1 : x 1 = _ := hu 1 (by decide)
        clear hu
        simp only [putL, List.set_cons_zero, List.set_cons_succ] at hK ⊢
        rw [owp_eq]
        go_big_op
        exact hK _ _ (Below.refl _ _) rfl
      case refine_10 =>
        refine StepL.grow hC fun x V hV hu K Q hK => ?_
        obtain ⟨g6, u6, _, k6⟩ := hu 6 (by decide)
        clear hu
        simp only [putL, List.set_cons_zero, List.set_cons_succ] at hK ⊢
        rw [owp_eq]
        go_big_op
        exact hK _ _ (Below.refl _ _) ⟨g6, rfl, k6⟩
      case refine_11 =>
        intro x V hV hA
        have k7 : Bk V w.heap.size 32 (shpA s' h') := hA 7 rfl (by decide)
        have x8 : x 8 = _ := hA 8 rfl (by decide)
        obtain ⟨gl, x9, k9⟩ := hA 9 rfl (by decide)
        obtain ⟨cs, h0, h1, h2, h3, h4, h5⟩ := hV
        have hrt : Calls Try.prog 0 #[] V (fun _ _ => True) → True := fun _ => trivial
        simp only [layL, putL, List.set_cons_zero, List.set_cons_succ]
        rw [x8, x9]
        clear hA x8 x9 hC hC0 C hrt
        go_wp2_with fail
        refine bodyPost_ret (results_row_tmp2 rfl _ _ w.heap.size 32 (shpA s' h') _ rfl k7 Try.underlying32 rfl info_ship) rfl ?_
        exact ⟨h', g, gb, gl, by rw [HS11.out]; rfl, by rw [HS11.out]; exact h2.out, h4.out, k9, h5.out, HGB.out⟩
theorem ex11_a : liftF b11 (l11.take 2) ⟨2, 1, 0⟩ = 2591 ∧ momentF b11 (l11.take 3) 2 1 = 25910000 ∧ momentF b11 (l11.take 3) 2 2 = 25910000 ∧ liftF b11 l11 ⟨2, 2, 0⟩ = 5487 := by decide +kernel
theorem ex11_b : lroomF s11 b11 (l11.take 3) ⟨2, 2, 0⟩ = 4390 ∧ lroomF s11 b11 l11 ⟨0, 0, 0⟩ = 500000000 := by decide +kernel
theorem ex11_c : stowRight s11 b11 l11 = true ∧ stowRight s11 b11 (l11.take 3) = true := by decide +kernel
theorem ex11_d : lcheckL s11 b11 l11 = [⟨2, 1, 19806000⟩, ⟨2, 2, 19806000⟩] ∧ lcheckL s11 b11 (l11.take 3) = [] := by decide +kernel
theorem ex11_k : KgL b11 := by unfold KgL; decide +kernel
theorem ex11_l : ∀ c ∈ s11.cols, c.lash ≤ 1000000000000000 := by decide +kernel
theorem ex11_few : Few s11 := ⟨by decide, by decide, by decide, by decide⟩
theorem ex11_ints : Ints s11 := ⟨by unfold I64; decide⟩
theorem ex11_t : ∀ x ∈ l11, x.slot.tier ≤ 9223372036854775807 := by decide
theorem ex11_t3 : ∀ x ∈ l11.take 3, x.slot.tier ≤ 9223372036854775807 := by decide
/-- The data of the examples. -/
structure LA (w V : World) (g gv gb gl : Nat) (s : Shp) (h : Hd) : Prop where
  bk : Bk V g 32 (shpA s h)
  so : ShOwn w V gv s h
  bx : Bk V gb 37 b11A
  sx : Bk V gl 42 l11A
  be : Below w.heap.size w V
theorem LA.on {w V V' : World} {g gv gb gl : Nat} {s : Shp} {h : Hd} (r : LA w V g gv gb gl s h) (hb : Below V.heap.size V V') : LA w V' g gv gb gl s h :=
  ⟨r.bk.below hb r.bk.lt, r.so.on hb, r.bx.below hb r.bx.lt, r.sx.below hb r.sx.lt, r.be.trans (hb.mono r.be.size)⟩
theorem LA.rd {w V : World} {g gv gb gl : Nat} {s : Shp} {h : Hd} (r : LA w V g gv gb gl s h) : ShpR V (Lt V.heap.size) s h := r.so.rd _ fun x t cs hk _ => hk.lt
theorem LA.bxs {w V : World} {g gv gb gl : Nat} {s : Shp} {h : Hd} (r : LA w V g gv gb gl s h) : SlT tBx V (Lt V.heap.size) (some ⟨gb, 0, none⟩) b11 := sl_flat r.bx (flat_bx b11) r.bx.lt
theorem LA.sts {w V : World} {g gv gb gl : Nat} {s : Shp} {h : Hd} (r : LA w V g gv gb gl s h) : SlT tStw V (Lt V.heap.size) (some ⟨gl, 0, none⟩) l11 := sl_flat r.sx (flat_stw l11) r.sx.lt
theorem lcheck_len {l : List Flt} {w : World} {v : Value} {B : Nat} (h : OwnT tFlt 100 w B v l) : ∃ A c, v = .slice A l.length c ∧ SlT tFlt w (Lt w.heap.size) A l := by
  obtain ⟨A, c, e, _, _, hs⟩ := h.sl
  exact ⟨A, c, e, hs⟩
theorem run_eql_lf (a b c : Int) (W : World) : (binOp .eql 100 (.agg #[.int .i64 a, .int .u8 b, .int .i64 c]) (.agg #[.int .i64 a, .int .u8 b, .int .i64 c])).run Try.prog W = .ok (.bool true) W := by simp [go_sem]
set_option maxRecDepth 100000 in
set_option maxHeartbeats 8000000 in
theorem awake11_true (w : World) : Calls Try.prog 17 #[] w (TrueRet w) := by
  go_enter Try.func17, Try.ntmps17
  go_wp2_with fail
  refine (example11_any w).mono ?_
  rintro e w1 ⟨h, gv, gb, gl, rfl, so1, kb1, kl1, hb1, _⟩
  simp only
  have HA : Hid (LA w (w1.alloc (.cells (shpA s11 h) 32)) w1.heap.size gv gb gl s11 h) := Lib.hid ⟨Bk.new w1 _ _, so1.on (ba1 w1 _), kb1.alloc _, kl1.alloc _, hb1.trans ((ba1 w1 _).mono hb1.size)⟩
  clear so1 kb1 kl1 hb1
  have K1 : Hid (∀ (V : World) (g : Nat), LA w V g gv gb gl s11 h → Calls Try.prog 48 #[.slice (some ⟨gb, 0, none⟩) 4 4, .slice (some ⟨gl, 0, none⟩) 2 4, .agg #[.int .i64 2, .int .i64 1, .int .u8 0]] V (Ret V (.int .i64 2591))) := Lib.hid fun V g h1 => by
    have := lift_any (some ⟨gb, 0, none⟩) 4 b11 (some ⟨gl, 0, none⟩) 4 (l11.take 2) ⟨2, 1, 0⟩ V h1.bxs (by decide) (h1.sts.take 2) (by decide)
    rw [ex11_a.1] at this
    exact this
  have K2 : Hid (∀ (V : World) (g : Nat), LA w V g gv gb gl s11 h → Calls Try.prog 52 #[.slice (some ⟨gb, 0, none⟩) 4 4, .slice (some ⟨gl, 0, none⟩) 3 4, .int .i64 2, .int .u8 1] V (Ret V (.int .i64 25910000))) := Lib.hid fun V g h1 => by
    have := moment_any (some ⟨gb, 0, none⟩) 4 b11 (some ⟨gl, 0, none⟩) 4 (l11.take 3) 2 1 V ex11_k h1.bxs (by decide) (h1.sts.take 3) (by decide)
    rw [ex11_a.2.1] at this
    exact this
  have K3 : Hid (∀ (V : World) (g : Nat), LA w V g gv gb gl s11 h → Calls Try.prog 52 #[.slice (some ⟨gb, 0, none⟩) 4 4, .slice (some ⟨gl, 0, none⟩) 3 4, .int .i64 2, .int .u8 2] V (Ret V (.int .i64 25910000))) := Lib.hid fun V g h1 => by
    have := moment_any (some ⟨gb, 0, none⟩) 4 b11 (some ⟨gl, 0, none⟩) 4 (l11.take 3) 2 2 V ex11_k h1.bxs (by decide) (h1.sts.take 3) (by decide)
    rw [ex11_a.2.2.1] at this
    exact this
  have K4 : Hid (∀ (V : World) (g : Nat), LA w V g gv gb gl s11 h → Calls Try.prog 48 #[.slice (some ⟨gb, 0, none⟩) 4 4, .slice (some ⟨gl, 0, none⟩) 4 4, .agg #[.int .i64 2, .int .i64 2, .int .u8 0]] V (Ret V (.int .i64 5487))) := Lib.hid fun V g h1 => by
    have := lift_any (some ⟨gb, 0, none⟩) 4 b11 (some ⟨gl, 0, none⟩) 4 l11 ⟨2, 2, 0⟩ V h1.bxs (by decide) h1.sts (by decide)
    rw [ex11_a.2.2.2] at this
    exact this
  have K5 : Hid (∀ (V : World) (g : Nat), LA w V g gv gb gl s11 h → Calls Try.prog 50 #[.agg (shpA s11 h), .slice (some ⟨gb, 0, none⟩) 4 4, .slice (some ⟨gl, 0, none⟩) 3 4, .agg #[.int .i64 2, .int .i64 2, .int .u8 0]] V (Ret V (.int .i64 4390))) := Lib.hid fun V g h1 => by
    have := lRoom_any s11 h (some ⟨gb, 0, none⟩) 4 b11 (some ⟨gl, 0, none⟩) 4 (l11.take 3) ⟨2, 2, 0⟩ V ex11_k ex11_l h1.rd (by decide) h1.bxs (by decide) (h1.sts.take 3) (by decide)
    rw [ex11_b.1] at this
    exact this
  have K6 : Hid (∀ (V : World) (g : Nat), LA w V g gv gb gl s11 h → Calls Try.prog 50 #[.agg (shpA s11 h), .slice (some ⟨gb, 0, none⟩) 4 4, .slice (some ⟨gl, 0, none⟩) 4 4, .agg #[.int .i64 0, .int .i64 0, .int .u8 0]] V (Ret V (.int .i64 500000000))) := Lib.hid fun V g h1 => by
    have := lRoom_any s11 h (some ⟨gb, 0, none⟩) 4 b11 (some ⟨gl, 0, none⟩) 4 l11 ⟨0, 0, 0⟩ V ex11_k ex11_l h1.rd (by decide) h1.bxs (by decide) h1.sts (by decide)
    rw [ex11_b.2] at this
    exact this
  have K7 : Hid (∀ (V : World) (g : Nat), LA w V g gv gb gl s11 h → Calls Try.prog 54 #[.agg (shpA s11 h), .slice (some ⟨gb, 0, none⟩) 4 4, .slice (some ⟨gl, 0, none⟩) 4 4] V (CkRet V 2 [⟨2, 1, 19806000⟩, ⟨2, 2, 19806000⟩])) := Lib.hid fun V g h1 => by
    refine (lCheck_any s11 h (some ⟨gb, 0, none⟩) 4 b11 (some ⟨gl, 0, none⟩) 4 l11 V ex11_k ex11_l h1.rd ex11_few ex11_ints (by decide) h1.bxs (by decide) h1.sts (by decide) (by decide) (by decide) ex11_t).mono ?_
    rintro e w' ⟨v, rfl, ho, hb⟩
    rw [ex11_d.1] at ho
    obtain ⟨A', c', rfl, hs⟩ := lcheck_len ho
    exact ⟨A', c', by rw [ex11_c.1]; rfl, hs, hb⟩
  have K8 : Hid (∀ (V : World) (g : Nat), LA w V g gv gb gl s11 h → Calls Try.prog 54 #[.agg (shpA s11 h), .slice (some ⟨gb, 0, none⟩) 4 4, .slice (some ⟨gl, 0, none⟩) 3 4] V (CkRet V 0 [])) := Lib.hid fun V g h1 => by
    refine (lCheck_any s11 h (some ⟨gb, 0, none⟩) 4 b11 (some ⟨gl, 0, none⟩) 4 (l11.take 3) V ex11_k ex11_l h1.rd ex11_few ex11_ints (by decide) h1.bxs (by decide) (h1.sts.take 3) (by decide) (by decide) (by decide) ex11_t3).mono ?_
    rintro e w' ⟨v, rfl, ho, hb⟩
    rw [ex11_d.2] at ho
    obtain ⟨A', c', rfl, hs⟩ := lcheck_len ho
    exact ⟨A', c', by rw [ex11_c.2]; rfl, hs, hb⟩
  generalize s11 = s at *
  unfold shpA at HA K5 K6 K7 K8 ⊢
  go_upto_region 2 with fail
  generalize w1.heap.size = g at *
  generalize (w1.alloc _) = V at *
  clear w1
  have KS := HA.out.bk
  have KL := HA.out.sx
  have e0 : ∀ p : Gr V, p.W.cell? ⟨g, 0, none⟩ = some (.slice h.A1 s.cols.length h.c1) := Gr.cell (KS.cell 0)
  have e1 : ∀ p : Gr V, p.W.cell? ⟨g, 1, none⟩ = some (.slice h.A2 s.covs.length h.c2) := Gr.cell (KS.cell 1)
  have e2 : ∀ p : Gr V, p.W.cell? ⟨g, 2, none⟩ = some (.int .i64 s.l0) := Gr.cell (KS.cell 2)
  have e3 : ∀ p : Gr V, p.W.cell? ⟨g, 3, none⟩ = some (.int .i64 s.l1) := Gr.cell (KS.cell 3)
  have e4 : ∀ p : Gr V, p.W.cell? ⟨g, 4, none⟩ = some (.int .i64 s.l2) := Gr.cell (KS.cell 4)
  have e5 : ∀ p : Gr V, p.W.cell? ⟨g, 5, none⟩ = some (.int .i64 s.l3) := Gr.cell (KS.cell 5)
  have e6 : ∀ p : Gr V, p.W.cell? ⟨g, 6, none⟩ = some (.slice h.A3 s.rows.length h.c3) := Gr.cell (KS.cell 6)
  have e7 : ∀ p : Gr V, p.W.cell? ⟨g, 7, none⟩ = some (.slice h.A4 s.frames.length h.c4) := Gr.cell (KS.cell 7)
  have e8 : ∀ p : Gr V, p.W.cell? ⟨g, 8, none⟩ = some (.slice h.A5 s.tanks.length h.c5) := Gr.cell (KS.cell 8)
  have e9 : ∀ p : Gr V, p.W.cell? ⟨g, 9, none⟩ = some (.int .i64 s.m0) := Gr.cell (KS.cell 9)
  have e10 : ∀ p : Gr V, p.W.cell? ⟨g, 10, none⟩ = some (.int .i64 s.m1) := Gr.cell (KS.cell 10)
  have e11 : ∀ p : Gr V, p.W.cell? ⟨g, 11, none⟩ = some (.int .i64 s.m2) := Gr.cell (KS.cell 11)
  have e12 : ∀ p : Gr V, p.W.cell? ⟨g, 12, none⟩ = some (.int .i64 s.m3) := Gr.cell (KS.cell 12)
  have m9 : ∀ p : Gr V, p.W.cell? ⟨gl, 9, none⟩ = some (.int .i64 2) := Gr.cell (KL.cell 9)
  have m10 : ∀ p : Gr V, p.W.cell? ⟨gl, 10, none⟩ = some (.int .i64 1) := Gr.cell (KL.cell 10)
  have m11 : ∀ p : Gr V, p.W.cell? ⟨gl, 11, none⟩ = some (.int .u8 0) := Gr.cell (KL.cell 11)
  have m13 : ∀ p : Gr V, p.W.cell? ⟨gl, 13, none⟩ = some (.int .i64 2) := Gr.cell (KL.cell 13)
  have m14 : ∀ p : Gr V, p.W.cell? ⟨gl, 14, none⟩ = some (.int .i64 2) := Gr.cell (KL.cell 14)
  have m15 : ∀ p : Gr V, p.W.cell? ⟨gl, 15, none⟩ = some (.int .u8 0) := Gr.cell (KL.cell 15)
  clear KS KL
  refine wp_region_gr (by kernel_rfl) (by kernel_rfl) ?_
  repeat (go_big_quiet_step ((first | (with_reducible exact Gr.call _ (fun U hU => K1.out U _ (HA.out.on hU))) | (with_reducible exact Gr.call _ (fun U hU => K2.out U _ (HA.out.on hU))) | (with_reducible exact Gr.call _ (fun U hU => K3.out U _ (HA.out.on hU))) | (with_reducible exact Gr.call _ (fun U hU => K4.out U _ (HA.out.on hU))) | (with_reducible exact Gr.call _ (fun U hU => K5.out U _ (HA.out.on hU))) | (with_reducible exact Gr.call _ (fun U hU => K6.out U _ (HA.out.on hU))))))
  refine wpQuiet_nil ?_
  rintro V1 ⟨⟨_, hb⟩, rfl⟩
  clear e0 e1 e2 e3 e4 e5 e6 e7 e8 e9 e10 e11 e12
  clear m9 m10 m11 m13 m14 m15 K1 K2 K3 K4 K5 K6
  replace HA := Lib.hid (HA.out.on hb)
  clear hb
  try clear V
  go_upto_region 4 with fail
  have KS := HA.out.bk
  have e0 : V1.cell? ⟨g, 0, none⟩ = some (.slice h.A1 s.cols.length h.c1) := KS.cell 0
  have e1 : V1.cell? ⟨g, 1, none⟩ = some (.slice h.A2 s.covs.length h.c2) := KS.cell 1
  have e2 : V1.cell? ⟨g, 2, none⟩ = some (.int .i64 s.l0) := KS.cell 2
  have e3 : V1.cell? ⟨g, 3, none⟩ = some (.int .i64 s.l1) := KS.cell 3
  have e4 : V1.cell? ⟨g, 4, none⟩ = some (.int .i64 s.l2) := KS.cell 4
  have e5 : V1.cell? ⟨g, 5, none⟩ = some (.int .i64 s.l3) := KS.cell 5
  have e6 : V1.cell? ⟨g, 6, none⟩ = some (.slice h.A3 s.rows.length h.c3) := KS.cell 6
  have e7 : V1.cell? ⟨g, 7, none⟩ = some (.slice h.A4 s.frames.length h.c4) := KS.cell 7
  have e8 : V1.cell? ⟨g, 8, none⟩ = some (.slice h.A5 s.tanks.length h.c5) := KS.cell 8
  have e9 : V1.cell? ⟨g, 9, none⟩ = some (.int .i64 s.m0) := KS.cell 9
  have e10 : V1.cell? ⟨g, 10, none⟩ = some (.int .i64 s.m1) := KS.cell 10
  have e11 : V1.cell? ⟨g, 11, none⟩ = some (.int .i64 s.m2) := KS.cell 11
  have e12 : V1.cell? ⟨g, 12, none⟩ = some (.int .i64 s.m3) := KS.cell 12
  clear KS
  go_wp2_with fail
  refine (K7.out _ _ HA.out).mono ?_
  rintro e V2 ⟨A7, c7, rfl, hs7, hb⟩
  simp only
  clear e0 e1 e2 e3 e4 e5 e6 e7 e8 e9 e10 e11 e12
  replace HA := Lib.hid (HA.out.on hb)
  have HS7 := Lib.hid hs7
  clear hb K7 hs7
  try clear V1
  go_upto_region 5 with fail
  refine wp_region_at (by kernel_rfl) ?_
  have b3 := drew_below V2 1
  generalize V2.drewN 1 = V3 at *
  replace HA := Lib.hid (HA.out.on b3)
  replace HS7 := Lib.hid (HS7.out.on b3)
  clear b3
  try clear V2
  have KS := HA.out.bk
  have e0 : ∀ p : Gr V3, p.W.cell? ⟨g, 0, none⟩ = some (.slice h.A1 s.cols.length h.c1) := Gr.cell (KS.cell 0)
  have e1 : ∀ p : Gr V3, p.W.cell? ⟨g, 1, none⟩ = some (.slice h.A2 s.covs.length h.c2) := Gr.cell (KS.cell 1)
  have e2 : ∀ p : Gr V3, p.W.cell? ⟨g, 2, none⟩ = some (.int .i64 s.l0) := Gr.cell (KS.cell 2)
  have e3 : ∀ p : Gr V3, p.W.cell? ⟨g, 3, none⟩ = some (.int .i64 s.l1) := Gr.cell (KS.cell 3)
  have e4 : ∀ p : Gr V3, p.W.cell? ⟨g, 4, none⟩ = some (.int .i64 s.l2) := Gr.cell (KS.cell 4)
  have e5 : ∀ p : Gr V3, p.W.cell? ⟨g, 5, none⟩ = some (.int .i64 s.l3) := Gr.cell (KS.cell 5)
  have e6 : ∀ p : Gr V3, p.W.cell? ⟨g, 6, none⟩ = some (.slice h.A3 s.rows.length h.c3) := Gr.cell (KS.cell 6)
  have e7 : ∀ p : Gr V3, p.W.cell? ⟨g, 7, none⟩ = some (.slice h.A4 s.frames.length h.c4) := Gr.cell (KS.cell 7)
  have e8 : ∀ p : Gr V3, p.W.cell? ⟨g, 8, none⟩ = some (.slice h.A5 s.tanks.length h.c5) := Gr.cell (KS.cell 8)
  have e9 : ∀ p : Gr V3, p.W.cell? ⟨g, 9, none⟩ = some (.int .i64 s.m0) := Gr.cell (KS.cell 9)
  have e10 : ∀ p : Gr V3, p.W.cell? ⟨g, 10, none⟩ = some (.int .i64 s.m1) := Gr.cell (KS.cell 10)
  have e11 : ∀ p : Gr V3, p.W.cell? ⟨g, 11, none⟩ = some (.int .i64 s.m2) := Gr.cell (KS.cell 11)
  have e12 : ∀ p : Gr V3, p.W.cell? ⟨g, 12, none⟩ = some (.int .i64 s.m3) := Gr.cell (KS.cell 12)
  clear KS
  refine AnyAt.gr 4 (by kernel_rfl) ?_
  simp only [List.drop_succ_cons, List.drop_zero, Nat.reduceSub, List.take_succ_cons, List.take_zero]
  repeat (go_big_quiet_step (fail))
  refine wpQuiet_nil ?_
  rintro V4 ⟨⟨_, hb⟩, rfl⟩
  clear e0 e1 e2 e3 e4 e5 e6 e7 e8 e9 e10 e11 e12
  replace HA := Lib.hid (HA.out.on hb)
  replace HS7 := Lib.hid (HS7.out.on hb)
  clear hb
  try clear V3
  refine AnyAt.one (by kernel_rfl) rfl (fun K hK => ?_)
  rw [if_pos (by rfl)]
  go_big_op
  refine (K8.out _ _ HA.out).mono ?_
  rintro e V5 ⟨A8, c8, rfl, -, hb⟩
  replace HA := Lib.hid (HA.out.on hb)
  replace HS7 := Lib.hid (HS7.out.on hb)
  clear hb K8
  try clear V4
  refine hK _ _ ?_
  clear hK K
  refine AnyAt.gr 10 (by kernel_rfl) ?_
  simp only [List.drop_succ_cons, List.drop_zero, Nat.reduceSub, List.take_succ_cons, List.take_zero]
  try simp only [Act.put, List.setIfInBounds_toArray, List.set_cons_zero, List.set_cons_succ]
  repeat (go_big_quiet_step (fail))
  refine wpQuiet_nil ?_
  rintro V6 ⟨⟨_, hb⟩, rfl⟩
  replace HA := Lib.hid (HA.out.on hb)
  replace HS7 := Lib.hid (HS7.out.on hb)
  clear hb
  try clear V5
  refine AnyAt.done rfl ?_
  try simp only [Act.put, List.setIfInBounds_toArray, List.set_cons_zero, List.set_cons_succ]
  obtain ⟨b, off, rfl, hbB, p0, p1, p2⟩ := HS7.out.flt (j := 0) (by decide)
  obtain ⟨b', off', e', hbB', r0, r1, r2⟩ := HS7.out.flt (j := 1) (by decide)
  injection e' with e'
  injection e' with e1' e2' _
  subst e1' e2'
  simp only [Nat.zero_mul, Nat.add_zero, Nat.one_mul] at p0 p1 p2 r0 r1 r2
  have p0 : ∀ p : Gr V6, p.W.cell? ⟨b, off, none⟩ = some (.int .i64 2) := Gr.cell p0
  have p1 : ∀ p : Gr V6, p.W.cell? ⟨b, off + 1, none⟩ = some (.int .u8 1) := Gr.cell p1
  have p2 : ∀ p : Gr V6, p.W.cell? ⟨b, off + 2, none⟩ = some (.int .i64 19806000) := Gr.cell p2
  have r0 : ∀ p : Gr V6, p.W.cell? ⟨b, off + 3, none⟩ = some (.int .i64 2) := Gr.cell r0
  have r1 : ∀ p : Gr V6, p.W.cell? ⟨b, off + 3 + 1, none⟩ = some (.int .u8 2) := Gr.cell r1
  have r2 : ∀ p : Gr V6, p.W.cell? ⟨b, off + 3 + 2, none⟩ = some (.int .i64 19806000) := Gr.cell r2
  have hrun1 := run_eql_lf 2 1 19806000
  have hrun2 := run_eql_lf 2 2 19806000
  go_upto_region 6 with fail
  refine wp_region_grs ?_
  repeat (go_big_quiet_step (fail))
  refine wpQuiet_nil ?_
  rintro V7 ⟨⟨_, hb⟩, rfl⟩
  clear p0 p1 p2 r0 r1 r2 hrun1 hrun2
  have HBE := Lib.hid (HA.out.be.trans (hb.mono HA.out.be.size))
  clear hb HA HS7
  go_wp2_with fail
  go_ret
  exact ⟨rfl, HBE.out⟩
end Go.Proofs.Ytmkplemdnglhmaa
