/-
  The examples of the chapter of stacks: the ship and its boxes.
-/
import Derived.Test.YtmkplemdnglhmaaStR
namespace Go.Proofs.Ytmkplemdnglhmaa
open Go.RowKit

set_option maxHeartbeats 1000000 in
theorem ex_exact (w : World) : Calls Try.prog 18 #[] w (fun e w' => e = .returned (.agg (shpA exShp (exH w.heap.size))) ∧ w' = exW w) := by
  go_enter Try.func18, Try.ntmps18
  go_wp2
  exact bodyPost_ret (v := .agg (shpA exShp (exH w.heap.size))) (by simp [results, Try.results18, go_sem, shpA, exShp, exH]) rfl ⟨rfl, rfl⟩
theorem exW_size (w : World) : (exW w).heap.size = w.heap.size + 4 := by simp [exW]
theorem exW_cols (w : World) : Bk (exW w) (w.heap.size + 1) 46 exC := by
  have := ((Bk.new (w.alloc (.cells (shpA exShp (exH w.heap.size)) 32)) 46 exC).alloc (.cells #[.int .i64 0, .int .i64 1] 3)).alloc (.cells #[.int .i64 0, .slice (some ⟨w.heap.size + 1 + 1, 0, none⟩) 2 2] 102)
  rw [show (w.alloc (.cells (shpA exShp (exH w.heap.size)) 32)).heap.size = w.heap.size + 1 by simp] at this
  exact this
theorem exW_rows (w : World) : Bk (exW w) (w.heap.size + 1 + 1) 3 #[.int .i64 0, .int .i64 1] := by
  have := (Bk.new ((w.alloc (.cells (shpA exShp (exH w.heap.size)) 32)).alloc (.cells exC 46)) 3 #[.int .i64 0, .int .i64 1]).alloc (.cells #[.int .i64 0, .slice (some ⟨w.heap.size + 1 + 1, 0, none⟩) 2 2] 102)
  rw [show ((w.alloc (.cells (shpA exShp (exH w.heap.size)) 32)).alloc (.cells exC 46)).heap.size = w.heap.size + 1 + 1 by simp] at this
  exact this
theorem exW_covs (w : World) : Bk (exW w) (w.heap.size + 1 + 1 + 1) 102 #[.int .i64 0, .slice (some ⟨w.heap.size + 1 + 1, 0, none⟩) 2 2] := by
  have := Bk.new (((w.alloc (.cells (shpA exShp (exH w.heap.size)) 32)).alloc (.cells exC 46)).alloc (.cells #[.int .i64 0, .int .i64 1] 3)) 102 #[.int .i64 0, .slice (some ⟨w.heap.size + 1 + 1, 0, none⟩) 2 2]
  rw [show (((w.alloc (.cells (shpA exShp (exH w.heap.size)) 32)).alloc (.cells exC 46)).alloc (.cells #[.int .i64 0, .int .i64 1] 3)).heap.size = w.heap.size + 1 + 1 + 1 by simp] at this
  exact this
theorem own_blk {α : Type} {T : Ty α} {e : TypeId} {w : World} {g B n : Nat} {cs : Array Value} {l : List α} (h : Bk w g e cs) (hg : B ≤ g) (hn : l.length = n) (hf : Flat T w (fun _ => False) cs.toList l) (hm : n ≤ maxLen) : OwnP T e w B (.slice (some ⟨g, 0, none⟩) n n) l := by
  have hz : cs.toList.length = n * T.k := by rw [hf.len, hn]
  subst hn
  exact ⟨cs.toList, ⟨hz, .inr ⟨g, l.length, cs, rfl, hg, h, Nat.le_refl _, hm, by simpa using hz, by rw [← hz]; exact List.take_length⟩⟩, hf, fun _ h => h.elim⟩
theorem ex_lw {w w1 : World} (hbe : Below w.heap.size w w1) (f : Col → Int × Int × Int) : LW w ((exW w1).alloc (.cells (shpA exShp (exH w1.heap.size)) 32)) (exW w1).heap.size (w1.heap.size + 1) 5 [w1.heap.size + 1 + 1] exShp (exH w1.heap.size) (limTo f exShp.cols 0) := by
  have h0 : limTo f exShp.cols 0 = exShp.cols := by unfold limTo; simp
  have hsz := hbe.size
  have hs4 := exW_size w1
  rw [h0]
  refine ⟨Bk.new _ _ _, OwnP.on (own_blk (exW_cols w1) (by omega) rfl (flat_col0 _ (by decide)) (by decide)) (ba1 _ _), CovOwn.below ⟨?_, ?_⟩ (ba1 _ _), (hbe.trans ((exW_below w1).mono hsz)).trans ((ba1 _ _).mono (by omega)), by omega, by omega, by decide, by decide⟩
  · refine ⟨rfl, .inr ⟨w1.heap.size + 1 + 1 + 1, 1, _, rfl, by omega, exW_covs w1, Nat.le_refl _, by unfold maxLen; omega, rfl, rfl⟩⟩
  · exact ⟨exW_rows w1, by omega, by simp, trivial⟩
def fE (_ : Col) : Int × Int × Int := (30000, 50000, 0)
def s10 : Shp := limS fE 2000 exShp
def bx (id : Int) (size : Nat) (kilos : Int) : Bx := ⟨id, ⟨#[]⟩, size, false, kilos, 0, 0, 0, false⟩
def b10 (k3 : Int) : List Bx := [bx 1 20 15000, bx 2 20 9000, bx 3 40 k3, bx 4 20 12000]
@[reducible] def b10A (k3 : Int) : Array Value := #[.int .i64 1, .string ⟨#[]⟩, .int .u8 20, .bool false, .int .i64 15000, .int .i64 0, .int .i64 0, .int .u8 0, .bool false, .int .i64 2, .string ⟨#[]⟩, .int .u8 20, .bool false, .int .i64 9000, .int .i64 0, .int .i64 0, .int .u8 0, .bool false, .int .i64 3, .string ⟨#[]⟩, .int .u8 40, .bool false, .int .i64 k3, .int .i64 0, .int .i64 0, .int .u8 0, .bool false, .int .i64 4, .string ⟨#[]⟩, .int .u8 20, .bool false, .int .i64 12000, .int .i64 0, .int .i64 0, .int .u8 0, .bool false]
/-- What example returns. -/
def ExRet (w : World) (e : Ending) (w' : World) : Prop := ∃ (h : Hd) (gv gb : Nat), e = .returned (.tuple #[.agg (shpA s10 h), .slice (some ⟨gb, 0, none⟩) 4 4]) ∧ ShOwn w w' gv s10 h ∧ Bk w' gb 37 (b10A 26000) ∧ w.heap.size ≤ gb ∧ Below w.heap.size w w'
theorem ex_x {x : Col} (hx : x.lash = 0) : { x with k20 := 30000, k40 := 50000 } = limC fE x := by
  unfold limC fE
  simp only
  rw [← hx]
theorem ex_lash : ∀ x ∈ exShp.cols, x.lash = 0 := by decide
set_option maxRecDepth 100000 in
set_option maxHeartbeats 8000000 in
theorem example10_any (w : World) : Calls Try.prog 6 #[] w (ExRet w) := by
  have kr := Bk.new w 32 zS
  have bw := ba1 w (.cells zS 32)
  obtain ⟨W, hW⟩ : ∃ W, W = w.alloc (.cells zS 32) := ⟨_, rfl⟩
  rw [← hW] at bw kr
  have HX := Lib.hid (ex_exact W)
  have HL0 := Lib.hid (ex_lw (w := w) (w1 := W) bw fE)
  have HGZ : Hid ((exW W).heap.size ≠ w.heap.size) := Lib.hid (by have := exW_size W; have := bw.size; omega)
  have KR1 := Lib.hid ((kr.below (exW_below W) kr.lt).alloc (.cells (shpA exShp (exH W.heap.size)) 32))
  have hW' := hW.symm
  dsimp only [zS] at hW'
  generalize hsh : exShp = s at HX HL0 KR1
  have HSH := Lib.hid hsh
  clear hsh
  generalize hh : exH W.heap.size = h at *
  have HHD := Lib.hid hh
  clear hh
  have HH : Hid (s.cols.length = 5 ∧ ∀ x ∈ s.cols, x.lash = 0) := Lib.hid (by rw [← HSH.out]; exact ⟨rfl, ex_lash⟩)
  have HZ : Hid ((s.rows = [] ∧ s.frames = [] ∧ s.tanks = []) ∧ s.covs.length ≤ h.c2 ∧ h.c2 ≤ maxLen ∧ h.c3 ≤ maxLen ∧ h.c4 ≤ maxLen ∧ h.c5 ≤ maxLen) := Lib.hid (by rw [← HSH.out, ← HHD.out]; exact ⟨⟨rfl, rfl, rfl⟩, (by decide : (1 : Nat) ≤ 1), (by decide : (1 : Nat) ≤ maxLen), (by decide : (0 : Nat) ≤ maxLen), (by decide : (0 : Nat) ≤ maxLen), (by decide : (0 : Nat) ≤ maxLen)⟩)
  clear bw kr hW
  go_enter Try.func6, Try.ntmps6
  go_upto_region 1 with fail
  try rw [hW']
  clear hW'
  go_wp2_with fail
  refine HX.out.mono ?_
  rintro e w1 ⟨rfl, hw1⟩
  simp only
  rw [← hw1] at HL0 HGZ KR1
  clear HX hw1
  unfold shpA at HL0 KR1 ⊢
  go_upto_region 2 with fail
  generalize w1.heap.size = g at *
  generalize (w1.alloc _) = V at *
  clear w1
  generalize W.heap.size + 1 = b at *
  generalize [b + 1] = gs at *
  clear HHD
  try clear W
  have hn6 : s.cols.length ≤ 6 := by rw [HH.out.1]; omega
  have e0 : V.cell? ⟨g, 0, none⟩ = some (.slice (some ⟨b, 0, none⟩) s.cols.length 5) := by
    have h0 : V.cell? ⟨g, 0, none⟩ = some (.slice (some ⟨b, 0, none⟩) (limTo fE s.cols 0).length 5) := HL0.out.bk.cell 0
    rw [limTo_len] at h0
    exact h0
  go_wp2_with fail
  clear e0
  go_loopw [8] (fun i wr => ∃ k : Nat, k ≤ s.cols.length ∧ i = .int .i64 k ∧ Hid (LW w wr g b 5 gs s h (limTo fE s.cols k)) ∧ Hid (Bk wr w.heap.size 32 zS)) (fun i _ => s.cols.length - (intOf i).toNat)
  case atStart => exact ⟨0, Nat.zero_le _, rfl, HL0, KR1⟩
  case round =>
    clear HL0 KR1
    clear V
    obtain ⟨k, hk, rfl, HL, KR⟩ := hrel
    obtain ⟨V, rfl⟩ : ∃ V, V = wr := ⟨_, rfl⟩
    by_cases hlt : k < s.cols.length
    · have i0 : (0 : Int) ≤ (k : Int) := by omega
      have i1 : (k : Int) < (s.cols.length : Int) := by omega
      have hlash := HH.out.2 _ (getD_memD hlt default)
      have hat := limTo_at fE s.cols hlt
      have HSET := Lib.hid (limTo_set fE s.cols hlt)
      have hln := limTo_len fE s.cols k
      have HLX : Hid ({ s.cols.getD k default with k20 := 30000, k40 := 50000 } = limC fE (s.cols.getD k default)) := Lib.hid (ex_x hlash)
      generalize s.cols.getD k default = x at *
      generalize hLk : limTo fE s.cols k = L at *
      have hsame : L.set k { x with k20 := x.k20, k40 := x.k40 } = L := by
        obtain ⟨hkl, hx⟩ := List.getElem?_eq_some_iff.1 hat
        apply List.ext_getElem?
        intro i
        rw [List.getElem?_set]
        split
        · rename_i e; subst e; simp [hkl, hx]
        · rfl
      have hkL : k < L.length := by rw [hln]; exact hlt
      go_step
      go_step
      go_upto_region 5 with fail
      let C : World → Prop := fun V => ∃ X Y : Int, Hid (LW w V g b 5 gs s h (L.set k { x with k20 := X, k40 := Y })) ∧ Hid (Bk V w.heap.size 32 zS)
      have hC : ∀ {w w' : World}, C w → Below w.heap.size w w' → C w' := fun ⟨X, Y, h1, h3⟩ hb => ⟨X, Y, Lib.hid (h1.out.on hb), Lib.hid (h3.out.below hb h3.out.lt)⟩
      have hC0 : C V := ⟨x.k20, x.k40, Lib.hid (by rw [hsame]; exact HL.out), KR⟩
      have c5 : ∀ {V : World} {X Y : Int}, LW w V g b 5 gs s h (L.set k { x with k20 := X, k40 := Y }) → V.cell? ⟨b, k * 12 + 5, none⟩ = some (.int .i64 X) ∧ V.cell? ⟨b, k * 12 + 6, none⟩ = some (.int .i64 Y) ∧ V.frozen? ⟨b, k * 12 + 5, none⟩ = false ∧ V.frozen? ⟨b, k * 12 + 6, none⟩ = false := fun r => by
        obtain ⟨Ap, q, h1, h2⟩ := r.at_ (k := k) (by rw [List.getElem?_set_self hkL])
        exact ⟨h1 5 _ rfl, h1 6 _ rfl, h2 5, h2 6⟩
      have c0 : ∀ {V : World} {X Y : Int}, LW w V g b 5 gs s h (L.set k { x with k20 := X, k40 := Y }) → V.cell? ⟨g, 0, none⟩ = some (.slice (some ⟨b, 0, none⟩) s.cols.length 5) := fun {V X Y} r => by
        have h0 : V.cell? ⟨g, 0, none⟩ = some (.slice (some ⟨b, 0, none⟩) (L.set k { x with k20 := X, k40 := Y }).length 5) := r.bk.cell 0
        rw [List.length_set, hln] at h0
        exact h0
      refine wp_region_og [.val 0 (.pointer (some ⟨g, 0, none⟩)),
        .val 1 (.slice (some ⟨b, 0, none⟩) s.cols.length 5),
        .val 2 (.int .i64 (k : Nat)),
        .val 3 (.pointer (some ⟨g, 0, none⟩)),
        .val 4 (.slice (some ⟨b, 0, none⟩) s.cols.length 5),
        .val 5 (.int .i64 (k : Nat)),
        .val 6 (.pointer (some ⟨b, k * 12, none⟩)),
        .val 7 (.pointer (some ⟨b, k * 12 + 5, none⟩)),
        .cellAt ⟨b, k * 12 + 5, none⟩ (.int .i64 30000),
        .val 9 (.pointer (some ⟨b, k * 12, none⟩)),
        .val 10 (.pointer (some ⟨b, k * 12 + 6, none⟩)),
        .cellAt ⟨b, k * 12 + 6, none⟩ (.int .i64 50000)]
        [[], [0], [], [], [3], [], [1, 2], [6], [7], [4, 5], [9], [10]] [8, 11] C (by kernel_rfl) (by kernel_rfl) (hC hC0 (Cb.drew V)) ⟨?_, ?_, ?_, ?_, ?_, ?_, ?_, ?_, ?_, ?_, ?_, ?_, trivial⟩ ?_
      case refine_1 =>
        refine StepL.grow hC fun xx V hV hu K Q hK => ?_
        clear hu
        rw [owp_eq]
        go_big_op
        exact hK _ _ (Below.refl _ _) rfl
      case refine_2 =>
        refine StepL.grow hC fun xx V hV hu K Q hK => ?_
        have u0 : xx 0 = _ := hu 0 (by decide)
        obtain ⟨X, Y, L1, K2⟩ := hV
        have d0 := c0 L1.out
        clear L1 K2
        clear hu
        simp only [putL, List.set_cons_zero, List.set_cons_succ] at hK ⊢
        rw [owp_eq]
        go_big_op
        exact hK _ _ (Below.refl _ _) rfl
      case refine_3 =>
        refine StepL.grow hC fun xx V hV hu K Q hK => ?_
        clear hu
        simp only [putL, List.set_cons_zero, List.set_cons_succ] at hK ⊢
        rw [owp_eq]
        go_big_op
        exact hK _ _ (Below.refl _ _) rfl
      case refine_4 =>
        refine StepL.grow hC fun xx V hV hu K Q hK => ?_
        clear hu
        simp only [putL, List.set_cons_zero, List.set_cons_succ] at hK ⊢
        rw [owp_eq]
        go_big_op
        exact hK _ _ (Below.refl _ _) rfl
      case refine_5 =>
        refine StepL.grow hC fun xx V hV hu K Q hK => ?_
        have u3 : xx 3 = _ := hu 3 (by decide)
        obtain ⟨X, Y, L1, K2⟩ := hV
        have d0 := c0 L1.out
        clear L1 K2
        clear hu
        simp only [putL, List.set_cons_zero, List.set_cons_succ] at hK ⊢
        rw [owp_eq]
        go_big_op
        exact hK _ _ (Below.refl _ _) rfl
      case refine_6 =>
        refine StepL.grow hC fun xx V hV hu K Q hK => ?_
        clear hu
        simp only [putL, List.set_cons_zero, List.set_cons_succ] at hK ⊢
        rw [owp_eq]
        go_big_op
        exact hK _ _ (Below.refl _ _) rfl
      case refine_7 =>
        refine StepL.grow hC fun xx V hV hu K Q hK => ?_
        have u1 : xx 1 = _ := hu 1 (by decide)
        have u2 : xx 2 = _ := hu 2 (by decide)
        clear hu
        simp only [putL, List.set_cons_zero, List.set_cons_succ] at hK ⊢
        rw [owp_eq]
        go_big_op
        exact hK _ _ (Below.refl _ _) rfl
      case refine_8 =>
        refine StepL.grow hC fun xx V hV hu K Q hK => ?_
        have u6 : xx 6 = _ := hu 6 (by decide)
        clear hu
        simp only [putL, List.set_cons_zero, List.set_cons_succ] at hK ⊢
        rw [owp_eq]
        go_big_op
        exact hK _ _ (Below.refl _ _) rfl
      case refine_9 =>
        refine StepL.wr [3, 4, 5] (by kernel_rfl) fun xx V hV hu K Q hK => ?_
        have u7 : xx 7 = _ := hu 7 (by decide)
        obtain ⟨X, Y, L1, K2⟩ := hV
        obtain ⟨d5, d6, f5, f6⟩ := c5 L1.out
        clear hu
        simp only [putL, List.set_cons_zero, List.set_cons_succ] at hK ⊢
        rw [owp_eq]
        go_big_op
        refine hK undef _ ⟨30000, Y, Lib.hid ?_, Lib.hid ?_⟩ ?_ ?_
        · have := L1.out.set (i := k) (j := 5) (u := .int .i64 30000) (x' := { x with k20 := 30000, k40 := Y }) (List.getElem?_set_self hkL) (by decide) (rd_f 5 _ _ rfl fun _ _ => rfl)
          rw [List.set_set] at this
          exact this
        · obtain ⟨cs, hkb⟩ := L1.out.blk
          exact K2.out.far (Bk.ne_ K2.out hkb (by decide)) _
        · exact World.cell?_setCell_same _ _ _ d5
        · intro j hj
          simp only [List.mem_cons, List.not_mem_nil, or_false] at hj
          rcases hj with rfl | rfl | rfl
          all_goals exact fun h => h
      case refine_10 =>
        refine StepL.grow hC fun xx V hV hu K Q hK => ?_
        have u4 : xx 4 = _ := hu 4 (by decide)
        have u5 : xx 5 = _ := hu 5 (by decide)
        clear hu
        simp only [putL, List.set_cons_zero, List.set_cons_succ] at hK ⊢
        rw [owp_eq]
        go_big_op
        exact hK _ _ (Below.refl _ _) rfl
      case refine_11 =>
        refine StepL.grow hC fun xx V hV hu K Q hK => ?_
        have u9 : xx 9 = _ := hu 9 (by decide)
        clear hu
        simp only [putL, List.set_cons_zero, List.set_cons_succ] at hK ⊢
        rw [owp_eq]
        go_big_op
        exact hK _ _ (Below.refl _ _) rfl
      case refine_12 =>
        refine StepL.wr [8] (by kernel_rfl) fun xx V hV hu K Q hK => ?_
        have u10 : xx 10 = _ := hu 10 (by decide)
        obtain ⟨X, Y, L1, K2⟩ := hV
        obtain ⟨d5, d6, f5, f6⟩ := c5 L1.out
        clear hu
        simp only [putL, List.set_cons_zero, List.set_cons_succ] at hK ⊢
        rw [owp_eq]
        go_big_op
        refine hK undef _ ⟨X, 50000, Lib.hid ?_, Lib.hid ?_⟩ ?_ ?_
        · have := L1.out.set (i := k) (j := 6) (u := .int .i64 50000) (x' := { x with k20 := X, k40 := 50000 }) (List.getElem?_set_self hkL) (by decide) (rd_f 6 _ _ rfl fun _ _ => rfl)
          rw [List.set_set] at this
          exact this
        · obtain ⟨cs, hkb⟩ := L1.out.blk
          exact K2.out.far (Bk.ne_ K2.out hkb (by decide)) _
        · exact World.cell?_setCell_same _ _ _ d6
        · intro j hj
          simp only [List.mem_cons, List.not_mem_nil, or_false] at hj
          subst hj
          exact fun h => (World.cell?_setCell_other _ _ _ _ (by simp)).trans h
      case refine_13 =>
        intro xx V2 hV hA
        have y5 : V2.cell? ⟨b, k * 12 + 5, none⟩ = some (.int .i64 30000) := hA 8 rfl (by decide)
        have y6 : V2.cell? ⟨b, k * 12 + 6, none⟩ = some (.int .i64 50000) := hA 11 rfl (by decide)
        obtain ⟨X, Y, L1, K2⟩ := hV
        obtain ⟨d5, d6, _, _⟩ := c5 L1.out
        have eX : X = 30000 := by rw [d5] at y5; injection y5 with y5; injection y5
        have eY : Y = 50000 := by rw [d6] at y6; injection y6 with y6; injection y6
        have HLN : Hid (LW w V2 g b 5 gs s h (limTo fE s.cols (k + 1))) := Lib.hid (by
          have := L1.out
          rw [eX, eY, HLX.out, HSET.out] at this
          exact this)
        simp only [layL, putL, List.set_cons_zero, List.set_cons_succ]
        clear hA y5 y6 d5 d6 L1 c5 c0 hC hC0
        go_wp2_with fail
        go_roundw
        case rel => (repeat apply Exists.intro); (first | exact ⟨⟨k + 1, hlt, by go_num, HLN, K2⟩, rfl⟩ | exact ⟨hlt, by go_num, HLN, K2⟩)
        case measure => simp [intOf]; omega
    · obtain rfl : k = s.cols.length := by omega
      have f9 := HL.out.bk.frozen 9
      have m9 : V.cell? ⟨g, 9, none⟩ = some (.int .i64 s.m0) := HL.out.bk.cell 9
      have hgz : g ≠ w.heap.size := HGZ.out
      have SO : Hid (ShOwn w (V.setCell ⟨g, 9, none⟩ (.int .i64 2000)) g (limS fE 2000 s) { h with A1 := some ⟨b, 0, none⟩, c1 := 5 }) := Lib.hid (by
        have r2 := HL.out.tol 2000
        rw [limTo_all] at r2
        exact ⟨⟨b, gs, ⟨r2.bk, r2.own, r2.cov, r2.be, r2.lg, r2.lb, r2.lc, r2.cm⟩, rfl⟩, HZ.out.1, HZ.out.2.1, HZ.out.2.2.1, HZ.out.2.2.2.1, HZ.out.2.2.2.2.1, HZ.out.2.2.2.2.2⟩)
      have KS : Hid (Bk (V.setCell ⟨g, 9, none⟩ (.int .i64 2000)) g 32 (shpA (limS fE 2000 s) { h with A1 := some ⟨b, 0, none⟩, c1 := 5 })) := Lib.hid (by
        have r2 := HL.out.tol 2000
        rw [limTo_all] at r2
        exact r2.bk)
      have KR2 := Lib.hid (KR.out.far (p := ⟨g, 9, none⟩) (Ne.symm hgz) (.int .i64 2000))
      rw [show limS fE 2000 s = s10 by rw [← HSH.out]; rfl] at SO KS
      generalize ({ h with A1 := some ⟨b, 0, none⟩, c1 := 5 } : Hd) = h' at *
      have HBE := Lib.hid (HL.out.tol 2000).be
      go_step
      go_step
      go_upto_region 8 with fail
      clear f9 m9 HL KR
      generalize (V.setCell ⟨g, 9, none⟩ _) = V2 at *
      clear V
      generalize hs10 : s10 = s' at *
      have HS10 := Lib.hid hs10
      clear hs10
      obtain ⟨e0, e1, e2, e3, e4, e5, e6, e7, e8, e9, e10, e11, e12⟩ : V2.cell? ⟨g, 0, none⟩ = some (.slice h'.A1 s'.cols.length h'.c1) ∧ V2.cell? ⟨g, 1, none⟩ = some (.slice h'.A2 s'.covs.length h'.c2) ∧ V2.cell? ⟨g, 2, none⟩ = some (.int .i64 s'.l0) ∧ V2.cell? ⟨g, 3, none⟩ = some (.int .i64 s'.l1) ∧ V2.cell? ⟨g, 4, none⟩ = some (.int .i64 s'.l2) ∧ V2.cell? ⟨g, 5, none⟩ = some (.int .i64 s'.l3) ∧ V2.cell? ⟨g, 6, none⟩ = some (.slice h'.A3 s'.rows.length h'.c3) ∧ V2.cell? ⟨g, 7, none⟩ = some (.slice h'.A4 s'.frames.length h'.c4) ∧ V2.cell? ⟨g, 8, none⟩ = some (.slice h'.A5 s'.tanks.length h'.c5) ∧ V2.cell? ⟨g, 9, none⟩ = some (.int .i64 s'.m0) ∧ V2.cell? ⟨g, 10, none⟩ = some (.int .i64 s'.m1) ∧ V2.cell? ⟨g, 11, none⟩ = some (.int .i64 s'.m2) ∧ V2.cell? ⟨g, 12, none⟩ = some (.int .i64 s'.m3) := ⟨KS.out.cell 0, KS.out.cell 1, KS.out.cell 2, KS.out.cell 3, KS.out.cell 4, KS.out.cell 5, KS.out.cell 6, KS.out.cell 7, KS.out.cell 8, KS.out.cell 9, KS.out.cell 10, KS.out.cell 11, KS.out.cell 12⟩
      have hw0 : w.heap.size < V2.heap.size := KR2.out.lt
      have kr := KR2.out
      have z0 : V2.cell? ⟨w.heap.size, 0, none⟩ = some (.slice none 0 0) := kr.cell 0
      have f0 := kr.frozen 0
      have z1 : V2.cell? ⟨w.heap.size, 1, none⟩ = some (.slice none 0 0) := kr.cell 1
      have f1 := kr.frozen 1
      have z2 : V2.cell? ⟨w.heap.size, 2, none⟩ = some (.int .i64 0) := kr.cell 2
      have f2 := kr.frozen 2
      have z3 : V2.cell? ⟨w.heap.size, 3, none⟩ = some (.int .i64 0) := kr.cell 3
      have f3 := kr.frozen 3
      have z4 : V2.cell? ⟨w.heap.size, 4, none⟩ = some (.int .i64 0) := kr.cell 4
      have f4 := kr.frozen 4
      have z5 : V2.cell? ⟨w.heap.size, 5, none⟩ = some (.int .i64 0) := kr.cell 5
      have f5 := kr.frozen 5
      have z6 : V2.cell? ⟨w.heap.size, 6, none⟩ = some (.slice none 0 0) := kr.cell 6
      have f6 := kr.frozen 6
      have z7 : V2.cell? ⟨w.heap.size, 7, none⟩ = some (.slice none 0 0) := kr.cell 7
      have f7 := kr.frozen 7
      have z8 : V2.cell? ⟨w.heap.size, 8, none⟩ = some (.slice none 0 0) := kr.cell 8
      have f8 := kr.frozen 8
      have z9 : V2.cell? ⟨w.heap.size, 9, none⟩ = some (.int .i64 0) := kr.cell 9
      have f9 := kr.frozen 9
      have z10 : V2.cell? ⟨w.heap.size, 10, none⟩ = some (.int .i64 0) := kr.cell 10
      have f10 := kr.frozen 10
      have z11 : V2.cell? ⟨w.heap.size, 11, none⟩ = some (.int .i64 0) := kr.cell 11
      have f11 := kr.frozen 11
      have z12 : V2.cell? ⟨w.heap.size, 12, none⟩ = some (.int .i64 0) := kr.cell 12
      have f12 := kr.frozen 12
      clear kr
      go_wp2_with fail
      have K13 := set13 KR2.out (.slice h'.A1 s'.cols.length h'.c1) (.slice h'.A2 s'.covs.length h'.c2) (.int .i64 s'.l0) (.int .i64 s'.l1) (.int .i64 s'.l2) (.int .i64 s'.l3) (.slice h'.A3 s'.rows.length h'.c3) (.slice h'.A4 s'.frames.length h'.c4) (.slice h'.A5 s'.tanks.length h'.c5) (.int .i64 s'.m0) (.int .i64 s'.m1) (.int .i64 s'.m2) (.int .i64 s'.m3) rfl
      have hg13 := grown13 V2 w.heap.size (.slice h'.A1 s'.cols.length h'.c1) (.slice h'.A2 s'.covs.length h'.c2) (.int .i64 s'.l0) (.int .i64 s'.l1) (.int .i64 s'.l2) (.int .i64 s'.l3) (.slice h'.A3 s'.rows.length h'.c3) (.slice h'.A4 s'.frames.length h'.c4) (.slice h'.A5 s'.tanks.length h'.c5) (.int .i64 s'.m0) (.int .i64 s'.m1) (.int .i64 s'.m2) (.int .i64 s'.m3)
      have hsz : V2.heap.size = (World.setCell (World.setCell (World.setCell (World.setCell (World.setCell (World.setCell (World.setCell (World.setCell (World.setCell (World.setCell (World.setCell (World.setCell (World.setCell V2 ⟨w.heap.size, 0, none⟩ (.slice h'.A1 s'.cols.length h'.c1)) ⟨w.heap.size, 1, none⟩ (.slice h'.A2 s'.covs.length h'.c2)) ⟨w.heap.size, 2, none⟩ (.int .i64 s'.l0)) ⟨w.heap.size, 3, none⟩ (.int .i64 s'.l1)) ⟨w.heap.size, 4, none⟩ (.int .i64 s'.l2)) ⟨w.heap.size, 5, none⟩ (.int .i64 s'.l3)) ⟨w.heap.size, 6, none⟩ (.slice h'.A3 s'.rows.length h'.c3)) ⟨w.heap.size, 7, none⟩ (.slice h'.A4 s'.frames.length h'.c4)) ⟨w.heap.size, 8, none⟩ (.slice h'.A5 s'.tanks.length h'.c5)) ⟨w.heap.size, 9, none⟩ (.int .i64 s'.m0)) ⟨w.heap.size, 10, none⟩ (.int .i64 s'.m1)) ⟨w.heap.size, 11, none⟩ (.int .i64 s'.m2)) ⟨w.heap.size, 12, none⟩ (.int .i64 s'.m3)).heap.size := by simp
      generalize (World.setCell (World.setCell _ _ _) _ _) = V3 at *
      have hgq : g ≠ w.heap.size := HGZ.out
      have r1 := SO.out.off KR2.out hgq (Nat.le_refl _) hg13
      have r3 := HBE.out.trans (below_of_grown hg13 (Nat.le_refl _) HBE.out.size)
      rw [hsz]
      refine bodyPost_ret (results_row_tmp rfl _ _ w.heap.size 32 #[.slice h'.A1 s'.cols.length h'.c1, .slice h'.A2 s'.covs.length h'.c2, .int .i64 s'.l0, .int .i64 s'.l1, .int .i64 s'.l2, .int .i64 s'.l3, .slice h'.A3 s'.rows.length h'.c3, .slice h'.A4 s'.frames.length h'.c4, .slice h'.A5 s'.tanks.length h'.c5, .int .i64 s'.m0, .int .i64 s'.m1, .int .i64 s'.m2, .int .i64 s'.m3] _ rfl (K13.alloc _) Try.underlying32 rfl info_ship) rfl ?_
      refine ⟨h', g, V3.heap.size, ?_, ?_, Bk.new V3 _ _, r3.size, r3.trans ((ba1 V3 _).mono r3.size)⟩
      · rw [HS10.out]; rfl
      · rw [HS10.out]; exact r1.on (ba1 V3 _)
end Go.Proofs.Ytmkplemdnglhmaa
