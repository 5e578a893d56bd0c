/-
  Walks of the law file of chapter 11: like, tells.
-/
import Derived.Test.YtmkplemdnglhmaaRjC
import Derived.Test.YtmkplemdnglhmaaFw11
import Derived.Test.YtmkplemdnglhmaaSlTs
namespace Go.Proofs.Ytmkplemdnglhmaa
open Go.RowKit

theorem lfaults_kind {s : Shp} {boxes : List Bx} {l : List Stw} {col : Int} {f : Flt} (h : f ∈ lfaultsF s boxes l col) : f.kind < 256 := by
  unfold lfaultsF at h
  split at h
  · cases h
  · unfold lfTo at h
    obtain ⟨j, hj, e⟩ := List.mem_filterMap.1 h
    have hj := List.mem_range.1 hj
    split at e
    · injection e with e; subst e; simp only; omega
    · cases e
theorem lcheck_kind {s : Shp} {boxes : List Bx} {l : List Stw} {f : Flt} (h : f ∈ lcheckL s boxes l) : f.kind < 256 := by
  unfold lcheckL at h
  split at h
  · unfold lcheckF at h
    obtain ⟨k, _, h⟩ := List.mem_flatMap.1 h
    exact lfaults_kind h
  · cases h
theorem SlT.fltB {w : World} {S : Nat → Prop} {A : Option Addr} {l : List Flt} (h : SlT tFlt w S A l) {j : Nat} (hj : j < l.length) :
    ∃ b off, A = some ⟨b, off, none⟩ ∧ S b ∧ w.cell? ⟨b, off + j * 3, none⟩ = some (.int .i64 (l.getD j default).col) ∧ w.cell? ⟨b, off + j * 3 + 1, none⟩ = some (.int .u8 ((l.getD j default).kind : Nat)) ∧ w.cell? ⟨b, off + j * 3 + 2, none⟩ = some (.int .i64 (l.getD j default).box) := by
  obtain ⟨b, off, cs, e, hb, h1, h2⟩ := h.at_ hj default
  rw [show cs = _ from h1] at h2
  exact ⟨b, off, e, hb, h2 0 _ rfl, h2 1 _ rfl, h2 2 _ rfl⟩
set_option maxRecDepth 100000 in
set_option maxHeartbeats 4000000 in
theorem like11_any (A1 : Option Addr) (c1 : Nat) (A2 : Option Addr) (c2 : Nat) (l : List Flt) (w : World) (h1 : SlT tFlt w (Lt w.heap.size) A1 l) (h2 : SlT tFr w (Lt w.heap.size) A2 l) (hl : l.length ≤ 1000000) (hk : ∀ x ∈ l, x.kind < 256) :
    Calls Try.prog 56 #[.slice A1 l.length c1, .slice A2 l.length c2] w (Ret w (.bool true)) := by
  have HS1 := Lib.hid h1
  have HS2 := Lib.hid h2
  have HK := Lib.hid hk
  clear hk
  clear h1 h2
  have hb0 : ((l.length : Int) != (l.length : Int)) = false := by simp
  go_enter Try.func56, Try.ntmps56
  go_wp2_with fail
  go_loopw [5] (fun i wr => ∃ k : Nat, k ≤ l.length ∧ i = .int .i64 k ∧ Hid (Below w.heap.size w wr)) (fun i _ => l.length - (intOf i).toNat)
  case atStart => exact ⟨0, Nat.zero_le _, rfl, Lib.hid (Below.refl _ _)⟩
  case round =>
    obtain ⟨k, hk, rfl, HB⟩ := hrel
    obtain ⟨V, rfl⟩ : ∃ V, V = wr := ⟨_, rfl⟩
    by_cases hlt : k < l.length
    · obtain ⟨b1, o1, rfl, _, a0, a1, a2⟩ := (HS1.out.on HB.out).fltB hlt
      obtain ⟨b2, o2, rfl, _, d0, d1, d2⟩ := (HS2.out.on HB.out).fr hlt
      have i0 : (0 : Int) ≤ (k : Int) := by omega
      have i1 : (k : Int) < (l.length : Int) := by omega
      have hx1 := HK.out _ (getD_memD hlt default)
      generalize l.getD k default = x at *
      obtain ⟨x0, x1, x2⟩ := x
      simp only at a0 a1 a2 d0 d1 d2 hx1
      have q0 : (x0 != x0) = false := by simp
      have q1 : ((x1 : Int) != (x1 : Int)) = false := by simp
      have q2 : (x2 != x2) = false := by simp
      go_step
      go_step
      go_upto_region 6 with fail
      have a0 : ∀ gp : Gr V, gp.W.cell? ⟨b1, o1 + k * 3, none⟩ = some (.int .i64 x0) := Gr.cell a0
      have a1 : ∀ gp : Gr V, gp.W.cell? ⟨b1, o1 + k * 3 + 1, none⟩ = some (.int .u8 (x1 : Nat)) := Gr.cell a1
      have a2 : ∀ gp : Gr V, gp.W.cell? ⟨b1, o1 + k * 3 + 2, none⟩ = some (.int .i64 x2) := Gr.cell a2
      have d0 : ∀ gp : Gr V, gp.W.cell? ⟨b2, o2 + k * 3, none⟩ = some (.int .i64 x0) := Gr.cell d0
      have d1 : ∀ gp : Gr V, gp.W.cell? ⟨b2, o2 + k * 3 + 1, none⟩ = some (.int .i64 (x1 : Nat)) := Gr.cell d1
      have d2 : ∀ gp : Gr V, gp.W.cell? ⟨b2, o2 + k * 3 + 2, none⟩ = some (.int .i64 x2) := Gr.cell d2
      refine wp_region_gr (by kernel_rfl) (by kernel_rfl) ?_
      repeat (go_big_quiet_step (fail))
      refine wpQuiet_nil ?_
      rintro Y ⟨⟨_, hbY⟩, rfl⟩
      have HN := Lib.hid (HB.out.trans (hbY.mono HB.out.size))
      clear hbY a0 a1 a2 d0 d1 d2 HB q0 q1 q2
      go_wp2_with fail
      go_roundw
      case rel => first | exact ⟨k + 1, by omega, by go_num, HN⟩ | ((repeat apply Exists.intro); (first | exact ⟨⟨k + 1, by omega, by go_num, HN⟩, rfl⟩ | exact ⟨by omega, by go_num, HN⟩))
      case measure => simp [intOf]; omega
    · obtain rfl : k = l.length := by omega
      go_wp2_with fail
      go_ret
      exact ⟨rfl, HB.out⟩
set_option maxRecDepth 100000 in
set_option maxHeartbeats 16000000 in
theorem tells11_any (s : Shp) (h : Hd) (A : Option Addr) (c : Nat) (boxes : List Bx) (A2 : Option Addr) (c2 : Nat) (l : List Stw) (x : Slt) (w : World) (hsh : ShpR w (Lt w.heap.size) s h) (hi : Ints s) (hb : SlT tBx w (Lt w.heap.size) A boxes) (hs : SlT tStw w (Lt w.heap.size) A2 l) (hlc : l.length ≤ c2)
    (hP : fewP11 s boxes l) (hsz : ∀ b ∈ boxes, b.size < 256) (hti : ∀ y ∈ l, -9223372036854775808 ≤ y.slot.tier ∧ y.slot.tier ≤ 9223372036854775807) (_ : -9223372036854775808 ≤ x.tier ∧ x.tier ≤ 9223372036854775807) :
    Calls Try.prog 16 #[.agg (shpA s h), .slice A boxes.length c, .slice A2 l.length c2, .agg (sltL x).toArray] w (Ret w (.bool true)) := by
  have hkg : KgL boxes := fun b hb => by have := hP.kilos b hb; omega
  have hf : Few s := ⟨by have := hP.cols; omega, by have := hP.covs; omega, fun x hx => by have := hP.rows x hx; omega, fun c hc => by have := (hP.each c hc).1; omega⟩
  have hlh : ∀ c ∈ s.cols, c.lash ≤ 1000000000000000 := fun c hc => (hP.each c hc).2.2.2
  have hcl := hP.cols
  have hnb := hP.nbx
  have hnl := hP.nst
  obtain ⟨xc, xt, xh⟩ := x
  have hb0 := ba2 w (.cells (shpA s h) 32) (.cells #[.int .i64 xc, .int .i64 xt, .int .u8 (xh : Nat)] 40)
  have KE := Lib.hid ((Bk.new w 32 (shpA s h)).alloc (.cells #[.int .i64 xc, .int .i64 xt, .int .u8 (xh : Nat)] 40))
  have KX := Lib.hid (Bk.nxt8 (w := w) (.cells (shpA s h) 32) 40 #[.int .i64 xc, .int .i64 xt, .int .u8 (xh : Nat)])
  have HB0 := Lib.hid hb0
  generalize hW : (w.alloc (.cells (shpA s h) 32)).alloc (.cells #[.int .i64 xc, .int .i64 xt, .int .u8 (xh : Nat)] 40) = W at *
  have HSH := Lib.hid (hsh.on hb0)
  have HBX := Lib.hid (hb.on hb0)
  have HST := Lib.hid (hs.on hb0)
  have hti2 : ∀ y ∈ l, y.slot.tier ≤ 9223372036854775807 := fun y hy => (hti y hy).2
  have KA1 : Hid (∀ U : World, Below W.heap.size W U → Calls Try.prog 48 #[.slice A boxes.length c, .slice A2 l.length c2, .agg #[.int .i64 xc, .int .i64 xt, .int .u8 (xh : Nat)]] U (Ret U (.int .i64 (liftF boxes l ⟨xc, xt, xh⟩)))) := Lib.hid fun U hU => lift_any A c boxes A2 c2 l ⟨xc, xt, xh⟩ U (HBX.out.on hU) (by omega) (HST.out.on hU) (by omega)
  have KA2 : Hid (∀ U : World, Below W.heap.size W U → Calls Try.prog 49 #[.slice A boxes.length c, .slice A2 l.length c2, .agg #[.int .i64 xc, .int .i64 xt, .int .u8 (xh : Nat)]] U (Ret U (.int .i64 (liftF boxes l ⟨xc, xt, xh⟩)))) := Lib.hid fun U hU => refLift_any A c boxes A2 c2 l ⟨xc, xt, xh⟩ U (HBX.out.on hU) (by omega) (HST.out.on hU) (by omega)
  have KR1 : Hid (∀ U : World, Below W.heap.size W U → Calls Try.prog 50 #[.agg (shpA s h), .slice A boxes.length c, .slice A2 l.length c2, .agg #[.int .i64 xc, .int .i64 xt, .int .u8 (xh : Nat)]] U (Ret U (.int .i64 (lroomF s boxes l ⟨xc, xt, xh⟩)))) := Lib.hid fun U hU => lRoom_any s h A c boxes A2 c2 l ⟨xc, xt, xh⟩ U hkg hlh (HSH.out.on hU) (by omega) (HBX.out.on hU) (by omega) (HST.out.on hU) (by omega)
  have KR2 : Hid (∀ U : World, Below W.heap.size W U → Calls Try.prog 51 #[.agg (shpA s h), .slice A boxes.length c, .slice A2 l.length c2, .agg #[.int .i64 xc, .int .i64 xt, .int .u8 (xh : Nat)]] U (Ret U (.int .i64 (lroomF s boxes l ⟨xc, xt, xh⟩)))) := Lib.hid fun U hU => refRoom11_any s h A c boxes A2 c2 l ⟨xc, xt, xh⟩ U hkg hlh (HSH.out.on hU) (by omega) (HBX.out.on hU) (by omega) (HST.out.on hU) (by omega)
  have KM1 : Hid (∀ U : World, Below W.heap.size W U → Calls Try.prog 52 #[.slice A boxes.length c, .slice A2 l.length c2, .int .i64 xc, .int .u8 (xh : Nat)] U (Ret U (.int .i64 (momentF boxes l xc xh)))) := Lib.hid fun U hU => moment_any A c boxes A2 c2 l xc xh U hkg (HBX.out.on hU) (by omega) (HST.out.on hU) (by omega)
  have KM2 : Hid (∀ U : World, Below W.heap.size W U → Calls Try.prog 53 #[.slice A boxes.length c, .slice A2 l.length c2, .int .i64 xc, .int .u8 (xh : Nat)] U (Ret U (.int .i64 (momentF boxes l xc xh)))) := Lib.hid fun U hU => refMoment_any A c boxes A2 c2 l xc xh U hkg (HBX.out.on hU) (by omega) (HST.out.on hU) (by omega)
  have KC1 : Hid (∀ U : World, Below W.heap.size W U → Calls Try.prog 54 #[.agg (shpA s h), .slice A boxes.length c, .slice A2 l.length c2] U (LCheckRet U s boxes l)) := Lib.hid fun U hU => lCheck_any s h A c boxes A2 c2 l U hkg hlh (HSH.out.on hU) hf hi (by omega) (HBX.out.on hU) (by omega) (HST.out.on hU) (by omega) (by omega) hlc hti2
  have KC2 : Hid (∀ U : World, Below W.heap.size W U → Calls Try.prog 55 #[.agg (shpA s h), .slice A boxes.length c, .slice A2 l.length c2] U (LCheckRetR U s boxes l)) := Lib.hid fun U hU => refCheck11_any s h A c boxes A2 c2 l U hkg hlh (HSH.out.on hU) hf (by omega) (HBX.out.on hU) (by omega) (HST.out.on hU) (by omega) hti2 hsz
  have KF1 : Hid (∀ U : World, Below W.heap.size W U → Calls Try.prog 57 #[.agg (shpA s h), .slice A boxes.length c, .slice A2 l.length c2, .int .i64 xc] U (OwnLf U (lfaultsF s boxes l xc))) := Lib.hid fun U hU => lFaults_any s h A c boxes A2 c2 l xc U hkg hlh (HSH.out.on hU) (by omega) (HBX.out.on hU) (by omega) (HST.out.on hU) (by omega)
  have KF2 : Hid (∀ U : World, Below W.heap.size W U → Calls Try.prog 58 #[.agg (shpA s h), .slice A boxes.length c, .slice A2 l.length c2, .int .i64 xc] U (OwnFr11 U (lfaultsF s boxes l xc))) := Lib.hid fun U hU => refFaults11_any s h A c boxes A2 c2 l xc U hkg hlh (HSH.out.on hU) (by omega) (HBX.out.on hU) (by omega) (HST.out.on hU) (by omega)
  have hFLk : ∀ f ∈ lfaultsF s boxes l xc, f.kind < 256 := fun f hf => lfaults_kind hf
  have hFLl : (lfaultsF s boxes l xc).length ≤ 1000000 := by have := lfaults_len s boxes l xc; omega
  have hCLk : ∀ f ∈ lcheckL s boxes l, f.kind < 256 := fun f hf => lcheck_kind hf
  have hCLl : (lcheckL s boxes l).length ≤ 1000000 := by
    unfold lcheckL
    split
    · have := lcheckF_len s boxes l s.cols.length; omega
    · simp
  clear hsh hb hs hkg hf hlh hP hti hti2 hsz hi hb0
  unfold LCheckRet LCheckRetR at *
  generalize lroomF s boxes l ⟨xc, xt, xh⟩ = rm at *
  generalize liftF boxes l ⟨xc, xt, xh⟩ = lf at *
  generalize momentF boxes l xc xh = mm at *
  generalize lfaultsF s boxes l xc = FL at *
  generalize lcheckL s boxes l = CL at *
  generalize (if stowRight s boxes l then (0 : Int) else 2) = er at *
  have q1 : (lf != lf) = false := by simp
  have q2 : (rm != rm) = false := by simp
  have q3 : (mm != mm) = false := by simp
  have q6 : (er == er) = true := by simp
  unfold shpA at *
  unfold sltL
  simp only
  go_enter Try.func16, Try.ntmps16
  go_upto_region 1 with fail
  try rw [hW]
  clear hW
  have e0 : ∀ p : Gr W, p.W.cell? ⟨w.heap.size, 0, none⟩ = some (Value.slice h.A1 s.cols.length h.c1) := Gr.cell (KE.out.cell 0)
  have e1 : ∀ p : Gr W, p.W.cell? ⟨w.heap.size, 1, none⟩ = some (Value.slice h.A2 s.covs.length h.c2) := Gr.cell (KE.out.cell 1)
  have e2 : ∀ p : Gr W, p.W.cell? ⟨w.heap.size, 2, none⟩ = some (.int .i64 s.l0) := Gr.cell (KE.out.cell 2)
  have e3 : ∀ p : Gr W, p.W.cell? ⟨w.heap.size, 3, none⟩ = some (.int .i64 s.l1) := Gr.cell (KE.out.cell 3)
  have e4 : ∀ p : Gr W, p.W.cell? ⟨w.heap.size, 4, none⟩ = some (.int .i64 s.l2) := Gr.cell (KE.out.cell 4)
  have e5 : ∀ p : Gr W, p.W.cell? ⟨w.heap.size, 5, none⟩ = some (.int .i64 s.l3) := Gr.cell (KE.out.cell 5)
  have e6 : ∀ p : Gr W, p.W.cell? ⟨w.heap.size, 6, none⟩ = some (.slice h.A3 s.rows.length h.c3) := Gr.cell (KE.out.cell 6)
  have e7 : ∀ p : Gr W, p.W.cell? ⟨w.heap.size, 7, none⟩ = some (.slice h.A4 s.frames.length h.c4) := Gr.cell (KE.out.cell 7)
  have e8 : ∀ p : Gr W, p.W.cell? ⟨w.heap.size, 8, none⟩ = some (.slice h.A5 s.tanks.length h.c5) := Gr.cell (KE.out.cell 8)
  have e9 : ∀ p : Gr W, p.W.cell? ⟨w.heap.size, 9, none⟩ = some (.int .i64 s.m0) := Gr.cell (KE.out.cell 9)
  have e10 : ∀ p : Gr W, p.W.cell? ⟨w.heap.size, 10, none⟩ = some (.int .i64 s.m1) := Gr.cell (KE.out.cell 10)
  have e11 : ∀ p : Gr W, p.W.cell? ⟨w.heap.size, 11, none⟩ = some (.int .i64 s.m2) := Gr.cell (KE.out.cell 11)
  have e12 : ∀ p : Gr W, p.W.cell? ⟨w.heap.size, 12, none⟩ = some (.int .i64 s.m3) := Gr.cell (KE.out.cell 12)
  have x0 : ∀ gp : Gr W, gp.W.cell? ⟨w.heap.size + 1, 0, none⟩ = some (.int .i64 xc) := Gr.cell (KX.out.cell 0)
  have x1 : ∀ gp : Gr W, gp.W.cell? ⟨w.heap.size + 1, 1, none⟩ = some (.int .i64 xt) := Gr.cell (KX.out.cell 1)
  have x2 : ∀ gp : Gr W, gp.W.cell? ⟨w.heap.size + 1, 2, none⟩ = some (.int .u8 (xh : Nat)) := Gr.cell (KX.out.cell 2)
  refine wp_region_gr (by kernel_rfl) (by kernel_rfl) ?_
  repeat (go_big_quiet_step (((first | (with_reducible exact Gr.call _ (fun V hV => KA1.out V hV)) | (with_reducible exact Gr.call _ (fun V hV => KA2.out V hV)) | (with_reducible exact Gr.call _ (fun V hV => KR1.out V hV)) | (with_reducible exact Gr.call _ (fun V hV => KR2.out V hV)) | (with_reducible exact Gr.call _ (fun V hV => KM1.out V hV)) | (with_reducible exact Gr.call _ (fun V hV => KM2.out V hV))))))
  refine wpQuiet_nil ?_
  rintro Y ⟨⟨_, hbY⟩, rfl⟩
  have HBY := Lib.hid hbY
  clear hbY KA1 KA2 KR1 KR2 KM1 KM2 e0 e1 e2 e3 e4 e5 e6 e7 e8 e9 e10 e11 e12 x0 x1 x2 q1 q2 q3
  go_upto_region 3 with fail
  have KEY := Lib.hid (KE.out.below HBY.out KE.out.lt)
  have e0 : Y.cell? ⟨w.heap.size, 0, none⟩ = some (Value.slice h.A1 s.cols.length h.c1) := KEY.out.cell 0
  have e1 : Y.cell? ⟨w.heap.size, 1, none⟩ = some (Value.slice h.A2 s.covs.length h.c2) := KEY.out.cell 1
  have e2 : Y.cell? ⟨w.heap.size, 2, none⟩ = some (.int .i64 s.l0) := KEY.out.cell 2
  have e3 : Y.cell? ⟨w.heap.size, 3, none⟩ = some (.int .i64 s.l1) := KEY.out.cell 3
  have e4 : Y.cell? ⟨w.heap.size, 4, none⟩ = some (.int .i64 s.l2) := KEY.out.cell 4
  have e5 : Y.cell? ⟨w.heap.size, 5, none⟩ = some (.int .i64 s.l3) := KEY.out.cell 5
  have e6 : Y.cell? ⟨w.heap.size, 6, none⟩ = some (.slice h.A3 s.rows.length h.c3) := KEY.out.cell 6
  have e7 : Y.cell? ⟨w.heap.size, 7, none⟩ = some (.slice h.A4 s.frames.length h.c4) := KEY.out.cell 7
  have e8 : Y.cell? ⟨w.heap.size, 8, none⟩ = some (.slice h.A5 s.tanks.length h.c5) := KEY.out.cell 8
  have e9 : Y.cell? ⟨w.heap.size, 9, none⟩ = some (.int .i64 s.m0) := KEY.out.cell 9
  have e10 : Y.cell? ⟨w.heap.size, 10, none⟩ = some (.int .i64 s.m1) := KEY.out.cell 10
  have e11 : Y.cell? ⟨w.heap.size, 11, none⟩ = some (.int .i64 s.m2) := KEY.out.cell 11
  have e12 : Y.cell? ⟨w.heap.size, 12, none⟩ = some (.int .i64 s.m3) := KEY.out.cell 12
  go_wp2_with fail
  refine (KC1.out Y HBY.out).mono ?_
  rintro e V5 ⟨v5, rfl, ho5, hb5⟩
  obtain ⟨A5, c5, rfl, hc5, _, hs5⟩ := ho5.sl
  simp only
  have HB5 := Lib.hid (HBY.out.trans (hb5.mono HBY.out.size))
  have HS5 := Lib.hid hs5
  clear hb5 KC1 KEY HBY ho5 hs5 e0 e1 e2 e3 e4 e5 e6 e7 e8 e9 e10 e11 e12
  have KEY := Lib.hid (KE.out.below HB5.out KE.out.lt)
  have e0 : V5.cell? ⟨w.heap.size, 0, none⟩ = some (Value.slice h.A1 s.cols.length h.c1) := KEY.out.cell 0
  have e1 : V5.cell? ⟨w.heap.size, 1, none⟩ = some (Value.slice h.A2 s.covs.length h.c2) := KEY.out.cell 1
  have e2 : V5.cell? ⟨w.heap.size, 2, none⟩ = some (.int .i64 s.l0) := KEY.out.cell 2
  have e3 : V5.cell? ⟨w.heap.size, 3, none⟩ = some (.int .i64 s.l1) := KEY.out.cell 3
  have e4 : V5.cell? ⟨w.heap.size, 4, none⟩ = some (.int .i64 s.l2) := KEY.out.cell 4
  have e5 : V5.cell? ⟨w.heap.size, 5, none⟩ = some (.int .i64 s.l3) := KEY.out.cell 5
  have e6 : V5.cell? ⟨w.heap.size, 6, none⟩ = some (.slice h.A3 s.rows.length h.c3) := KEY.out.cell 6
  have e7 : V5.cell? ⟨w.heap.size, 7, none⟩ = some (.slice h.A4 s.frames.length h.c4) := KEY.out.cell 7
  have e8 : V5.cell? ⟨w.heap.size, 8, none⟩ = some (.slice h.A5 s.tanks.length h.c5) := KEY.out.cell 8
  have e9 : V5.cell? ⟨w.heap.size, 9, none⟩ = some (.int .i64 s.m0) := KEY.out.cell 9
  have e10 : V5.cell? ⟨w.heap.size, 10, none⟩ = some (.int .i64 s.m1) := KEY.out.cell 10
  have e11 : V5.cell? ⟨w.heap.size, 11, none⟩ = some (.int .i64 s.m2) := KEY.out.cell 11
  have e12 : V5.cell? ⟨w.heap.size, 12, none⟩ = some (.int .i64 s.m3) := KEY.out.cell 12
  go_upto_region 4 with fail
  go_wp2_with fail
  refine (KC2.out V5 HB5.out).mono ?_
  rintro e V6 ⟨v6, rfl, ho6, hb6⟩
  obtain ⟨A6, c6, rfl, hc6, _, hs6⟩ := ho6.sl
  simp only
  have HB6 := Lib.hid (HB5.out.trans (hb6.mono HB5.out.size))
  have HS5' := Lib.hid (HS5.out.on hb6)
  have HS6 := Lib.hid hs6
  clear hb6 KC2 KEY HB5 ho6 hs6 HS5 e0 e1 e2 e3 e4 e5 e6 e7 e8 e9 e10 e11 e12
  go_upto_region 5 with fail
  obtain ⟨V7, rfl⟩ : ∃ V7, V7 = V6 := ⟨_, rfl⟩
  have KE7 := Lib.hid (KE.out.below HB6.out KE.out.lt)
  have e0 : V7.cell? ⟨w.heap.size, 0, none⟩ = some (Value.slice h.A1 s.cols.length h.c1) := KE7.out.cell 0
  have e1 : V7.cell? ⟨w.heap.size, 1, none⟩ = some (Value.slice h.A2 s.covs.length h.c2) := KE7.out.cell 1
  have e2 : V7.cell? ⟨w.heap.size, 2, none⟩ = some (.int .i64 s.l0) := KE7.out.cell 2
  have e3 : V7.cell? ⟨w.heap.size, 3, none⟩ = some (.int .i64 s.l1) := KE7.out.cell 3
  have e4 : V7.cell? ⟨w.heap.size, 4, none⟩ = some (.int .i64 s.l2) := KE7.out.cell 4
  have e5 : V7.cell? ⟨w.heap.size, 5, none⟩ = some (.int .i64 s.l3) := KE7.out.cell 5
  have e6 : V7.cell? ⟨w.heap.size, 6, none⟩ = some (.slice h.A3 s.rows.length h.c3) := KE7.out.cell 6
  have e7 : V7.cell? ⟨w.heap.size, 7, none⟩ = some (.slice h.A4 s.frames.length h.c4) := KE7.out.cell 7
  have e8 : V7.cell? ⟨w.heap.size, 8, none⟩ = some (.slice h.A5 s.tanks.length h.c5) := KE7.out.cell 8
  have e9 : V7.cell? ⟨w.heap.size, 9, none⟩ = some (.int .i64 s.m0) := KE7.out.cell 9
  have e10 : V7.cell? ⟨w.heap.size, 10, none⟩ = some (.int .i64 s.m1) := KE7.out.cell 10
  have e11 : V7.cell? ⟨w.heap.size, 11, none⟩ = some (.int .i64 s.m2) := KE7.out.cell 11
  have e12 : V7.cell? ⟨w.heap.size, 12, none⟩ = some (.int .i64 s.m3) := KE7.out.cell 12
  have x0 : V7.cell? ⟨w.heap.size + 1, 0, none⟩ = some (.int .i64 xc) := (KX.out.below HB6.out KX.out.lt).cell 0
  have KL1 : Hid (∀ U : World, Cb V7 U → Calls Try.prog 56 #[.slice A5 CL.length c5, .slice A6 CL.length c6] U (Ret U (.bool true))) := Lib.hid fun U hU => like11_any A5 c5 A6 c6 CL U (HS5'.out.on hU) (HS6.out.on hU) hCLl hCLk
  have KL2 : Hid (∀ (U : World) (B1 : Option Addr) (d1 : Nat) (B2 : Option Addr) (d2 : Nat), SlT tFlt U (Lt U.heap.size) B1 FL → SlT tFr U (Lt U.heap.size) B2 FL → Calls Try.prog 56 #[.slice B1 FL.length d1, .slice B2 FL.length d2] U (Ret U (.bool true))) := Lib.hid fun U B1 d1 B2 d2 h1 h2 => like11_any B1 d1 B2 d2 FL U h1 h2 hFLl hFLk
  have KFP : Hid (∀ U : World, Cb V7 U → Calls Try.prog 57 #[.agg #[.slice h.A1 s.cols.length h.c1, .slice h.A2 s.covs.length h.c2, .int .i64 s.l0, .int .i64 s.l1, .int .i64 s.l2, .int .i64 s.l3, .slice h.A3 s.rows.length h.c3, .slice h.A4 s.frames.length h.c4, .slice h.A5 s.tanks.length h.c5, .int .i64 s.m0, .int .i64 s.m1, .int .i64 s.m2, .int .i64 s.m3], .slice A boxes.length c, .slice A2 l.length c2, .int .i64 xc] U (fun e w' => ∃ A c, e = .returned (.slice A FL.length c) ∧ FL.length ≤ c ∧ SlT tFlt w' (Lt w'.heap.size) A FL ∧ Below U.heap.size U w')) := Lib.hid fun U hU => by
    refine (KF1.out U (HB6.out.trans (Below.mono hU HB6.out.size))).mono ?_
    rintro e w' ⟨v, rfl, ho, hb⟩
    obtain ⟨A, c, rfl, hc, _, hs⟩ := ho.sl
    exact ⟨A, c, rfl, hc, hs, hb⟩
  have KFR : Hid (∀ U : World, Cb V7 U → Calls Try.prog 58 #[.agg #[.slice h.A1 s.cols.length h.c1, .slice h.A2 s.covs.length h.c2, .int .i64 s.l0, .int .i64 s.l1, .int .i64 s.l2, .int .i64 s.l3, .slice h.A3 s.rows.length h.c3, .slice h.A4 s.frames.length h.c4, .slice h.A5 s.tanks.length h.c5, .int .i64 s.m0, .int .i64 s.m1, .int .i64 s.m2, .int .i64 s.m3], .slice A boxes.length c, .slice A2 l.length c2, .int .i64 xc] U (fun e w' => ∃ A c, e = .returned (.slice A FL.length c) ∧ FL.length ≤ c ∧ SlT tFr w' (Lt w'.heap.size) A FL ∧ Below U.heap.size U w')) := Lib.hid fun U hU => by
    refine (KF2.out U (HB6.out.trans (Below.mono hU HB6.out.size))).mono ?_
    rintro e w' ⟨v, rfl, ho, hb⟩
    obtain ⟨A, c, rfl, hc, _, hs⟩ := ho.sl
    exact ⟨A, c, rfl, hc, hs, hb⟩
  clear KF1 KF2
  refine wp_region_ogG [.val 0 (.int .i64 er),
    .val 1 (.int .i64 er),
    .val 2 (.bool true),
    .val 3 (.bool true),
    .val 4 (.slice A5 CL.length c5),
    .val 5 (.slice A6 CL.length c6),
    .val 6 (.bool true),
    .val 7 (.bool true),
    .val 8 (.bool true),
    .val 9 (.agg #[.slice h.A1 s.cols.length h.c1, .slice h.A2 s.covs.length h.c2, .int .i64 s.l0, .int .i64 s.l1, .int .i64 s.l2, .int .i64 s.l3, .slice h.A3 s.rows.length h.c3, .slice h.A4 s.frames.length h.c4, .slice h.A5 s.tanks.length h.c5, .int .i64 s.m0, .int .i64 s.m1, .int .i64 s.m2, .int .i64 s.m3]),
    .val 10 (.slice A boxes.length c),
    .val 11 (.slice A2 l.length c2),
    .val 12 (.pointer (some ⟨w.heap.size + 1, 0, none⟩)),
    .val 13 (.int .i64 xc),
    .slT tFlt 14 FL,
    .val 15 (.agg #[.slice h.A1 s.cols.length h.c1, .slice h.A2 s.covs.length h.c2, .int .i64 s.l0, .int .i64 s.l1, .int .i64 s.l2, .int .i64 s.l3, .slice h.A3 s.rows.length h.c3, .slice h.A4 s.frames.length h.c4, .slice h.A5 s.tanks.length h.c5, .int .i64 s.m0, .int .i64 s.m1, .int .i64 s.m2, .int .i64 s.m3]),
    .val 16 (.slice A boxes.length c),
    .val 17 (.slice A2 l.length c2),
    .val 18 (.pointer (some ⟨w.heap.size + 1, 0, none⟩)),
    .val 19 (.int .i64 xc),
    .slT tFr 20 FL,
    .val 21 (.bool true),
    .val 22 (.bool true),
    .val 23 (.bool true)]
    [[], [], [0, 1], [2], [3], [3], [3, 4, 5], [3, 6], [7], [8], [8], [8], [8], [8, 12], [8, 9, 10, 11, 13], [8], [8], [8], [8], [8, 18], [8, 15, 16, 17, 19], [8, 14, 20], [8, 21], [22]] [23] (Cb V7) (by kernel_rfl) (by kernel_rfl) (Cb.drew V7) ⟨?_, ?_, ?_, ?_, ?_, ?_, ?_, ?_, ?_, ?_, ?_, ?_, ?_, ?_, ?_, ?_, ?_, ?_, ?_, ?_, ?_, ?_, ?_, ?_, trivial⟩ ?_
  case refine_1 =>
    refine StepG.of rfl ?_
    refine StepL.up fun x V hV hu K Q hK => ?_
    clear hu
    rw [owp_eq]
    go_big_op
    exact hK _ _ (Below.refl _ _) rfl
  case refine_2 =>
    refine StepG.of rfl ?_
    refine StepL.up fun x V hV hu K Q hK => ?_
    clear hu
    simp only [putL, List.set_cons_zero, List.set_cons_succ] at hK ⊢
    rw [owp_eq]
    go_big_op
    exact hK _ _ (Below.refl _ _) rfl
  case refine_3 =>
    refine StepG.of rfl ?_
    refine StepL.up fun x V hV hu K Q hK => ?_
    have u0 : x 0 = _ := hu 0 (by decide)
    have u1 : x 1 = _ := hu 1 (by decide)
    clear hu
    simp only [putL, List.set_cons_zero, List.set_cons_succ] at hK ⊢
    rw [owp_eq]
    go_big_op
    exact hK _ _ (Below.refl _ _) rfl
  case refine_4 =>
    refine StepG.of rfl ?_
    refine StepL.up fun x V hV hu K Q hK => ?_
    have u2 : x 2 = _ := hu 2 (by decide)
    clear hu
    simp only [putL, List.set_cons_zero, List.set_cons_succ] at hK ⊢
    rw [owp_eq]
    go_big_op
    exact hK _ _ (Below.refl _ _) rfl
  case refine_5 =>
    refine StepG.yes 3 true 69 rfl rfl (fun x => by simp only [putL, List.set_cons_zero, List.set_cons_succ]; rfl) rfl (fun x w h => h) ?_
    refine StepL.up fun x V hV hu K Q hK => ?_
    have u3 : x 3 = _ := hu 3 (by decide)
    clear hu
    simp only [putL, List.set_cons_zero, List.set_cons_succ] at hK ⊢
    rw [owp_eq]
    go_big_op
    exact hK _ _ (Below.refl _ _) rfl
  case refine_6 =>
    refine StepG.yes 3 true 69 rfl rfl (fun x => by simp only [putL, List.set_cons_zero, List.set_cons_succ]; rfl) rfl (fun x w h => h) ?_
    refine StepL.up fun x V hV hu K Q hK => ?_
    have u3 : x 3 = _ := hu 3 (by decide)
    clear hu
    simp only [putL, List.set_cons_zero, List.set_cons_succ] at hK ⊢
    rw [owp_eq]
    go_big_op
    exact hK _ _ (Below.refl _ _) rfl
  case refine_7 =>
    refine StepG.yes 3 true 69 rfl rfl (fun x => by simp only [putL, List.set_cons_zero, List.set_cons_succ]; rfl) rfl (fun x w h => h) ?_
    refine StepL.up fun x V hV hu K Q hK => ?_
    have u3 : x 3 = _ := hu 3 (by decide)
    have u4 : x 4 = _ := hu 4 (by decide)
    have u5 : x 5 = _ := hu 5 (by decide)
    clear hu
    simp only [putL, List.set_cons_zero, List.set_cons_succ] at hK ⊢
    rw [owp_eq]
    go_big_op
    refine (KL1.out V hV).mono ?_
    rintro e V' ⟨rfl, hb⟩
    exact hK _ _ hb rfl
  case refine_8 =>
    refine StepG.of rfl ?_
    refine StepL.up fun x V hV hu K Q hK => ?_
    have u3 : x 3 = _ := hu 3 (by decide)
    have u6 : x 6 = _ := hu 6 (by decide)
    clear hu
    simp only [putL, List.set_cons_zero, List.set_cons_succ] at hK ⊢
    rw [owp_eq]
    go_big_op
    exact hK _ _ (Below.refl _ _) rfl
  case refine_9 =>
    refine StepG.of rfl ?_
    refine StepL.up fun x V hV hu K Q hK => ?_
    have u7 : x 7 = _ := hu 7 (by decide)
    clear hu
    simp only [putL, List.set_cons_zero, List.set_cons_succ] at hK ⊢
    rw [owp_eq]
    go_big_op
    exact hK _ _ (Below.refl _ _) rfl
  case refine_10 =>
    refine StepG.yes 8 true 74 rfl rfl (fun x => by simp only [putL, List.set_cons_zero, List.set_cons_succ]; rfl) rfl (fun x w h => h) ?_
    refine StepL.up fun x V hV hu K Q hK => ?_
    have u8 : x 8 = _ := hu 8 (by decide)
    have fe0 := hV.cell e0
    have fe1 := hV.cell e1
    have fe2 := hV.cell e2
    have fe3 := hV.cell e3
    have fe4 := hV.cell e4
    have fe5 := hV.cell e5
    have fe6 := hV.cell e6
    have fe7 := hV.cell e7
    have fe8 := hV.cell e8
    have fe9 := hV.cell e9
    have fe10 := hV.cell e10
    have fe11 := hV.cell e11
    have fe12 := hV.cell e12
    clear hu
    simp only [putL, List.set_cons_zero, List.set_cons_succ] at hK ⊢
    rw [owp_eq]
    go_big_op
    exact hK _ _ (Below.refl _ _) rfl
  case refine_11 =>
    refine StepG.yes 8 true 74 rfl rfl (fun x => by simp only [putL, List.set_cons_zero, List.set_cons_succ]; rfl) rfl (fun x w h => h) ?_
    refine StepL.up fun x V hV hu K Q hK => ?_
    have u8 : x 8 = _ := hu 8 (by decide)
    clear hu
    simp only [putL, List.set_cons_zero, List.set_cons_succ] at hK ⊢
    rw [owp_eq]
    go_big_op
    exact hK _ _ (Below.refl _ _) rfl
  case refine_12 =>
    refine StepG.yes 8 true 74 rfl rfl (fun x => by simp only [putL, List.set_cons_zero, List.set_cons_succ]; rfl) rfl (fun x w h => h) ?_
    refine StepL.up fun x V hV hu K Q hK => ?_
    have u8 : x 8 = _ := hu 8 (by decide)
    clear hu
    simp only [putL, List.set_cons_zero, List.set_cons_succ] at hK ⊢
    rw [owp_eq]
    go_big_op
    exact hK _ _ (Below.refl _ _) rfl
  case refine_13 =>
    refine StepG.yes 8 true 74 rfl rfl (fun x => by simp only [putL, List.set_cons_zero, List.set_cons_succ]; rfl) rfl (fun x w h => h) ?_
    refine StepL.up fun x V hV hu K Q hK => ?_
    have u8 : x 8 = _ := hu 8 (by decide)
    clear hu
    simp only [putL, List.set_cons_zero, List.set_cons_succ] at hK ⊢
    rw [owp_eq]
    go_big_op
    exact hK _ _ (Below.refl _ _) rfl
  case refine_14 =>
    refine StepG.yes 8 true 74 rfl rfl (fun x => by simp only [putL, List.set_cons_zero, List.set_cons_succ]; rfl) rfl (fun x w h => h) ?_
    refine StepL.up fun x V hV hu K Q hK => ?_
    have u8 : x 8 = _ := hu 8 (by decide)
    have u12 : x 12 = _ := hu 12 (by decide)
    have fx0 := hV.cell x0
    clear hu
    simp only [putL, List.set_cons_zero, List.set_cons_succ] at hK ⊢
    rw [owp_eq]
    go_big_op
    exact hK _ _ (Below.refl _ _) rfl
  case refine_15 =>
    refine StepG.yes 8 true 74 rfl rfl (fun x => by simp only [putL, List.set_cons_zero, List.set_cons_succ]; rfl) rfl (fun x w h => h) ?_
    refine StepL.up fun x V hV hu K Q hK => ?_
    have u8 : x 8 = _ := hu 8 (by decide)
    have u9 : x 9 = _ := hu 9 (by decide)
    have u10 : x 10 = _ := hu 10 (by decide)
    have u11 : x 11 = _ := hu 11 (by decide)
    have u13 : x 13 = _ := hu 13 (by decide)
    clear hu
    simp only [putL, List.set_cons_zero, List.set_cons_succ] at hK ⊢
    rw [owp_eq]
    go_big_op
    refine (KFP.out V hV).mono ?_
    rintro e V' ⟨A9, c9, rfl, hc9, hs9, hb⟩
    exact hK _ _ hb ⟨A9, c9, rfl, hc9, hs9⟩
  case refine_16 =>
    refine StepG.yes 8 true 74 rfl rfl (fun x => by simp only [putL, List.set_cons_zero, List.set_cons_succ]; rfl) rfl (fun x w h => h) ?_
    refine StepL.up fun x V hV hu K Q hK => ?_
    have u8 : x 8 = _ := hu 8 (by decide)
    have fe0 := hV.cell e0
    have fe1 := hV.cell e1
    have fe2 := hV.cell e2
    have fe3 := hV.cell e3
    have fe4 := hV.cell e4
    have fe5 := hV.cell e5
    have fe6 := hV.cell e6
    have fe7 := hV.cell e7
    have fe8 := hV.cell e8
    have fe9 := hV.cell e9
    have fe10 := hV.cell e10
    have fe11 := hV.cell e11
    have fe12 := hV.cell e12
    clear hu
    simp only [putL, List.set_cons_zero, List.set_cons_succ] at hK ⊢
    rw [owp_eq]
    go_big_op
    exact hK _ _ (Below.refl _ _) rfl
  case refine_17 =>
    refine StepG.yes 8 true 74 rfl rfl (fun x => by simp only [putL, List.set_cons_zero, List.set_cons_succ]; rfl) rfl (fun x w h => h) ?_
    refine StepL.up fun x V hV hu K Q hK => ?_
    have u8 : x 8 = _ := hu 8 (by decide)
    clear hu
    simp only [putL, List.set_cons_zero, List.set_cons_succ] at hK ⊢
    rw [owp_eq]
    go_big_op
    exact hK _ _ (Below.refl _ _) rfl
  case refine_18 =>
    refine StepG.yes 8 true 74 rfl rfl (fun x => by simp only [putL, List.set_cons_zero, List.set_cons_succ]; rfl) rfl (fun x w h => h) ?_
    refine StepL.up fun x V hV hu K Q hK => ?_
    have u8 : x 8 = _ := hu 8 (by decide)
    clear hu
    simp only [putL, List.set_cons_zero, List.set_cons_succ] at hK ⊢
    rw [owp_eq]
    go_big_op
    exact hK _ _ (Below.refl _ _) rfl
  case refine_19 =>
    refine StepG.yes 8 true 74 rfl rfl (fun x => by simp only [putL, List.set_cons_zero, List.set_cons_succ]; rfl) rfl (fun x w h => h) ?_
    refine StepL.up fun x V hV hu K Q hK => ?_
    have u8 : x 8 = _ := hu 8 (by decide)
    clear hu
    simp only [putL, List.set_cons_zero, List.set_cons_succ] at hK ⊢
    rw [owp_eq]
    go_big_op
    exact hK _ _ (Below.refl _ _) rfl
  case refine_20 =>
    refine StepG.yes 8 true 74 rfl rfl (fun x => by simp only [putL, List.set_cons_zero, List.set_cons_succ]; rfl) rfl (fun x w h => h) ?_
    refine StepL.up fun x V hV hu K Q hK => ?_
    have u8 : x 8 = _ := hu 8 (by decide)
    have u18 : x 18 = _ := hu 18 (by decide)
    have fx0 := hV.cell x0
    clear hu
    simp only [putL, List.set_cons_zero, List.set_cons_succ] at hK ⊢
    rw [owp_eq]
    go_big_op
    exact hK _ _ (Below.refl _ _) rfl
  case refine_21 =>
    refine StepG.yes 8 true 74 rfl rfl (fun x => by simp only [putL, List.set_cons_zero, List.set_cons_succ]; rfl) rfl (fun x w h => h) ?_
    refine StepL.up fun x V hV hu K Q hK => ?_
    have u8 : x 8 = _ := hu 8 (by decide)
    have u15 : x 15 = _ := hu 15 (by decide)
    have u16 : x 16 = _ := hu 16 (by decide)
    have u17 : x 17 = _ := hu 17 (by decide)
    have u19 : x 19 = _ := hu 19 (by decide)
    clear hu
    simp only [putL, List.set_cons_zero, List.set_cons_succ] at hK ⊢
    rw [owp_eq]
    go_big_op
    refine (KFR.out V hV).mono ?_
    rintro e V' ⟨A9, c9, rfl, hc9, hs9, hb⟩
    exact hK _ _ hb ⟨A9, c9, rfl, hc9, hs9⟩
  case refine_22 =>
    refine StepG.yes 8 true 74 rfl rfl (fun x => by simp only [putL, List.set_cons_zero, List.set_cons_succ]; rfl) rfl (fun x w h => h) ?_
    refine StepL.up fun x V hV hu K Q hK => ?_
    have u8 : x 8 = _ := hu 8 (by decide)
    obtain ⟨A14, c14, u14, hc14, hs14⟩ := hu 14 (by decide)
    obtain ⟨A20, c20, u20, hc20, hs20⟩ := hu 20 (by decide)
    clear hu
    simp only [putL, List.set_cons_zero, List.set_cons_succ] at hK ⊢
    rw [owp_eq]
    go_big_op
    refine (KL2.out V A14 c14 A20 c20 hs14 hs20).mono ?_
    rintro e V' ⟨rfl, hb⟩
    exact hK _ _ hb rfl
  case refine_23 =>
    refine StepG.of rfl ?_
    refine StepL.up fun x V hV hu K Q hK => ?_
    have u8 : x 8 = _ := hu 8 (by decide)
    have u21 : x 21 = _ := hu 21 (by decide)
    clear hu
    simp only [putL, List.set_cons_zero, List.set_cons_succ] at hK ⊢
    rw [owp_eq]
    go_big_op
    exact hK _ _ (Below.refl _ _) rfl
  case refine_24 =>
    refine StepG.of rfl ?_
    refine StepL.up fun x V hV hu K Q hK => ?_
    have u22 : x 22 = _ := hu 22 (by decide)
    clear hu
    simp only [putL, List.set_cons_zero, List.set_cons_succ] at hK ⊢
    rw [owp_eq]
    go_big_op
    exact hK _ _ (Below.refl _ _) rfl
  case refine_25 =>
  refine fun x w' hC hx => ?_
  have hx23 : x 23 = _ := hx 23 (by decide) (by decide)
  clear hx
  simp only [layL, putL, List.set_cons_zero, List.set_cons_succ, hx23]
  have HE := Lib.hid (HB0.out.trans ((HB6.out.trans (hC.mono HB6.out.size)).mono HB0.out.size))
  clear hC hx23 e0 e1 e2 e3 e4 e5 e6 e7 e8 e9 e10 e11 e12 x0
  go_wp2_with fail
  go_ret
  exact ⟨rfl, HE.out⟩
end Go.Proofs.Ytmkplemdnglhmaa
