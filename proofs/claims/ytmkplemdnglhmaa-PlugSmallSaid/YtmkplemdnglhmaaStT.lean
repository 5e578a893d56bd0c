/-
  The examples of the chapter of stacks.
-/
import Derived.Test.YtmkplemdnglhmaaStS
namespace Go.Proofs.Ytmkplemdnglhmaa
open Go.RowKit

theorem info_stw : (Try.prog.info? 42).map (·.size) = some 4 := by kernel_rfl
set_option maxHeartbeats 1000000 in
theorem at10 (i a b h : Int) (w : World) : Calls Try.prog 7 #[.int .i64 i, .int .i64 a, .int .i64 b, .int .u8 h] w (Ret w (.agg #[.int .i64 i, .int .i64 a, .int .i64 b, .int .u8 h])) := by
  go_enter Try.func7, Try.ntmps7
  go_wp2
  exact bodyPost_ret (results_row1 rfl _ _ w.heap.size 42 #[.int .i64 i, .int .i64 a, .int .i64 b, .int .u8 h] _ rfl (Bk.new w _ _) Try.underlying42 rfl info_stw) rfl ⟨rfl, ba1 w _⟩
theorem SlT.flt {w : World} {S : Nat → Prop} {A : Option Addr} {l : List Flt} (h : SlT tFlt w S A l) {j : Nat} (hj : j < l.length) :
    ∃ b off, A = some ⟨b, off, none⟩ ∧ S b ∧ w.cell? ⟨b, off + j * 3, none⟩ = some (.int .i64 (l.getD j default).col) ∧ w.cell? ⟨b, off + j * 3 + 1, none⟩ = some (.int .u8 ((l.getD j default).kind : Nat)) ∧ w.cell? ⟨b, off + j * 3 + 2, none⟩ = some (.int .i64 (l.getD j default).box) := by
  obtain ⟨b, off, cs, e, hb, h1, h2⟩ := h.at_ hj default
  rw [show cs = _ from h1] at h2
  exact ⟨b, off, e, hb, h2 0 _ rfl, h2 1 _ rfl, h2 2 _ rfl⟩
theorem run_neq_flt (a b c : Int) (W : World) : (binOp .neq 73 (.agg #[.int .i64 a, .int .u8 b, .int .i64 c]) (.agg #[.int .i64 a, .int .u8 b, .int .i64 c])).run Try.prog W = .ok (.bool false) W := by simp [go_sem]
theorem run_neq_kl (a b c : Int) (W : World) : (binOp .neq 55 (.agg #[.int .i64 a, .int .i64 b, .int .i64 c]) (.agg #[.int .i64 a, .int .i64 b, .int .i64 c])).run Try.prog W = .ok (.bool false) W := by simp [go_sem]
set_option maxRecDepth 100000 in
set_option maxHeartbeats 4000000 in
theorem only_true (A A2 : Option Addr) (c c2 : Nat) (m : List Flt) (w : World) (hs : SlT tFlt w (Lt w.heap.size) A m) (hs2 : SlT tFlt w (Lt w.heap.size) A2 m) (hl : m.length ≤ 1000000) :
    Calls Try.prog 30 #[.slice A m.length c, .slice A2 m.length c2] w (Ret w (.bool true)) := by
  have HS := Lib.hid hs
  have HS2 := Lib.hid hs2
  clear hs hs2
  go_enter Try.func30, Try.ntmps30
  go_wp2_with fail
  go_loopw [5] (fun i wr => ∃ k : Nat, k ≤ m.length ∧ i = .int .i64 k ∧ Below w.heap.size w wr) (fun i _ => m.length - (intOf i).toNat)
  case atStart => exact ⟨0, Nat.zero_le _, rfl, Below.refl _ _⟩
  case round =>
    obtain ⟨k, hk, rfl, hb⟩ := hrel
    obtain ⟨V, rfl⟩ : ∃ V, V = wr := ⟨_, rfl⟩
    by_cases hlt : k < m.length
    · obtain ⟨b, off, rfl, hB, c0, c1, c2'⟩ := (HS.out.below hb).flt hlt
      obtain ⟨b', off', rfl, hB', d0, d1, d2⟩ := (HS2.out.below hb).flt hlt
      have i0 : (0 : Int) ≤ (k : Int) := by omega
      have i1 : (k : Int) < (m.length : Int) := by omega
      generalize m.getD k default = x at *
      obtain ⟨xc, xk, xb⟩ := x
      simp only at c0 c1 c2' d0 d1 d2
      have HB := Lib.hid hb
      clear hb
      go_step
      go_step
      go_upto_region 6 with fail
      have c0 : ∀ p : Gr V, p.W.cell? ⟨b, off + k * 3, none⟩ = some (.int .i64 xc) := Gr.cell c0
      have c1 : ∀ p : Gr V, p.W.cell? ⟨b, off + k * 3 + 1, none⟩ = some (.int .u8 (xk : Nat)) := Gr.cell c1
      have c2' : ∀ p : Gr V, p.W.cell? ⟨b, off + k * 3 + 2, none⟩ = some (.int .i64 xb) := Gr.cell c2'
      have d0 : ∀ p : Gr V, p.W.cell? ⟨b', off' + k * 3, none⟩ = some (.int .i64 xc) := Gr.cell d0
      have d1 : ∀ p : Gr V, p.W.cell? ⟨b', off' + k * 3 + 1, none⟩ = some (.int .u8 (xk : Nat)) := Gr.cell d1
      have d2 : ∀ p : Gr V, p.W.cell? ⟨b', off' + k * 3 + 2, none⟩ = some (.int .i64 xb) := Gr.cell d2
      have hrun := run_neq_flt xc xk xb
      refine wp_region_gr (by kernel_rfl) (by kernel_rfl) ?_
      repeat (go_big_quiet_step (fail))
      refine wpQuiet_nil ?_
      rintro Y ⟨⟨_, hbY⟩, rfl⟩
      have hb2 := HB.out.trans (hbY.mono HB.out.size)
      clear c0 c1 c2' d0 d1 d2 hrun
      go_wp2_with fail
      go_roundw
      case rel => (repeat apply Exists.intro); (first | exact ⟨⟨k + 1, hlt, by go_num, hb2⟩, rfl⟩ | exact ⟨hlt, by go_num, hb2⟩)
      case measure => simp [intOf]; omega
    · obtain rfl : k = m.length := by omega
      go_wp2
      go_ret
      exact ⟨rfl, hb⟩
theorem ShOwn.offT {w V V' : World} {g q : Nat} {s : Shp} {h : Hd} {t : TypeId} {cs : Array Value} (r : ShOwn w V g s h) (hk : Bk V q t cs) (h1 : t ≠ 46) (h2 : t ≠ 32) (h3 : 102 ≠ t) (h4 : 3 ≠ t) (hq : w.heap.size ≤ q) (hg : V.grownBy V' (some q)) : ShOwn w V' g s h := by
  obtain ⟨b, gs, r1, r2⟩ := r.lw
  exact ⟨⟨b, gs, r1.off hk h1 h2 h3 h4 hq hg, r2⟩, r.z, r.n2, r.m2, r.m3, r.m4, r.m5⟩
section
variable {P : Program} {Q : Exit → Act → World → Prop}
/-- An operation, then K. -/
def StO (P : Program) (l : List Oper) (Q : Exit → Act → World → Prop) (o : Oper) (K : Act → World → Prop) (a : Act) (w : World) : Prop := if Region.wanted o (yielded l.toArray a.tmps) then o.wp P a w K Q else K (a.put o.dst undef) w
theorem sto_do {l : List Oper} {o : Oper} {K : Act → World → Prop} {a : Act} {w : World} (hw : Region.wanted o (yielded l.toArray a.tmps) = true) (h : o.wp P a w K Q) : StO P l Q o K a w := by
  unfold StO
  rw [if_pos hw]
  exact h
theorem sto_mono {l : List Oper} {o : Oper} {K K' : Act → World → Prop} {a : Act} {w : World} (h : ∀ a w, K a w → K' a w) (hs : StO P l Q o K a w) : StO P l Q o K' a w := by
  unfold StO at hs ⊢
  split
  · rename_i hw; rw [if_pos hw] at hs; exact Oper.wp_mono h hs
  · rename_i hw; rw [if_neg hw] at hs; exact h _ _ hs
theorem any_step {l : List Oper} {g : Nat} {listed : Array Bool} {a : Act} {w : World} (is : List Nat) (hr : Region.ready .any l.toArray listed = is) (hne : is ≠ []) (h : ∀ i ∈ is, ∃ o, l[i]? = some o ∧ StO P l Q o (wpAny P .any l.toArray Q g (listed.setIfInBounds i true)) a w) : wpAny P .any l.toArray Q (g + 1) listed a w := by
  refine ⟨fun h0 => absurd (hr.symm.trans h0) hne, fun i hi => ?_⟩
  rw [hr] at hi
  obtain ⟨o, ho, hs⟩ := h i hi
  unfold wpOp
  have ho' : l.toArray[i]? = some o := by simpa using ho
  simp only [ho']
  unfold StO at hs
  split
  · rename_i hwt; rw [if_pos hwt] at hs; exact .inl hs
  · rename_i hwt; rw [if_neg hwt] at hs; exact hs
/-- Three operations of which the first floats over the others. -/
theorem AnyAt.three {l : List Oper} {n d : Nat} {a : Act} {w : World} {o0 o1 o2 : Oper} (hd : l.toArray.size - n = d + 3)
    (h0 : Region.ready .any l.toArray (firstN l.toArray.size n) = [n, n + 1]) (h1 : Region.ready .any l.toArray (firstN l.toArray.size (n + 1)) = [n + 1]) (h2 : Region.ready .any l.toArray (firstN l.toArray.size (n + 2)) = [n + 2])
    (h3 : Region.ready .any l.toArray ((firstN l.toArray.size n).setIfInBounds (n + 1) true) = [n, n + 2]) (h4 : Region.ready .any l.toArray (((firstN l.toArray.size n).setIfInBounds (n + 1) true).setIfInBounds (n + 2) true) = [n])
    (e1 : ((firstN l.toArray.size n).setIfInBounds (n + 1) true).setIfInBounds n true = firstN l.toArray.size (n + 2)) (e2 : (((firstN l.toArray.size n).setIfInBounds (n + 1) true).setIfInBounds (n + 2) true).setIfInBounds n true = firstN l.toArray.size (n + 3))
    (ho0 : l[n]? = some o0) (ho1 : l[n + 1]? = some o1) (ho2 : l[n + 2]? = some o2)
    (h : ∀ K : Act → World → Prop, (∀ a w, AnyAt P l.toArray Q (n + 3) a w → K a w) → StO P l Q o0 (StO P l Q o1 (StO P l Q o2 K)) a w ∧ StO P l Q o1 (fun a w => StO P l Q o0 (StO P l Q o2 K) a w ∧ StO P l Q o2 (StO P l Q o0 K) a w) a w) : AnyAt P l.toArray Q n a w := by
  have hK : ∀ a w, AnyAt P l.toArray Q (n + 3) a w → wpAny P .any l.toArray Q d (firstN l.toArray.size (n + 3)) a w := fun a w hh => by
    unfold AnyAt at hh
    rwa [show l.toArray.size - (n + 3) = d by omega] at hh
  obtain ⟨g1, g2⟩ := h _ hK
  unfold AnyAt
  rw [hd]
  refine any_step [n, n + 1] h0 (by simp) fun i hi => ?_
  simp only [List.mem_cons, List.not_mem_nil, or_false] at hi
  rcases hi with hi | hi <;> rw [hi]
  · refine ⟨o0, ho0, ?_⟩
    rw [firstN_succ]
    refine sto_mono (fun a w g => ?_) g1
    refine any_step [n + 1] h1 (by simp) fun i hi => ?_
    rw [show i = n + 1 by simpa using hi]
    refine ⟨o1, ho1, ?_⟩
    rw [firstN_succ]
    refine sto_mono (fun a w g => ?_) g
    refine any_step [n + 2] h2 (by simp) fun i hi => ?_
    rw [show i = n + 2 by simpa using hi]
    refine ⟨o2, ho2, ?_⟩
    rw [firstN_succ]
    exact g
  · refine ⟨o1, ho1, ?_⟩
    refine sto_mono (fun a w g => ?_) g2
    refine any_step [n, n + 2] h3 (by simp) fun i hi => ?_
    simp only [List.mem_cons, List.not_mem_nil, or_false] at hi
    rcases hi with hi | hi <;> rw [hi]
    · refine ⟨o0, ho0, ?_⟩
      rw [e1]
      refine sto_mono (fun a w g => ?_) g.1
      refine any_step [n + 2] h2 (by simp) fun i hi => ?_
      rw [show i = n + 2 by simpa using hi]
      refine ⟨o2, ho2, ?_⟩
      rw [firstN_succ]
      exact g
    · refine ⟨o2, ho2, ?_⟩
      refine sto_mono (fun a w g => ?_) g.2
      refine any_step [n] h4 (by simp) fun i hi => ?_
      rw [show i = n by simpa using hi]
      refine ⟨o0, ho0, ?_⟩
      rw [e2]
      exact g
end
/-- What the examples hold. -/
structure AW (w V : World) (g gv gb : Nat) (k3 : Int) (s : Shp) (h : Hd) : Prop where
  bk : Bk V g 32 (shpA s h)
  so : ShOwn w V gv s h
  bx : Bk V gb 37 (b10A k3)
  be : Below w.heap.size w V
  lb : w.heap.size ≤ gb
theorem AW.on {w V V' : World} {g gv gb : Nat} {k3 : Int} {s : Shp} {h : Hd} (r : AW w V g gv gb k3 s h) (hb : Below V.heap.size V V') : AW w V' g gv gb k3 s h :=
  ⟨r.bk.below hb r.bk.lt, r.so.on hb, r.bx.below hb r.bx.lt, r.be.trans (hb.mono r.be.size), r.lb⟩
theorem AW.rd {w V : World} {g gv gb : Nat} {k3 : Int} {s : Shp} {h : Hd} (r : AW w V g gv gb k3 s h) : ShpR V (Lt V.heap.size) s h := r.so.rd _ fun x t cs hk _ => hk.lt
theorem flat_bx {w : World} {S : Nat → Prop} : ∀ l : List Bx, Flat tBx w S (l.flatMap bxL) l
  | [] => rfl
  | c :: l => ⟨_, _, by rw [List.flatMap_cons], rfl, flat_bx l⟩
theorem flat_stw {w : World} {S : Nat → Prop} : ∀ l : List Stw, Flat tStw w S (l.flatMap stwL) l
  | [] => rfl
  | c :: l => ⟨_, _, by rw [List.flatMap_cons], rfl, flat_stw l⟩
theorem AW.bxs {w V : World} {g gv gb : Nat} {k3 : Int} {s : Shp} {h : Hd} (r : AW w V g gv gb k3 s h) : SlT tBx V (Lt V.heap.size) (some ⟨gb, 0, none⟩) (b10 k3) := sl_flat r.bx (flat_bx (b10 k3)) r.bx.lt
theorem AW.set {w V : World} {g gv gb : Nat} {k3 : Int} {s : Shp} {h : Hd} (r : AW w V g gv gb k3 s h) (k : Int) : AW w (V.setCell ⟨gb, 22, none⟩ (.int .i64 k)) g gv gb k s h :=
  ⟨r.bk.far (Bk.ne_ r.bk r.bx (by decide)) _, r.so.offT r.bx (by decide) (by decide) (by decide) (by decide) r.lb (grown_setCell _ _ _), r.bx.set_ 22 _, r.be.setCell r.lb _, r.lb⟩
def x1 : Stw := ⟨1, 2, 0, 1⟩
def x2 : Stw := ⟨2, 2, 0, 2⟩
def x3 : Stw := ⟨3, 2, 1, 0⟩
def x4 : Stw := ⟨4, 2, 1, 2⟩
@[reducible] def lA (i c t hh : Int) : Array Value := #[.int .i64 1, .int .i64 2, .int .i64 0, .int .u8 1, .int .i64 2, .int .i64 2, .int .i64 0, .int .u8 2, .int .i64 i, .int .i64 c, .int .i64 t, .int .u8 hh]
theorem ex10_right1 : stowRight s10 (b10 26000) [x1, x2, x3] = true ∧ checkL s10 (b10 26000) [x1, x2, x3] = [] := by decide +kernel
theorem ex10_right2 : stowRight s10 (b10 26001) [x1, x2, x3] = true ∧ checkL s10 (b10 26001) [x1, x2, x3] = [⟨2, 3, 0⟩, ⟨2, 4, 3⟩] := by decide +kernel
theorem ex10_right3 : stowRight s10 (b10 26001) [x1, x2, x4] = true ∧ checkL s10 (b10 26001) [x1, x2, x4] = [⟨2, 4, 4⟩] := by decide +kernel
theorem ex10_sums : sumF (b10 26000) [x1, x2, x3] (halfB 2 1) = 15000 ∧ sumF (b10 26000) [x1, x2, x3] (halfB 2 2) = 9000 ∧ sumF (b10 26000) [x1, x2, x3] (colB 2) = 50000 := by decide +kernel
theorem ex10_kl : klL (b10 26000) [x1, x2, x3] 2 = [.int .i64 15000, .int .i64 9000, .int .i64 50000] := by
  unfold klL
  rw [ex10_sums.1, ex10_sums.2.1, ex10_sums.2.2]
theorem ex10_room : roomF s10 (b10 26001) [x1, x2] ⟨2, 1, 2⟩ = 11000 ∧ roomF s10 (b10 26001) [x1, x2] ⟨2, 1, 1⟩ = 15000 := by decide +kernel
theorem s10_few : Few s10 := ⟨by decide, by decide, by decide, by decide⟩
theorem s10_ints : Ints s10 := ⟨by unfold I64; decide⟩
theorem s10_kc : ∀ c ∈ s10.cols, (-1000000000000 ≤ c.k20 ∧ c.k20 ≤ 1000000000000) ∧ (-1000000000000 ≤ c.k40 ∧ c.k40 ≤ 1000000000000) := by decide
theorem b10_kg (k3 : Int) (h : k3 = 26000 ∨ k3 = 26001) : KgOK (b10 k3) := by
  unfold KgOK b10 bx
  rcases h with rfl | rfl <;> decide
def CkRet (w : World) (n : Nat) (m : List Flt) (e : Ending) (w' : World) : Prop := ∃ A c, e = .returned (.tuple #[.slice A n c, .int .i64 0]) ∧ SlT tFlt w' (Lt w'.heap.size) A m ∧ Below w.heap.size w w'
theorem ex10_check {w V : World} {g gv gb gl : Nat} {k3 : Int} {h : Hd} (hA : AW w V g gv gb k3 s10 h) (h3 : k3 = 26000 ∨ k3 = 26001) {i c t : Int} {hh : Nat} (hl : Bk V gl 42 (lA i c t hh)) (ht : t ≤ 1) {m : List Flt} {n : Nat} (hn : m.length = n)
    (hr : stowRight s10 (b10 k3) [x1, x2, ⟨i, c, t, hh⟩] = true ∧ checkL s10 (b10 k3) [x1, x2, ⟨i, c, t, hh⟩] = m) : Calls Try.prog 25 #[.agg (shpA s10 h), .slice (some ⟨gb, 0, none⟩) 4 4, .slice (some ⟨gl, 0, none⟩) 3 3] V (CkRet V n m) := by
  have h1 := stCheck_any s10 h (some ⟨gb, 0, none⟩) 4 (b10 k3) (some ⟨gl, 0, none⟩) 3 [x1, x2, ⟨i, c, t, hh⟩] V (b10_kg k3 h3) (by decide) hA.rd s10_few s10_ints (by decide) hA.bxs (show (4 : Nat) ≤ 1000000 by decide)
    (sl_flat hl (flat_stw [x1, x2, ⟨i, c, t, hh⟩]) hl.lt) (show (3 : Nat) ≤ 1000000 by decide) (Nat.le_refl 3) (by
      intro x hx
      simp only [List.mem_cons, List.not_mem_nil, or_false] at hx
      rcases hx with rfl | rfl | rfl
      · decide
      · decide
      · show t ≤ _; omega)
  refine h1.mono ?_
  rintro e w' ⟨v, rfl, ho, hb⟩
  rw [hr.2] at ho
  obtain ⟨A, c', rfl, _, _, hs⟩ := ho.sl
  exact ⟨A, c', by rw [if_pos hr.1, hn], hs, hb⟩
set_option maxRecDepth 100000 in
set_option maxHeartbeats 8000000 in
theorem awake10_true (w : World) : Calls Try.prog 9 #[] w (TrueRet w) := by
  go_enter Try.func9, Try.ntmps9
  go_wp2_with fail
  refine (example10_any w).mono ?_
  rintro e w1 ⟨h, gv, gb, rfl, so1, kb1, hgb, hb1⟩
  simp only
  have HA : Hid (AW w (w1.alloc (.cells (shpA s10 h) 32)) w1.heap.size gv gb 26000 s10 h) := Lib.hid ⟨Bk.new w1 _ _, so1.on (ba1 w1 _), kb1.alloc _, hb1.trans ((ba1 w1 _).mono hb1.size), hgb⟩
  clear so1 kb1 hgb hb1
  have KC1 : Hid (∀ (V : World) (g gl : Nat), AW w V g gv gb 26000 s10 h → Bk V gl 42 (lA 3 2 1 0) → Calls Try.prog 25 #[.agg (shpA s10 h), .slice (some ⟨gb, 0, none⟩) 4 4, .slice (some ⟨gl, 0, none⟩) 3 3] V (CkRet V 0 [])) := Lib.hid fun V g gl h1 h2 => ex10_check h1 (.inl rfl) (hh := 0) h2 (by decide) rfl ex10_right1
  have KC2 : Hid (∀ (V : World) (g gl : Nat), AW w V g gv gb 26001 s10 h → Bk V gl 42 (lA 3 2 1 0) → Calls Try.prog 25 #[.agg (shpA s10 h), .slice (some ⟨gb, 0, none⟩) 4 4, .slice (some ⟨gl, 0, none⟩) 3 3] V (CkRet V 2 [⟨2, 3, 0⟩, ⟨2, 4, 3⟩])) := Lib.hid fun V g gl h1 h2 => ex10_check h1 (.inr rfl) (hh := 0) h2 (by decide) rfl ex10_right2
  have KC3 : Hid (∀ (V : World) (g gl : Nat), AW w V g gv gb 26001 s10 h → Bk V gl 42 (lA 4 2 1 2) → Calls Try.prog 25 #[.agg (shpA s10 h), .slice (some ⟨gb, 0, none⟩) 4 4, .slice (some ⟨gl, 0, none⟩) 3 3] V (CkRet V 1 [⟨2, 4, 4⟩])) := Lib.hid fun V g gl h1 h2 => ex10_check h1 (.inr rfl) (hh := 2) h2 (by decide) rfl ex10_right3
  have KW : Hid (∀ (V : World) (g gl : Nat), AW w V g gv gb 26000 s10 h → Bk V gl 42 (lA 3 2 1 0) → Calls Try.prog 19 #[.slice (some ⟨gb, 0, none⟩) 4 4, .slice (some ⟨gl, 0, none⟩) 3 3, .int .i64 2] V (Ret V (.agg #[.int .i64 15000, .int .i64 9000, .int .i64 50000]))) := Lib.hid fun V g gl h1 h2 => by
    have := weigh_any (some ⟨gb, 0, none⟩) 4 (b10 26000) (some ⟨gl, 0, none⟩) 3 [x1, x2, x3] 2 V (b10_kg _ (.inl rfl)) h1.bxs (show (4 : Nat) ≤ 1000000 by decide) (sl_flat h2 (flat_stw [x1, x2, x3]) h2.lt) (show (3 : Nat) ≤ 1000000 by decide)
    rw [ex10_kl] at this
    exact this
  have KR : Hid (∀ (V : World) (g gl : Nat) (hh : Nat), AW w V g gv gb 26001 s10 h → Bk V gl 42 (lA 4 2 1 2) → Calls Try.prog 23 #[.agg (shpA s10 h), .slice (some ⟨gb, 0, none⟩) 4 4, .slice (some ⟨gl, 0, none⟩) 2 3, .agg #[.int .i64 2, .int .i64 1, .int .u8 (hh : Nat)]] V (Ret V (.int .i64 (roomF s10 (b10 26001) [x1, x2] ⟨2, 1, hh⟩)))) := Lib.hid fun V g gl hh h1 h2 =>
    stRoom_any s10 h (some ⟨gb, 0, none⟩) 4 (b10 26001) (some ⟨gl, 0, none⟩) 3 [x1, x2] ⟨2, 1, hh⟩ V (b10_kg _ (.inr rfl)) (by decide) s10_kc h1.rd h1.bxs (show (4 : Nat) ≤ 1000000 by decide) ((sl_flat h2 (flat_stw [x1, x2, x4]) h2.lt).take 2) (show (2 : Nat) ≤ 1000000 by decide) (show (-9223372036854775807 : Int) ≤ 1 ∧ (1 : Int) ≤ 9223372036854775807 by decide)
  have KR1 : Hid (∀ (V : World) (g gl : Nat), AW w V g gv gb 26001 s10 h → Bk V gl 42 (lA 4 2 1 2) → Calls Try.prog 23 #[.agg (shpA s10 h), .slice (some ⟨gb, 0, none⟩) 4 4, .slice (some ⟨gl, 0, none⟩) 2 3, .agg #[.int .i64 2, .int .i64 1, .int .u8 2]] V (Ret V (.int .i64 11000))) := Lib.hid fun V g gl h1 h2 => by
    have := KR.out V g gl 2 h1 h2
    rw [ex10_room.1] at this
    exact this
  have KR2 : Hid (∀ (V : World) (g gl : Nat), AW w V g gv gb 26001 s10 h → Bk V gl 42 (lA 4 2 1 2) → Calls Try.prog 23 #[.agg (shpA s10 h), .slice (some ⟨gb, 0, none⟩) 4 4, .slice (some ⟨gl, 0, none⟩) 2 3, .agg #[.int .i64 2, .int .i64 1, .int .u8 1]] V (Ret V (.int .i64 15000))) := Lib.hid fun V g gl h1 h2 => by
    have := KR.out V g gl 1 h1 h2
    rw [ex10_room.2] at this
    exact this
  clear KR
  generalize s10 = s at *
  unfold shpA at HA KC1 KC2 KC3 KR1 KR2 ⊢
  have HAT := Lib.hid (fun i a b hh V => at10 i a b hh V)
  go_upto_region 2 with fail
  generalize w1.heap.size = g at *
  generalize (w1.alloc _) = V at *
  clear w1
  go_wp2_with fail
  refine (at10 _ _ _ _ _).mono ?_
  rintro e V1 ⟨rfl, hb⟩
  simp only
  replace HA := Lib.hid (HA.out.on hb)
  clear hb
  go_wp2_with fail
  refine (at10 _ _ _ _ _).mono ?_
  rintro e V2 ⟨rfl, hb⟩
  simp only
  replace HA := Lib.hid (HA.out.on hb)
  clear hb
  go_wp2_with fail
  refine (at10 _ _ _ _ _).mono ?_
  rintro e V3 ⟨rfl, hb⟩
  simp only
  replace HA := Lib.hid (HA.out.on hb)
  clear hb V V1 V2
  have HL := Lib.hid (Bk.new V3 42 (lA 3 2 1 0))
  replace HA := Lib.hid (HA.out.on (ba1 V3 (.cells (lA 3 2 1 0) 42)))
  dsimp only [lA] at HL HA
  go_upto_region 3 with fail
  generalize V3.heap.size = gl at *
  generalize (V3.alloc _) = V at *
  clear V3
  have KS := HA.out.bk
  have e0 : V.cell? ⟨g, 0, none⟩ = some (.slice h.A1 s.cols.length h.c1) := KS.cell 0
  have e1 : V.cell? ⟨g, 1, none⟩ = some (.slice h.A2 s.covs.length h.c2) := KS.cell 1
  have e2 : V.cell? ⟨g, 2, none⟩ = some (.int .i64 s.l0) := KS.cell 2
  have e3 : V.cell? ⟨g, 3, none⟩ = some (.int .i64 s.l1) := KS.cell 3
  have e4 : V.cell? ⟨g, 4, none⟩ = some (.int .i64 s.l2) := KS.cell 4
  have e5 : V.cell? ⟨g, 5, none⟩ = some (.int .i64 s.l3) := KS.cell 5
  have e6 : V.cell? ⟨g, 6, none⟩ = some (.slice h.A3 s.rows.length h.c3) := KS.cell 6
  have e7 : V.cell? ⟨g, 7, none⟩ = some (.slice h.A4 s.frames.length h.c4) := KS.cell 7
  have e8 : V.cell? ⟨g, 8, none⟩ = some (.slice h.A5 s.tanks.length h.c5) := KS.cell 8
  have e9 : V.cell? ⟨g, 9, none⟩ = some (.int .i64 s.m0) := KS.cell 9
  have e10 : V.cell? ⟨g, 10, none⟩ = some (.int .i64 s.m1) := KS.cell 10
  have e11 : V.cell? ⟨g, 11, none⟩ = some (.int .i64 s.m2) := KS.cell 11
  have e12 : V.cell? ⟨g, 12, none⟩ = some (.int .i64 s.m3) := KS.cell 12
  clear KS
  go_wp2_with fail
  refine (KC1.out _ _ _ HA.out HL.out).mono ?_
  rintro e V1 ⟨A, c, rfl, -, hb⟩
  simp only
  clear e0 e1 e2 e3 e4 e5 e6 e7 e8 e9 e10 e11 e12
  replace HA := Lib.hid (HA.out.on hb)
  replace HL := Lib.hid (HL.out.below hb HL.out.lt)
  clear hb KC1 V
  go_upto_region 4 with fail
  have hrun := run_neq_kl 15000 9000 50000
  refine wp_region_grs ?_
  repeat (go_big_quiet_step ((with_reducible exact Gr.call _ (fun U hU => KW.out U _ _ (HA.out.on hU) (HL.out.below hU HL.out.lt)))))
  refine wpQuiet_nil ?_
  rintro V ⟨⟨_, hb⟩, rfl⟩
  clear hrun KW
  replace HA := Lib.hid (HA.out.on hb)
  replace HL := Lib.hid (HL.out.below hb HL.out.lt)
  clear hb V1
  have k22 : V.cell? ⟨gb, 22, none⟩ = some (.int .i64 26000) := HA.out.bx.cell 22
  have f22 := HA.out.bx.frozen 22
  replace HL := Lib.hid (HL.out.far (p := ⟨gb, 22, none⟩) (Bk.ne_ HL.out HA.out.bx (by decide)) (.int .i64 26001))
  replace HA := Lib.hid (HA.out.set 26001)
  go_upto_region 7 with fail
  clear k22 f22
  generalize (V.setCell _ _) = V1 at *
  clear V
  have KS := HA.out.bk
  have e0 : V1.cell? ⟨g, 0, none⟩ = some (.slice h.A1 s.cols.length h.c1) := KS.cell 0
  have e1 : V1.cell? ⟨g, 1, none⟩ = some (.slice h.A2 s.covs.length h.c2) := KS.cell 1
  have e2 : V1.cell? ⟨g, 2, none⟩ = some (.int .i64 s.l0) := KS.cell 2
  have e3 : V1.cell? ⟨g, 3, none⟩ = some (.int .i64 s.l1) := KS.cell 3
  have e4 : V1.cell? ⟨g, 4, none⟩ = some (.int .i64 s.l2) := KS.cell 4
  have e5 : V1.cell? ⟨g, 5, none⟩ = some (.int .i64 s.l3) := KS.cell 5
  have e6 : V1.cell? ⟨g, 6, none⟩ = some (.slice h.A3 s.rows.length h.c3) := KS.cell 6
  have e7 : V1.cell? ⟨g, 7, none⟩ = some (.slice h.A4 s.frames.length h.c4) := KS.cell 7
  have e8 : V1.cell? ⟨g, 8, none⟩ = some (.slice h.A5 s.tanks.length h.c5) := KS.cell 8
  have e9 : V1.cell? ⟨g, 9, none⟩ = some (.int .i64 s.m0) := KS.cell 9
  have e10 : V1.cell? ⟨g, 10, none⟩ = some (.int .i64 s.m1) := KS.cell 10
  have e11 : V1.cell? ⟨g, 11, none⟩ = some (.int .i64 s.m2) := KS.cell 11
  have e12 : V1.cell? ⟨g, 12, none⟩ = some (.int .i64 s.m3) := KS.cell 12
  clear KS
  go_wp2_with fail
  refine (KC2.out _ _ _ HA.out HL.out).mono ?_
  rintro e V ⟨A, c, rfl, hs, hb⟩
  simp only
  clear e0 e1 e2 e3 e4 e5 e6 e7 e8 e9 e10 e11 e12
  replace HA := Lib.hid (HA.out.on hb)
  clear hb KC2 HL V1
  have HS := Lib.hid (hs.on (ba1 V (.cells #[.int .i64 2, .int .u8 3, .int .i64 0, .int .i64 2, .int .u8 4, .int .i64 3] 73)))
  have HF := Lib.hid (Bk.new V 73 #[.int .i64 2, .int .u8 3, .int .i64 0, .int .i64 2, .int .u8 4, .int .i64 3])
  replace HA := Lib.hid (HA.out.on (ba1 V (.cells #[.int .i64 2, .int .u8 3, .int .i64 0, .int .i64 2, .int .u8 4, .int .i64 3] 73)))
  clear hs
  go_wp2_with fail
  refine (only_true A (some ⟨V.heap.size, 0, none⟩) c 2 [⟨2, 3, 0⟩, ⟨2, 4, 3⟩] _ HS.out (sl_flat HF.out (flat_flt [⟨2, 3, 0⟩, ⟨2, 4, 3⟩]) HF.out.lt) (by decide)).mono ?_
  rintro e V1 ⟨rfl, hb⟩
  simp only
  replace HA := Lib.hid (HA.out.on hb)
  clear hb HS HF
  go_upto_region 10 with fail
  go_wp2_with fail
  refine (at10 _ _ _ _ _).mono ?_
  rintro e V2 ⟨rfl, hb⟩
  simp only
  replace HA := Lib.hid (HA.out.on hb)
  clear hb
  go_wp2_with fail
  refine (at10 _ _ _ _ _).mono ?_
  rintro e V3 ⟨rfl, hb⟩
  simp only
  replace HA := Lib.hid (HA.out.on hb)
  clear hb
  go_wp2_with fail
  refine (at10 _ _ _ _ _).mono ?_
  rintro e V4 ⟨rfl, hb⟩
  simp only
  replace HA := Lib.hid (HA.out.on hb)
  clear hb
  have HL := Lib.hid (Bk.new V4 42 (lA 4 2 1 2))
  replace HA := Lib.hid (HA.out.on (ba1 V4 (.cells (lA 4 2 1 2) 42)))
  dsimp only [lA] at HL HA
  go_upto_region 11 with fail
  generalize V4.heap.size = gm at *
  generalize (V4.alloc _) = V5 at *
  have KS := HA.out.bk
  have e0 : V5.cell? ⟨g, 0, none⟩ = some (.slice h.A1 s.cols.length h.c1) := KS.cell 0
  have e1 : V5.cell? ⟨g, 1, none⟩ = some (.slice h.A2 s.covs.length h.c2) := KS.cell 1
  have e2 : V5.cell? ⟨g, 2, none⟩ = some (.int .i64 s.l0) := KS.cell 2
  have e3 : V5.cell? ⟨g, 3, none⟩ = some (.int .i64 s.l1) := KS.cell 3
  have e4 : V5.cell? ⟨g, 4, none⟩ = some (.int .i64 s.l2) := KS.cell 4
  have e5 : V5.cell? ⟨g, 5, none⟩ = some (.int .i64 s.l3) := KS.cell 5
  have e6 : V5.cell? ⟨g, 6, none⟩ = some (.slice h.A3 s.rows.length h.c3) := KS.cell 6
  have e7 : V5.cell? ⟨g, 7, none⟩ = some (.slice h.A4 s.frames.length h.c4) := KS.cell 7
  have e8 : V5.cell? ⟨g, 8, none⟩ = some (.slice h.A5 s.tanks.length h.c5) := KS.cell 8
  have e9 : V5.cell? ⟨g, 9, none⟩ = some (.int .i64 s.m0) := KS.cell 9
  have e10 : V5.cell? ⟨g, 10, none⟩ = some (.int .i64 s.m1) := KS.cell 10
  have e11 : V5.cell? ⟨g, 11, none⟩ = some (.int .i64 s.m2) := KS.cell 11
  have e12 : V5.cell? ⟨g, 12, none⟩ = some (.int .i64 s.m3) := KS.cell 12
  clear KS
  go_wp2_with fail
  refine (KC3.out _ _ _ HA.out HL.out).mono ?_
  rintro e V6 ⟨A2, c2, rfl, hs, hb⟩
  simp only
  clear e0 e1 e2 e3 e4 e5 e6 e7 e8 e9 e10 e11 e12
  replace HA := Lib.hid (HA.out.on hb)
  replace HL := Lib.hid (HL.out.below hb HL.out.lt)
  have HS := Lib.hid hs
  clear hb KC3 hs
  go_upto_region 12 with fail
  refine wp_region_at (by kernel_rfl) ?_
  have hd := below_drewN (Below.refl V6.heap.size V6) 1
  replace HA := Lib.hid (HA.out.on hd)
  replace HL := Lib.hid (HL.out.below hd HL.out.lt)
  replace HS := Lib.hid (HS.out.on hd)
  clear hd
  generalize V6.drewN 1 = W at *
  refine AnyAt.one (by kernel_rfl) rfl (fun K hK => ?_)
  rw [if_pos (by rfl)]
  go_big_op
  refine hK _ _ ?_
  clear hK K
  refine AnyAt.one (by kernel_rfl) rfl (fun K hK => ?_)
  rw [if_pos (by rfl)]
  go_big_op
  refine hK _ _ ?_
  clear hK K
  refine AnyAt.one (by kernel_rfl) rfl (fun K hK => ?_)
  rw [if_pos (by rfl)]
  go_big_op
  refine hK _ _ ?_
  clear hK K
  refine AnyAt.three (d := 21) rfl (by kernel_rfl) (by kernel_rfl) (by kernel_rfl) (by kernel_rfl) (by kernel_rfl) (by kernel_rfl) (by kernel_rfl) rfl rfl rfl (fun K hK => ⟨?_, ?_⟩)
  case refine_1 =>
    refine sto_do (by rfl) ?_
    go_big_op
    refine sto_do (by rfl) ?_
    go_big_op
    refine sto_do (by rfl) ?_
    go_big_op
    refine hK _ _ ?_
    clear hK K
    have HF := Lib.hid (Bk.new W 73 #[.int .i64 2, .int .u8 4, .int .i64 4])
    have hd := ba1 W (.cells #[.int .i64 2, .int .u8 4, .int .i64 4] 73)
    replace HA := Lib.hid (HA.out.on hd)
    replace HL := Lib.hid (HL.out.below hd HL.out.lt)
    replace HS := Lib.hid (HS.out.on hd)
    clear hd
    generalize W.heap.size = gf at *
    generalize (W.alloc _) = W2 at *
    have KO : Hid (∀ U : World, Below W2.heap.size W2 U → Calls Try.prog 30 #[.slice A2 1 c2, .slice (some ⟨gf, 0, none⟩) 1 1] U (Ret U (.bool true))) := Lib.hid fun U hU =>
      only_true A2 (some ⟨gf, 0, none⟩) c2 1 [⟨2, 4, 4⟩] U (HS.out.on hU) (sl_flat (HF.out.below hU HF.out.lt) (flat_flt [⟨2, 4, 4⟩]) (HF.out.below hU HF.out.lt).lt) (by decide)
    have KS := HA.out.bk
    have e0 : ∀ p : Gr W2, p.W.cell? ⟨g, 0, none⟩ = some (.slice h.A1 s.cols.length h.c1) := Gr.cell (KS.cell 0)
    have e1 : ∀ p : Gr W2, p.W.cell? ⟨g, 1, none⟩ = some (.slice h.A2 s.covs.length h.c2) := Gr.cell (KS.cell 1)
    have e2 : ∀ p : Gr W2, p.W.cell? ⟨g, 2, none⟩ = some (.int .i64 s.l0) := Gr.cell (KS.cell 2)
    have e3 : ∀ p : Gr W2, p.W.cell? ⟨g, 3, none⟩ = some (.int .i64 s.l1) := Gr.cell (KS.cell 3)
    have e4 : ∀ p : Gr W2, p.W.cell? ⟨g, 4, none⟩ = some (.int .i64 s.l2) := Gr.cell (KS.cell 4)
    have e5 : ∀ p : Gr W2, p.W.cell? ⟨g, 5, none⟩ = some (.int .i64 s.l3) := Gr.cell (KS.cell 5)
    have e6 : ∀ p : Gr W2, p.W.cell? ⟨g, 6, none⟩ = some (.slice h.A3 s.rows.length h.c3) := Gr.cell (KS.cell 6)
    have e7 : ∀ p : Gr W2, p.W.cell? ⟨g, 7, none⟩ = some (.slice h.A4 s.frames.length h.c4) := Gr.cell (KS.cell 7)
    have e8 : ∀ p : Gr W2, p.W.cell? ⟨g, 8, none⟩ = some (.slice h.A5 s.tanks.length h.c5) := Gr.cell (KS.cell 8)
    have e9 : ∀ p : Gr W2, p.W.cell? ⟨g, 9, none⟩ = some (.int .i64 s.m0) := Gr.cell (KS.cell 9)
    have e10 : ∀ p : Gr W2, p.W.cell? ⟨g, 10, none⟩ = some (.int .i64 s.m1) := Gr.cell (KS.cell 10)
    have e11 : ∀ p : Gr W2, p.W.cell? ⟨g, 11, none⟩ = some (.int .i64 s.m2) := Gr.cell (KS.cell 11)
    have e12 : ∀ p : Gr W2, p.W.cell? ⟨g, 12, none⟩ = some (.int .i64 s.m3) := Gr.cell (KS.cell 12)
    clear KS
    refine AnyAt.gr 27 (by kernel_rfl) ?_
    simp only [List.drop_succ_cons, List.drop_zero, Nat.reduceSub, List.take_succ_cons, List.take_zero]
    repeat (go_big_quiet_step ((first | with_reducible exact Gr.call _ (fun V hV => KO.out V hV) | with_reducible exact Gr.call _ (fun V hV => KR1.out V _ _ (HA.out.on hV) (HL.out.below hV HL.out.lt)) | with_reducible exact Gr.call _ (fun V hV => KR2.out V _ _ (HA.out.on hV) (HL.out.below hV HL.out.lt)))))
    refine wpQuiet_nil ?_
    rintro W3 ⟨⟨_, hb⟩, rfl⟩
    clear e0 e1 e2 e3 e4 e5 e6 e7 e8 e9 e10 e11 e12
    refine AnyAt.done rfl ?_
    go_wp2_with fail
    go_ret
    exact ⟨rfl, HA.out.be.trans (hb.mono HA.out.be.size)⟩
  case refine_2 =>
    refine sto_do (by rfl) ?_
    go_big_op
    refine ⟨?_, ?_⟩
    · skip
      refine sto_do (by rfl) ?_
      go_big_op
      refine sto_do (by rfl) ?_
      go_big_op
      refine hK _ _ ?_
      clear hK K
      have HF := Lib.hid (Bk.new W 73 #[.int .i64 2, .int .u8 4, .int .i64 4])
      have hd := ba1 W (.cells #[.int .i64 2, .int .u8 4, .int .i64 4] 73)
      replace HA := Lib.hid (HA.out.on hd)
      replace HL := Lib.hid (HL.out.below hd HL.out.lt)
      replace HS := Lib.hid (HS.out.on hd)
      clear hd
      generalize W.heap.size = gf at *
      generalize (W.alloc _) = W2 at *
      have KO : Hid (∀ U : World, Below W2.heap.size W2 U → Calls Try.prog 30 #[.slice A2 1 c2, .slice (some ⟨gf, 0, none⟩) 1 1] U (Ret U (.bool true))) := Lib.hid fun U hU =>
        only_true A2 (some ⟨gf, 0, none⟩) c2 1 [⟨2, 4, 4⟩] U (HS.out.on hU) (sl_flat (HF.out.below hU HF.out.lt) (flat_flt [⟨2, 4, 4⟩]) (HF.out.below hU HF.out.lt).lt) (by decide)
      have KS := HA.out.bk
      have e0 : ∀ p : Gr W2, p.W.cell? ⟨g, 0, none⟩ = some (.slice h.A1 s.cols.length h.c1) := Gr.cell (KS.cell 0)
      have e1 : ∀ p : Gr W2, p.W.cell? ⟨g, 1, none⟩ = some (.slice h.A2 s.covs.length h.c2) := Gr.cell (KS.cell 1)
      have e2 : ∀ p : Gr W2, p.W.cell? ⟨g, 2, none⟩ = some (.int .i64 s.l0) := Gr.cell (KS.cell 2)
      have e3 : ∀ p : Gr W2, p.W.cell? ⟨g, 3, none⟩ = some (.int .i64 s.l1) := Gr.cell (KS.cell 3)
      have e4 : ∀ p : Gr W2, p.W.cell? ⟨g, 4, none⟩ = some (.int .i64 s.l2) := Gr.cell (KS.cell 4)
      have e5 : ∀ p : Gr W2, p.W.cell? ⟨g, 5, none⟩ = some (.int .i64 s.l3) := Gr.cell (KS.cell 5)
      have e6 : ∀ p : Gr W2, p.W.cell? ⟨g, 6, none⟩ = some (.slice h.A3 s.rows.length h.c3) := Gr.cell (KS.cell 6)
      have e7 : ∀ p : Gr W2, p.W.cell? ⟨g, 7, none⟩ = some (.slice h.A4 s.frames.length h.c4) := Gr.cell (KS.cell 7)
      have e8 : ∀ p : Gr W2, p.W.cell? ⟨g, 8, none⟩ = some (.slice h.A5 s.tanks.length h.c5) := Gr.cell (KS.cell 8)
      have e9 : ∀ p : Gr W2, p.W.cell? ⟨g, 9, none⟩ = some (.int .i64 s.m0) := Gr.cell (KS.cell 9)
      have e10 : ∀ p : Gr W2, p.W.cell? ⟨g, 10, none⟩ = some (.int .i64 s.m1) := Gr.cell (KS.cell 10)
      have e11 : ∀ p : Gr W2, p.W.cell? ⟨g, 11, none⟩ = some (.int .i64 s.m2) := Gr.cell (KS.cell 11)
      have e12 : ∀ p : Gr W2, p.W.cell? ⟨g, 12, none⟩ = some (.int .i64 s.m3) := Gr.cell (KS.cell 12)
      clear KS
      refine AnyAt.gr 27 (by kernel_rfl) ?_
      simp only [List.drop_succ_cons, List.drop_zero, Nat.reduceSub, List.take_succ_cons, List.take_zero]
      repeat (go_big_quiet_step ((first | with_reducible exact Gr.call _ (fun V hV => KO.out V hV) | with_reducible exact Gr.call _ (fun V hV => KR1.out V _ _ (HA.out.on hV) (HL.out.below hV HL.out.lt)) | with_reducible exact Gr.call _ (fun V hV => KR2.out V _ _ (HA.out.on hV) (HL.out.below hV HL.out.lt)))))
      refine wpQuiet_nil ?_
      rintro W3 ⟨⟨_, hb⟩, rfl⟩
      clear e0 e1 e2 e3 e4 e5 e6 e7 e8 e9 e10 e11 e12
      refine AnyAt.done rfl ?_
      go_wp2_with fail
      go_ret
      exact ⟨rfl, HA.out.be.trans (hb.mono HA.out.be.size)⟩
    · skip
      refine sto_do (by rfl) ?_
      go_big_op
      refine sto_do (by rfl) ?_
      go_big_op
      refine hK _ _ ?_
      clear hK K
      have HF := Lib.hid (Bk.new W 73 #[.int .i64 2, .int .u8 4, .int .i64 4])
      have hd := ba1 W (.cells #[.int .i64 2, .int .u8 4, .int .i64 4] 73)
      replace HA := Lib.hid (HA.out.on hd)
      replace HL := Lib.hid (HL.out.below hd HL.out.lt)
      replace HS := Lib.hid (HS.out.on hd)
      clear hd
      generalize W.heap.size = gf at *
      generalize (W.alloc _) = W2 at *
      have KO : Hid (∀ U : World, Below W2.heap.size W2 U → Calls Try.prog 30 #[.slice A2 1 c2, .slice (some ⟨gf, 0, none⟩) 1 1] U (Ret U (.bool true))) := Lib.hid fun U hU =>
        only_true A2 (some ⟨gf, 0, none⟩) c2 1 [⟨2, 4, 4⟩] U (HS.out.on hU) (sl_flat (HF.out.below hU HF.out.lt) (flat_flt [⟨2, 4, 4⟩]) (HF.out.below hU HF.out.lt).lt) (by decide)
      have KS := HA.out.bk
      have e0 : ∀ p : Gr W2, p.W.cell? ⟨g, 0, none⟩ = some (.slice h.A1 s.cols.length h.c1) := Gr.cell (KS.cell 0)
      have e1 : ∀ p : Gr W2, p.W.cell? ⟨g, 1, none⟩ = some (.slice h.A2 s.covs.length h.c2) := Gr.cell (KS.cell 1)
      have e2 : ∀ p : Gr W2, p.W.cell? ⟨g, 2, none⟩ = some (.int .i64 s.l0) := Gr.cell (KS.cell 2)
      have e3 : ∀ p : Gr W2, p.W.cell? ⟨g, 3, none⟩ = some (.int .i64 s.l1) := Gr.cell (KS.cell 3)
      have e4 : ∀ p : Gr W2, p.W.cell? ⟨g, 4, none⟩ = some (.int .i64 s.l2) := Gr.cell (KS.cell 4)
      have e5 : ∀ p : Gr W2, p.W.cell? ⟨g, 5, none⟩ = some (.int .i64 s.l3) := Gr.cell (KS.cell 5)
      have e6 : ∀ p : Gr W2, p.W.cell? ⟨g, 6, none⟩ = some (.slice h.A3 s.rows.length h.c3) := Gr.cell (KS.cell 6)
      have e7 : ∀ p : Gr W2, p.W.cell? ⟨g, 7, none⟩ = some (.slice h.A4 s.frames.length h.c4) := Gr.cell (KS.cell 7)
      have e8 : ∀ p : Gr W2, p.W.cell? ⟨g, 8, none⟩ = some (.slice h.A5 s.tanks.length h.c5) := Gr.cell (KS.cell 8)
      have e9 : ∀ p : Gr W2, p.W.cell? ⟨g, 9, none⟩ = some (.int .i64 s.m0) := Gr.cell (KS.cell 9)
      have e10 : ∀ p : Gr W2, p.W.cell? ⟨g, 10, none⟩ = some (.int .i64 s.m1) := Gr.cell (KS.cell 10)
      have e11 : ∀ p : Gr W2, p.W.cell? ⟨g, 11, none⟩ = some (.int .i64 s.m2) := Gr.cell (KS.cell 11)
      have e12 : ∀ p : Gr W2, p.W.cell? ⟨g, 12, none⟩ = some (.int .i64 s.m3) := Gr.cell (KS.cell 12)
      clear KS
      refine AnyAt.gr 27 (by kernel_rfl) ?_
      simp only [List.drop_succ_cons, List.drop_zero, Nat.reduceSub, List.take_succ_cons, List.take_zero]
      repeat (go_big_quiet_step ((first | with_reducible exact Gr.call _ (fun V hV => KO.out V hV) | with_reducible exact Gr.call _ (fun V hV => KR1.out V _ _ (HA.out.on hV) (HL.out.below hV HL.out.lt)) | with_reducible exact Gr.call _ (fun V hV => KR2.out V _ _ (HA.out.on hV) (HL.out.below hV HL.out.lt)))))
      refine wpQuiet_nil ?_
      rintro W3 ⟨⟨_, hb⟩, rfl⟩
      clear e0 e1 e2 e3 e4 e5 e6 e7 e8 e9 e10 e11 e12
      refine AnyAt.done rfl ?_
      go_wp2_with fail
      go_ret
      exact ⟨rfl, HA.out.be.trans (hb.mono HA.out.be.size)⟩
end Go.Proofs.Ytmkplemdnglhmaa
