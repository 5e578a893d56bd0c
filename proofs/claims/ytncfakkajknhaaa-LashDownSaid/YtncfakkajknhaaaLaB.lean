/-
  Walks of package lash: half, sum.
-/
import Derived.Test.YtncfakkajknhaaaLaA
namespace Go.Proofs.Ytncfakkajknhaaa
open Go.RowKit Go.Shelf

/-- The function value that half hands back. -/
@[reducible] def halfV (gl gi gh gb : Nat) : Value := .func (.func 80) #[] #[.pointer (some ⟨gl, 0, none⟩), .pointer (some ⟨gi, 0, none⟩), .pointer (some ⟨gh, 0, none⟩), .pointer (some ⟨gb, 0, none⟩)]
/-- The blocks of its variables. -/
structure HB (W : World) (A : Option Addr) (c n : Nat) (A2 : Option Addr) (c2 n2 : Nat) (col : Int) (hf gl gi gh gb : Nat) : Prop where
  bl : Bk W gl 39 #[.slice A2 n2 c2]
  bi : Bk W gi 3 #[.int .i64 col]
  bh : Bk W gh 5 #[.int .u8 (hf : Nat)]
  bb : Bk W gb 38 #[.slice A n c]
theorem HB.on {W W' : World} {A : Option Addr} {c n : Nat} {A2 : Option Addr} {c2 n2 : Nat} {col : Int} {hf gl gi gh gb : Nat} (h : HB W A c n A2 c2 n2 col hf gl gi gh gb) (hb : Below W.heap.size W W') : HB W' A c n A2 c2 n2 col hf gl gi gh gb :=
  ⟨h.bl.below hb h.bl.lt, h.bi.below hb h.bi.lt, h.bh.below hb h.bh.lt, h.bb.below hb h.bb.lt⟩
def LHalfRet (w : World) (A : Option Addr) (c n : Nat) (A2 : Option Addr) (c2 n2 : Nat) (col : Int) (hf : Nat) (e : Ending) (W : World) : Prop :=
  ∃ gl gi gh gb, e = .returned (halfV gl gi gh gb) ∧ HB W A c n A2 c2 n2 col hf gl gi gh gb ∧ Below w.heap.size w W
set_option maxRecDepth 100000 in
set_option maxHeartbeats 1000000 in
theorem half_any (A : Option Addr) (c n : Nat) (A2 : Option Addr) (c2 n2 : Nat) (col : Int) (hf : Nat) (w : World) :
    Calls Try.prog 64 #[.slice A n c, .slice A2 n2 c2, .int .i64 col, .int .u8 (hf : Nat)] w (LHalfRet w A c n A2 c2 n2 col hf) := by
  have b1 := ba1 w (.cells #[.slice A n c] 38)
  have b2 := ba1 (w.alloc (.cells #[.slice A n c] 38)) (.cells #[.slice A2 n2 c2] 39)
  have b3 := ba1 ((w.alloc (.cells #[.slice A n c] 38)).alloc (.cells #[.slice A2 n2 c2] 39)) (.cells #[.int .i64 col] 3)
  have b4 := ba1 (((w.alloc (.cells #[.slice A n c] 38)).alloc (.cells #[.slice A2 n2 c2] 39)).alloc (.cells #[.int .i64 col] 3)) (.cells #[.int .u8 (hf : Nat)] 5)
  have k1 := Bk.new w 38 #[.slice A n c]
  have k2 := Bk.at_ (w := w.alloc (.cells #[.slice A n c] 38)) (g := w.heap.size + 1) 39 #[.slice A2 n2 c2] (by simp)
  have k3 := Bk.at_ (w := (w.alloc (.cells #[.slice A n c] 38)).alloc (.cells #[.slice A2 n2 c2] 39)) (g := w.heap.size + 2) 3 #[.int .i64 col] (by simp)
  have k4 := Bk.at_ (w := ((w.alloc (.cells #[.slice A n c] 38)).alloc (.cells #[.slice A2 n2 c2] 39)).alloc (.cells #[.int .i64 col] 3)) (g := w.heap.size + 3) 5 #[.int .u8 (hf : Nat)] (by simp)
  have HH : Hid (HB ((((w.alloc (.cells #[.slice A n c] 38)).alloc (.cells #[.slice A2 n2 c2] 39)).alloc (.cells #[.int .i64 col] 3)).alloc (.cells #[.int .u8 (hf : Nat)] 5)) A c n A2 c2 n2 col hf (w.heap.size + 1) (w.heap.size + 2) (w.heap.size + 3) w.heap.size) :=
    Lib.hid ⟨(k2.below b3 k2.lt).below b4 (k2.below b3 k2.lt).lt, k3.below b4 k3.lt, k4, ((k1.below b2 k1.lt).below b3 (k1.below b2 k1.lt).lt).below b4 ((k1.below b2 k1.lt).below b3 (k1.below b2 k1.lt).lt).lt⟩
  have HBE : Hid (Below w.heap.size w ((((w.alloc (.cells #[.slice A n c] 38)).alloc (.cells #[.slice A2 n2 c2] 39)).alloc (.cells #[.int .i64 col] 3)).alloc (.cells #[.int .u8 (hf : Nat)] 5))) :=
    Lib.hid (((b1.trans (b2.mono b1.size)).trans (b3.mono (Nat.le_trans b1.size b2.size))).trans (b4.mono (Nat.le_trans (Nat.le_trans b1.size b2.size) b3.size)))
  clear b1 b2 b3 b4 k1 k2 k3 k4
  go_enter Try.func64, Try.ntmps64
  go_wp2_with fail
  go_ret
  exact ⟨w.heap.size + 1, w.heap.size + 2, w.heap.size + 3, w.heap.size, rfl, HH.out, HBE.out⟩
/-- A closure on slots and boxes that returns f. -/
def SBFn (w : World) (fid : FuncId) (caps : Array Value) (f : Slt × Bx → Int) : Prop :=
  ∀ (x : Slt × Bx) (w' : World), Below w.heap.size w w' → Calls Try.prog fid (#[.agg (sltL x.1).toArray, .agg (bxL x.2).toArray] ++ caps) w' (Ret w' (.int .i64 (f x)))
/-- The sum as it is computed. -/
def sumW (f : Slt × Bx → Int) (l : List (Slt × Bx)) : Int := l.foldl (fun a x => IntKind.i64.wrap (a + f x)) 0
theorem sumW_succ (f : Slt × Bx → Int) (l : List (Slt × Bx)) (x : Slt × Bx) : sumW f (l ++ [x]) = IntKind.i64.wrap (sumW f l + f x) := by unfold sumW; rw [List.foldl_append]; rfl
theorem sumW_eq (f : Slt × Bx → Int) (M : Int) (h0 : 0 ≤ M) (n : Nat) (hM : M * n ≤ 9223372036854775807) (l : List (Slt × Bx)) (hl : l.length ≤ n) (h : ∀ x ∈ l, -M ≤ f x ∧ f x ≤ M) : sumW f l = (l.map f).sum := by
  have key : ∀ m : List (Slt × Bx), (∀ x ∈ m, -M ≤ f x ∧ f x ≤ M) → ∀ (a : Int) (k : Nat), k + m.length ≤ n → -(M * k) ≤ a → a ≤ M * k → m.foldl (fun a x => IntKind.i64.wrap (a + f x)) a = a + (m.map f).sum := fun m => by
    induction m with
    | nil => intro _ a k _ _ _; simp
    | cons x m ih =>
      intro hx a k hk h1 h2
      have hb := hx x (by simp)
      have hk1 : M * ((k + 1 : Nat) : Int) = M * k + M := by rw [Int.natCast_add, Int.mul_add]; simp
      have hk2 : M * ((k + 1 : Nat) : Int) ≤ M * n := Int.mul_le_mul_of_nonneg_left (by simp at hk; omega) h0
      simp only [List.foldl_cons, List.map_cons, List.sum_cons]
      rw [IntWalk.i64_in _ (by omega), ih (fun y hy => hx y (by simp [hy])) (a + f x) (k + 1) (by simp at hk; omega) (by omega) (by omega)]
      omega
  have := key l h 0 0 (by omega) (by simp) (by simp)
  unfold sumW
  rw [this]
  omega
theorem half_stops (m : Nat) (hm : 3 ≤ m) (n₀ go : Nat) (A : Option Addr) (c : Nat) (boxes : List Bx) (A2 : Option Addr) (c2 : Nat) (l : List Stw) (col : Int) (hf gl gi gh gb : Nat) (w : World)
    (hc : HC w n₀ go A c boxes A2 c2 l col hf gl gi gh gb) (hW : n₀ ≤ w.heap.size) (hbl : boxes.length ≤ 1000000) (hl : l.length ≤ 1000000) :
    SeqStopsK Fence.wide m Try.prog 80 #[.pointer (some ⟨gl, 0, none⟩), .pointer (some ⟨gi, 0, none⟩), .pointer (some ⟨gh, 0, none⟩), .pointer (some ⟨gb, 0, none⟩)] (fun x : Slt × Bx => #[.agg (sltL x.1).toArray, .agg (bxL x.2).toArray]) (KpG n₀ go) (fun xs => xs = halfL boxes l col hf) (fun _ => True) l.length w := fun lb J Jx W hb hJ _ hY h0 =>
  half1_in m hm lb n₀ go A c boxes A2 c2 l col hf gl gi gh gb J Jx W hJ hY (hc.keep (KpG.below hb hW)) (Nat.le_trans hW hb.size) hbl hl h0

/-- No operation of a region defers. -/
def noDeferB (ops : Array Oper) : Bool := (List.range ops.size).all fun i => match ops[i]? with
  | some o => (match o.op with
    | .defer _ => false
    | _ => true)
  | none => true
theorem noDefer_spec {ops : Array Oper} (h : noDeferB ops = true) {i : Nat} {o : Oper} (ho : ops[i]? = some o) (c : Call) : o.op ≠ .defer c := fun e => by
  have hlt : i < ops.size := (Array.getElem?_eq_some_iff.1 ho).1
  have h1 := List.all_eq_true.1 h i (List.mem_range.2 hlt)
  simp only [ho, e] at h1
  cases h1
theorem wpOpIn_inRound {F : Fence} {n : Nat} {P : Program} {ops : Array Oper} {Q : Exit → Act → World → Prop} {K : Act → World → Prop} {a : Act} {w : World} (l i : Nat) (hd : noDeferB ops = true) (h : wpOpIn F n P ops Q i K a w) : wpOpIn (F.inRound l) n P ops Q i K a w := by
  unfold wpOpIn at h ⊢
  split
  · rename_i ho; simp only [ho] at h; exact h
  · rename_i o ho
    simp only [ho] at h
    have hs := fun ρ => Oper.semAt_eq F.round ρ o (noDefer_spec hd ho)
    have hs' := fun ρ => Oper.semAt_eq (some l) ρ o (noDefer_spec hd ho)
    unfold Oper.wpIn at h ⊢
    rw [hs] at h
    rw [Fence.inRound_round, hs']
    exact h
theorem anyIn_inRound {F : Fence} {n : Nat} {P : Program} {ops : Array Oper} {Q : Exit → Act → World → Prop} (l : Nat) (hd : noDeferB ops = true) : ∀ (f : Nat) (listed : Array Bool) (a : Act) (w : World), wpAnyIn F n P .any ops Q f listed a w → wpAnyIn (F.inRound l) n P .any ops Q f listed a w
  | 0, _, _, _, h => h
  | f + 1, listed, a, w, h => ⟨h.1, fun i hi => wpOpIn_inRound l i hd (wpOpIn_mono (fun a' w' h' => anyIn_inRound l hd f _ a' w' h') (h.2 i hi))⟩
theorem AnyIn.inRound {F : Fence} {n : Nat} {P : Program} {ops : Array Oper} {Q : Exit → Act → World → Prop} {m : Nat} {a : Act} {w : World} (l : Nat) (hd : noDeferB ops = true) (h : AnyIn F n P ops Q m a w) : AnyIn (F.inRound l) n P ops Q m a w := anyIn_inRound l hd _ _ _ _ h
attribute [local go_sem] Oper.semAt_some

theorem keeps_below {w w' : World} (h : Below w.heap.size w w') : KeepsOthers w w' := ⟨h.size, fun k o hk _ => (h.block k (Array.getElem?_eq_some_iff.1 hk).1).trans hk⟩
@[reducible] def fT : TypeId := 124
set_option maxRecDepth 100000 in
set_option maxHeartbeats 4000000 in
theorem lsum_any (A : Option Addr) (c : Nat) (boxes : List Bx) (A2 : Option Addr) (c2 : Nat) (l : List Stw) (col : Int) (hf gl gi gh gb : Nat) (fid : FuncId) (caps : Array Value) (f : Slt × Bx → Int) (w : World)
    (hb : SlT tBx w (Lt w.heap.size) A boxes) (hbl : boxes.length ≤ 1000000) (hs : SlT tStw w (Lt w.heap.size) A2 l) (hl : l.length ≤ 1000000)
    (hh : HB w A c boxes.length A2 c2 l.length col hf gl gi gh gb)
    (hent : ∀ (args : Array Value) (w : World), (callFunc fid args).run Try.prog w = .ok (.enter fid args) w) (hfn : SBFn w fid caps f) :
    Calls Try.prog 63 #[halfV gl gi gh gb, .func (.func fid) #[] caps] w (Ret w (.int .i64 (sumW f (halfL boxes l col hf)))) := by
  have HB0 := Lib.hid hb
  have HS0 := Lib.hid hs
  have HH := Lib.hid hh
  have HFN := Lib.hid hfn
  clear hb hs hh hfn
  refine (callsIn_wide (n := 6)).1 ?_
  refine callsIn_of_wp_marks Try.func63 rfl trivial ?_ rfl
  simp only [Try.ntmps63, List.size_toArray, List.length_cons, List.length_nil, Nat.reduceAdd, Nat.reduceSub, Array.replicate_succ, Array.replicate_zero, List.push_toArray, List.append_toArray, List.nil_append, List.cons_append]
  have b1 := ba1 w (.cells #[.func (.func fid) #[] caps] fT)
  have b2 := ba1 (w.alloc (.cells #[.func (.func fid) #[] caps] fT)) (.cells #[.int .i64 0] 3)
  have k1 := Bk.new w fT #[.func (.func fid) #[] caps]
  have k2 := Bk.at_ (w := w.alloc (.cells #[.func (.func fid) #[] caps] fT)) (g := w.heap.size + 1) 3 #[.int .i64 0] (by simp)
  have HW0 := Lib.hid (b1.trans (b2.mono b1.size))
  have HKF := Lib.hid (k1.below b2 k1.lt)
  have HKO := Lib.hid k2
  have hz : w.heap.size + 1 < ((w.alloc (.cells #[.func (.func fid) #[] caps] fT)).alloc (.cells #[.int .i64 0] 3)).heap.size := k2.lt
  clear b1 b2 k1 k2
  gi_upto_region 2 with fail
  generalize ((w.alloc _).alloc _) = W0 at *
  have hW0 := HW0.out
  have hh0 := HH.out.on hW0
  have n1 := HH.out.bl.lt
  have n2 := HH.out.bi.lt
  have n3 := HH.out.bh.lt
  have n4 := HH.out.bb.lt
  have HCC : Hid (HC W0 w.heap.size (w.heap.size + 1) A c boxes A2 c2 l col hf gl gi gh gb) := Lib.hid ⟨hh0.bl, hh0.bi, hh0.bh, hh0.bb, HB0.out.below hW0, HS0.out.below hW0, by omega⟩
  clear hh0 n1 n2 n3 n4
  gi_wp2
  refine wpIn_rangeFunc_ownH (F := Fence.wide) (n := 6) rfl (by omega) (gf := 80) (lb := #[.pointer (some ⟨gl, 0, none⟩), .pointer (some ⟨gi, 0, none⟩), .pointer (some ⟨gh, 0, none⟩), .pointer (some ⟨gb, 0, none⟩)]) rfl trivial (enters_of Try.func80 (by kernel_rfl) rfl)
      (half_stops 5 (by omega) w.heap.size (w.heap.size + 1) A c boxes A2 c2 l col hf gl gi gh gb W0 HCC.out hW0.size hbl hl) KpG.trans (KpG.put hW0.size) (Below.refl _ _) (fun _ => rfl)
      (fun pre W => Bk W (w.heap.size + 1) 3 #[.int .i64 (sumW f pre)] ∧ Bk W w.heap.size fT #[.func (.func fid) #[] caps] ∧ Below w.heap.size w W)
      (fun _ _ _ => False)
      (OwnFrom.and (Own.from (bk_own (w.heap.size + 1) 3 (fun pre => #[.int .i64 (sumW f pre)])) _) (OwnFrom.and (Own.from (bk_own w.heap.size fT (fun _ => #[.func (.func fid) #[] caps])) _) (ownFrom_below (Nat.le_refl _) hW0.size)))
      (fun _ _ _ _ _ hs _ _ => hs)
      ⟨HKO.out, HKF.out, hW0⟩
      (fun x a' W => ∃ Bs Bb, w.heap.size + 1 < Bs ∧ w.heap.size + 1 < Bb ∧ Bk W Bs 47 (sltL x.1).toArray ∧ Bk W Bb 43 (bxL x.2).toArray ∧ a' = { tmps := #[halfV gl gi gh gb, .func (.func fid) #[] caps, undef, .pointer (some ⟨w.heap.size, 0, none⟩), .int .i64 0, .pointer (some ⟨w.heap.size + 1, 0, none⟩), .pointer (some ⟨Bs, 0, none⟩), .pointer (some ⟨Bb, 0, none⟩), halfV gl gi gh gb, .agg (sltL x.1).toArray, .agg (bxL x.2).toArray, undef, undef, undef, undef, undef, undef, undef], defers := [] })
      (fun x a' _ X Y row hs hg hr => by obtain ⟨Bs, Bb, h1, h2, h3, h4, h5⟩ := hs; exact ⟨Bs, Bb, h1, h2, bk_own Bs 47 (fun (_ : Unit) => (sltL x.1).toArray) () X Y row h3 hg (fun r e => (hr r e).2), bk_own Bb 43 (fun (_ : Unit) => (bxL x.2).toArray) () X Y row h4 hg (fun r e => (hr r e).2), h5⟩)
      ?assign ?body ?done ?stop
  case assign =>
    rintro lb pre x W K ⟨hko, hkf, hB1⟩ hK
    have b1 := ba1 W (.cells (sltL x.1).toArray 47)
    have b2 := ba1 (W.alloc (.cells (sltL x.1).toArray 47)) (.cells (bxL x.2).toArray 43)
    have k1 := Bk.new W 47 (sltL x.1).toArray
    have k2 := Bk.at_ (w := W.alloc (.cells (sltL x.1).toArray 47)) (g := W.heap.size + 1) 43 (bxL x.2).toArray (by simp)
    have b3 := b1.trans (b2.mono b1.size)
    have hlt := hko.lt
    have hfin := Lib.hid (hK { tmps := #[halfV gl gi gh gb, .func (.func fid) #[] caps, undef, .pointer (some ⟨w.heap.size, 0, none⟩), .int .i64 0, .pointer (some ⟨w.heap.size + 1, 0, none⟩), .pointer (some ⟨W.heap.size, 0, none⟩), .pointer (some ⟨W.heap.size + 1, 0, none⟩), halfV gl gi gh gb, .agg (sltL x.1).toArray, .agg (bxL x.2).toArray, undef, undef, undef, undef, undef, undef, undef], defers := [] } ((W.alloc (.cells (sltL x.1).toArray 47)).alloc (.cells (bxL x.2).toArray 43)) ((keeps_below b3).from _) (KpG.below b3 hB1.size) ⟨hko.below b3 hko.lt, hkf.below b3 hkf.lt, hB1.trans (b3.mono hB1.size)⟩ ⟨W.heap.size, W.heap.size + 1, hlt, by omega, k1.below b2 k1.lt, k2, rfl⟩)
    obtain ⟨⟨xc, xt, xh⟩, ⟨z0, z1, z2, z3, z4, z5, z6, z7, z8⟩⟩ := x
    unfold sltL bxL at hfin
    clear hK b1 b2 b3 k1 k2 hko hkf
    dsimp only [sltL, bxL]
    gi_wp2
    exact hfin.out
  case body =>
    rintro lb pre x a' W hl0 ⟨r, hr⟩ ⟨hko, hkf, hB⟩ ⟨Bs, Bb, hBs, hBb, bX, bY, rfl⟩ hlt
    have HKO2 := Lib.hid hko
    have HBW := Lib.hid hB
    have HC := Lib.hid (fun (V : World) (hV : Below W.heap.size W V) => HFN.out x V (hB.trans (hV.mono hB.size)))
    have HSW := Lib.hid (sumW_succ f pre x)
    have HKF2 := Lib.hid hkf
    have HBX := Lib.hid bX
    have HBY := Lib.hid bY
    obtain ⟨⟨xc, xt, xh⟩, ⟨z0, z1, z2, z3, z4, z5, z6, z7, z8⟩⟩ := x
    clear hl0 hr hko hkf hB hlt bX bY
    generalize sumW f pre = S at *
    generalize f (⟨xc, xt, xh⟩, ⟨z0, z1, z2, z3, z4, z5, z6, z7, z8⟩) = fx at *
    unfold sltL bxL at HC
    unfold sltL at HBX
    unfold bxL at HBY
    dsimp only [sltL, bxL] at HC HBX HBY ⊢
    obtain ⟨T, hT⟩ : ∃ T, IntKind.i64.wrap (S + fx) = T := ⟨_, rfl⟩
    have hT2 : wrap64 (S + fx) = T := by rw [← hT]; exact (IntWalk.i64_left _).symm
    rw [hT] at HSW
    gi_upto_region 5 with fail
    refine wpIn_region_at (by kernel_rfl) ?_
    refine AnyIn.inRound lb (by kernel_rfl) ?_
    have b3 := drew_below W 1
    generalize W.drewN 1 = V3 at *
    have HKO3 := Lib.hid (HKO2.out.below b3 HKO2.out.lt)
    have HKF3 := HKF2.out.below b3 HKF2.out.lt
    have HKF3' := Lib.hid HKF3
    have HW3 := Lib.hid b3
    have HBW0 := Lib.hid HBW.out
    have HBX3 := HBX.out.below b3 HBX.out.lt
    have HBY3 := HBY.out.below b3 HBY.out.lt
    have HBW3 := Lib.hid (HBW.out.trans (b3.mono HBW.out.size))
    have HC3 := Lib.hid (fun (V : World) (hV : Below V3.heap.size V3 V) => HC.out V (b3.trans (hV.mono b3.size)))
    have cO : ∀ p : Gr V3, p.W.cell? ⟨w.heap.size + 1, 0, none⟩ = some (.int .i64 S) := Gr.cell (HKO3.out.cell 0)
    have cF : ∀ p : Gr V3, p.W.cell? ⟨w.heap.size, 0, none⟩ = some (.func (.func fid) #[] caps) := Gr.cell (HKF3.cell 0)
    have x0 : ∀ p : Gr V3, p.W.cell? ⟨Bs, 0, none⟩ = some (.int .i64 xc) := Gr.cell (HBX3.cell 0)
    have x1 : ∀ p : Gr V3, p.W.cell? ⟨Bs, 1, none⟩ = some (.int .i64 xt) := Gr.cell (HBX3.cell 1)
    have x2 : ∀ p : Gr V3, p.W.cell? ⟨Bs, 2, none⟩ = some (.int .u8 (xh : Nat)) := Gr.cell (HBX3.cell 2)
    have y0 : ∀ p : Gr V3, p.W.cell? ⟨Bb, 0, none⟩ = some (.int .i64 z0) := Gr.cell (HBY3.cell 0)
    have y1 : ∀ p : Gr V3, p.W.cell? ⟨Bb, 1, none⟩ = some (.string z1) := Gr.cell (HBY3.cell 1)
    have y2 : ∀ p : Gr V3, p.W.cell? ⟨Bb, 2, none⟩ = some (.int .u8 (z2 : Nat)) := Gr.cell (HBY3.cell 2)
    have y3 : ∀ p : Gr V3, p.W.cell? ⟨Bb, 3, none⟩ = some (.bool z3) := Gr.cell (HBY3.cell 3)
    have y4 : ∀ p : Gr V3, p.W.cell? ⟨Bb, 4, none⟩ = some (.int .i64 z4) := Gr.cell (HBY3.cell 4)
    have y5 : ∀ p : Gr V3, p.W.cell? ⟨Bb, 5, none⟩ = some (.int .i64 z5) := Gr.cell (HBY3.cell 5)
    have y6 : ∀ p : Gr V3, p.W.cell? ⟨Bb, 6, none⟩ = some (.int .i64 z6) := Gr.cell (HBY3.cell 6)
    have y7 : ∀ p : Gr V3, p.W.cell? ⟨Bb, 7, none⟩ = some (.int .u8 (z7 : Nat)) := Gr.cell (HBY3.cell 7)
    have y8 : ∀ p : Gr V3, p.W.cell? ⟨Bb, 8, none⟩ = some (.bool z8) := Gr.cell (HBY3.cell 8)
    clear HKF3 HBX3 HBY3 b3 HC HKO2 HKF2 HBX HBY HBW
    refine AnyIn.gr 6 rfl (by kernel_rfl) ?_
    simp only [List.drop_succ_cons, List.drop_zero, Nat.reduceSub, List.take_succ_cons, List.take_zero]
    repeat (gi_big_quiet_step (fail))
    refine wpQuietIn_step (fun _ _ _ _ => trivial) (fun K hK => ?_)
    rw [if_pos (by rfl)]
    gi_big_quiet_op
    apply Exists.intro
    refine ⟨fun p => ?_, ?_⟩
    · exact Gr.callIn _ (fun V hV => HC3.out V hV)
    refine hK _ ?_
    clear hK K
    repeat (gi_big_quiet_step (fail))
    refine wpQuietIn_nil ?_
    rintro Y ⟨⟨_, hbY⟩, rfl⟩
    clear cO cF x0 x1 x2 y0 y1 y2 y3 y4 y5 y6 y7 y8 HC3
    have hO := HKO3.out.below hbY HKO3.out.lt
    have hFY := HKF3'.out.below hbY HKF3'.out.lt
    have hBY := HBW3.out.trans (hbY.mono HBW3.out.size)
    have hWY := HW3.out.trans (hbY.mono HW3.out.size)
    have cO2 := hO.cell 0
    have fO2 := hO.frozen 0
    have hz9 : w.heap.size < Y.heap.size := by have := hO.lt; omega
    have HFIN : Hid (KeepsFrom W0.heap.size W (Y.setCell ⟨w.heap.size + 1, 0, none⟩ (.int .i64 (T))) ∧ KpG w.heap.size (w.heap.size + 1) W (Y.setCell ⟨w.heap.size + 1, 0, none⟩ (.int .i64 (T))) ∧
        (Bk (Y.setCell ⟨w.heap.size + 1, 0, none⟩ (.int .i64 (T))) (w.heap.size + 1) 3 #[.int .i64 (sumW f (pre ++ [((⟨xc, xt, xh⟩ : Slt), (⟨z0, z1, z2, z3, z4, z5, z6, z7, z8⟩ : Bx))]))] ∧ Bk (Y.setCell ⟨w.heap.size + 1, 0, none⟩ (.int .i64 (T))) w.heap.size fT #[.func (.func fid) #[] caps] ∧ Below w.heap.size w (Y.setCell ⟨w.heap.size + 1, 0, none⟩ (.int .i64 (T))))) := Lib.hid
      ⟨((keeps_below hWY).trans (KeepsOthers.setCell _ _ _)).from _, ⟨(hWY.mono HBW0.out.size).setCell (by show w.heap.size ≤ w.heap.size + 1; omega) _, fun g t cs hg hk => (hk.below hWY hk.lt).far (p := ⟨w.heap.size + 1, 0, none⟩) (by simpa using hg) _⟩,
        by have := hO.set_ 0 (.int .i64 (T)); rw [HSW.out]; simpa using this, hFY.far (p := ⟨w.heap.size + 1, 0, none⟩) (by simp) _, hBY.setCell (by show w.heap.size ≤ w.heap.size + 1; omega) _⟩
    clear hO hFY hBY hWY hbY HKO3 HKF3' HBW3 HW3
    refine AnyIn.one (by kernel_rfl) rfl (fun K hK => ?_)
    rw [if_pos (by rfl)]
    gi_big_op
    refine hK _ _ ?_
    clear hK K
    refine AnyIn.done rfl ?_
    refine ⟨HFIN.out.1, HFIN.out.2.1, ?_⟩
    exact HFIN.out.2.2
  case done =>
    rintro D xs W hD rfl ⟨hko, hkf, hB⟩ hK
    have cO : W.cell? ⟨w.heap.size + 1, 0, none⟩ = some (.int .i64 (sumW f (halfL boxes l col hf))) := hko.cell 0
    gi_wp2
    refine ⟨by simp, .inl ⟨_, _, rfl, run_takeDeferred hK, ?_⟩⟩
    refine ⟨_, results_tmp rfl _ _ _, rfl, ?_⟩
    exact hB.trans (belowK_b (w := w) (Nat.le_refl _) W D _ _ (by have := hW0.size; omega) hK rfl rfl)
  case stop =>
    rintro D c pre W _ _ hf _
    exact hf.elim
end Go.Proofs.Ytncfakkajknhaaa
