/-
  Walks of package stack: Faults, a range over a function.
-/
import Derived.Test.YtmkplemdnglhmaaStK
namespace Go.Proofs.Ytmkplemdnglhmaa
open Go.RowKit Go.Shelf

theorem el_flt : El Try.prog 61 73 3 24 := El.mk' Try.underlying61 (by kernel_rfl) (by decide)
def tFlt : Ty Flt where
  k := 3
  pos := by decide
  rd := fun _ _ cs x => cs = fltL x
  len := by rintro _ _ _ _ rfl; rfl
  one := by rintro _ _ _ _ rfl; rfl
  keep := fun h _ => h
  more := fun h _ => h
theorem flat_flt {w : World} {S : Nat → Prop} : ∀ l : List Flt, Flat tFlt w S (l.flatMap fltL) l
  | [] => rfl
  | x :: l => ⟨fltL x, l.flatMap fltL, rfl, rfl, flat_flt l⟩
/-- A list of faults of the call's own. -/
def OwnFlt (w : World) (l : List Flt) (e : Ending) (w' : World) : Prop := ∃ v, e = .returned v ∧ OwnT tFlt 73 w' w.heap.size v l ∧ Below w.heap.size w w'
theorem faults_stops (m : Nat) (hm : 3 ≤ m) (n₀ : Nat) (s : Shp) (h : Hd) (A : Option Addr) (c : Nat) (boxes : List Bx) (A2 : Option Addr) (c2 : Nat) (l : List Stw) (k : Nat) (Ap : Option Addr) (q gk gc gi gl gb gs : Nat) (w : World)
    (hf : FC w n₀ s h A c boxes A2 c2 l k Ap q gk gc gi gl gb gs) (hW : n₀ ≤ w.heap.size) (hkg : KgOK boxes) (htol : -1000000000000 ≤ s.m0 ∧ s.m0 ≤ 1000000000000) (hbl : boxes.length ≤ 1000000) (hl : l.length ≤ 1000000) (hti : ∀ x ∈ l, x.slot.tier ≤ 9223372036854775807) :
    SeqStopsK Fence.wide m Try.prog 108 #[.pointer (some ⟨gk, 0, none⟩), .pointer (some ⟨gc, 0, none⟩), .pointer (some ⟨gi, 0, none⟩), .pointer (some ⟨gl, 0, none⟩), .pointer (some ⟨gb, 0, none⟩), .pointer (some ⟨gs, 0, none⟩)] (fun x : Flt => #[.agg (fltL x).toArray]) (KpF n₀) (fun xs => xs = faultsF s boxes l k) (fun _ => True) (3 + l.length) w := fun lb J Jx W hb hJ _ hY h0 =>
  faults1_in m hm lb n₀ s h A c boxes A2 c2 l k Ap q gk gc gi gl gb gs J Jx W hJ hY (hf.keep (KpF.below hb hW)) (Nat.le_trans hW hb.size) hkg htol hbl hl hti h0

attribute [local go_sem] Oper.semAt_some

set_option maxRecDepth 100000 in
set_option maxHeartbeats 4000000 in
theorem stFaults_any (s : Shp) (h : Hd) (A : Option Addr) (c : Nat) (boxes : List Bx) (A2 : Option Addr) (c2 : Nat) (l : List Stw) (col : Int) (w : World) (hkg : KgOK boxes) (htol : -1000000000000 ≤ s.m0 ∧ s.m0 ≤ 1000000000000) (hsh : ShpR w (Lt w.heap.size) s h) (hcl : s.cols.length ≤ 1000000) (hb : SlT tBx w (Lt w.heap.size) A boxes) (hbl : boxes.length ≤ 1000000) (hs : SlT tStw w (Lt w.heap.size) A2 l) (hl : l.length ≤ 1000000)
    (hti : ∀ x ∈ l, x.slot.tier ≤ 9223372036854775807) :
    Calls Try.prog 28 #[.agg (shpA s h), .slice A boxes.length c, .slice A2 l.length c2, .int .i64 col] w (OwnFlt w (if thereB s col then faultsF s boxes l col.toNat else [])) := by
  have HTH := Lib.hid (fun V => there_any s h col V)
  have hbs := ba1 w (.cells (shpA s h) 32)
  cases ht : thereB s col with
  | false =>
    rw [ht] at HTH
    have HB := Lib.hid hbs
    clear hb hs hsh hbs
    unfold shpA at HTH HB ⊢
    go_enter Try.func28, Try.ntmps28
    go_wp2_with fail
    refine (HTH.out _).mono ?_
    rintro e w1 ⟨rfl, hb1⟩
    simp only
    go_wp2_with fail
    go_ret
    exact ⟨_, rfl, OwnT.nil, HB.out.trans (hb1.mono HB.out.size)⟩
  | true =>
    rw [ht] at HTH
    obtain ⟨k, rfl, hk⟩ : ∃ k : Nat, col = (k : Int) ∧ k < s.cols.length := by
      unfold thereB at ht
      simp only [Bool.and_eq_true, decide_eq_true_eq] at ht
      exact ⟨col.toNat, by omega, by omega⟩
    simp only [Int.toNat_natCast, if_true]
    clear ht
    obtain ⟨i0, z, hi, hz, h4, h5, h6⟩ := el_flt.info
    have HSH := Lib.hid hsh
    have HBX := Lib.hid hb
    have HST := Lib.hid hs
    have HB := Lib.hid hbs
    have HTH2 := Lib.hid (fun (n : Nat) V => (callsIn_wide (n := n)).2 (HTH.out V))
    have HFA := Lib.hid (fun (n : Nat) V (hV : Below w.heap.size w V) => (callsIn_wide (n := n)).2 (faults_any s h A c boxes A2 c2 l k V hkg ((hsh.below hV).up (Below.size hV)) hk ((hb.below hV).up (Below.size hV)) hbl ((hs.below hV).up (Below.size hV)) hl))
    clear hsh hb hs hbs HTH
    refine (callsIn_wide (n := 6)).1 ?_
    refine callsIn_of_wp_marks Try.func28 rfl trivial ?_ rfl
    simp only [Try.ntmps28, List.size_toArray, List.length_cons, List.length_nil, Nat.reduceAdd, Nat.reduceSub, Array.replicate_succ, Array.replicate_zero, List.push_toArray, List.append_toArray, List.nil_append, List.cons_append]
    unfold shpA at HTH2 HFA HB ⊢
    gi_wp2
    refine ⟨trivial, ?_⟩
    refine (HTH2.out _ _).mono ?_
    rintro e w1 ⟨rfl, hb1⟩
    simp only
    have hb2 := HB.out.trans (hb1.mono HB.out.size)
    have hb3 := hb2.alloc hb2.size (.cells #[.slice none 0 0] 61)
    have bO := Bk.new w1 61 #[.slice none 0 0]
    have bS := ((Bk.new w 32 (shpA s h)).below hb1 (by simp)).alloc (.cells #[.slice none 0 0] 61)
    gi_upto_region 4 with fail
    have hg9 := hb2.size
    have hgs : w1.heap.size < (w1.alloc (.cells #[.slice none 0 0] 61)).heap.size := by simp
    generalize w1.heap.size = g9 at *
    generalize (w1.alloc _) = W3 at *
    obtain ⟨e0, e1, e2, e3, e4, e5, e6, e7, e8, e9, e10, e11, e12⟩ : W3.cell? ⟨w.heap.size, 0, none⟩ = some (.slice h.A1 s.cols.length h.c1) ∧ W3.cell? ⟨w.heap.size, 1, none⟩ = some (.slice h.A2 s.covs.length h.c2) ∧ W3.cell? ⟨w.heap.size, 2, none⟩ = some (.int .i64 s.l0) ∧ W3.cell? ⟨w.heap.size, 3, none⟩ = some (.int .i64 s.l1) ∧ W3.cell? ⟨w.heap.size, 4, none⟩ = some (.int .i64 s.l2) ∧ W3.cell? ⟨w.heap.size, 5, none⟩ = some (.int .i64 s.l3) ∧ W3.cell? ⟨w.heap.size, 6, none⟩ = some (.slice h.A3 s.rows.length h.c3) ∧ W3.cell? ⟨w.heap.size, 7, none⟩ = some (.slice h.A4 s.frames.length h.c4) ∧ W3.cell? ⟨w.heap.size, 8, none⟩ = some (.slice h.A5 s.tanks.length h.c5) ∧ W3.cell? ⟨w.heap.size, 9, none⟩ = some (.int .i64 s.m0) ∧ W3.cell? ⟨w.heap.size, 10, none⟩ = some (.int .i64 s.m1) ∧ W3.cell? ⟨w.heap.size, 11, none⟩ = some (.int .i64 s.m2) ∧ W3.cell? ⟨w.heap.size, 12, none⟩ = some (.int .i64 s.m3) := ⟨bS.cell 0, bS.cell 1, bS.cell 2, bS.cell 3, bS.cell 4, bS.cell 5, bS.cell 6, bS.cell 7, bS.cell 8, bS.cell 9, bS.cell 10, bS.cell 11, bS.cell 12⟩
    clear hb1 hb2 bS
    gi_wp2
    clear e0 e1 e2 e3 e4 e5 e6 e7 e8 e9 e10 e11 e12
    refine ⟨trivial, ?_⟩
    refine (HFA.out _ _ ?hb).mono ?_
    case hb => exact hb3
    rintro e W0 ⟨Ap, q, gk, gc, gi, gl, gb, gs, rfl, hFC⟩
    simp only
    have hW0 := hb3.trans (hFC.ck.be.mono hb3.size)
    have bO' := bO.below hFC.ck.be bO.lt
    have HFC : Hid (FC W0 w.heap.size s h A c boxes A2 c2 l k Ap q gk gc gi gl gb gs) := Lib.hid ⟨hFC.ck.bk, hFC.ck.bc, hFC.bi, hFC.bl, hFC.bb, hFC.bs, HBX.out.below hW0, HST.out.below hW0⟩
    have hgs0 : g9 < W0.heap.size := Nat.lt_of_lt_of_le hgs hFC.ck.be.size
    clear hFC bO hb3 hgs
    gi_wp2
    refine wpIn_rangeFunc_ownH (F := Fence.wide) (n := 6) rfl (by omega) (gf := 108) (lb := #[.pointer (some ⟨gk, 0, none⟩), .pointer (some ⟨gc, 0, none⟩), .pointer (some ⟨gi, 0, none⟩), .pointer (some ⟨gl, 0, none⟩), .pointer (some ⟨gb, 0, none⟩), .pointer (some ⟨gs, 0, none⟩)]) rfl trivial (enters_of Try.func108 (by kernel_rfl) rfl)
      (faults_stops 5 (by omega) w.heap.size s h A c boxes A2 c2 l k Ap q gk gc gi gl gb gs W0 HFC.out hW0.size hkg htol hbl hl hti) KpF.trans (KpF.put hW0.size) (Below.refl _ _) (fun _ => rfl)
      (fun pre W => (∃ v, Boxed W g9 61 v ∧ W.ownsRow w.heap.size 73 3 v pre.length (pre.flatMap fltL) ∧ True) ∧ Below w.heap.size w W)
      (fun _ _ _ => False)
      (OwnFrom.and (Own.from (holdsRow_own w.heap.size g9 61 73 3 (fun pre : List Flt => pre.length) (fun pre => pre.flatMap fltL) (fun _ _ => True)) _) (ownFrom_below (Nat.le_refl _) hW0.size))
      (fun _ _ _ _ _ hs _ _ => hs)
      ⟨⟨_, bO', World.ownsRow_nil _ _ _ _, trivial⟩, hW0⟩
      (fun x a' W => ∃ Bx, g9 < Bx ∧ Bk W Bx 73 (fltL x).toArray ∧ a' = { tmps := #[.agg (shpA s h), .slice A boxes.length c, .slice A2 l.length c2, .int .i64 (k : Nat), .pointer (some ⟨w.heap.size, 0, none⟩), undef, undef, undef, .slice none 0 0, .pointer (some ⟨g9, 0, none⟩), .pointer (some ⟨Bx, 0, none⟩), .agg (shpA s h), .int .i64 (k : Nat), .bool true, .bool false, .agg (shpA s h), .slice A boxes.length c, .slice A2 l.length c2, .int .i64 (k : Nat), .func (.func 108) #[] #[.pointer (some ⟨gk, 0, none⟩), .pointer (some ⟨gc, 0, none⟩), .pointer (some ⟨gi, 0, none⟩), .pointer (some ⟨gl, 0, none⟩), .pointer (some ⟨gb, 0, none⟩), .pointer (some ⟨gs, 0, none⟩)], .agg (fltL x).toArray, undef, undef, undef, undef, undef], defers := [] })
      (fun x a' _ X Y row hs hg hr => by obtain ⟨Bx, h1, h2, h3⟩ := hs; exact ⟨Bx, h1, bk_own Bx 73 (fun (_ : Unit) => (fltL x).toArray) () X Y row h2 hg (fun r e => (hr r e).2), h3⟩)
      ?assign ?body ?done ?stop
    case assign =>
      rintro lb pre x W K ⟨⟨v, hv, hrow, _⟩, hB1⟩ hK
      have hlt := hv.lt
      have hfin := Lib.hid (hK { tmps := #[.agg (shpA s h), .slice A boxes.length c, .slice A2 l.length c2, .int .i64 (k : Nat), .pointer (some ⟨w.heap.size, 0, none⟩), undef, undef, undef, .slice none 0 0, .pointer (some ⟨g9, 0, none⟩), .pointer (some ⟨W.heap.size, 0, none⟩), .agg (shpA s h), .int .i64 (k : Nat), .bool true, .bool false, .agg (shpA s h), .slice A boxes.length c, .slice A2 l.length c2, .int .i64 (k : Nat), .func (.func 108) #[] #[.pointer (some ⟨gk, 0, none⟩), .pointer (some ⟨gc, 0, none⟩), .pointer (some ⟨gi, 0, none⟩), .pointer (some ⟨gl, 0, none⟩), .pointer (some ⟨gb, 0, none⟩), .pointer (some ⟨gs, 0, none⟩)], .agg (fltL x).toArray, undef, undef, undef, undef, undef], defers := [] } (W.alloc (.cells (fltL x).toArray 73)) ((KeepsOthers.alloc _ _).from _) ⟨(Below.refl _ W).alloc hB1.size _, fun g t cs _ _ hg => hg.alloc _⟩ ⟨⟨v, hv.alloc _, hrow.alloc _, trivial⟩, hB1.alloc hB1.size _⟩ ⟨W.heap.size, hlt, Bk.new W 73 (fltL x).toArray, rfl⟩)
      obtain ⟨xc, xt, xh⟩ := x
      unfold fltL shpA at hfin
      clear hK
      dsimp only [fltL]
      gi_wp2
      exact hfin.out
    case body =>
      rintro lb pre x a' W hl0 ⟨r, hr⟩ ⟨⟨v, hv, hrow, _⟩, hB⟩ ⟨Bx, hBx, bX, rfl⟩ hlt
      obtain ⟨xc, xt, xh⟩ := x
      have x0 : W.cell? ⟨Bx, 0, none⟩ = some (.int .i64 xc) := bX.cell 0
      have x1 : W.cell? ⟨Bx, 1, none⟩ = some (.int .u8 (xt : Nat)) := bX.cell 1
      have x2 : W.cell? ⟨Bx, 2, none⟩ = some (.int .i64 xh) := bX.cell 2
      have cv := hv.cell
      have hbl := hB.size
      have hnews : ∀ j u, (fltL ⟨xc, xt, xh⟩)[j]? = some u → (W.alloc (.cells (fltL ⟨xc, xt, xh⟩).toArray 73)).cell? ((⟨W.heap.size, 0, none⟩ : Addr).add j) = some u := fun j u hu => by
        rw [add_mk, Nat.zero_add, (Bk.new W 73 (fltL ⟨xc, xt, xh⟩).toArray).cell j]; simpa using hu
      have hsn : (pre ++ [(⟨xc, xt, xh⟩ : Flt)]).flatMap fltL = pre.flatMap fltL ++ fltL ⟨xc, xt, xh⟩ := by simp
      have HSN := Lib.hid hsn
      have HNW := Lib.hid hnews
      clear hsn hnews bX hl0 hr
      unfold shpA
      dsimp only [fltL] at HNW HSN ⊢
      gi_wp2_with (gi_at_builtin; refine wpListIn_append_own _ rfl (.tmp 21) (.tmp 23) 61 rfl w.heap.size 73 i0 z 3 24 el_flt.under hi hz h4 h5 h6 (by decide) v pre.length (pre.flatMap fltL) rfl (hrow.alloc _) ⟨W.heap.size, 0, none⟩ 1 1 [.int .i64 xc, .int .u8 (xt : Nat), .int .i64 xh] rfl rfl HNW.out ?p1 ?p2 ?p3 ?p4 ?_)
      case p1 => intro u hu; simp at hu; rcases hu with rfl | rfl | rfl <;> rfl
      case p2 => unfold maxLen; omega
      case p3 => omega
      case p4 => simp; omega
      intro v' w1 hown' hgrow _
      obtain ⟨g', cap', rfl⟩ := ownsRow_succ hown'
      have hne : ∀ g t cs, t ≠ 73 → Bk W g t cs → v.ownBlock ≠ some g := fun g t cs ht hg => own_ne hrow hg (Ne.symm ht)
      obtain ⟨hv1, hv2, hr2, hk2, hb2⟩ := hv.appended (by decide) hrow hB.size (by omega) hown' hgrow
      have hc1 := hv1.cell
      have hf1 := hv1.frozen
      have hkp : Hid (∀ g t cs, t ≠ 73 → t ≠ 61 → Bk W g t cs → Bk (w1.setCell ⟨g9, 0, none⟩ (.slice (some ⟨g', 0, none⟩) (pre.length + 1) cap')) g t cs) := Lib.hid fun g t cs ht1 ht2 hg => by
        have k1 : Bk w1 g t cs := (hg.alloc _).grown hgrow (fun e => hne g t cs ht1 hg e.symm)
        exact k1.far (Bk.ne_ k1 (show Bk w1 g9 61 #[v] from hv1) ht2) _
      have H1 := Lib.hid hk2
      have H2 := Lib.hid hb2
      have H3 := Lib.hid hv2
      have H4 := Lib.hid hr2
      clear hk2 hb2 hr2 hv2 hne hown' hgrow
      gi_wp2
      exact ⟨H1.out.from _, ⟨H2.out, hkp.out⟩, ⟨_, H3.out, by rw [HSN.out, List.length_append]; exact H4.out, trivial⟩, hB.trans H2.out⟩
    case done =>
      rintro D xs W hD rfl ⟨⟨v, hv, hrow, _⟩, hB⟩ hK
      have cv := hv.cell
      gi_wp2
      refine ⟨by simp, .inl ⟨_, _, rfl, run_takeDeferred hK, ?_⟩⟩
      refine ⟨_, results_tmp rfl _ _ _, v, rfl, ⟨_, ownsRow_putObj hrow _ hK rfl, flat_flt _⟩, ?_⟩
      exact hB.trans (belowK_b (w := w) (Nat.le_refl _) W D _ _ (by have := hW0.size; omega) hK rfl rfl)
    case stop =>
      rintro D c pre W _ _ hf _
      exact hf.elim
end Go.Proofs.Ytmkplemdnglhmaa
