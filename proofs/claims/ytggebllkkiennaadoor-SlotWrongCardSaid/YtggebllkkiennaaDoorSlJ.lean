/-
  Walks of package slot: All, a range over a function.
-/
import Derived.Test.YtggebllkkiennaaDoorSlI
namespace Go.Proofs.YtggebllkkiennaaDoor
open Go.RowKit Go.Shelf

theorem el_slt : El Tryd.prog 58 34 3 24 := El.mk' Tryd.underlying58 (by kernel_rfl) (by decide)
theorem flat_slt {w : World} {S : Nat → Prop} : ∀ l : List Slt, Flat tSlt w S (l.flatMap sltL) l
  | [] => rfl
  | x :: l => ⟨sltL x, l.flatMap sltL, rfl, rfl, flat_slt l⟩
theorem bk_own {β : Type} (B : Nat) (t : TypeId) (f : β → Array Value) : Own (fun s W => Bk W B t (f s)) := fun s X Y row hs hg hrow =>
  hs.grown hg (fun e' => by
    obtain ⟨o, ho, hc⟩ := hrow B e'.symm
    have hs : X.heap[B]? = _ := hs
    rw [hs] at ho; cases ho; cases hc)
/-- A list of slots of the call's own. -/
def OwnSlt (w : World) (l : List Slt) (e : Ending) (w' : World) : Prop := ∃ v, e = .returned v ∧ OwnT tSlt 34 w' w.heap.size v l ∧ Below w.heap.size w w'

attribute [local go_sem] Oper.semAt_some

set_option maxRecDepth 100000 in
set_option maxHeartbeats 4000000 in
theorem all_any (s : Shp) (h : Hd) (size : Nat) (w : World) (hs : ShpR w (Lt w.heap.size) s h) (hl : s.cols.length ≤ 1000000) (hT : ∀ c, tiersN s c ≤ 1000000) (hN : (allF s size).length ≤ 1000000) :
    Calls Tryd.prog 20 #[.agg (shpA s h), .int .u8 (size : Nat)] w (OwnSlt w (allF s size)) := by
  obtain ⟨i0, z, hi, hz, h4, h5, h6⟩ := el_slt.info
  have HL := Lib.hid (fun V => slots_in 5 s h size V)
  have HS := Lib.hid hs
  clear hs
  refine (callsIn_wide (n := 6)).1 ?_
  refine callsIn_of_wp_marks Tryd.func20 rfl trivial ?_ rfl
  simp only [Tryd.ntmps20, List.size_toArray, List.length_cons, List.length_nil, Nat.reduceAdd, Nat.reduceSub, Array.replicate_succ, Array.replicate_zero, List.push_toArray, List.append_toArray, List.nil_append, List.cons_append]
  unfold shpA at HL ⊢
  gi_wp2
  refine ⟨trivial, ?_⟩
  refine (HL.out _).mono ?_
  rintro e w1 ⟨rfl, rfl⟩
  gi_wp2
  have bS : Bk w w.heap.size 32 (shpA s h) → True := fun _ => trivial
  have hB0 := ba4 w (.cells (shpA s h) 32) (.cells #[.slice none 0 0] 58) (.cells (shpA s h) 32) (.cells #[.int .u8 (size : Nat)] 5)
  have bO := ((Bk.new (w.alloc (.cells (shpA s h) 32)) 58 #[.slice none 0 0]).alloc (.cells (shpA s h) 32)).alloc (.cells #[.int .u8 (size : Nat)] 5)
  have bC := (Bk.new ((w.alloc (.cells (shpA s h) 32)).alloc (.cells #[.slice none 0 0] 58)) 32 (shpA s h)).alloc (.cells #[.int .u8 (size : Nat)] 5)
  have bZ := Bk.new (((w.alloc (.cells (shpA s h) 32)).alloc (.cells #[.slice none 0 0] 58)).alloc (.cells (shpA s h) 32)) 5 #[.int .u8 (size : Nat)]
  have hsz : ((((w.alloc (.cells (shpA s h) 32)).alloc (.cells #[.slice none 0 0] 58)).alloc (.cells (shpA s h) 32)).alloc (.cells #[.int .u8 (size : Nat)] 5)).heap.size = w.heap.size + 4 := by simp
  simp only [World.size_alloc] at bO bC bZ
  have hs0 := HS.out.below hB0
  clear bS
  obtain ⟨W0, hW0⟩ : ∃ W0, ((((w.alloc (.cells (shpA s h) 32)).alloc (.cells #[.slice none 0 0] 58)).alloc (.cells (shpA s h) 32)).alloc (.cells #[.int .u8 (size : Nat)] 5)) = W0 := ⟨_, rfl⟩
  rw [hW0] at hB0 bO bC bZ hsz hs0
  unfold shpA at hW0
  rw [hW0]
  clear hW0
  refine wpIn_rangeFunc_ownH (F := Fence.wide) (n := 6) rfl (by omega) (gf := 93) (lb := #[.pointer (some ⟨w.heap.size + 1 + 1, 0, none⟩), .pointer (some ⟨w.heap.size + 1 + 1 + 1, 0, none⟩)]) rfl trivial (enters_of Tryd.func93 (by kernel_rfl) rfl)
    (slots_stops 5 (by omega) (w.heap.size + 1 + 1) (w.heap.size + 1 + 1 + 1) w.heap.size s h size W0 hs0 bC bZ (by omega) hl hT) KpS.trans (KpS.put (by omega)) (Below.refl _ _) (fun _ => rfl)
    (fun pre W => (∃ v, Boxed W (w.heap.size + 1) 58 v ∧ W.ownsRow w.heap.size 34 3 v pre.length (pre.flatMap sltL) ∧ True) ∧ Below w.heap.size w W)
    (fun _ _ _ => False)
    (OwnFrom.and (Own.from (holdsRow_own w.heap.size (w.heap.size + 1) 58 34 3 (fun pre : List Slt => pre.length) (fun pre => pre.flatMap sltL) (fun _ _ => True)) _) (ownFrom_below (Nat.le_refl _) (by omega)))
    (fun _ _ _ _ _ hs _ _ => hs)
    ⟨⟨_, bO, World.ownsRow_nil _ _ _ _, trivial⟩, hB0⟩
    (fun x a' W => ∃ Bx, w.heap.size + 1 < Bx ∧ Bk W Bx 34 (sltL x).toArray ∧ a' = { tmps := #[.agg (shpA s h), .int .u8 (size : Nat), .pointer (some ⟨w.heap.size, 0, none⟩), undef, .slice none 0 0, .pointer (some ⟨w.heap.size + 1, 0, none⟩), .pointer (some ⟨Bx, 0, none⟩), .agg (shpA s h), .int .u8 (size : Nat), .func (.func 93) #[] #[.pointer (some ⟨w.heap.size + 1 + 1, 0, none⟩), .pointer (some ⟨w.heap.size + 1 + 1 + 1, 0, none⟩)], .agg (sltL x).toArray, undef, undef, undef, undef, undef], defers := [] })
    (fun x a' _ X Y row hs hg hr => by obtain ⟨Bx, h1, h2, h3⟩ := hs; exact ⟨Bx, h1, bk_own Bx 34 (fun (_ : Unit) => (sltL x).toArray) () X Y row h2 hg (fun r e => (hr r e).2), h3⟩)
    ?assign ?body ?done ?stop
  case assign =>
    rintro l pre x W K ⟨⟨v, hv, hrow, _⟩, hB1⟩ hK
    obtain ⟨xc, xt, xh⟩ := x
    have hlt := hv.lt
    have hfin := Lib.hid (hK { tmps := #[.agg (shpA s h), .int .u8 (size : Nat), .pointer (some ⟨w.heap.size, 0, none⟩), undef, .slice none 0 0, .pointer (some ⟨w.heap.size + 1, 0, none⟩), .pointer (some ⟨W.heap.size, 0, none⟩), .agg (shpA s h), .int .u8 (size : Nat), .func (.func 93) #[] #[.pointer (some ⟨w.heap.size + 1 + 1, 0, none⟩), .pointer (some ⟨w.heap.size + 1 + 1 + 1, 0, none⟩)], .agg (sltL ⟨xc, xt, xh⟩).toArray, undef, undef, undef, undef, undef], defers := [] } (W.alloc (.cells (sltL ⟨xc, xt, xh⟩).toArray 34)) ((KeepsOthers.alloc _ _).from _) ⟨(Below.refl _ W).alloc hB1.size _, fun g cs hg => hg.alloc _⟩ ⟨⟨v, hv.alloc _, hrow.alloc _, trivial⟩, hB1.alloc hB1.size _⟩ ⟨W.heap.size, hlt, Bk.new W _ _, rfl⟩)
    unfold sltL shpA at hfin
    clear hK
    dsimp only [sltL]
    gi_wp2
    exact hfin.out
  case body =>
    rintro l pre x a' W hl ⟨r, hr⟩ ⟨⟨v, hv, hrow, _⟩, hB⟩ ⟨Bx, hBx, bX, rfl⟩ hlt
    obtain ⟨xc, xt, xh⟩ := x
    have x0 : W.cell? ⟨Bx, 0, none⟩ = some (.int .i64 xc) := bX.cell 0
    have x1 : W.cell? ⟨Bx, 1, none⟩ = some (.int .i64 xt) := bX.cell 1
    have x2 : W.cell? ⟨Bx, 2, none⟩ = some (.int .u8 (xh : Nat)) := bX.cell 2
    have cv := hv.cell
    have hbl := hB.size
    have hnews : ∀ j u, (sltL ⟨xc, xt, xh⟩)[j]? = some u → (W.alloc (.cells (sltL ⟨xc, xt, xh⟩).toArray 34)).cell? ((⟨W.heap.size, 0, none⟩ : Addr).add j) = some u := fun j u hu => by
      rw [add_mk, Nat.zero_add, (Bk.new W 34 (sltL ⟨xc, xt, xh⟩).toArray).cell j]; simpa using hu
    have hsn : (pre ++ [(⟨xc, xt, xh⟩ : Slt)]).flatMap sltL = pre.flatMap sltL ++ sltL ⟨xc, xt, xh⟩ := by simp
    have HSN := Lib.hid hsn
    have HNW := Lib.hid hnews
    clear hsn hnews bX hl hr
    unfold shpA
    dsimp only [sltL] at HNW HSN ⊢
    gi_wp2_with (gi_at_builtin; refine wpListIn_append_own _ rfl (.tmp 11) (.tmp 13) 58 rfl w.heap.size 34 i0 z 3 24 el_slt.under hi hz h4 h5 h6 (by decide) v pre.length (pre.flatMap sltL) rfl (hrow.alloc _) ⟨W.heap.size, 0, none⟩ 1 1 [.int .i64 xc, .int .i64 xt, .int .u8 (xh : Nat)] rfl rfl HNW.out ?p1 ?p2 ?p3 ?p4 ?_)
    case p1 => intro u hu; simp at hu; rcases hu with rfl | rfl | rfl <;> rfl
    case p2 => unfold maxLen; omega
    case p3 => omega
    case p4 => simp; omega
    intro v' w1 hown' hgrow _
    obtain ⟨g', cap', rfl⟩ := ownsRow_succ hown'
    have hne : ∀ g cs, Bk W g 5 cs → v.ownBlock ≠ some g := fun g cs hg => own_ne hrow hg (by decide)
    obtain ⟨hv1, hv2, hr2, hk2, hb2⟩ := hv.appended (by decide) hrow hB.size (by omega) hown' hgrow
    have hc1 := hv1.cell
    have hf1 := hv1.frozen
    have hkp : Hid (∀ g cs, Bk W g 5 cs → Bk (w1.setCell ⟨w.heap.size + 1, 0, none⟩ (.slice (some ⟨g', 0, none⟩) (pre.length + 1) cap')) g 5 cs) := Lib.hid fun g cs hg => by
      have k1 : Bk w1 g 5 cs := (hg.alloc _).grown hgrow (fun e => hne g cs hg e.symm)
      exact k1.far (Bk.ne_ k1 (show Bk w1 (w.heap.size + 1) 58 #[v] from hv1) (by decide)) _
    have H1 := Lib.hid hk2
    have H2 := Lib.hid hb2
    have H3 := Lib.hid hv2
    have H4 := Lib.hid hr2
    clear hk2 hb2 hr2 hv2 hne hown' hgrow
    gi_wp2
    exact ⟨H1.out.from _, ⟨H2.out, hkp.out⟩, ⟨_, H3.out, by rw [HSN.out, List.length_append]; exact H4.out, trivial⟩, hB.trans H2.out⟩
  case done =>
    rintro D xs W hD rfl ⟨⟨v, hv, hrow, _⟩, hB⟩ hK
    have cv := hv.cell
    gi_wp2
    refine ⟨by simp, .inl ⟨_, _, rfl, run_takeDeferred hK, ?_⟩⟩
    refine ⟨_, results_tmp rfl _ _ _, v, rfl, ⟨_, ownsRow_putObj hrow _ hK rfl, flat_slt _⟩, ?_⟩
    exact hB.trans (belowK_b (w := w) (Nat.le_refl _) W D _ _ (by omega) hK rfl rfl)
  case stop =>
    rintro D c pre W _ _ hf _
    exact hf.elim
end Go.Proofs.YtggebllkkiennaaDoor
