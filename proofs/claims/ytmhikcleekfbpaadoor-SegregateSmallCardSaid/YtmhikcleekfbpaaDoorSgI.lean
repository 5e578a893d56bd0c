/-
  The walk of segregate.Clashes: a range over the pairs of goods.
-/
import Derived.Test.YtmhikcleekfbpaaDoorSgF
import Derived.Test.YtmhikcleekfbpaaDoorSgG
namespace Go.Proofs.YtmhikcleekfbpaaDoor
open Go.RowKit Go.Shelf

theorem keeps_below14 {w w' : World} (h : Below w.heap.size w w') : KeepsOthers w w' := ⟨h.size, fun k _o hk _ => (h.block k (Array.getElem?_eq_some_iff.1 hk).1).trans hk⟩
def clL (c : Cl) : List Value := [.int .i64 c.a, .int .i64 c.b, .int .u8 (c.code : Nat)]
def tCl : Ty Cl where
  k := 3
  pos := by decide
  rd := fun _ _ cs x => cs = clL x
  len := by rintro _ _ _ _ rfl; rfl
  one := by rintro _ _ _ _ rfl; rfl
  keep := fun h _ => h
  more := fun h _ => h
theorem el_cl : El Tryd.prog 50 58 3 24 := El.mk' Tryd.underlying50 (by kernel_rfl) (by decide)
theorem flat_cl {w : World} {S : Nat → Prop} : ∀ l : List Cl, Flat tCl w S (l.flatMap clL) l
  | [] => rfl
  | x :: l => ⟨clL x, l.flatMap clL, rfl, rfl, flat_cl l⟩
theorem pairs_in (m : Nat) (A : Option Addr) (n c : Nat) (W : World) :
    CallsIn Fence.wide m Tryd.prog 25 #[.slice A n c] W fun e w' => e = .returned (.func (.func 44) #[] #[.pointer (some ⟨W.heap.size, 0, none⟩)]) ∧ w' = W.alloc (.cells #[.slice A n c] 78) := by
  refine callsIn_of_wp Tryd.func25 rfl trivial ?_ rfl
  simp only [Tryd.ntmps25, List.size_toArray, List.length_cons, List.length_nil, Nat.reduceAdd, Nat.reduceSub, Array.replicate_succ, Array.replicate_zero, List.push_toArray, List.append_toArray, List.nil_append, List.cons_append]
  gi_wp2
  go_ret
  exact ⟨rfl, rfl⟩
theorem pairs_stops (m : Nat) (hm : 3 ≤ m) (n₀ : Nat) (A : Option Addr) (c : Nat) (l : List Gd) (gl : Nat) (w : World) (hf : PC w n₀ A c l gl) (hW : n₀ ≤ w.heap.size) (hlc : l.length ≤ c) (hcm : c ≤ maxLen) (hl : l.length ≤ 1000) :
    SeqStopsK Fence.wide m Tryd.prog 44 #[.pointer (some ⟨gl, 0, none⟩)] (fun x : Gd × Gd => #[.agg (gdA x.1), .agg (gdA x.2)]) (KpP n₀) (fun xs => xs = pairsG l) (fun _ => True) (l.length * l.length) w := fun lb J Jx W hb hJ _ hY h0 =>
  pairs1_in m hm lb n₀ A c l gl J Jx W hJ hY (hf.keep (KpP.below hb hW)) (Nat.le_trans hW hb.size) hlc hcm hl h0
/-- What Clashes returns. -/
def ClRet (w : World) (s : Shp) (boxes : List Bx) (l : List Stw) (e : Ending) (w' : World) : Prop :=
  Below w.heap.size w w' ∧ ∃ v, e = .returned (.tuple #[v, .int .i64 (dErr s boxes l : Nat)]) ∧ OwnT tCl 58 w' w.heap.size v (if dErr s boxes l = 0 then clashF s boxes l else [])
theorem tab_out {a b : Nat} (h : ¬ (a < 10 ∧ b < 10)) : Dg.tab a b = 0 := by
  have h1 : Dg.tabL.length = 10 := rfl
  have h2 : ∀ r ∈ Dg.tabL, r.length = 10 := by decide
  unfold Dg.tab
  by_cases ha : a < 10
  · have h3 : 10 ≤ b := by omega
    have h4 : Dg.tabL.getD a [] ∈ Dg.tabL := getD_memD (by omega) []
    rw [List.getD_eq_getElem?_getD, List.getElem?_eq_none (by rw [h2 _ h4]; exact h3)]
    rfl
  · rw [List.getD_eq_getElem?_getD (l := Dg.tabL), List.getElem?_eq_none (by omega)]
    rfl
theorem tab_lt (a b : Nat) : Dg.tab a b < 256 := by
  by_cases h : a < 10 ∧ b < 10
  · exact Nat.lt_of_le_of_lt (Dg.tab_le a b h.1 h.2) (by decide)
  · rw [tab_out h]; decide
theorem code_all (a b : Nat) (w : World) (ht : TabOK w) : Calls Tryd.prog 26 #[.int .u8 a, .int .u8 b] w fun e w' => (∃ er : Int, e = .returned (.tuple #[.int .u8 (Dg.tab a b), .int .i64 er])) ∧ w = w' := by
  by_cases h : a < 10 ∧ b < 10
  · exact (code_ok a b w h.1 h.2 ht).mono fun e w' ⟨h1, h2⟩ => ⟨⟨0, h1⟩, h2⟩
  · rw [tab_out h]
    exact (code_bad a b w (by omega)).mono fun e w' ⟨h1, h2⟩ => ⟨⟨130, h1⟩, h2⟩
theorem fm_len {α β : Type} (f : α → Option β) (l : List α) : (l.filterMap f).length ≤ l.length := List.length_filterMap_le _ _
theorem fm_yes {α β : Type} {f : α → Option β} {l : List α} {x : α} {c : β} (h : f x = some c) : (l ++ [x]).filterMap f = l.filterMap f ++ [c] := by rw [List.filterMap_append]; simp [h]
theorem fm_no {α β : Type} {f : α → Option β} {l : List α} {x : α} (h : f x = none) : (l ++ [x]).filterMap f = l.filterMap f := by rw [List.filterMap_append]; simp [h]

attribute [local go_sem] Oper.semAt_some

set_option maxRecDepth 100000 in
set_option maxHeartbeats 8000000 in
theorem clashes_any (s : Shp) (h : Hd) (A : Option Addr) (c : Nat) (boxes : List Bx) (A2 : Option Addr) (c2 : Nat) (l : List Stw) (w : World) (hsh : ShpR w (Lt w.heap.size) s h) (hf : Few s) (hi : Ints s) (hcl : s.cols.length ≤ 1000000)
    (hb : SlT tBx w (Lt w.heap.size) A boxes) (hbl : boxes.length ≤ 1000000) (hs : SlT tStw w (Lt w.heap.size) A2 l) (hl : l.length ≤ 1000000) (hlc : l.length ≤ c2) (ht : ∀ x ∈ l, x.slot.tier ≤ 9223372036854775807) (hn : NamesOK w) (hr : ∀ c ∈ s.cols, I64 c.row) (htb : TabOK w) :
    Calls Tryd.prog 12 #[.agg (shpA s h), .slice A boxes.length c, .slice A2 l.length c2] w (ClRet w s boxes l) := by
  have hb0 := ba1 w (.cells (shpA s h) 32)
  have HB0 := Lib.hid hb0
  have KDG := Lib.hid (fun (n : Nat) => (callsIn_wide (n := n)).2 (dangerous_any s h A c boxes A2 c2 l _ (hsh.on hb0) hf hi hcl (hb.on hb0) hbl (hs.on hb0) hl hlc ht (hn.below hb0 hn.lt)))
  have KE := Lib.hid (Bk.new w 32 (shpA s h))
  have KN := Lib.hid (fun (n : Nat) (V : World) (hV : Below w.heap.size w V) (a b : Slt) (code : Nat) (hcode : code < 256) => (callsIn_wide (n := n)).2 (near_any s h a b code V (hsh.on hV) hcl hr hcode))
  have HT := Lib.hid htb
  have HR : Hid (∀ e W, ClRet w s boxes l e W = (Below w.heap.size w W ∧ ∃ v, e = .returned (.tuple #[v, .int .i64 (dErr s boxes l : Nat)]) ∧ OwnT tCl 58 W w.heap.size v (if dErr s boxes l = 0 then clashF s boxes l else []))) := Lib.hid fun _ _ => rfl
  have HC : Hid (clashF s boxes l = (pairsG (goodsF boxes l)).filterMap (clB s)) := Lib.hid rfl
  have HDE := Lib.hid (fun (h : dErr s boxes l = 0) => And.intro (dErr_ok h).2.2 (goods_cls (dErr_ok h).2.1))
  clear hb hs hn hsh hb0 hf hi ht hr htb
  unfold DngRet at KDG
  generalize clashF s boxes l = R at *
  generalize ClRet w s boxes l = RET at *
  generalize dErr s boxes l = de at *
  generalize goodsF boxes l = G at *
  obtain ⟨i0, z, hi, hz, h4, h5, h6⟩ := el_cl.info
  by_cases hde : de = 0
  · subst hde
    refine (callsIn_wide (n := 6)).1 ?_
    refine callsIn_of_wp_marks Tryd.func12 rfl trivial ?_ rfl
    simp only [Tryd.ntmps12, List.size_toArray, List.length_cons, List.length_nil, Nat.reduceAdd, Nat.reduceSub, Array.replicate_succ, Array.replicate_zero, List.push_toArray, List.append_toArray, List.nil_append, List.cons_append]
    unfold shpA at *
    gi_upto_region 1 with fail
    generalize (w.alloc _) = W at *
    have e0 : W.cell? ⟨w.heap.size, 0, none⟩ = some (Value.slice h.A1 s.cols.length h.c1) := KE.out.cell 0
    have e1 : W.cell? ⟨w.heap.size, 1, none⟩ = some (Value.slice h.A2 s.covs.length h.c2) := KE.out.cell 1
    have e2 : W.cell? ⟨w.heap.size, 2, none⟩ = some (.int .i64 s.l0) := KE.out.cell 2
    have e3 : W.cell? ⟨w.heap.size, 3, none⟩ = some (.int .i64 s.l1) := KE.out.cell 3
    have e4 : W.cell? ⟨w.heap.size, 4, none⟩ = some (.int .i64 s.l2) := KE.out.cell 4
    have e5 : W.cell? ⟨w.heap.size, 5, none⟩ = some (.int .i64 s.l3) := KE.out.cell 5
    have e6 : W.cell? ⟨w.heap.size, 6, none⟩ = some (Value.slice h.A3 s.rows.length h.c3) := KE.out.cell 6
    have e7 : W.cell? ⟨w.heap.size, 7, none⟩ = some (Value.slice h.A4 s.frames.length h.c4) := KE.out.cell 7
    have e8 : W.cell? ⟨w.heap.size, 8, none⟩ = some (Value.slice h.A5 s.tanks.length h.c5) := KE.out.cell 8
    have e9 : W.cell? ⟨w.heap.size, 9, none⟩ = some (.int .i64 s.m0) := KE.out.cell 9
    have e10 : W.cell? ⟨w.heap.size, 10, none⟩ = some (.int .i64 s.m1) := KE.out.cell 10
    have e11 : W.cell? ⟨w.heap.size, 11, none⟩ = some (.int .i64 s.m2) := KE.out.cell 11
    have e12 : W.cell? ⟨w.heap.size, 12, none⟩ = some (.int .i64 s.m3) := KE.out.cell 12
    gi_wp2
    refine ⟨trivial, ?_⟩
    refine (KDG.out _).mono ?_
    rintro e w1 ⟨hb, v, rfl, ho⟩
    simp only
    have HB1 := Lib.hid (HB0.out.trans (hb.mono HB0.out.size))
    have KE1 := Lib.hid (KE.out.below hb KE.out.lt)
    have HO := Lib.hid (ho.down HB0.out.size)
    clear hb ho KDG KE HB0 e0 e1 e2 e3 e4 e5 e6 e7 e8 e9 e10 e11 e12
    obtain ⟨hG200, hGC⟩ := HDE.out (by first | rfl | trivial)
    have HGC := Lib.hid hGC
    clear HDE hGC
    simp only [if_true] at HR HO
    obtain ⟨Ag, cg, rfl, hgc, hgm, hgs⟩ := HO.out.sl
    have HGS := Lib.hid hgs
    clear HO hgs
    have HBO := Lib.hid (Bk.new w1 50 #[.slice none 0 0])
    have HB2 := Lib.hid (ba1 w1 (.cells #[.slice none 0 0] 50))
    gi_upto_region 5 with fail
    have hg9 : w.heap.size ≤ w1.heap.size := HB1.out.size
    have hg8 : w1.heap.size ≤ w1.heap.size := Nat.le_refl _
    have hg7 : w1.heap.size < (w1.alloc (.cells #[.slice none 0 0] 50)).heap.size := by simp
    obtain ⟨g9, hgq⟩ : ∃ g, g = w1.heap.size := ⟨_, rfl⟩
    rw [← hgq] at hg7 HBO hg9 ⊢
    have hgl : w1.heap.size < (w1.alloc (.cells #[.slice none 0 0] 50)).heap.size := by simp
    have hg6 : w1.heap.size ≤ g9 := by omega
    clear hgq hg8
    generalize (w1.alloc _) = W3 at *
    have KP := Lib.hid (fun (n : Nat) => pairs_in n Ag G.length cg W3)
    gi_wp2
    refine ⟨trivial, ?_⟩
    refine (KP.out _).mono ?_
    rintro e W0 ⟨rfl, hW0⟩
    simp only
    have hb3 := ba1 W3 (.cells #[.slice Ag G.length cg] 78)
    have hbl3 := Bk.new W3 78 #[.slice Ag G.length cg]
    rw [← hW0] at hb3 hbl3
    generalize W3.heap.size = gl at hbl3 hgl ⊢
    clear hW0
    have hBW := HB2.out.trans (hb3.mono HB2.out.size)
    have HPC : Hid (PC W0 w1.heap.size Ag cg G gl) := Lib.hid ⟨hbl3, HGS.out.below hBW⟩
    have bO' := HBO.out.below hb3 HBO.out.lt
    have HBW := Lib.hid hBW
    have hgs0 : g9 < W0.heap.size := bO'.lt
    clear hbl3 hb3 KP HBO
    gi_wp2
    refine wpIn_rangeFunc_ownH (F := Fence.wide) (n := 6) rfl (by omega) (gf := 44) (lb := #[.pointer (some ⟨gl, 0, none⟩)]) rfl trivial (enters_of Tryd.func44 (by kernel_rfl) rfl)
      (pairs_stops 5 (by omega) w1.heap.size Ag cg G gl W0 HPC.out hBW.size hgc hgm (by omega)) KpP.trans (KpP.put hBW.size) (Below.refl _ _) (fun _ => rfl)
      (fun pre W => (∃ v, Boxed W g9 50 v ∧ W.ownsRow w1.heap.size 58 3 v (pre.filterMap (clB s)).length ((pre.filterMap (clB s)).flatMap clL) ∧ True) ∧ Below w1.heap.size w1 W)
      (fun _ _ _ => False)
      (OwnFrom.and (Own.from (holdsRow_own w1.heap.size g9 50 58 3 (fun pre : List (Gd × Gd) => (pre.filterMap (clB s)).length) (fun pre => (pre.filterMap (clB s)).flatMap clL) (fun _ _ => True)) _) (ownFrom_below (Nat.le_refl _) hBW.size))
      (fun _ _ _ _ _ hs _ _ => hs)
      ⟨⟨_, bO', World.ownsRow_nil _ _ _ _, trivial⟩, hBW⟩
      (fun x a' W => ∃ Ba Bb, g9 < Ba ∧ g9 < Bb ∧ Bk W Ba 85 (gdA x.1) ∧ Bk W Bb 85 (gdA x.2) ∧ a' = { tmps := #[(.agg #[Value.slice h.A1 s.cols.length h.c1, Value.slice h.A2 s.covs.length h.c2, .int .i64 s.l0, .int .i64 s.l1, .int .i64 s.l2, .int .i64 s.l3, Value.slice h.A3 s.rows.length h.c3, Value.slice h.A4 s.frames.length h.c4, Value.slice h.A5 s.tanks.length h.c5, .int .i64 s.m0, .int .i64 s.m1, .int .i64 s.m2, .int .i64 s.m3]), .slice A boxes.length c, .slice A2 l.length c2, .pointer (some ⟨w.heap.size, 0, none⟩), undef, undef, .slice none 0 0, .int .i64 0, .slice Ag G.length cg, .int .i64 0, .pointer (some ⟨g9, 0, none⟩), .pointer (some ⟨Ba, 0, none⟩), .pointer (some ⟨Bb, 0, none⟩), undef, undef, .tuple #[.slice Ag G.length cg, .int .i64 0], (.agg #[Value.slice h.A1 s.cols.length h.c1, Value.slice h.A2 s.covs.length h.c2, .int .i64 s.l0, .int .i64 s.l1, .int .i64 s.l2, .int .i64 s.l3, Value.slice h.A3 s.rows.length h.c3, Value.slice h.A4 s.frames.length h.c4, Value.slice h.A5 s.tanks.length h.c5, .int .i64 s.m0, .int .i64 s.m1, .int .i64 s.m2, .int .i64 s.m3]), .slice A boxes.length c, .slice A2 l.length c2, .tuple #[.slice Ag G.length cg, .int .i64 0], .slice Ag G.length cg, .int .i64 0, .int .i64 0, .bool false, undef, .slice Ag G.length cg, .func (.func 44) #[] #[.pointer (some ⟨gl, 0, none⟩)], .agg (gdA x.1), .agg (gdA x.2), undef, undef, undef, undef, undef, undef, undef, undef, undef, undef, undef, undef, undef, undef, undef, undef, undef, undef, undef, undef, undef, undef, undef, undef, undef, undef, undef, undef, undef], defers := [] })
      (fun x a' _ X Y row hs hg hr => by obtain ⟨Ba, Bb, h1, h2, h3, h4, h5⟩ := hs; exact ⟨Ba, Bb, h1, h2, bk_own Ba 85 (fun (_ : Unit) => gdA x.1) () X Y row h3 hg (fun r e => (hr r e).2), bk_own Bb 85 (fun (_ : Unit) => gdA x.2) () X Y row h4 hg (fun r e => (hr r e).2), h5⟩)
      ?assign ?body ?done ?stop
    case assign =>
      rintro lb pre x W K ⟨⟨v, hv, hrow, _⟩, hB1⟩ hK
      have b1 := ba1 W (.cells (gdA x.1) 85)
      have b2 := ba1 (W.alloc (.cells (gdA x.1) 85)) (.cells (gdA x.2) 85)
      have k1 := Bk.new W 85 (gdA x.1)
      have k2 := Bk.nxt14 (w := W) (.cells (gdA x.1) 85) 85 (gdA x.2)
      have b3 := b1.trans (b2.mono b1.size)
      have hlt := hv.lt
      have hfin := Lib.hid (hK { tmps := #[(.agg #[Value.slice h.A1 s.cols.length h.c1, Value.slice h.A2 s.covs.length h.c2, .int .i64 s.l0, .int .i64 s.l1, .int .i64 s.l2, .int .i64 s.l3, Value.slice h.A3 s.rows.length h.c3, Value.slice h.A4 s.frames.length h.c4, Value.slice h.A5 s.tanks.length h.c5, .int .i64 s.m0, .int .i64 s.m1, .int .i64 s.m2, .int .i64 s.m3]), .slice A boxes.length c, .slice A2 l.length c2, .pointer (some ⟨w.heap.size, 0, none⟩), undef, undef, .slice none 0 0, .int .i64 0, .slice Ag G.length cg, .int .i64 0, .pointer (some ⟨g9, 0, none⟩), .pointer (some ⟨W.heap.size, 0, none⟩), .pointer (some ⟨W.heap.size + 1, 0, none⟩), undef, undef, .tuple #[.slice Ag G.length cg, .int .i64 0], (.agg #[Value.slice h.A1 s.cols.length h.c1, Value.slice h.A2 s.covs.length h.c2, .int .i64 s.l0, .int .i64 s.l1, .int .i64 s.l2, .int .i64 s.l3, Value.slice h.A3 s.rows.length h.c3, Value.slice h.A4 s.frames.length h.c4, Value.slice h.A5 s.tanks.length h.c5, .int .i64 s.m0, .int .i64 s.m1, .int .i64 s.m2, .int .i64 s.m3]), .slice A boxes.length c, .slice A2 l.length c2, .tuple #[.slice Ag G.length cg, .int .i64 0], .slice Ag G.length cg, .int .i64 0, .int .i64 0, .bool false, undef, .slice Ag G.length cg, .func (.func 44) #[] #[.pointer (some ⟨gl, 0, none⟩)], .agg (gdA x.1), .agg (gdA x.2), undef, undef, undef, undef, undef, undef, undef, undef, undef, undef, undef, undef, undef, undef, undef, undef, undef, undef, undef, undef, undef, undef, undef, undef, undef, undef, undef, undef, undef], defers := [] } ((W.alloc (.cells (gdA x.1) 85)).alloc (.cells (gdA x.2) 85)) ((keeps_below14 b3).from _) (KpP.below b3 hB1.size) ⟨⟨v, (hv.alloc _).alloc _, (hrow.alloc _).alloc _, trivial⟩, hB1.trans (b3.mono hB1.size)⟩ ⟨W.heap.size, W.heap.size + 1, hlt, by omega, k1.below b2 k1.lt, k2, rfl⟩)
      obtain ⟨⟨⟨x0, ⟨x1, x2, x3⟩⟩, x4⟩, ⟨⟨y0, ⟨y1, y2, y3⟩⟩, y4⟩⟩ := x
      unfold gdA gdL at hfin
      clear hK b1 b2 b3 k1 k2
      dsimp only [gdA, gdL]
      gi_wp2
      exact hfin.out
    case body =>
      rintro lb pre x a' W hl0 ⟨r, hr⟩ ⟨⟨v, hv, hrow, _⟩, hB⟩ ⟨Ba, Bb, hBa, hBb, bX, bY, rfl⟩ hlt
      have hFN := fun h => fm_no (f := clB s) (l := pre) (x := x) h
      have hFY := fun c h => fm_yes (f := clB s) (l := pre) (x := x) (c := c) h
      have hFL := fm_len (clB s) pre
      have HCB := Lib.hid (clB_eq s x.1 x.2)
      have htab : codeG x.1 x.2 < 256 := tab_lt _ _
      have KC := Lib.hid (fun (n : Nat) (V : World) (hV : TabOK V) => (callsIn_wide (n := n)).2 (code_all x.1.cls x.2.cls V hV))
      have KN1 := Lib.hid (fun (n : Nat) (V : World) (hV : Below w.heap.size w V) => KN.out n V hV x.1.st.slot x.2.st.slot (codeG x.1 x.2) htab)
      have HFN := Lib.hid hFN
      have HFY := Lib.hid hFY
      obtain ⟨⟨⟨x0, ⟨x1, x2, x3⟩⟩, x4⟩, ⟨⟨y0, ⟨y1, y2, y3⟩⟩, y4⟩⟩ := x
      unfold nr at HCB
      unfold codeG at htab HCB KN1
      unfold sltL at KN1
      simp only at HCB htab KC KN1
      generalize nearF s ⟨x1, x2, x3⟩ ⟨y1, y2, y3⟩ (Dg.tab x4 y4) = near at *
      generalize Dg.tab x4 y4 = code at *
      have hwW : Below w.heap.size w W := HB1.out.trans (hB.mono HB1.out.size)
      have HWW := Lib.hid hwW
      have HTW := Lib.hid (HT.out.below hwW HT.out.lt)
      have SC := KE1.out.below hB KE1.out.lt
      have e0 : W.cell? ⟨w.heap.size, 0, none⟩ = some (Value.slice h.A1 s.cols.length h.c1) := SC.cell 0
      have e1 : W.cell? ⟨w.heap.size, 1, none⟩ = some (Value.slice h.A2 s.covs.length h.c2) := SC.cell 1
      have e2 : W.cell? ⟨w.heap.size, 2, none⟩ = some (.int .i64 s.l0) := SC.cell 2
      have e3 : W.cell? ⟨w.heap.size, 3, none⟩ = some (.int .i64 s.l1) := SC.cell 3
      have e4 : W.cell? ⟨w.heap.size, 4, none⟩ = some (.int .i64 s.l2) := SC.cell 4
      have e5 : W.cell? ⟨w.heap.size, 5, none⟩ = some (.int .i64 s.l3) := SC.cell 5
      have e6 : W.cell? ⟨w.heap.size, 6, none⟩ = some (Value.slice h.A3 s.rows.length h.c3) := SC.cell 6
      have e7 : W.cell? ⟨w.heap.size, 7, none⟩ = some (Value.slice h.A4 s.frames.length h.c4) := SC.cell 7
      have e8 : W.cell? ⟨w.heap.size, 8, none⟩ = some (Value.slice h.A5 s.tanks.length h.c5) := SC.cell 8
      have e9 : W.cell? ⟨w.heap.size, 9, none⟩ = some (.int .i64 s.m0) := SC.cell 9
      have e10 : W.cell? ⟨w.heap.size, 10, none⟩ = some (.int .i64 s.m1) := SC.cell 10
      have e11 : W.cell? ⟨w.heap.size, 11, none⟩ = some (.int .i64 s.m2) := SC.cell 11
      have e12 : W.cell? ⟨w.heap.size, 12, none⟩ = some (.int .i64 s.m3) := SC.cell 12
      unfold gdA gdL at bX bY
      simp only at bX bY
      have cx0 : W.cell? ⟨Ba, 0, none⟩ = some (.int .i64 x0) := bX.cell 0
      have cx1 : W.cell? ⟨Ba, 1, none⟩ = some (.int .i64 x1) := bX.cell 1
      have cx2 : W.cell? ⟨Ba, 2, none⟩ = some (.int .i64 x2) := bX.cell 2
      have cx3 : W.cell? ⟨Ba, 3, none⟩ = some (.int .u8 (x3 : Nat)) := bX.cell 3
      have cx4 : W.cell? ⟨Ba, 4, none⟩ = some (.int .u8 (x4 : Nat)) := bX.cell 4
      have cy0 : W.cell? ⟨Bb, 0, none⟩ = some (.int .i64 y0) := bY.cell 0
      have cy1 : W.cell? ⟨Bb, 1, none⟩ = some (.int .i64 y1) := bY.cell 1
      have cy2 : W.cell? ⟨Bb, 2, none⟩ = some (.int .i64 y2) := bY.cell 2
      have cy3 : W.cell? ⟨Bb, 3, none⟩ = some (.int .u8 (y3 : Nat)) := bY.cell 3
      have cy4 : W.cell? ⟨Bb, 4, none⟩ = some (.int .u8 (y4 : Nat)) := bY.cell 4
      dsimp only [gdA, gdL]
      have HBW := Lib.hid hB
      have HV := Lib.hid hv
      have HROW := Lib.hid hrow
      have HBA := Lib.hid bX
      have HBB0 := Lib.hid bY
      have HW1 := hB.size
      clear hFN hFY hwW SC hB hv hrow bX bY hl0 hr
      have HAB := Lib.hid (show Bk W Ba 85 #[.int .i64 x0, .int .i64 x1, .int .i64 x2, .int .u8 (x3 : Nat), .int .u8 (x4 : Nat)] from HBA.out)
      have HBB := Lib.hid (show Bk W Bb 85 #[.int .i64 y0, .int .i64 y1, .int .i64 y2, .int .u8 (y3 : Nat), .int .u8 (y4 : Nat)] from HBB0.out)
      have hfl4 : (pre.filterMap (clB s)).length ≤ 40000 := by
        have h1 : G.length * G.length ≤ 200 * 200 := Nat.mul_le_mul hG200 hG200
        omega
      clear HBA HBB0
      generalize pre.filterMap (clB s) = fm at *
      gi_wp2
      refine ⟨trivial, ?_⟩
      refine (KC.out _ W HTW.out).mono ?_
      rintro e W' ⟨⟨er, rfl⟩, rfl⟩
      simp only
      gi_wp2
      refine ⟨trivial, ?_⟩
      refine (KN1.out _ W HWW.out).mono ?_
      rintro e Y ⟨rfl, hbY⟩
      simp only
      have HKB := Lib.hid (keeps_below14 hbY)
      have HKP := Lib.hid (KpP.below hbY HW1)
      have hvY : Boxed Y g9 50 v := (show Bk W g9 50 #[v] from HV.out).below hbY HV.out.lt
      have hrowY := own_below HROW.out hbY (Nat.le_refl _)
      have HBY := Lib.hid (HBW.out.trans (hbY.mono HW1))
      have HXY := HAB.out.below hbY HAB.out.lt
      have HYY := HBB.out.below hbY HBB.out.lt
      have HVY := Lib.hid hvY
      have HRY := Lib.hid hrowY
      clear KC KN1 hbY cx0 cx1 cx2 cx3 cx4 cy0 cy1 cy2 cy3 cy4 e0 e1 e2 e3 e4 e5 e6 e7 e8 e9 e10 e11 e12 HV HROW HBW HAB HBB HW1 HTW HWW
      cases near with
      | false =>
        have HF := Lib.hid (HFN.out (by rw [HCB.out]; rfl))
        clear hvY hrowY HFN HFY HXY HYY
        gi_wp2
        refine ⟨HKB.out.from _, HKP.out, ⟨_, HVY.out, ?_, trivial⟩, HBY.out⟩
        rw [HF.out]
        exact HRY.out
      | true =>
        have HF := Lib.hid (HFY.out ⟨x0, y0, code⟩ (by rw [HCB.out]; rfl))
        have cv := hvY.cell
        have q0 : Y.cell? ⟨Ba, 0, none⟩ = some (.int .i64 x0) := HXY.cell 0
        have q1 : Y.cell? ⟨Bb, 0, none⟩ = some (.int .i64 y0) := HYY.cell 0
        have hbl := HBY.out.size
        have hnews : ∀ j u, (clL ⟨x0, y0, code⟩)[j]? = some u → (Y.alloc (.cells (clL ⟨x0, y0, code⟩).toArray 58)).cell? ((⟨Y.heap.size, 0, none⟩ : Addr).add j) = some u := fun j u hu => by
          rw [add_mk, Nat.zero_add, (Bk.new Y 58 (clL ⟨x0, y0, code⟩).toArray).cell j]; simpa using hu
        have hsn : (fm ++ [(⟨x0, y0, code⟩ : Cl)]).flatMap clL = fm.flatMap clL ++ clL ⟨x0, y0, code⟩ := by simp
        have HSN := Lib.hid hsn
        have HNW := Lib.hid hnews
        clear hsn hnews hvY HXY HYY HFN HFY HCB
        dsimp only [clL] at HNW HSN ⊢
        gi_wp2_with (gi_at_builtin; refine wpListIn_append_own _ rfl (.tmp 46) (.tmp 55) 50 rfl w1.heap.size 58 i0 z 3 24 el_cl.under hi hz h4 h5 h6 (by decide) v fm.length (fm.flatMap clL) rfl (hrowY.alloc _) ⟨Y.heap.size, 0, none⟩ 1 1 [.int .i64 x0, .int .i64 y0, .int .u8 (code : Nat)] rfl rfl HNW.out ?p1 ?p2 ?p3 ?p4 ?_)
        case p1 => intro u hu; simp at hu; rcases hu with rfl | rfl | rfl <;> rfl
        case p2 => unfold maxLen; omega
        case p3 => omega
        case p4 => simp; omega
        intro v' w2 hown' hgrow _
        obtain ⟨g', cap', rfl⟩ := ownsRow_succ hown'
        have hne : ∀ g t cs, t ≠ 58 → Bk Y g t cs → v.ownBlock ≠ some g := fun g t cs ht hg => own_ne hrowY hg (Ne.symm ht)
        obtain ⟨hv1, hv2, hr2, hk2, hb2⟩ := HVY.out.appended (by decide) hrowY hbl (by omega) hown' hgrow
        have hc1 := hv1.cell
        have hf1 := hv1.frozen
        have hkp : Hid (∀ g t cs, t ≠ 58 → t ≠ 50 → Bk Y g t cs → Bk (w2.setCell ⟨g9, 0, none⟩ (.slice (some ⟨g', 0, none⟩) (fm.length + 1) cap')) g t cs) := Lib.hid fun g t cs ht1 ht2 hg => by
          have k1 : Bk w2 g t cs := (hg.alloc _).grown hgrow (fun e => hne g t cs ht1 hg e.symm)
          exact k1.far (Bk.ne_ k1 (show Bk w2 g9 50 #[v] from hv1) ht2) _
        have H1 := Lib.hid hk2
        have H2 := Lib.hid hb2
        have H3 := Lib.hid hv2
        have H4 := Lib.hid hr2
        clear hk2 hb2 hr2 hv2 hne hown' hgrow hrowY cv q0 q1
        gi_wp2
        refine ⟨(HKB.out.trans H1.out).from _, HKP.out.trans ⟨H2.out, hkp.out⟩, ⟨_, H3.out, ?_, trivial⟩, HBY.out.trans H2.out⟩
        rw [HF.out, HSN.out, List.length_append]
        exact H4.out
    case done =>
      rintro D xs W hD rfl ⟨⟨v, hv, hrow, _⟩, hB⟩ hK
      have cv := hv.cell
      have HBX := Lib.hid (HB1.out.trans ((hB.trans (belowK_b (w := w1) (Nat.le_refl _) W D _ (.deferred none) (by have := hBW.size; omega) hK rfl rfl)).mono HB1.out.size))
      have hsz1 := HB1.out.size
      gi_wp2
      refine ⟨by simp, .inl ⟨_, _, rfl, run_takeDeferred hK, ?_⟩⟩
      refine ⟨_, results_tmp2 rfl _ _ _, ?_⟩
      rw [HR.out, HC.out]
      exact ⟨HBX.out, v, rfl, OwnT.down ⟨_, ownsRow_putObj hrow _ hK rfl, flat_cl _⟩ hsz1⟩
    case stop =>
      rintro D c pre W _ _ hf _
      exact hf.elim
  · skip
    go_enter Tryd.func12, Tryd.ntmps12
    unfold shpA at *
    go_upto_region 1 with fail
    generalize (w.alloc _) = W at *
    have e0 : W.cell? ⟨w.heap.size, 0, none⟩ = some (Value.slice h.A1 s.cols.length h.c1) := KE.out.cell 0
    have e1 : W.cell? ⟨w.heap.size, 1, none⟩ = some (Value.slice h.A2 s.covs.length h.c2) := KE.out.cell 1
    have e2 : W.cell? ⟨w.heap.size, 2, none⟩ = some (.int .i64 s.l0) := KE.out.cell 2
    have e3 : W.cell? ⟨w.heap.size, 3, none⟩ = some (.int .i64 s.l1) := KE.out.cell 3
    have e4 : W.cell? ⟨w.heap.size, 4, none⟩ = some (.int .i64 s.l2) := KE.out.cell 4
    have e5 : W.cell? ⟨w.heap.size, 5, none⟩ = some (.int .i64 s.l3) := KE.out.cell 5
    have e6 : W.cell? ⟨w.heap.size, 6, none⟩ = some (Value.slice h.A3 s.rows.length h.c3) := KE.out.cell 6
    have e7 : W.cell? ⟨w.heap.size, 7, none⟩ = some (Value.slice h.A4 s.frames.length h.c4) := KE.out.cell 7
    have e8 : W.cell? ⟨w.heap.size, 8, none⟩ = some (Value.slice h.A5 s.tanks.length h.c5) := KE.out.cell 8
    have e9 : W.cell? ⟨w.heap.size, 9, none⟩ = some (.int .i64 s.m0) := KE.out.cell 9
    have e10 : W.cell? ⟨w.heap.size, 10, none⟩ = some (.int .i64 s.m1) := KE.out.cell 10
    have e11 : W.cell? ⟨w.heap.size, 11, none⟩ = some (.int .i64 s.m2) := KE.out.cell 11
    have e12 : W.cell? ⟨w.heap.size, 12, none⟩ = some (.int .i64 s.m3) := KE.out.cell 12
    have hne : ((de : Int) != 0) = true := by simp; omega
    go_wp2_with fail
    refine ((callsIn_wide (n := 6)).1 (KDG.out 6)).mono ?_
    rintro e w1 ⟨hb, v, rfl, ho⟩
    simp only
    have HB1 := Lib.hid (HB0.out.trans (hb.mono HB0.out.size))
    have HE2 : Hid (∀ e W, RET e W = (Below w.heap.size w W ∧ ∃ v, e = .returned (.tuple #[v, .int .i64 (de : Nat)]) ∧ OwnT tCl 58 W w.heap.size v [])) := Lib.hid fun e W => by rw [HR.out, if_neg hde]
    clear hb ho
    go_wp2_with fail
    (try go_ret2)
    rw [HE2.out]
    exact ⟨HB1.out, _, rfl, OwnT.nil⟩
end Go.Proofs.YtmhikcleekfbpaaDoor
