/-
  Walks of the law file of chapter 14: Stowage (loaded states with classes), class.
-/
import Derived.Test.YtnbpecnddjpfbaaDoorSgR
namespace Go.Proofs.YtnbpecnddjpfbaaDoor
open Go.RowKit

theorem cell_far14 {w : World} {p : Addr} {u : Value} {b o : Nat} (h : b ≠ p.block) : (w.setCell p u).cell? ⟨b, o, none⟩ = w.cell? ⟨b, o, none⟩ := World.cell?_of_block (Below.heap_setCell w p u b h)
theorem Flat.set14 {α : Type} {T : Ty α} {w : World} {S : Nat → Prop} : ∀ {xs : List Value} {l : List α} {i : Nat} {x x' : α} {j : Nat} {u : Value}, Flat T w S xs l → l[i]? = some x → j < T.k → (∀ cs, T.rd w S cs x → T.rd w S (cs.set j u) x') → Flat T w S (xs.set (i * T.k + j) u) (l.set i x')
  | xs, [], i, x, x', j, u, _, hx, _, _ => by simp at hx
  | xs, y :: l, 0, x, x', j, u, ⟨cs, ys, e, h1, h2⟩, hx, hj, hr => by
    simp at hx; subst hx
    refine ⟨cs.set j u, ys, ?_, hr cs h1, h2⟩
    rw [e, Nat.zero_mul, Nat.zero_add, List.set_append_left _ _ (by rw [T.len h1]; exact hj)]
  | xs, y :: l, i + 1, x, x', j, u, ⟨cs, ys, e, h1, h2⟩, hx, hj, hr => by
    have ih := h2.set14 (i := i) (x' := x') (u := u) (by simpa using hx) hj hr
    refine ⟨cs, ys.set (i * T.k + j) u, ?_, h1, ih⟩
    have hl := T.len h1
    rw [e, List.set_append_right _ _ (by rw [hl, Nat.add_mul]; omega), hl, show (i + 1) * T.k + j - T.k = i * T.k + j by rw [Nat.add_mul]; omega]
theorem OwnS.set14 {α : Type} {T : Ty α} {e : TypeId} {w : World} {base b c : Nat} {S : Nat → Prop} {l : List α} (h : OwnS T e w base S (.slice (some ⟨b, 0, none⟩) l.length c) l) {i : Nat} {x x' : α} {j : Nat} {u : Value} (hx : l[i]? = some x) (hj : j < T.k) (hr : ∀ cs, T.rd w S cs x → T.rd w S (cs.set j u) x') :
    OwnS T e (w.setCell ⟨b, i * T.k + j, none⟩ u) base S (.slice (some ⟨b, 0, none⟩) (l.set i x').length c) (l.set i x') := by
  obtain ⟨xs, h1, h2, h3⟩ := h
  obtain ⟨k1, k2⟩ := h1.stored (i * T.k + j) u
  have hk : ∀ b' o, S b' → (w.setCell ⟨b, i * T.k + j, none⟩ u).cell? ⟨b', o, none⟩ = w.cell? ⟨b', o, none⟩ := fun b' o hb => cell_far14 (by have := (h3 b' hb).2; simpa [Value.ownBlock] using this)
  refine ⟨xs.set (i * T.k + j) u, by rw [List.length_set]; exact k1, (h2.set14 hx hj hr).keep hk, fun b' hb => ⟨Nat.lt_of_lt_of_le (h3 b' hb).1 k2.size, ?_⟩⟩
  rw [List.length_set]
  exact (h3 b' hb).2
theorem OwnS.form14 {α : Type} {T : Ty α} {e : TypeId} {w : World} {base : Nat} {S : Nat → Prop} {v : Value} {l : List α} (h : OwnS T e w base S v l) (hl : 0 < l.length) : ∃ b c, v = .slice (some ⟨b, 0, none⟩) l.length c ∧ base ≤ b ∧ l.length ≤ c ∧ c ≤ maxLen := by
  obtain ⟨xs, h1, _, _⟩ := h
  obtain ⟨_, h0 | ⟨g, cap, cur, hv, hb, _, hn, hm, _⟩⟩ := h1
  · omega
  · exact ⟨g, cap, hv, hb, hn, hm⟩
theorem results_ct2 {P : Program} {fn : Func} {p u v : Tmp} {ty : TypeId} (h : fn.results = #[.cell p ty, .tmp u, .tmp v]) (tmps : Array Value) (w : World) (g : Nat) (t : TypeId) (cs : Array Value) (d : TypeDesc)
    (hp : tmps.getD p undef = .pointer (some ⟨g, 0, none⟩)) (hg : Bk w g t cs)
    (hu : P.underlying ty = some d) (hd : (match d with | .struct _ | .array _ _ => true | _ => false) = true) (hi : (P.info? ty).map (·.size) = some cs.size) :
    (results fn tmps).run P w = .ok (.tuple #[.agg cs, tmps.getD u undef, tmps.getD v undef]) w := by
  simp only [results, h]
  simp [Sem.run_bind, Result.andThen]
  simp only [Array.getD_eq_getD_getElem?] at hp
  rw [hp]
  simp [asAddr, Sem.run_pure, run_loadVar_row w g t ty cs (0, 0) d hg hu hd hi, Sem.run_bind, Result.andThen]
theorem info_shp14 : (Tryd.prog.info? 32).map (·.size) = some 13 := by kernel_rfl
theorem set13y {W : World} {g : Nat} {t : TypeId} {cs : Array Value} (h : Bk W g t cs) (v0 v1 v2 v3 v4 v5 v6 v7 v8 v9 v10 v11 v12 : Value) (hz : cs.size = 13) : Bk (((((((((((((W.setCell ⟨g, 0, none⟩ v0).setCell ⟨g, 1, none⟩ v1).setCell ⟨g, 2, none⟩ v2).setCell ⟨g, 3, none⟩ v3).setCell ⟨g, 4, none⟩ v4).setCell ⟨g, 5, none⟩ v5).setCell ⟨g, 6, none⟩ v6).setCell ⟨g, 7, none⟩ v7).setCell ⟨g, 8, none⟩ v8).setCell ⟨g, 9, none⟩ v9).setCell ⟨g, 10, none⟩ v10).setCell ⟨g, 11, none⟩ v11).setCell ⟨g, 12, none⟩ v12) g t #[v0, v1, v2, v3, v4, v5, v6, v7, v8, v9, v10, v11, v12] := by
  have h9 := (((((((((((((h.set_ 0 v0).set_ 1 v1).set_ 2 v2).set_ 3 v3).set_ 4 v4).set_ 5 v5).set_ 6 v6).set_ 7 v7).set_ 8 v8).set_ 9 v9).set_ 10 v10).set_ 11 v11).set_ 12 v12)
  have e : ∀ cs : Array Value, cs.size = 13 → (((((((((((((cs.setIfInBounds 0 v0).setIfInBounds 1 v1).setIfInBounds 2 v2).setIfInBounds 3 v3).setIfInBounds 4 v4).setIfInBounds 5 v5).setIfInBounds 6 v6).setIfInBounds 7 v7).setIfInBounds 8 v8).setIfInBounds 9 v9).setIfInBounds 10 v10).setIfInBounds 11 v11).setIfInBounds 12 v12) = #[v0, v1, v2, v3, v4, v5, v6, v7, v8, v9, v10, v11, v12] := by
    rintro ⟨l⟩ hz
    match l, hz with
    | [_, _, _, _, _, _, _, _, _, _, _, _, _], _ => simp
  rw [e cs hz] at h9
  exact h9
theorem be_set13y {w W : World} {B g : Nat} (h : Below B w W) (hg : B ≤ g) (v0 v1 v2 v3 v4 v5 v6 v7 v8 v9 v10 v11 v12 : Value) : Below B w (((((((((((((W.setCell ⟨g, 0, none⟩ v0).setCell ⟨g, 1, none⟩ v1).setCell ⟨g, 2, none⟩ v2).setCell ⟨g, 3, none⟩ v3).setCell ⟨g, 4, none⟩ v4).setCell ⟨g, 5, none⟩ v5).setCell ⟨g, 6, none⟩ v6).setCell ⟨g, 7, none⟩ v7).setCell ⟨g, 8, none⟩ v8).setCell ⟨g, 9, none⟩ v9).setCell ⟨g, 10, none⟩ v10).setCell ⟨g, 11, none⟩ v11).setCell ⟨g, 12, none⟩ v12) := (((((((((((((h.setCell (p := ⟨g, 0, none⟩) hg v0).setCell (p := ⟨g, 1, none⟩) hg v1).setCell (p := ⟨g, 2, none⟩) hg v2).setCell (p := ⟨g, 3, none⟩) hg v3).setCell (p := ⟨g, 4, none⟩) hg v4).setCell (p := ⟨g, 5, none⟩) hg v5).setCell (p := ⟨g, 6, none⟩) hg v6).setCell (p := ⟨g, 7, none⟩) hg v7).setCell (p := ⟨g, 8, none⟩) hg v8).setCell (p := ⟨g, 9, none⟩) hg v9).setCell (p := ⟨g, 10, none⟩) hg v10).setCell (p := ⟨g, 11, none⟩) hg v11).setCell (p := ⟨g, 12, none⟩) hg v12)
theorem OwnT.farP {α : Type} {T : Ty α} (hp : Plain T) {e : TypeId} {w : World} {base : Nat} {v : Value} {l : List α} {p : Addr} (h : OwnT T e w base v l) (hb : p.block < base) (u : Value) : OwnT T e (w.setCell p u) base v l := by
  obtain ⟨xs, ho, hf⟩ := h
  exact ⟨xs, ho.kept (grown_setCell w p u) (.inr fun e => by have := (ho.lt _ e).1; omega), hf.plain hp⟩
theorem plain_colN : Plain tColN := fun h => h
/-- A ship that Built has made, by its own blocks. -/
structure BuK (W : World) (B : Nat) (s : Shp) (h : Hd) (gs : List Nat) : Prop where
  cols : OwnT tColN 35 W B (.slice h.A1 s.cols.length h.c1) s.cols
  cov : CovOwn W B (.slice h.A2 s.covs.length h.c2) s.covs gs
theorem BuK.on {W W' : World} {B : Nat} {s : Shp} {h : Hd} {gs : List Nat} (k : BuK W B s h gs) (hb : Below W.heap.size W W') : BuK W' B s h gs := ⟨k.cols.below hb, k.cov.below hb⟩
theorem BuK.far {W : World} {B : Nat} {s : Shp} {h : Hd} {gs : List Nat} {p : Addr} (k : BuK W B s h gs) (hp : p.block < B) (u : Value) : BuK (W.setCell p u) B s h gs := ⟨k.cols.farP plain_colN hp u, k.cov.far hp u⟩
theorem BuK.rd {W w0 : World} {B : Nat} {s : Shp} {h : Hd} {gs : List Nat} {S : Nat → Prop} (k : BuK W B s h gs) (hb : Bu s) (r : ShpR w0 S s h) : ShpR W (Lt W.heap.size) s h := by
  have h3 : s.rows = [] := by rw [hb.eq]; rfl
  have h4 : s.frames = [] := by rw [hb.eq]; rfl
  have h5 : s.tanks = [] := by rw [hb.eq]; rfl
  exact ⟨r.n1, r.n2, r.n3, r.n4, r.n5, r.m1, r.m2, r.m3, r.m4, r.m5, ownT_sl k.cols.ofN, ownT_sl k.cov.ownT, by rw [h3]; exact SlT.nil, by rw [h4]; exact SlT.nil, by rw [h5]; exact SlT.nil⟩
theorem BuK.set13 {W : World} {B g : Nat} {s : Shp} {h : Hd} {gs : List Nat} (k : BuK W B s h gs) (hg : g < B) (v0 v1 v2 v3 v4 v5 v6 v7 v8 v9 v10 v11 v12 : Value) : BuK (((((((((((((W.setCell ⟨g, 0, none⟩ v0).setCell ⟨g, 1, none⟩ v1).setCell ⟨g, 2, none⟩ v2).setCell ⟨g, 3, none⟩ v3).setCell ⟨g, 4, none⟩ v4).setCell ⟨g, 5, none⟩ v5).setCell ⟨g, 6, none⟩ v6).setCell ⟨g, 7, none⟩ v7).setCell ⟨g, 8, none⟩ v8).setCell ⟨g, 9, none⟩ v9).setCell ⟨g, 10, none⟩ v10).setCell ⟨g, 11, none⟩ v11).setCell ⟨g, 12, none⟩ v12) B s h gs := (((((((((((((k.far (p := ⟨g, 0, none⟩) hg v0).far (p := ⟨g, 1, none⟩) hg v1).far (p := ⟨g, 2, none⟩) hg v2).far (p := ⟨g, 3, none⟩) hg v3).far (p := ⟨g, 4, none⟩) hg v4).far (p := ⟨g, 5, none⟩) hg v5).far (p := ⟨g, 6, none⟩) hg v6).far (p := ⟨g, 7, none⟩) hg v7).far (p := ⟨g, 8, none⟩) hg v8).far (p := ⟨g, 9, none⟩) hg v9).far (p := ⟨g, 10, none⟩) hg v10).far (p := ⟨g, 11, none⟩) hg v11).far (p := ⟨g, 12, none⟩) hg v12)
theorem OwnT.set13P {α : Type} {T : Ty α} (hp : Plain T) {e : TypeId} {W : World} {B g : Nat} {v : Value} {l : List α} (k : OwnT T e W B v l) (hg : g < B) (v0 v1 v2 v3 v4 v5 v6 v7 v8 v9 v10 v11 v12 : Value) : OwnT T e (((((((((((((W.setCell ⟨g, 0, none⟩ v0).setCell ⟨g, 1, none⟩ v1).setCell ⟨g, 2, none⟩ v2).setCell ⟨g, 3, none⟩ v3).setCell ⟨g, 4, none⟩ v4).setCell ⟨g, 5, none⟩ v5).setCell ⟨g, 6, none⟩ v6).setCell ⟨g, 7, none⟩ v7).setCell ⟨g, 8, none⟩ v8).setCell ⟨g, 9, none⟩ v9).setCell ⟨g, 10, none⟩ v10).setCell ⟨g, 11, none⟩ v11).setCell ⟨g, 12, none⟩ v12) B v l := (((((((((((((k.farP hp (p := ⟨g, 0, none⟩) hg v0).farP hp (p := ⟨g, 1, none⟩) hg v1).farP hp (p := ⟨g, 2, none⟩) hg v2).farP hp (p := ⟨g, 3, none⟩) hg v3).farP hp (p := ⟨g, 4, none⟩) hg v4).farP hp (p := ⟨g, 5, none⟩) hg v5).farP hp (p := ⟨g, 6, none⟩) hg v6).farP hp (p := ⟨g, 7, none⟩) hg v7).farP hp (p := ⟨g, 8, none⟩) hg v8).farP hp (p := ⟨g, 9, none⟩) hg v9).farP hp (p := ⟨g, 10, none⟩) hg v10).farP hp (p := ⟨g, 11, none⟩) hg v11).farP hp (p := ⟨g, 12, none⟩) hg v12)
/-- A loaded state with classes, as it comes back. -/
def StwRet (w : World) (e : Ending) (w' : World) : Prop :=
  ∃ (s : Shp) (h : Hd) (A1 : Option Addr) (q1 : Nat) (bs : List Bx) (A3 : Option Addr) (q3 : Nat) (st : List Stw), e = .returned (.tuple #[.agg (shpA s h), .slice A1 bs.length q1, .slice A3 st.length q3]) ∧
    Bu s ∧ Sd s bs st ∧ ShpR w' (Lt w'.heap.size) s h ∧ SlT tBx w' (Lt w'.heap.size) A1 bs ∧ SlT tStw w' (Lt w'.heap.size) A3 st ∧ st.length ≤ q3 ∧ q3 ≤ maxLen ∧ Below w.heap.size w w'
set_option maxRecDepth 100000 in
set_option maxHeartbeats 8000000 in
theorem stowage_any (A : Option Addr) (c : Nat) (pl : List (Nat × Nat × Nat × Bool)) (covers : Nat) (A2 : Option Addr) (c2 : Nat) (ds : List Drp) (A3 : Option Addr) (c3 : Nat) (cs : List Nat) (w : World)
    (hs : SlT tPl w (Lt w.heap.size) A pl) (hl : ∀ p ∈ pl, p.1 < 256 ∧ p.2.1 < 256 ∧ p.2.2.1 < 256) (hc : pl.length ≤ c) (hcm : c ≤ maxLen)
    (hs2 : SlT tDrp w (Lt w.heap.size) A2 ds) (hd : ∀ d ∈ ds, d.col < 256 ∧ d.kilos < 256) (hc2 : ds.length ≤ c2) (hcm2 : c2 ≤ maxLen)
    (hs3 : SlT tU8 w (Lt w.heap.size) A3 cs) (hlc : ∀ x ∈ cs, x < 256) (hc3 : cs.length ≤ c3) (hcm3 : c3 ≤ maxLen) :
    Calls Tryd.prog 15 #[.slice A pl.length c, .int .u32 covers, .slice A2 ds.length c2, .slice A3 cs.length c3] w (StwRet w) := by
  have hb0 := ba1 w (.cells #[.slice none 0 0, .slice none 0 0, .int .i64 0, .int .i64 0, .int .i64 0, .int .i64 0, .slice none 0 0, .slice none 0 0, .slice none 0 0, .int .i64 0, .int .i64 0, .int .i64 0, .int .i64 0] 32)
  have HB0 := Lib.hid hb0
  have KZ := Lib.hid (Bk.new w 32 #[.slice none 0 0, .slice none 0 0, .int .i64 0, .int .i64 0, .int .i64 0, .int .i64 0, .slice none 0 0, .slice none 0 0, .slice none 0 0, .int .i64 0, .int .i64 0, .int .i64 0, .int .i64 0])
  have KBU := Lib.hid (built_n (covers := covers) (hs.on hb0) hl hc hcm)
  have HS2 := Lib.hid (hs2.on hb0)
  have HS3 := Lib.hid (hs3.on hb0)
  have HD := Lib.hid hd
  have HLC := Lib.hid hlc
  clear hs hl hc hcm hs2 hs3 hb0 hd hlc
  unfold maxLen at hcm2 hcm3
  go_enter Tryd.func15, Tryd.ntmps15
  go_upto_region 1 with fail
  generalize (w.alloc _) = W at *
  go_wp2_with fail
  refine KBU.out.mono ?_
  rintro e w1 ⟨s, h, gs, rfl, hBu, hk1, hk2, hrd, hb1⟩
  simp only
  have hb2 := ba1 w1 (.cells (shpA s h) 32)
  have KE := Lib.hid (Bk.new w1 32 (shpA s h))
  have HS := Lib.hid (hrd.on hb2)
  have HB2 := Lib.hid (HB0.out.trans ((hb1.trans (hb2.mono hb1.size)).mono HB0.out.size))
  have KZ2 := Lib.hid ((KZ.out.below hb1 KZ.out.lt).below hb2 (KZ.out.below hb1 KZ.out.lt).lt)
  have HD2 := Lib.hid ((HS2.out.on hb1).on hb2)
  have HD3 := Lib.hid ((HS3.out.on hb1).on hb2)
  have HBU := Lib.hid hBu
  have HBK := Lib.hid ((BuK.mk hk1 hk2).on hb2)
  have hgb : w.heap.size < W.heap.size := KZ.out.lt
  have hgr : w.heap.size < w1.heap.size := Nat.lt_of_lt_of_le KZ.out.lt hb1.size
  clear hrd hk1 hk2 hb1 hb2 HB0 KZ KBU HS2 HS3 hBu
  unfold shpA at *
  go_upto_region 2 with fail
  generalize w1.heap.size = g at *
  generalize (w1.alloc _) = V at *
  try clear w1
  generalize W.heap.size = B0 at *
  try clear W
  have KLD := Lib.hid (loaded_any s h A2 c2 ds 12 V (by decide) HS.out HBU.out.right HBU.out.Few HBU.out.ints HBU.out.one HBU.out.short (fun c => by have := HBU.out.tiers14 c; omega) (fun size => by have := HBU.out.all14 size; omega) HD2.out HD.out hc2 (by unfold maxLen; omega))
  have SC := KE.out
  have HSD := Lib.hid (loaded_sd HBU.out.right ds cs)
  unfold shpA at KLD
  have e0 : V.cell? ⟨g, 0, none⟩ = some (Value.slice h.A1 s.cols.length h.c1) := SC.cell 0
  have e1 : V.cell? ⟨g, 1, none⟩ = some (Value.slice h.A2 s.covs.length h.c2) := SC.cell 1
  have e2 : V.cell? ⟨g, 2, none⟩ = some (.int .i64 s.l0) := SC.cell 2
  have e3 : V.cell? ⟨g, 3, none⟩ = some (.int .i64 s.l1) := SC.cell 3
  have e4 : V.cell? ⟨g, 4, none⟩ = some (.int .i64 s.l2) := SC.cell 4
  have e5 : V.cell? ⟨g, 5, none⟩ = some (.int .i64 s.l3) := SC.cell 5
  have e6 : V.cell? ⟨g, 6, none⟩ = some (Value.slice h.A3 s.rows.length h.c3) := SC.cell 6
  have e7 : V.cell? ⟨g, 7, none⟩ = some (Value.slice h.A4 s.frames.length h.c4) := SC.cell 7
  have e8 : V.cell? ⟨g, 8, none⟩ = some (Value.slice h.A5 s.tanks.length h.c5) := SC.cell 8
  have e9 : V.cell? ⟨g, 9, none⟩ = some (.int .i64 s.m0) := SC.cell 9
  have e10 : V.cell? ⟨g, 10, none⟩ = some (.int .i64 s.m1) := SC.cell 10
  have e11 : V.cell? ⟨g, 11, none⟩ = some (.int .i64 s.m2) := SC.cell 11
  have e12 : V.cell? ⟨g, 12, none⟩ = some (.int .i64 s.m3) := SC.cell 12
  clear SC
  go_wp2_with fail
  refine KLD.out.mono ?_
  rintro e W ⟨v1, v2, rfl, ho1, ho2, hb⟩
  simp only
  obtain ⟨A1, q1, rfl, hq1, hm1, _⟩ := ho1.sl'
  obtain ⟨A4, q4, rfl, hq4, hm4, _⟩ := ho2.sl'
  have HO1 := Lib.hid ho1
  have HO2 := Lib.hid ho2
  have HVW := Lib.hid hb
  have HB3 := Lib.hid (HB2.out.trans (hb.mono HB2.out.size))
  clear ho1 ho2 hb KLD HB3 HD HD2 e0 e1 e2 e3 e4 e5 e6 e7 e8 e9 e10 e11 e12
  generalize (loadedF s ds 12).2 = st at *
  generalize (loadedF s ds 12).1 = bs at *
  have hb12 : bs.length ≤ 12 := by have := HSD.out.blen; rwa [clsTo_len] at this
  go_wp2_with fail
  go_loopw [26] (fun i wr => ∃ k : Nat, k ≤ bs.length ∧ i = .int .i64 k ∧ Hid (OwnS tBx 41 wr V.heap.size (Lt V.heap.size) (.slice A1 bs.length q1) (clsTo cs bs k)) ∧ Hid (OwnS tStw 44 wr V.heap.size (Lt V.heap.size) (.slice A4 st.length q4) st) ∧ Hid (Below V.heap.size V wr)) (fun i _ => bs.length - (intOf i).toNat)
  case atStart => exact ⟨0, Nat.zero_le _, rfl, by rw [clsTo_zero]; exact HO1, HO2, HVW⟩
  case round =>
    clear HO1 HO2 HVW
    try clear W
    obtain ⟨k, hk, rfl, HO1, HO2, HVX⟩ := hrel
    obtain ⟨X, rfl⟩ : ∃ V, V = wr := ⟨_, rfl⟩
    by_cases hlt : k < bs.length
    · have i0 : (0 : Int) ≤ (k : Int) := by omega
      have i1 : (k : Int) < (bs.length : Int) := by omega
      have hk1 : k + 1 ≤ bs.length := hlt
      by_cases hkc : k < cs.length
      · have j1 : (k : Int) < (cs.length : Int) := by omega
        obtain ⟨b3, o3, rfl, _, y0⟩ := (HD3.out.on HVX.out).u8 hkc
        have hz := HLC.out _ (getD_memD hkc 0)
        have hat := clsTo_at cs bs hlt
        have hset := clsTo_set cs bs hlt
        have hcl : clsB cs k (bs.getD k zBx) = { bs.getD k zBx with cls := cs.getD k 0 % 10 } := by unfold clsB; rw [if_pos hkc]
        rw [hcl] at hset
        have hln := clsTo_len cs bs k
        obtain ⟨b, q9, hA1, hbb, _, _⟩ := HO1.out.form14 (by rw [hln]; omega)
        injection hA1 with hA1
        subst hA1
        have HOX := HO1.out
        rw [← hln] at HOX
        generalize bs.getD k zBx = x at *
        generalize cs.getD k 0 = z at *
        obtain ⟨xs, ho, hfl, _⟩ := HO1.out
        obtain ⟨cs', hrd', hcc⟩ := hfl.at_ hat
        have hrd' : cs' = bxL x := hrd'
        subst hrd'
        have d7 : X.cell? ⟨b, k * 9 + 7, none⟩ = some (.int .u8 (x.cls : Nat)) := by
          have := ho.cells (g := b) rfl (k * 9 + 7) _ (hcc 7 _ rfl)
          rw [add_mk, Nat.zero_add] at this
          exact this
        have f7 : X.frozen? ⟨b, k * 9 + 7, none⟩ = false := by
          obtain ⟨xs2, ho2, _⟩ := HOX
          exact ho2.frozenAt _
        have HON : Hid (OwnS tBx 41 (X.setCell ⟨b, k * 9 + 7, none⟩ (.int .u8 ((z : Int) % 10))) V.heap.size (Lt V.heap.size) (.slice (some ⟨b, 0, none⟩) bs.length q1) (clsTo cs bs (k + 1))) := Lib.hid (by
          have h9 := HOX.set14 (i := k) (j := 7) (u := .int .u8 ((z : Int) % 10)) (x' := { x with cls := z % 10 }) hat (by decide) (by
            intro c9 h9
            have h9 : c9 = bxL x := h9
            subst h9
            show (bxL x).set 7 _ = bxL _
            unfold bxL
            simp only [List.set_cons_succ, List.set_cons_zero]
            rw [show ((z % 10 : Nat) : Int) = (z : Int) % 10 by omega])
          rw [hset, clsTo_len] at h9
          exact h9)
        have HSN : Hid (OwnS tStw 44 (X.setCell ⟨b, k * 9 + 7, none⟩ (.int .u8 ((z : Int) % 10))) V.heap.size (Lt V.heap.size) (.slice A4 st.length q4) st) := Lib.hid (HO2.out.stay HO1.out (by decide) (grown_setCell X ⟨b, k * 9 + 7, none⟩ _))
        have HVN : Hid (Below V.heap.size V (X.setCell ⟨b, k * 9 + 7, none⟩ (.int .u8 ((z : Int) % 10)))) := Lib.hid (HVX.out.setCell (p := ⟨b, k * 9 + 7, none⟩) hbb _)
        clear hcc hfl ho hset hat hcl hln HOX HO1 HO2
        go_wp2_with fail
        go_roundw
        case rel => (first | exact ⟨k + 1, hk1, by go_num, HON, HSN, HVN⟩ | ((repeat apply Exists.intro); (first | exact ⟨⟨k + 1, hk1, by go_num, HON, HSN, HVN⟩, rfl⟩ | exact ⟨hk1, by go_num, HON, HSN, HVN⟩)))
        case measure => simp [intOf]; omega
      · have HON : Hid (OwnS tBx 41 X V.heap.size (Lt V.heap.size) (.slice A1 bs.length q1) (clsTo cs bs (k + 1))) := Lib.hid (by rw [← clsTo_skip cs bs hlt hkc]; exact HO1.out)
        have j1 : decide ((k : Int) < (cs.length : Int)) = false := decide_eq_false (by omega)
        have j2 : decide (k < cs.length) = false := decide_eq_false hkc
        go_wp2_with fail
        go_roundw
        case rel => (first | exact ⟨k + 1, hk1, by go_num, HON, HO2, HVX⟩ | ((repeat apply Exists.intro); (first | exact ⟨⟨k + 1, hk1, by go_num, HON, HO2, HVX⟩, rfl⟩ | exact ⟨hk1, by go_num, HON, HO2, HVX⟩)))
        case measure => simp [intOf]; omega
    · obtain rfl : k = bs.length := by omega
      have KZX := Lib.hid (KZ2.out.below HVX.out KZ2.out.lt)
      have KEX := Lib.hid (KE.out.below HVX.out KE.out.lt)
      have HBX := Lib.hid (HB2.out.trans (HVX.out.mono HB2.out.size))
      have HKX := Lib.hid (HBK.out.on HVX.out)
      have hsz := HB2.out.size
      have hr : w.heap.size < V.heap.size := KZ2.out.lt
      have e0 : X.cell? ⟨g, 0, none⟩ = some (Value.slice h.A1 s.cols.length h.c1) := KEX.out.cell 0
      have e1 : X.cell? ⟨g, 1, none⟩ = some (Value.slice h.A2 s.covs.length h.c2) := KEX.out.cell 1
      have e2 : X.cell? ⟨g, 2, none⟩ = some (.int .i64 s.l0) := KEX.out.cell 2
      have e3 : X.cell? ⟨g, 3, none⟩ = some (.int .i64 s.l1) := KEX.out.cell 3
      have e4 : X.cell? ⟨g, 4, none⟩ = some (.int .i64 s.l2) := KEX.out.cell 4
      have e5 : X.cell? ⟨g, 5, none⟩ = some (.int .i64 s.l3) := KEX.out.cell 5
      have e6 : X.cell? ⟨g, 6, none⟩ = some (Value.slice h.A3 s.rows.length h.c3) := KEX.out.cell 6
      have e7 : X.cell? ⟨g, 7, none⟩ = some (Value.slice h.A4 s.frames.length h.c4) := KEX.out.cell 7
      have e8 : X.cell? ⟨g, 8, none⟩ = some (Value.slice h.A5 s.tanks.length h.c5) := KEX.out.cell 8
      have e9 : X.cell? ⟨g, 9, none⟩ = some (.int .i64 s.m0) := KEX.out.cell 9
      have e10 : X.cell? ⟨g, 10, none⟩ = some (.int .i64 s.m1) := KEX.out.cell 10
      have e11 : X.cell? ⟨g, 11, none⟩ = some (.int .i64 s.m2) := KEX.out.cell 11
      have e12 : X.cell? ⟨g, 12, none⟩ = some (.int .i64 s.m3) := KEX.out.cell 12
      have z0 : X.cell? ⟨w.heap.size, 0, none⟩ = some (.slice none 0 0) := KZX.out.cell 0
      have f0 := KZX.out.frozen 0
      have z1 : X.cell? ⟨w.heap.size, 1, none⟩ = some (.slice none 0 0) := KZX.out.cell 1
      have f1 := KZX.out.frozen 1
      have z2 : X.cell? ⟨w.heap.size, 2, none⟩ = some (.int .i64 0) := KZX.out.cell 2
      have f2 := KZX.out.frozen 2
      have z3 : X.cell? ⟨w.heap.size, 3, none⟩ = some (.int .i64 0) := KZX.out.cell 3
      have f3 := KZX.out.frozen 3
      have z4 : X.cell? ⟨w.heap.size, 4, none⟩ = some (.int .i64 0) := KZX.out.cell 4
      have f4 := KZX.out.frozen 4
      have z5 : X.cell? ⟨w.heap.size, 5, none⟩ = some (.int .i64 0) := KZX.out.cell 5
      have f5 := KZX.out.frozen 5
      have z6 : X.cell? ⟨w.heap.size, 6, none⟩ = some (.slice none 0 0) := KZX.out.cell 6
      have f6 := KZX.out.frozen 6
      have z7 : X.cell? ⟨w.heap.size, 7, none⟩ = some (.slice none 0 0) := KZX.out.cell 7
      have f7 := KZX.out.frozen 7
      have z8 : X.cell? ⟨w.heap.size, 8, none⟩ = some (.slice none 0 0) := KZX.out.cell 8
      have f8 := KZX.out.frozen 8
      have z9 : X.cell? ⟨w.heap.size, 9, none⟩ = some (.int .i64 0) := KZX.out.cell 9
      have f9 := KZX.out.frozen 9
      have z10 : X.cell? ⟨w.heap.size, 10, none⟩ = some (.int .i64 0) := KZX.out.cell 10
      have f10 := KZX.out.frozen 10
      have z11 : X.cell? ⟨w.heap.size, 11, none⟩ = some (.int .i64 0) := KZX.out.cell 11
      have f11 := KZX.out.frozen 11
      have z12 : X.cell? ⟨w.heap.size, 12, none⟩ = some (.int .i64 0) := KZX.out.cell 12
      have f12 := KZX.out.frozen 12
      go_wp2_with fail
      have HKF := Lib.hid (HKX.out.set13 hgb (Value.slice h.A1 s.cols.length h.c1) (Value.slice h.A2 s.covs.length h.c2) (.int .i64 s.l0) (.int .i64 s.l1) (.int .i64 s.l2) (.int .i64 s.l3) (Value.slice h.A3 s.rows.length h.c3) (Value.slice h.A4 s.frames.length h.c4) (Value.slice h.A5 s.tanks.length h.c5) (.int .i64 s.m0) (.int .i64 s.m1) (.int .i64 s.m2) (.int .i64 s.m3))
      have HB1F := Lib.hid (HO1.out.toT.set13P plain_bx hr (Value.slice h.A1 s.cols.length h.c1) (Value.slice h.A2 s.covs.length h.c2) (.int .i64 s.l0) (.int .i64 s.l1) (.int .i64 s.l2) (.int .i64 s.l3) (Value.slice h.A3 s.rows.length h.c3) (Value.slice h.A4 s.frames.length h.c4) (Value.slice h.A5 s.tanks.length h.c5) (.int .i64 s.m0) (.int .i64 s.m1) (.int .i64 s.m2) (.int .i64 s.m3))
      have HB2F := Lib.hid (HO2.out.toT.set13P plain_stw hr (Value.slice h.A1 s.cols.length h.c1) (Value.slice h.A2 s.covs.length h.c2) (.int .i64 s.l0) (.int .i64 s.l1) (.int .i64 s.l2) (.int .i64 s.l3) (Value.slice h.A3 s.rows.length h.c3) (Value.slice h.A4 s.frames.length h.c4) (Value.slice h.A5 s.tanks.length h.c5) (.int .i64 s.m0) (.int .i64 s.m1) (.int .i64 s.m2) (.int .i64 s.m3))
      refine bodyPost_ret (results_ct2 rfl _ _ w.heap.size 32 #[Value.slice h.A1 s.cols.length h.c1, Value.slice h.A2 s.covs.length h.c2, .int .i64 s.l0, .int .i64 s.l1, .int .i64 s.l2, .int .i64 s.l3, Value.slice h.A3 s.rows.length h.c3, Value.slice h.A4 s.frames.length h.c4, Value.slice h.A5 s.tanks.length h.c5, .int .i64 s.m0, .int .i64 s.m1, .int .i64 s.m2, .int .i64 s.m3] _ rfl (set13y KZX.out (Value.slice h.A1 s.cols.length h.c1) (Value.slice h.A2 s.covs.length h.c2) (.int .i64 s.l0) (.int .i64 s.l1) (.int .i64 s.l2) (.int .i64 s.l3) (Value.slice h.A3 s.rows.length h.c3) (Value.slice h.A4 s.frames.length h.c4) (Value.slice h.A5 s.tanks.length h.c5) (.int .i64 s.m0) (.int .i64 s.m1) (.int .i64 s.m2) (.int .i64 s.m3) rfl) Tryd.underlying32 rfl info_shp14) rfl ?_
      obtain ⟨A8, q8, e8, hq8, hm8, hs8⟩ := HB1F.out.sl
      obtain ⟨A9, q9, e9, hq9, hm9, hs9⟩ := HB2F.out.sl
      injection e8 with e81 e82 e83
      injection e9 with e91 e92 e93
      subst e81 e83 e91 e93
      exact ⟨s, h, A1, q1, clsTo cs bs bs.length, A4, q4, st, by rw [clsTo_len]; rfl, HBU.out, HSD.out, HKF.out.rd HBU.out HS.out, hs8, hs9, hq9, hm9, be_set13y HBX.out (Nat.le_refl _) (Value.slice h.A1 s.cols.length h.c1) (Value.slice h.A2 s.covs.length h.c2) (.int .i64 s.l0) (.int .i64 s.l1) (.int .i64 s.l2) (.int .i64 s.l3) (Value.slice h.A3 s.rows.length h.c3) (Value.slice h.A4 s.frames.length h.c4) (Value.slice h.A5 s.tanks.length h.c5) (.int .i64 s.m0) (.int .i64 s.m1) (.int .i64 s.m2) (.int .i64 s.m3)⟩
end Go.Proofs.YtnbpecnddjpfbaaDoor
