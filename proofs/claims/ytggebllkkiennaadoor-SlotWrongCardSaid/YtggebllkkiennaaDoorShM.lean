/-
  The walk of the statements' Built.
-/
import Derived.Test.YtggebllkkiennaaDoorShN
namespace Go.Proofs.YtggebllkkiennaaDoor
open Go.RowKit

theorem info_ship : (Tryd.prog.info? 32).map (·.size) = some 13 := by kernel_rfl
theorem shp_one (s : Shp) (h : Hd) : (shpA s h).all (·.oneCell') = true := by simp [shpA, Value.oneCell']
theorem results_row1 {P : Program} {fn : Func} {p : Tmp} {ty : TypeId} (h : fn.results = #[.cell p ty]) (tmps : Array Value) (w : World) (g : Nat) (t : TypeId) (cs : Array Value) (d : TypeDesc)
    (hp : tmps.getD p undef = .pointer (some ⟨g, 0, none⟩)) (hg : Bk w g t cs)
    (hu : P.underlying ty = some d) (hd : (match d with | .struct _ | .array _ _ => true | _ => false) = true) (hi : (P.info? ty).map (·.size) = some cs.size) :
    (results fn tmps).run P w = .ok (.agg cs) w := by
  simp only [results, h]
  simp [Sem.run_bind, Result.andThen]
  simp only [Array.getD_eq_getD_getElem?] at hp
  rw [hp]
  simp only [asAddr, Sem.run_pure, run_loadVar_row w g t ty cs (0, 0) d hg hu hd hi]
def zShp : Array Value := shpA (shp0 [] []) (hd0 none 0 none 0)
/-- What the first loop of Built keeps. -/
structure B1 (w wr : World) (g : Nat) (l : List Col) (A1 : Option Addr) (c1 : Nat) : Prop where
  good : Cols l
  own : OwnT tCol 54 wr (g + 2) (.slice A1 l.length c1) l
  cap : l.length ≤ c1 ∧ c1 ≤ maxLen
  kz : Bk wr g 32 zShp
  ks : Bk wr (g + 1) 32 (shpA (shp0 l []) (hd0 A1 c1 none 0))
  be : Below g w wr
theorem B1.on {w wr wx : World} {g : Nat} {l : List Col} {A1 : Option Addr} {c1 : Nat} (h : B1 w wr g l A1 c1) (hb : Below wr.heap.size wr wx) : B1 w wx g l A1 c1 :=
  ⟨h.good, h.own.below hb, h.cap, h.kz.below hb h.kz.lt, h.ks.below hb h.ks.lt, h.be.trans (hb.mono (by have := h.kz.lt; omega))⟩
theorem B1.rd {w wr : World} {g : Nat} {l : List Col} {A1 : Option Addr} {c1 : Nat} (h : B1 w wr g l A1 c1) : ShpR wr (Lt wr.heap.size) (shp0 l []) (hd0 A1 c1 none 0) := by
  obtain ⟨A, c, e, h1, h2, h3⟩ := h.own.sl
  injection e with e1 _ e3
  subst e1
  exact ⟨h.cap.1, Nat.zero_le _, Nat.zero_le _, Nat.zero_le _, Nat.zero_le _, h.cap.2, by simp [hd0], by simp [hd0], by simp [hd0], by simp [hd0], h3, SlT.nil, SlT.nil, SlT.nil, SlT.nil⟩
theorem B1.cells {w wr : World} {g : Nat} {l : List Col} {A1 : Option Addr} {c1 : Nat} (h : B1 w wr g l A1 c1) :
    wr.cell? ⟨g + 1, 0, none⟩ = some (.slice A1 l.length c1) ∧ wr.cell? ⟨g + 1, 1, none⟩ = some (.slice none 0 0) ∧ wr.cell? ⟨g + 1, 2, none⟩ = some (.int .i64 0) ∧ wr.cell? ⟨g + 1, 3, none⟩ = some (.int .i64 0) ∧ wr.cell? ⟨g + 1, 4, none⟩ = some (.int .i64 0) ∧ wr.cell? ⟨g + 1, 5, none⟩ = some (.int .i64 0) ∧
      wr.cell? ⟨g + 1, 6, none⟩ = some (.slice none 0 0) ∧ wr.cell? ⟨g + 1, 7, none⟩ = some (.slice none 0 0) ∧ wr.cell? ⟨g + 1, 8, none⟩ = some (.slice none 0 0) ∧ wr.cell? ⟨g + 1, 9, none⟩ = some (.int .i64 0) ∧ wr.cell? ⟨g + 1, 10, none⟩ = some (.int .i64 0) ∧ wr.cell? ⟨g + 1, 11, none⟩ = some (.int .i64 0) ∧ wr.cell? ⟨g + 1, 12, none⟩ = some (.int .i64 0) :=
  ⟨h.ks.cell 0, h.ks.cell 1, h.ks.cell 2, h.ks.cell 3, h.ks.cell 4, h.ks.cell 5, h.ks.cell 6, h.ks.cell 7, h.ks.cell 8, h.ks.cell 9, h.ks.cell 10, h.ks.cell 11, h.ks.cell 12⟩
theorem B1.start (w : World) : B1 w ((w.alloc (.cells zShp 32)).alloc (.cells zShp 32)) w.heap.size [] none 0 := by
  refine ⟨⟨by simp, by simp⟩, OwnT.nil, ⟨Nat.le_refl _, by simp⟩, (Bk.new w _ _).alloc _, ?_, ba2 w _ _⟩
  have := Bk.new (w.alloc (.cells zShp 32)) 32 zShp
  simp at this
  exact this
/-- One column more. -/
theorem B1.push {w W w3 : World} {g : Nat} {l : List Col} {A1 A3 : Option Addr} {c1 c3 : Nat} {c : Col} {xs : List Value} (h : B1 w W g l A1 c1) (hc : GoodCol c) (hn : ∀ x ∈ l, findB c.bay c.row c.deck x = false)
    (hf : Flat tCol W (But W (.slice A1 l.length c1)) xs l) (ho : w3.ownsRow (g + 2) 54 12 (.slice A3 (l.length + 1) c3) (l.length + 1) (xs ++ colL c none 0)) (hg : W.grownBy w3 (Value.slice A1 l.length c1).ownBlock)
    (hd : (Value.slice A3 (l.length + 1) c3).ownBlock = (Value.slice A1 l.length c1).ownBlock ∨ ∃ q, (Value.slice A3 (l.length + 1) c3).ownBlock = some q ∧ W.heap.size ≤ q) (hcc : l.length + 1 ≤ c3 ∧ c3 ≤ maxLen) :
    B1 w (w3.setCell ⟨g + 1, 0, none⟩ (.slice A3 (l.length + 1) c3)) g (l ++ [c]) A3 c3 := by
  have hlt := h.own
  obtain ⟨xs', ho', _⟩ := hlt
  have hblk : ∀ k, (Value.slice A1 l.length c1).ownBlock = some k → g + 2 ≤ k := fun k hk => (ho'.lt k hk).1
  have hgz := h.kz.lt
  have kz3 : Bk w3 g 32 zShp := h.kz.grown hg (by intro e; have := hblk g e.symm; omega)
  have ks3 : Bk w3 (g + 1) 32 (shpA (shp0 l []) (hd0 A1 c1 none 0)) := h.ks.grown hg (by intro e; have := hblk (g + 1) e.symm; omega)
  have own3 := OwnT.append1 (x := c) (cs := colL c none 0) hf (rd_col0 c hc.plugs _ rfl) ho hg hd
  refine ⟨cols_add h.good hc hn, ?_, by simpa using hcc, kz3.far (by simp) _, ?_, ?_⟩
  · obtain ⟨ys, hy1, hy2⟩ := own3
    rw [List.length_append, List.length_singleton]
    rw [List.length_append, List.length_singleton] at hy1
    have hne : (Value.slice A3 (l.length + 1) c3).ownBlock ≠ some (g + 1) := by
      intro e
      have := (hy1.lt (g + 1) e).1
      omega
    refine ⟨ys, by rw [List.length_append, List.length_singleton]; exact own_far hy1 _ _ hne, ?_⟩
    have conv : ∀ (ys : List Value) (m : List Col) (S S' : Nat → Prop) (W' : World), (∀ c ∈ m, c.plugs = []) → Flat tCol w3 S ys m → Flat tCol W' S' ys m := by
      intro ys m
      induction m generalizing ys with
      | nil => intro S S' W' _ h; exact h
      | cons x m ih =>
        intro S S' W' hp ⟨cs, zs, e, ⟨A, p, e2, h1, _⟩, h3⟩
        have hx := hp x (by simp)
        exact ⟨cs, zs, e, ⟨A, p, e2, h1, by rw [hx]; exact SlT.nil⟩, ih zs S S' W' (fun c hc => hp c (by simp [hc])) h3⟩
    exact conv ys _ _ _ _ (fun x hx => ((cols_add h.good hc hn).1 x hx).plugs) hy2
  · have := ks3.set_ 0 (.slice A3 (l.length + 1) c3)
    have e : (shpA (shp0 l []) (hd0 A1 c1 none 0)).setIfInBounds 0 (.slice A3 (l.length + 1) c3) = shpA (shp0 (l ++ [c]) []) (hd0 A3 c3 none 0) := by simp [shpA, shp0, hd0]
    rw [e] at this
    exact this
  · have hb3 : Below g W w3 := ⟨hg.os, hg.tape, hg.output, hg.size, fun k hk => hg.block k (by omega) (by intro e; have := hblk k e.symm; omega)⟩
    exact (h.be.trans hb3).setCell (by simp) _

/-- What the second loop of Built keeps. -/
structure B2 (w wr : World) (g b : Nat) (l : List Col) (covs : List Cov) (A1 : Option Addr) (c1 : Nat) (A2 : Option Addr) (c2 : Nat) (gs : List Nat) : Prop where
  good : Cols l
  short : 1 ≤ l.length ∧ l.length ≤ 12
  own : OwnT tCol 54 wr (g + 2) (.slice A1 l.length c1) l
  cap : l.length ≤ c1 ∧ c1 ≤ maxLen
  cov : CovOwn wr (g + 2) (.slice A2 covs.length c2) covs gs
  cap2 : covs.length ≤ c2 ∧ c2 ≤ maxLen
  kz : Bk wr g 32 zShp
  ks : Bk wr (g + 1) 32 (shpA (shp0 l covs) (hd0 A1 c1 A2 c2))
  be : Below g w wr
  base : g + 2 ≤ wr.heap.size
/-- Columns of Built point to no memory: they stay what they are wherever they are read. -/
theorem flat_any {w W : World} {S S' : Nat → Prop} : ∀ (ys : List Value) (m : List Col), (∀ c ∈ m, c.plugs = []) → Flat tCol w S ys m → Flat tCol W S' ys m := by
  intro ys m
  induction m generalizing ys with
  | nil => intro _ h; exact h
  | cons x m ih =>
    intro hp ⟨cs, zs, e, ⟨A, p, e2, h1, _⟩, h3⟩
    have hx := hp x (by simp)
    exact ⟨cs, zs, e, ⟨A, p, e2, h1, by rw [hx]; exact SlT.nil⟩, ih zs (fun c hc => hp c (by simp [hc])) h3⟩
theorem own_cols {w W : World} {base : Nat} {v : Value} {l : List Col} (hg : Cols l) (h : OwnT tCol 54 w base v l) (hk : ∀ n xs, w.ownsRow base 54 12 v n xs → W.ownsRow base 54 12 v n xs) : OwnT tCol 54 W base v l := by
  obtain ⟨xs, h1, h2⟩ := h
  exact ⟨xs, hk _ _ h1, flat_any xs l (fun c hc => (hg.1 c hc).plugs) h2⟩
theorem B2.cells {w wr : World} {g b : Nat} {l : List Col} {covs : List Cov} {A1 A2 : Option Addr} {c1 c2 : Nat} {gs : List Nat} (h : B2 w wr g b l covs A1 c1 A2 c2 gs) : wr.cell? ⟨g + 1, 1, none⟩ = some (.slice A2 covs.length c2) := h.ks.cell 1
theorem B2.push {w W w3 : World} {g b b' : Nat} {l : List Col} {covs : List Cov} {A1 A2 A3 : Option Addr} {c1 c2 c3 : Nat} {gs : List Nat} {x : Cov} (h : B2 w W g b l covs A1 c1 A2 c2 gs)
    (ho : w3.ownsRow (g + 2) 56 2 (.slice A3 (covs.length + 1) c3) (covs.length + 1) (covCells covs gs ++ [.int .i64 x.bay, .slice (some ⟨W.heap.size, 0, none⟩) x.rows.length x.rows.length]))
    (o : Obj) (hg : ((W.alloc (.cells (i64s x.rows).toArray 3)).alloc o).grownBy w3 (Value.slice A2 covs.length c2).ownBlock) (hcc : covs.length + 1 ≤ c3 ∧ c3 ≤ maxLen) :
    B2 w (w3.setCell ⟨g + 1, 1, none⟩ (.slice A3 (covs.length + 1) c3)) g b' l (covs ++ [x]) A1 c1 A3 c3 (gs ++ [W.heap.size]) := by
  have hblk : ∀ k, (Value.slice A2 covs.length c2).ownBlock = some k → g + 2 ≤ k := fun k hk => (h.cov.own.lt k hk).1
  have hba := ba2 W (.cells (i64s x.rows).toArray 3) o
  have hgz := h.kz.lt
  have hgs := h.ks.lt
  have kz3 : Bk w3 g 32 zShp := ((h.kz.alloc _).alloc _).grown hg (by intro e; have := hblk g e.symm; omega)
  have ks3 : Bk w3 (g + 1) 32 (shpA (shp0 l covs) (hd0 A1 c1 A2 c2)) := ((h.ks.alloc _).alloc _).grown hg (by intro e; have := hblk (g + 1) e.symm; omega)
  have hcov3 := h.cov.push h.base ho o hg
  have hz3 : g + 2 ≤ w3.heap.size := by have := hg.size; simp at this; have := h.base; omega
  refine ⟨h.good, h.short, ?_, h.cap, ?_, by simpa using hcc, kz3.far (by simp) _, ?_, ?_, by simpa [World.setCell] using hz3⟩
  · refine own_cols h.good h.own fun n xs hx => ?_
    have h1 := own_below hx hba (Nat.le_refl _)
    have h2 := h1.kept hg (by
      rcases h1.2 with ⟨e, _⟩ | ⟨g', cap, cur, e, _, hh, _⟩
      · rw [e]; exact .inl rfl
      · rw [e]
        refine .inr ?_
        have := own_ne (own_below h.cov.own hba (Nat.le_refl _)) (show Bk _ g' 54 cur from hh) (by decide)
        simp only [Value.ownBlock] at this ⊢
        exact Ne.symm this)
    exact own_far h2 _ _ (by intro e; have := (h2.lt _ e).1; simp only at this; omega)
  · have := hcov3.far (p := ⟨g + 1, 1, none⟩) (by simp) (.slice A3 (covs.length + 1) c3)
    simpa using this
  · have := ks3.set_ 1 (.slice A3 (covs.length + 1) c3)
    have e : (shpA (shp0 l covs) (hd0 A1 c1 A2 c2)).setIfInBounds 1 (.slice A3 (covs.length + 1) c3) = shpA (shp0 l (covs ++ [x])) (hd0 A1 c1 A3 c3) := by simp [shpA, shp0, hd0]
    rw [e] at this
    exact this
  · have hb3 : Below g ((W.alloc (.cells (i64s x.rows).toArray 3)).alloc o) w3 := ⟨hg.os, hg.tape, hg.output, hg.size, fun k hk => hg.block k (by simp; omega) (by intro e; have := hblk k e.symm; omega)⟩
    exact ((h.be.trans (hba.mono (by omega))).trans hb3).setCell (by simp) _
/-- What Built returns. -/
def BuiltRet (w : World) (e : Ending) (w' : World) : Prop :=
  ∃ (l : List Col) (covs : List Cov) (A1 : Option Addr) (c1 : Nat) (A2 : Option Addr) (c2 : Nat) (gs : List Nat), e = .returned (.agg (shpA (shp0 l covs) (hd0 A1 c1 A2 c2))) ∧ Cols l ∧ (1 ≤ l.length ∧ l.length ≤ 12) ∧ covs.Sublist (allTo 5) ∧
    OwnT tCol 54 w' w.heap.size (.slice A1 l.length c1) l ∧ CovOwn w' w.heap.size (.slice A2 covs.length c2) covs gs ∧ (l.length ≤ c1 ∧ c1 ≤ maxLen) ∧ (covs.length ≤ c2 ∧ c2 ≤ maxLen) ∧ Below w.heap.size w w'

def plCol (p : Nat × Nat × Nat × Bool) : Col :=
  { bay := (p.1 : Int) % 5, row := (p.2.1 : Int) % 5, deck := p.2.2.2, tiers := 2 + (p.2.2.1 : Int) % 4, height := 0, k20 := 500000000, k40 := 500000000, lash := 0, plugs := [], x := 13000 * ((p.1 : Int) % 5) - 26000, y := 2500 * ((p.2.1 : Int) % 5) - 5000, z := if p.2.2.2 then 20000 else 2000 }
theorem plCol_good (p : Nat × Nat × Nat × Bool) : GoodCol (plCol p) := by
  unfold plCol
  constructor <;> simp only <;> omega

set_option maxRecDepth 100000 in
set_option maxHeartbeats 8000000 in
theorem built_any (A : Option Addr) (c : Nat) (l : List (Nat × Nat × Nat × Bool)) (covers : Nat) (w : World) (hs : SlT tPl w (Lt w.heap.size) A l) (hl : ∀ p ∈ l, p.1 < 256 ∧ p.2.1 < 256 ∧ p.2.2.1 < 256) (hc : l.length ≤ c) (hcm : c ≤ maxLen) :
    Calls Tryd.prog 18 #[.slice A l.length c, .int .u32 covers] w (BuiltRet w) := by
  unfold maxLen at hcm
  have HS := Lib.hid (hs.take 12); clear hs
  have HL := Lib.hid (show ∀ p ∈ l.take 12, p.1 < 256 ∧ p.2.1 < 256 ∧ p.2.2.1 < 256 from fun p hp => hl p (List.mem_of_mem_take hp)); clear hl
  have hst := B1.start w
  have HST := Lib.hid hst; clear hst
  have hm12 : (l.take 12).length ≤ 12 := by simp; omega
  have HM : Hid ((l.take 12).length = if l.length ≤ 12 then l.length else 12) := Lib.hid (by simp; split <;> omega)
  generalize l.take 12 = L at *
  go_enter Tryd.func18, Tryd.ntmps18
  go_upto_region 2 with fail
  go_cut [16, 17, 18] (fun a b i wx => a = .slice A L.length c ∧ b = .int .i64 L.length ∧ i = .int .i64 0 ∧ B1 w wx w.heap.size [] none 0)
  case first =>
    by_cases h12 : l.length ≤ 12
    · have hLn : L.length = l.length := by rw [HM.out, if_pos h12]
      have HLN := Lib.hid hLn; clear hLn
      go_wp2_with fail
      go_meet
      rw [HLN.out]
      exact ⟨rfl, rfl, rfl, HST.out⟩
    · have hLn : L.length = 12 := by rw [HM.out, if_neg h12]
      have HLN := Lib.hid hLn; clear hLn
      have h13 : ¬ (l.length : Int) ≤ 12 := by omega
      go_wp2_with fail
      go_meet
      rw [HLN.out]
      exact ⟨rfl, rfl, rfl, HST.out⟩
  case rest =>
    obtain ⟨rfl, rfl, rfl, hB⟩ := hcut
    clear HST HM
    go_wp2
    generalize hg : w.heap.size = g at *
    have HG := Lib.hid hg; clear hg
    go_loopw [18] (fun i wr => ∃ (k : Nat) (C : List Col) (A1 : Option Addr) (c1 : Nat), k ≤ L.length ∧ i = .int .i64 k ∧ C.length ≤ k ∧ B1 w wr g C A1 c1) (fun i _ => L.length - (intOf i).toNat)
    case atStart => exact ⟨0, [], none, 0, Nat.zero_le _, rfl, Nat.le_refl _, hB⟩
    case round =>
      obtain ⟨k, C, A1, c1, hk, rfl, hCk, hB⟩ := hrel
      by_cases hlt : k < L.length
      · obtain ⟨b, off, hA, hbB, p0, p1, p2, p3⟩ := (HS.out.below hB.be).pl hlt
        have hbl : b < g := hbB
        have HPB := Lib.hid (HL.out _ (getD_memD hlt default))
        rw [hA]
        clear hA
        generalize L.getD k default = p at *
        obtain ⟨pb, pr, pt, pd⟩ := p
        simp only at p0 p1 p2 p3 HPB
        have h1 := HPB.out.1
        have h2 := HPB.out.2.1
        have h3 := HPB.out.2.2
        have HGC := Lib.hid (plCol_good (pb, pr, pt, pd))
        have hgz := hB.kz.lt
        have hgs := hB.ks.lt
        obtain ⟨e0, e1, e2, e3, e4, e5, e6, e7, e8, e9, e10, e11, e12⟩ := hB.cells
        cases pd with
        | true =>
          have hb2 := ba2 wr (.cells #[.int .u8 (pb : Nat), .int .u8 (pr : Nat), .int .u8 (pt : Nat), .bool true] 100) (.cells (colL (plCol (pb, pr, pt, true)) none 0).toArray 54)
          have kc := Bk.new (wr.alloc (.cells #[.int .u8 (pb : Nat), .int .u8 (pr : Nat), .int .u8 (pt : Nat), .bool true] 100)) 54 (colL (plCol (pb, pr, pt, true)) none 0).toArray
          rw [show (wr.alloc (.cells #[.int .u8 (pb : Nat), .int .u8 (pr : Nat), .int .u8 (pt : Nat), .bool true] 100)).heap.size = wr.heap.size + 1 by simp] at kc
          have HKC := Lib.hid kc; clear kc
          have HB2 := Lib.hid (hB.on hb2); clear hb2
          go_wp2_with fail
          refine (find_any (shp0 C []) (hd0 A1 c1 none 0) ((pb : Int) % 5) ((pr : Int) % 5) true _ HB2.out.rd (by show C.length ≤ 1000000; omega)).mono ?_
          rintro e w1 ⟨rfl, hq⟩
          have hB1 := HB2.out.on hq
          have kc := HKC.out.below hq HKC.out.lt
          have hq2 := hq.size
          simp at hq2
          clear HB2 HKC hq hB e0 e1 e2 e3 e4 e5 e6 e7 e8 e9 e10 e11 e12 p0 p1 p2 p3
          generalize hfi : (findF (shp0 C []) ((pb : Int) % 5) ((pr : Int) % 5) true).1 = fi at *
          clear hfi
          cases hfd : (findF (shp0 C []) ((pb : Int) % 5) ((pr : Int) % 5) true).2 with
          | true =>
            go_wp2
            go_roundw
            case rel => exact ⟨k + 1, C, A1, c1, by omega, by go_num, by omega, hB1⟩
            case measure => simp [intOf]; omega
          | false =>
            have HFN := Lib.hid (find_none hfd)
            clear hfd
            obtain ⟨xs, ho, hfl⟩ := hB1.own
            obtain ⟨e0, _⟩ := hB1.cells
            have q0 : w1.cell? ⟨wr.heap.size + 1, 0, none⟩ = some (.int .i64 ((pb : Int) % 5)) := kc.cell 0
            have q1 : w1.cell? ⟨wr.heap.size + 1, 1, none⟩ = some (.int .i64 ((pr : Int) % 5)) := kc.cell 1
            have q2 : w1.cell? ⟨wr.heap.size + 1, 2, none⟩ = some (.bool true) := kc.cell 2
            have q3 : w1.cell? ⟨wr.heap.size + 1, 3, none⟩ = some (.int .i64 (2 + (pt : Int) % 4)) := kc.cell 3
            have q4 : w1.cell? ⟨wr.heap.size + 1, 4, none⟩ = some (.int .i64 0) := kc.cell 4
            have q5 : w1.cell? ⟨wr.heap.size + 1, 5, none⟩ = some (.int .i64 500000000) := kc.cell 5
            have q6 : w1.cell? ⟨wr.heap.size + 1, 6, none⟩ = some (.int .i64 500000000) := kc.cell 6
            have q7 : w1.cell? ⟨wr.heap.size + 1, 7, none⟩ = some (.int .i64 0) := kc.cell 7
            have q8 : w1.cell? ⟨wr.heap.size + 1, 8, none⟩ = some (.slice none 0 0) := kc.cell 8
            have q9 : w1.cell? ⟨wr.heap.size + 1, 9, none⟩ = some (.int .i64 (13000 * ((pb : Int) % 5) - 26000)) := kc.cell 9
            have q10 : w1.cell? ⟨wr.heap.size + 1, 10, none⟩ = some (.int .i64 (2500 * ((pr : Int) % 5) - 5000)) := kc.cell 10
            have q11 : w1.cell? ⟨wr.heap.size + 1, 11, none⟩ = some (.int .i64 20000) := kc.cell 11
            go_wp2_with (at_builtin; (refine wpList_append1 el_col rfl (.tmp 66) (.tmp 68) rfl (g + 2) _ C.length xs rfl ho (colL (plCol (pb, pr, pt, true)) none 0).toArray _ rfl rfl rfl ?c1 ?c2 ?c3 ?_))
            case c1 => unfold maxLen; omega
            case c2 => omega
            case c3 => omega
            intro v' w3 hown' hgr hd3 hbel
            obtain ⟨A3, c3, rfl, hc31, hc32, hS3⟩ := own_sl hown'
            have ks3 := hB1.ks.kept ho hgr (by omega)
            have cv3 := ks3.cell 0
            simp [shpA, shp0, hd0] at cv3
            have fv3 := ks3.frozen 0
            have HNEW := Lib.hid (hB1.push HGC.out HFN.out hfl hown' hgr hd3 ⟨hc31, hc32⟩)
            clear hS3 hown' hgr hd3 hbel ks3 hfl ho hB1 kc q0 q1 q2 q3 q4 q5 q6 q7 q8 q9 q10 q11 e0
            go_wp2
            go_roundw
            case rel => exact ⟨k + 1, C ++ [plCol (pb, pr, pt, true)], A3, c3, by omega, by go_num, by simp; omega, HNEW.out⟩
            case measure => simp [intOf]; omega
        | false =>
          have hb2 := ba2 wr (.cells #[.int .u8 (pb : Nat), .int .u8 (pr : Nat), .int .u8 (pt : Nat), .bool false] 100) (.cells (colL (plCol (pb, pr, pt, false)) none 0).toArray 54)
          have kc := Bk.new (wr.alloc (.cells #[.int .u8 (pb : Nat), .int .u8 (pr : Nat), .int .u8 (pt : Nat), .bool false] 100)) 54 (colL (plCol (pb, pr, pt, false)) none 0).toArray
          rw [show (wr.alloc (.cells #[.int .u8 (pb : Nat), .int .u8 (pr : Nat), .int .u8 (pt : Nat), .bool false] 100)).heap.size = wr.heap.size + 1 by simp] at kc
          have HKC := Lib.hid kc; clear kc
          have HB2 := Lib.hid (hB.on hb2); clear hb2
          go_wp2_with fail
          refine (find_any (shp0 C []) (hd0 A1 c1 none 0) ((pb : Int) % 5) ((pr : Int) % 5) false _ HB2.out.rd (by show C.length ≤ 1000000; omega)).mono ?_
          rintro e w1 ⟨rfl, hq⟩
          have hB1 := HB2.out.on hq
          have kc := HKC.out.below hq HKC.out.lt
          have hq2 := hq.size
          simp at hq2
          clear HB2 HKC hq hB e0 e1 e2 e3 e4 e5 e6 e7 e8 e9 e10 e11 e12 p0 p1 p2 p3
          generalize hfi : (findF (shp0 C []) ((pb : Int) % 5) ((pr : Int) % 5) false).1 = fi at *
          clear hfi
          cases hfd : (findF (shp0 C []) ((pb : Int) % 5) ((pr : Int) % 5) false).2 with
          | true =>
            go_wp2
            go_roundw
            case rel => exact ⟨k + 1, C, A1, c1, by omega, by go_num, by omega, hB1⟩
            case measure => simp [intOf]; omega
          | false =>
            have HFN := Lib.hid (find_none hfd)
            clear hfd
            obtain ⟨xs, ho, hfl⟩ := hB1.own
            obtain ⟨e0, _⟩ := hB1.cells
            have q0 : w1.cell? ⟨wr.heap.size + 1, 0, none⟩ = some (.int .i64 ((pb : Int) % 5)) := kc.cell 0
            have q1 : w1.cell? ⟨wr.heap.size + 1, 1, none⟩ = some (.int .i64 ((pr : Int) % 5)) := kc.cell 1
            have q2 : w1.cell? ⟨wr.heap.size + 1, 2, none⟩ = some (.bool false) := kc.cell 2
            have q3 : w1.cell? ⟨wr.heap.size + 1, 3, none⟩ = some (.int .i64 (2 + (pt : Int) % 4)) := kc.cell 3
            have q4 : w1.cell? ⟨wr.heap.size + 1, 4, none⟩ = some (.int .i64 0) := kc.cell 4
            have q5 : w1.cell? ⟨wr.heap.size + 1, 5, none⟩ = some (.int .i64 500000000) := kc.cell 5
            have q6 : w1.cell? ⟨wr.heap.size + 1, 6, none⟩ = some (.int .i64 500000000) := kc.cell 6
            have q7 : w1.cell? ⟨wr.heap.size + 1, 7, none⟩ = some (.int .i64 0) := kc.cell 7
            have q8 : w1.cell? ⟨wr.heap.size + 1, 8, none⟩ = some (.slice none 0 0) := kc.cell 8
            have q9 : w1.cell? ⟨wr.heap.size + 1, 9, none⟩ = some (.int .i64 (13000 * ((pb : Int) % 5) - 26000)) := kc.cell 9
            have q10 : w1.cell? ⟨wr.heap.size + 1, 10, none⟩ = some (.int .i64 (2500 * ((pr : Int) % 5) - 5000)) := kc.cell 10
            have q11 : w1.cell? ⟨wr.heap.size + 1, 11, none⟩ = some (.int .i64 2000) := kc.cell 11
            go_wp2_with (at_builtin; (refine wpList_append1 el_col rfl (.tmp 66) (.tmp 68) rfl (g + 2) _ C.length xs rfl ho (colL (plCol (pb, pr, pt, false)) none 0).toArray _ rfl rfl rfl ?d1 ?d2 ?d3 ?_))
            case d1 => unfold maxLen; omega
            case d2 => omega
            case d3 => omega
            intro v' w3 hown' hgr hd3 hbel
            obtain ⟨A3, c3, rfl, hc31, hc32, hS3⟩ := own_sl hown'
            have ks3 := hB1.ks.kept ho hgr (by omega)
            have cv3 := ks3.cell 0
            simp [shpA, shp0, hd0] at cv3
            have fv3 := ks3.frozen 0
            have HNEW := Lib.hid (hB1.push HGC.out HFN.out hfl hown' hgr hd3 ⟨hc31, hc32⟩)
            clear hS3 hown' hgr hd3 hbel ks3 hfl ho hB1 kc q0 q1 q2 q3 q4 q5 q6 q7 q8 q9 q10 q11 e0
            go_wp2
            go_roundw
            case rel => exact ⟨k + 1, C ++ [plCol (pb, pr, pt, false)], A3, c3, by omega, by go_num, by simp; omega, HNEW.out⟩
            case measure => simp [intOf]; omega
      · have hC12 : C.length ≤ 12 := by omega
        obtain ⟨e0, _⟩ := hB.cells
        have hgz := hB.kz.lt
        have hgs := hB.ks.lt
        go_upto_if 75 with fail
        go_cut [18] (fun _ wx => ∃ (l : List Col) (A1 : Option Addr) (c1 : Nat), B2 w wx g 0 l [] A1 c1 none 0 [])
        case first =>
          by_cases h0 : C.length = 0
          · have t0 : ((C.length : Int) == 0) = true := by simp only [beq_iff_eq]; omega
            have fv := hB.ks.frozen 0
            clear h0
            go_wp2_with fail
            go_meet
            refine ⟨[{ col0 with tiers := 3, k20 := 500000000, k40 := 500000000, z := 2000 }], some ⟨wr.heap.size, 0, none⟩, 1, ?_⟩
            have hgd : GoodCol { col0 with tiers := 3, k20 := 500000000, k40 := 500000000, z := 2000 } := by constructor <;> simp [col0]
            have hk1 := (hB.ks.set_ 0 (.slice (some ⟨wr.heap.size, 0, none⟩) 1 1)).alloc (.cells (colL { col0 with tiers := 3, k20 := 500000000, k40 := 500000000, z := 2000 } none 0).toArray 54)
            have e : (shpA (shp0 C []) (hd0 A1 c1 none 0)).setIfInBounds 0 (.slice (some ⟨wr.heap.size, 0, none⟩) 1 1) = shpA (shp0 [{ col0 with tiers := 3, k20 := 500000000, k40 := 500000000, z := 2000 }] []) (hd0 (some ⟨wr.heap.size, 0, none⟩) 1 none 0) := by simp [shpA, shp0, hd0]
            rw [e] at hk1
            have hsz : (wr.setCell ⟨g + 1, 0, none⟩ (.slice (some ⟨wr.heap.size, 0, none⟩) 1 1)).heap.size = wr.heap.size := by simp [World.setCell]
            have hlit := World.ownsRow_lit (base := g + 2) (e := 54) (size := 12) (wr.setCell ⟨g + 1, 0, none⟩ (.slice (some ⟨wr.heap.size, 0, none⟩) 1 1)) (colL { col0 with tiers := 3, k20 := 500000000, k40 := 500000000, z := 2000 } none 0).toArray 1 (by omega) (by simp [maxLen]) rfl
            rw [hsz] at hlit
            refine ⟨⟨by simpa using hgd, by simp⟩, by simp, ⟨_, hlit, Flat.single (rd_col0 _ rfl _ rfl)⟩, by simp [maxLen], ⟨World.ownsRow_nil _ _ _ _, trivial⟩, by simp, (hB.kz.far (by simp) _).alloc _, hk1, (hB.be.setCell (by simp) _).alloc (by omega) _, by simp; omega⟩
          · have t0 : ((C.length : Int) == 0) = false := by simp only [beq_eq_false_iff_ne]; omega
            go_wp2_with fail
            go_meet
            exact ⟨C, A1, c1, hB.good, ⟨by omega, hC12⟩, hB.own, hB.cap, ⟨World.ownsRow_nil _ _ _ _, trivial⟩, by simp, hB.kz, hB.ks, hB.be, by omega⟩
        case rest =>
          obtain ⟨l', A1', c1', hB2⟩ := hcut
          clear hB e0 hgz hgs hC12 hCk HS HL
          go_wp2
          go_loopw [11] (fun i wr => ∃ (b : Nat) (covs : List Cov) (A2 : Option Addr) (c2 : Nat) (gs : List Nat), b ≤ 5 ∧ i = .int .i64 b ∧ covs.length ≤ 2 * b ∧ Hid (covs.Sublist (allTo b)) ∧ B2 w wr g 0 l' covs A1' c1' A2 c2 gs) (fun i _ => 5 - (intOf i).toNat)
          case atStart => exact ⟨0, [], none, 0, [], by omega, rfl, by simp, Lib.hid (List.Sublist.refl _), hB2⟩
          case round =>
            obtain ⟨b, covs, A2, c2, gs, hb5, rfl, hcl, HSUB, hB2⟩ := hrel
            by_cases hlt : b < 5
            · have hbase := hB2.base
              have i1 := hB2.cells
              have ho := hB2.cov.own
              go_upto_if 88 with fail
              go_cut [11] (fun i wx => ∃ (covs : List Cov) (A2 : Option Addr) (c2 : Nat) (gs : List Nat), i = .int .i64 b ∧ covs.length ≤ 2 * b + 1 ∧ Hid (covs.Sublist (allTo b ++ [⟨b, [0, 1]⟩])) ∧ B2 w wx g 0 l' covs A1' c1' A2 c2 gs)
              case first =>
                go_wp2_with (at_builtin; (refine wpList_append_bk el_cov rfl (.tmp 90) (.tmp 94) rfl (g + 2) _ covs.length (covCells covs gs) rfl (own_below ho (ba2 wr (.cells #[.int .i64 0, .int .i64 1] 3) _) (Nat.le_refl _)) (wr.heap.size + 1) #[.int .i64 b, .slice (some ⟨wr.heap.size, 0, none⟩) 2 2] _ rfl (Bk.new2 wr _ _ _) rfl rfl ?x1 ?x2 ?x3 ?_))
                case x1 => unfold maxLen; omega
                case x2 => omega
                case x3 => simp; omega
                · intro v' w3 hown' hgr hd3 hbel
                  obtain ⟨A3, c3, rfl, hc31, hc32, hS3⟩ := own_sl hown'
                  have ks3 := ((hB2.ks.alloc (.cells #[.int .i64 0, .int .i64 1] 3)).alloc _).kept (own_below ho (ba2 wr (.cells #[.int .i64 0, .int .i64 1] 3) _) (Nat.le_refl _)) hgr (by omega)
                  have cv3 := ks3.cell 1
                  simp [shpA, shp0, hd0] at cv3
                  have fv3 := ks3.frozen 1
                  have HNEW := Lib.hid (hB2.push (b' := 0) (x := ⟨b, [0, 1]⟩) hown' _ hgr ⟨hc31, hc32⟩)
                  clear hS3 hown' hgr hd3 hbel ks3 ho
                  go_wp2_with fail
                  go_meet
                  exact ⟨covs ++ [⟨b, [0, 1]⟩], A3, c3, gs ++ [wr.heap.size], rfl, by simp; omega, Lib.hid (HSUB.out.append (List.Sublist.refl _)), HNEW.out⟩
                · go_meet
                  exact ⟨covs, A2, c2, gs, rfl, by omega, Lib.hid (List.Sublist.trans HSUB.out (List.sublist_append_left _ _)), hB2⟩
              case rest =>
                clear ho i1 hbase hcl HSUB hB2
                obtain ⟨covs, A2, c2, gs, rfl, hcl, HSUB, hB2⟩ := hcut
                have hbase := hB2.base
                have i1 := hB2.cells
                have ho := hB2.cov.own
                go_wp2_with (at_builtin; (refine wpList_append_bk el_cov rfl (.tmp 105) (.tmp 109) rfl (g + 2) _ covs.length (covCells covs gs) rfl (own_below ho (ba2 wc (.cells #[.int .i64 2, .int .i64 3, .int .i64 4] 3) _) (Nat.le_refl _)) (wc.heap.size + 1) #[.int .i64 b, .slice (some ⟨wc.heap.size, 0, none⟩) 3 3] _ rfl (Bk.new2 wc _ _ _) rfl rfl ?y1 ?y2 ?y3 ?_))
                case y1 => unfold maxLen; omega
                case y2 => omega
                case y3 => simp; omega
                · intro v' w3 hown' hgr hd3 hbel
                  obtain ⟨A3, c3, rfl, hc31, hc32, hS3⟩ := own_sl hown'
                  have ks3 := ((hB2.ks.alloc (.cells #[.int .i64 2, .int .i64 3, .int .i64 4] 3)).alloc _).kept (own_below ho (ba2 wc (.cells #[.int .i64 2, .int .i64 3, .int .i64 4] 3) _) (Nat.le_refl _)) hgr (by omega)
                  have cv3 := ks3.cell 1
                  simp [shpA, shp0, hd0] at cv3
                  have fv3 := ks3.frozen 1
                  have HNEW := Lib.hid (hB2.push (b' := 0) (x := ⟨b, [2, 3, 4]⟩) hown' _ hgr ⟨hc31, hc32⟩)
                  have HS2 := Lib.hid (show (covs ++ [(⟨b, [2, 3, 4]⟩ : Cov)]).Sublist (allTo (b + 1)) by
                    have := HSUB.out.append (List.Sublist.refl [(⟨b, [2, 3, 4]⟩ : Cov)])
                    rw [List.append_assoc] at this
                    exact this)
                  clear hS3 hown' hgr hd3 hbel ks3 ho
                  go_wp2
                  go_roundw
                  case rel => exact ⟨b + 1, covs ++ [⟨b, [2, 3, 4]⟩], A3, c3, gs ++ [wc.heap.size], by omega, by go_num, by simp; omega, HS2, HNEW.out⟩
                  case measure => simp [intOf]; omega
                · go_roundw
                  case rel => exact ⟨b + 1, covs, A2, c2, gs, by omega, by go_num, by omega, Lib.hid (List.Sublist.trans HSUB.out (by
                      have := List.sublist_append_left (allTo b ++ [(⟨b, [0, 1]⟩ : Cov)]) [(⟨b, [2, 3, 4]⟩ : Cov)]
                      rw [List.append_assoc] at this
                      exact this)), hB2⟩
                  case measure => simp [intOf]; omega
            · obtain rfl : b = 5 := by omega
              have kz := hB2.kz
              have ks := hB2.ks
              have f0 : wr.cell? ⟨g + 1, 0, none⟩ = some (.slice A1' l'.length c1') := ks.cell 0
              have f1 : wr.cell? ⟨g + 1, 1, none⟩ = some (.slice A2 covs.length c2) := ks.cell 1
              have f2 : wr.cell? ⟨g + 1, 2, none⟩ = some (.int .i64 0) := ks.cell 2
              have f3 : wr.cell? ⟨g + 1, 3, none⟩ = some (.int .i64 0) := ks.cell 3
              have f4 : wr.cell? ⟨g + 1, 4, none⟩ = some (.int .i64 0) := ks.cell 4
              have f5 : wr.cell? ⟨g + 1, 5, none⟩ = some (.int .i64 0) := ks.cell 5
              have f6 : wr.cell? ⟨g + 1, 6, none⟩ = some (.slice none 0 0) := ks.cell 6
              have f7 : wr.cell? ⟨g + 1, 7, none⟩ = some (.slice none 0 0) := ks.cell 7
              have f8 : wr.cell? ⟨g + 1, 8, none⟩ = some (.slice none 0 0) := ks.cell 8
              have f9 : wr.cell? ⟨g + 1, 9, none⟩ = some (.int .i64 0) := ks.cell 9
              have f10 : wr.cell? ⟨g + 1, 10, none⟩ = some (.int .i64 0) := ks.cell 10
              have f11 : wr.cell? ⟨g + 1, 11, none⟩ = some (.int .i64 0) := ks.cell 11
              have f12 : wr.cell? ⟨g + 1, 12, none⟩ = some (.int .i64 0) := ks.cell 12
              go_wp2_with (refine wpList_store_abs rfl 32 (.tmp 4) (.tmp 112) rfl g (shpA (shp0 l' covs) (hd0 A1' c1' A2 c2)) rfl rfl 32 zShp kz info_ship rfl (shp_one _ _) ?_; intro w9 hk9 hg9)
              have hown9 := own_cols hB2.good hB2.own fun n xs hx => hx.kept hg9 (.inr (by intro e; have := (hx.lt g e).1; omega))
              have hcov9 : CovOwn w9 (g + 2) (.slice A2 covs.length c2) covs gs := ⟨hB2.cov.own.kept hg9 (.inr (by intro e; have := (hB2.cov.own.lt g e).1; omega)), hB2.cov.rows.keep fun x hx => hg9.block x (hB2.cov.rows.lt x hx).2.1 (by intro e; injection e with e; have := (hB2.cov.rows.lt x hx).1; omega)⟩
              have hbe : Below g w w9 := hB2.be.trans (below_of_grown hg9 (Nat.le_refl _) (by have := hB2.base; omega))
              have hgg := HG.out
              subst hgg
              refine bodyPost_ret (results_row1 rfl _ _ w.heap.size 32 (shpA (shp0 l' covs) (hd0 A1' c1' A2 c2)) _ rfl hk9 Tryd.underlying32 rfl info_ship) rfl ⟨l', covs, A1', c1', A2, c2, gs, rfl, hB2.good, hB2.short, HSUB.out, hown9.down (by omega), ⟨own_mono hcov9.own (by omega), ?_⟩, hB2.cap, hB2.cap2, hbe⟩
              exact hcov9.rows.down (by omega)
end Go.Proofs.YtggebllkkiennaaDoor
