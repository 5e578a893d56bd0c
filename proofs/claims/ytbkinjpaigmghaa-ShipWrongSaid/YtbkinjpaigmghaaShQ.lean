/-
  The walk of the statement ShipBeside.
-/
import Derived.Test.YtbkinjpaigmghaaShM
import Derived.Test.YtbkinjpaigmghaaShP
import Derived.IntWalk
namespace Go.Proofs.Ytbkinjpaigmghaa
open Go.RowKit

theorem ownT_sl {α : Type} {T : Ty α} {e : TypeId} {w : World} {base : Nat} {A : Option Addr} {n c : Nat} {l : List α} (h : OwnT T e w base (.slice A n c) l) : SlT T w (Lt w.heap.size) A l := by
  obtain ⟨A', c', e, _, _, h3⟩ := h.sl
  injection e with e1 _ _
  subst e1
  exact h3
theorem built_rd {w : World} {base : Nat} {l : List Col} {covs : List Cov} {A1 A2 : Option Addr} {c1 c2 : Nat} {gs : List Nat} (h1 : OwnT tCol 53 w base (.slice A1 l.length c1) l) (h2 : CovOwn w base (.slice A2 covs.length c2) covs gs)
    (h3 : l.length ≤ c1 ∧ c1 ≤ maxLen) (h4 : covs.length ≤ c2 ∧ c2 ≤ maxLen) : ShpR w (Lt w.heap.size) (shp0 l covs) (hd0 A1 c1 A2 c2) :=
  ⟨h3.1, h4.1, Nat.zero_le _, Nat.zero_le _, Nat.zero_le _, h3.2, h4.2, by simp [hd0], by simp [hd0], by simp [hd0], ownT_sl h1, ownT_sl h2.ownT, SlT.nil, SlT.nil, SlT.nil⟩
/-- A ship that Built makes. -/
structure Bu (s : Shp) : Prop where
  cols : Cols s.cols
  one : 1 ≤ s.cols.length
  few : s.cols.length ≤ 12
  sub : s.covs.Sublist (allTo 5)
  eq : s = shp0 s.cols s.covs
theorem Bu.right {s : Shp} (h : Bu s) : rightF s = true := by rw [h.eq]; exact built_right h.cols ⟨h.one, h.few⟩ h.sub
theorem Bu.Few {s : Shp} (h : Bu s) : Few s := by rw [h.eq]; exact built_few h.cols h.few h.sub
theorem Bu.ints {s : Shp} (h : Bu s) : Ints s := by rw [h.eq]; exact built_ints h.cols
theorem Bu.rows {s : Shp} (h : Bu s) : ∀ c ∈ s.cols, I64 c.row := by rw [h.eq]; exact built_rows h.cols
theorem Bu.short {s : Shp} (h : Bu s) : s.cols.length ≤ 1000000 := by have := h.few; omega
theorem Bu.col {s : Shp} (h : Bu s) {i : Nat} (hi : i < s.cols.length) : GoodCol (s.cols.getD i default) := cols_mem h.cols hi
theorem Bu.beside {s : Shp} (h : Bu s) {i : Nat} (hi : i < s.cols.length) (z : Int) : z ∈ besideF s i ↔ ∃ m : Nat, m < s.cols.length ∧ z = (m : Int) ∧ besB (s.cols.getD i default) (s.cols.getD m default) = true := by
  have := beside_mem (covs := s.covs) hi z
  rw [← h.eq] at this
  exact this
theorem Bu.two {s : Shp} (h : Bu s) {i : Nat} (hi : i < s.cols.length) : (besideF s i).length ≤ 2 := by
  have := beside_two (covs := s.covs) h.cols hi
  rw [← h.eq] at this
  exact this
def dist (a b : Col) : Int := if a.bay < b.bay then b.bay - a.bay else a.bay - b.bay
theorem Bu.apart {s : Shp} (h : Bu s) {i k : Nat} (hi : i < s.cols.length) (hk : k < s.cols.length) : apartF s i k = (dist (s.cols.getD i default) (s.cols.getD k default), true) := by
  have := apart_same (covs := s.covs) h.cols hi hk
  rw [← h.eq] at this
  exact this
/-- What Built returns, as a ship of its own. -/
def BuRet (w : World) (e : Ending) (w' : World) : Prop :=
  ∃ (s : Shp) (h : Hd) (gs : List Nat), e = .returned (.agg (shpA s h)) ∧ Bu s ∧ OwnT tCol 53 w' w.heap.size (.slice h.A1 s.cols.length h.c1) s.cols ∧ CovOwn w' w.heap.size (.slice h.A2 s.covs.length h.c2) s.covs gs ∧ ShpR w' (Lt w'.heap.size) s h ∧ Below w.heap.size w w'
theorem built_s {A : Option Addr} {c : Nat} {l : List (Nat × Nat × Nat × Bool)} {covers : Nat} {w : World} (hs : SlT tPl w (Lt w.heap.size) A l) (hl : ∀ p ∈ l, p.1 < 256 ∧ p.2.1 < 256 ∧ p.2.2.1 < 256) (hc : l.length ≤ c) (hcm : c ≤ maxLen) :
    Calls Try.prog 31 #[.slice A l.length c, .int .u32 covers] w (BuRet w) :=
  (built_any A c l covers w hs hl hc hcm).mono fun e w' ⟨l, covs, A1, c1, A2, c2, gs, h0, h1, h2, h3, h4, h5, h6, h7, h8⟩ =>
    ⟨shp0 l covs, hd0 A1 c1 A2 c2, gs, h0, ⟨h1, h2.1, h2.2, h3, rfl⟩, h4, h5, built_rd h4 h5 h6 h7, h8⟩
theorem drew_below (W : World) (m : Nat) : Below W.heap.size W (W.drewN m) := below_drewN (Below.refl _ _) m
theorem any_take {α : Type} (p : α → Bool) {l : List α} {k : Nat} (h : k < l.length) (d : α) : (l.take (k + 1)).any p = ((l.take k).any p || p (l.getD k d)) := by
  rw [List.take_succ_eq_append_getElem h, List.any_append]; simp [h]

set_option maxRecDepth 100000 in
set_option maxHeartbeats 16000000 in
theorem shipBeside_any (A : Option Addr) (c : Nat) (pl : List (Nat × Nat × Nat × Bool)) (covers a b cc : Nat) (ha : a < 256) (hb : b < 256) (hcc : cc < 256) (w : World) (hs : SlT tPl w (Lt w.heap.size) A pl) (hl : ∀ p ∈ pl, p.1 < 256 ∧ p.2.1 < 256 ∧ p.2.2.1 < 256) (hc : pl.length ≤ c) (hcm : c ≤ maxLen) :
    Calls Try.prog 6 #[.slice A pl.length c, .int .u32 covers, .int .u8 a, .int .u8 b, .int .u8 cc] w (TrueRet w) := by
  have HC := Lib.hid (built_s (covers := covers) hs hl hc hcm)
  clear hs hl hc hcm
  go_enter Try.func6, Try.ntmps6
  go_wp2_with fail
  refine HC.out.mono ?_
  rintro e w1 ⟨s, h, gs, rfl, hBu, ho1, ho2, hrd, hb1⟩
  clear HC ho1 ho2
  have hS : Sh w (w1.alloc (.cells (shpA s h) 32)) w1.heap.size s h := ⟨hrd.on (ba1 w1 _), Bk.new w1 _ _, hb1.trans ((ba1 w1 _).mono hb1.size)⟩
  clear hrd hb1
  have hl1 := hBu.one
  have hl12 := hBu.few
  have hm1 : a % s.cols.length < s.cols.length := Nat.mod_lt _ (by omega)
  have hm2 : b % s.cols.length < s.cols.length := Nat.mod_lt _ (by omega)
  have hm3 : cc % s.cols.length < s.cols.length := Nat.mod_lt _ (by omega)
  unfold shpA at hS ⊢
  go_wp2_with fail
  generalize w1.heap.size = g at *
  generalize (w1.alloc _) = W at *
  have hn0 : (s.cols.length : Int) ≠ 0 := by omega
  go_cut [13, 14, 15] (fun x y z wx => x = .int .i64 ((a % s.cols.length : Nat) : Int) ∧ y = .int .i64 ((b % s.cols.length : Nat) : Int) ∧ z = .int .i64 ((cc % s.cols.length : Nat) : Int) ∧ Sh w wx g s h)
  case first =>
    go_quiet (fail)
    go_wp2_with fail
    go_meet
    exact ⟨vint (Int.natCast_emod _ _).symm, vint (Int.natCast_emod _ _).symm, vint (Int.natCast_emod _ _).symm, hS.on (drew_below W nq)⟩
  case rest =>
    clear hS
    obtain ⟨rfl, rfl, rfl, hS⟩ := hcut
    clear hn0
    generalize a % s.cols.length = i at *
    generalize b % s.cols.length = k at *
    generalize cc % s.cols.length = j at *
    clear W
    obtain ⟨W, rfl⟩ : ∃ W, W = wc := ⟨_, rfl⟩
    obtain ⟨e0, e1, e2, e3, e4, e5, e6, e7, e8, e9, e10, e11, e12⟩ := hS.cells
    have h2 := hBu.two hm1
    have HMEM := Lib.hid (fun z => hBu.beside hm1 z)
    go_wp2_with fail
    refine (beside_any s h i W hS.rd hBu.short hBu.rows).mono ?_
    intro e w1 hO
    obtain ⟨AN, cN, rfl, hcN, hslN, hq⟩ := OwnInts.sl hO
    clear hO
    replace hS := hS.on hq
    clear hq e0 e1 e2 e3 e4 e5 e6 e7 e8 e9 e10 e11 e12
    clear W
    obtain ⟨W0, rfl⟩ : ∃ W, W = w1 := ⟨_, rfl⟩
    generalize besideF s i = N at *
    have t2 : decide ((2 : Int) < (N.length : Int)) = false := by simp only [decide_eq_false_iff_not]; omega
    go_wp2
    go_loopw [58] (fun q wr => ∃ (m : Nat), m ≤ N.length ∧ q = .int .i64 m ∧ Sh w wr g s h ∧ Below W0.heap.size W0 wr) (fun q _ => N.length - (intOf q).toNat)
    case atStart => exact ⟨0, Nat.zero_le _, rfl, hS, Below.refl _ _⟩
    case round =>
      clear hS
      obtain ⟨m, hm, rfl, hS, hbW⟩ := hrel
      obtain ⟨W, rfl⟩ : ∃ W, W = wr := ⟨_, rfl⟩
      obtain ⟨e0, e1, e2, e3, e4, e5, e6, e7, e8, e9, e10, e11, e12⟩ := hS.cells
      by_cases hlt : m < N.length
      · obtain ⟨bN, oN, rfl, hbN, cN0⟩ := (hslN.below hbW).int hlt
        obtain ⟨x, hx, hxe, hxb⟩ := (HMEM.out _).1 (getD_memD hlt 0)
        rw [hxe] at cN0
        have HBX := Lib.hid (show ∃ z ∈ besideF s x, z = (i : Int) from ⟨i, (hBu.beside hx i).2 ⟨i, hm1, rfl, by rw [besB_symm]; exact hxb⟩, rfl⟩)
        have HD0 : Hid (dist (s.cols.getD i default) (s.cols.getD x default) = 0) := Lib.hid (by unfold dist; rw [((besB_iff _ _).1 hxb).1]; simp)
        have hxi : x ≠ i := by
          intro e
          rw [e] at hxb
          have := (besB_iff _ _).1 hxb
          omega
        have HAP := Lib.hid (hBu.apart hm1 hx)
        clear hxe hxb
        go_wp2_with fail
        refine (beside_any s h x W hS.rd hBu.short hBu.rows).mono ?_
        intro e w1 hO
        obtain ⟨AB, cB, rfl, hcB, hslB, hq⟩ := OwnInts.sl hO
        clear hO
        replace hS := hS.on hq
        have hbW' := hbW.trans (hq.mono hbW.size)
        clear hq hbW cN0 e0 e1 e2 e3 e4 e5 e6 e7 e8 e9 e10 e11 e12
        clear W
        obtain ⟨W, rfl⟩ : ∃ W, W = w1 := ⟨_, rfl⟩
        have hBl : (besideF s x).length ≤ 2 := hBu.two hx
        generalize besideF s x = B at *
        go_wp2
        go_loop [19, 66] (fun bk q => ∃ n : Nat, n ≤ B.length ∧ q = .int .i64 n ∧ bk = .bool ((B.take n).any (· == (i : Int)))) (fun _ q => B.length - (intOf q).toNat)
        case atStart => exact ⟨0, Nat.zero_le _, rfl, rfl⟩
        case round =>
          obtain ⟨n, hn, rfl, rfl⟩ := hrel
          by_cases hnl : n < B.length
          · obtain ⟨bB, oB, rfl, hbB, cB0⟩ := hslB.int hnl
            have HT := Lib.hid (any_take (· == (i : Int)) hnl 0)
            generalize B.getD n 0 = y at *
            generalize (B.take n).any (· == (i : Int)) = r at *
            cases r with
            | true =>
              go_wp2
              go_round
              case rel => exact ⟨n + 1, by omega, by go_num, by rw [HT.out]; rfl⟩
              case measure => simp [intOf]; omega
            | false =>
              go_wp2
              go_round
              case rel => exact ⟨n + 1, by omega, by go_num, by rw [HT.out]; rfl⟩
              case measure => simp [intOf]; omega
          · obtain rfl : n = B.length := by omega
            have hany : (B.take B.length).any (· == (i : Int)) = true := by
              rw [List.take_length, List.any_eq_true]
              obtain ⟨z, hz, rfl⟩ := HBX.out
              exact ⟨_, hz, by simp⟩
            rw [hany]
            clear hany
            obtain ⟨e0, e1, e2, e3, e4, e5, e6, e7, e8, e9, e10, e11, e12⟩ := hS.cells
            have hap := apart_any s h i x W hS.rd
            rw [HAP.out, HD0.out] at hap
            have HAPC := Lib.hid hap; clear hap
            have t3 : ((x : Int) == (i : Int)) = false := by simp; omega
            go_wp2_with fail
            refine HAPC.out.mono ?_
            rintro e w1 ⟨rfl, hq⟩
            replace hS := hS.on hq
            have hbW2 := hbW'.trans (hq.mono hbW'.size)
            clear hq HAPC e0 e1 e2 e3 e4 e5 e6 e7 e8 e9 e10 e11 e12
            go_wp2
            go_roundw
            case rel => exact ⟨m + 1, by omega, by go_num, hS, hbW2⟩
            case measure => simp [intOf]; omega
      · have gi := (hBu.col hm1).bay
        have gk := (hBu.col hm2).bay
        have gj := (hBu.col hm3).bay
        have p1 : dist (s.cols.getD k default) (s.cols.getD i default) = dist (s.cols.getD i default) (s.cols.getD k default) := by unfold dist; split <;> split <;> omega
        have p2 : dist (s.cols.getD i default) (s.cols.getD j default) ≤ dist (s.cols.getD i default) (s.cols.getD k default) + dist (s.cols.getD k default) (s.cols.getD j default) := by unfold dist; split <;> split <;> split <;> omega
        have p3 : dist (s.cols.getD i default) (s.cols.getD k default) = 0 ↔ (s.cols.getD i default).bay = (s.cols.getD k default).bay := by unfold dist; split <;> omega
        have p4 : 0 ≤ dist (s.cols.getD i default) (s.cols.getD k default) ∧ dist (s.cols.getD i default) (s.cols.getD k default) ≤ 4 := by unfold dist; split <;> omega
        have p5 : 0 ≤ dist (s.cols.getD k default) (s.cols.getD j default) ∧ dist (s.cols.getD k default) (s.cols.getD j default) ≤ 4 := by unfold dist; split <;> omega
        have a1 := hBu.apart hm1 hm2
        have a2 := hBu.apart hm2 hm1
        have a3 := hBu.apart hm2 hm3
        have a4 := hBu.apart hm1 hm3
        rw [p1] at a2
        clear p1 gi gk gj
        generalize dist (s.cols.getD i default) (s.cols.getD k default) = D1 at *
        generalize dist (s.cols.getD k default) (s.cols.getD j default) = D3 at *
        generalize dist (s.cols.getD i default) (s.cols.getD j default) = D4 at *
        have hap1 := Lib.hid a1
        have hap2 := Lib.hid a2
        have hap3 := Lib.hid a3
        have hap4 := Lib.hid a4
        clear a1 a2 a3 a4
        have P3 := Lib.hid p3; clear p3
        clear hslN hbW HMEM
        go_wp2_with fail
        refine (hap1.out ▸ apart_any s h i k W hS.rd).mono ?_
        rintro e w1 ⟨rfl, hq⟩
        replace hS := hS.on hq
        clear hq e0 e1 e2 e3 e4 e5 e6 e7 e8 e9 e10 e11 e12
        clear W
        obtain ⟨W, rfl⟩ : ∃ W, W = w1 := ⟨_, rfl⟩
        obtain ⟨e0, e1, e2, e3, e4, e5, e6, e7, e8, e9, e10, e11, e12⟩ := hS.cells
        go_wp2_with fail
        refine (hap2.out ▸ apart_any s h k i W hS.rd).mono ?_
        rintro e w1 ⟨rfl, hq⟩
        replace hS := hS.on hq
        clear hq e0 e1 e2 e3 e4 e5 e6 e7 e8 e9 e10 e11 e12
        clear W
        obtain ⟨W, rfl⟩ : ∃ W, W = w1 := ⟨_, rfl⟩
        obtain ⟨e0, e1, e2, e3, e4, e5, e6, e7, e8, e9, e10, e11, e12⟩ := hS.cells
        go_wp2_with fail
        refine (hap3.out ▸ apart_any s h k j W hS.rd).mono ?_
        rintro e w1 ⟨rfl, hq⟩
        replace hS := hS.on hq
        clear hq e0 e1 e2 e3 e4 e5 e6 e7 e8 e9 e10 e11 e12
        clear W
        obtain ⟨W, rfl⟩ : ∃ W, W = w1 := ⟨_, rfl⟩
        obtain ⟨e0, e1, e2, e3, e4, e5, e6, e7, e8, e9, e10, e11, e12⟩ := hS.cells
        go_wp2_with fail
        refine (hap4.out ▸ apart_any s h i j W hS.rd).mono ?_
        rintro e w1 ⟨rfl, hq⟩
        replace hS := hS.on hq
        clear hq e0 e1 e2 e3 e4 e5 e6 e7 e8 e9 e10 e11 e12
        clear W
        obtain ⟨W, rfl⟩ : ∃ W, W = w1 := ⟨_, rfl⟩
        clear hap1 hap2 hap3 hap4
        obtain ⟨gb, off, _, _, hA, hbB, _, _, ca, _⟩ := hS.rd.cols.col hm1
        obtain ⟨gb', off', _, _, hA', _, _, _, cb, _⟩ := hS.rd.cols.col hm2
        have hgg := hA.symm.trans hA'
        injection hgg with hgg
        injection hgg with q1 q2
        subst q1 q2
        have hgl : gb < W.heap.size := hbB
        have hgs := hS.bk.lt
        have e0 := hS.cells.1
        rw [hA] at e0
        clear hA hA' hbB
        have p3 := P3.out
        clear P3
        generalize (s.cols.getD i default).bay = bi at *
        generalize (s.cols.getD k default).bay = bk at *
        obtain ⟨p4a, p4b⟩ := p4
        obtain ⟨p5a, p5b⟩ := p5
        have s1 : IntKind.i64.wrap (D1 + D3) = D1 + D3 := IntWalk.i64_in _ (by omega)
        have s2 : decide (D4 ≤ D1 + D3) = true := by simpa using p2
        have s3 : ((D1 == 0) == (bi == bk)) = true := by rw [beq_iff_eq, Bool.eq_iff_iff]; simpa using p3
        have i1 : (0 : Int) ≤ (i : Int) := by omega
        have i2 : (i : Int) < (s.cols.length : Int) := by omega
        have i3 : (0 : Int) ≤ (k : Int) := by omega
        have i4 : (k : Int) < (s.cols.length : Int) := by omega
        clear p2 p3
        go_wp2_with fail
        go_region_held3 (fun w' => w'.cell? ⟨g, 0, none⟩ = some (.slice (some ⟨gb, off, none⟩) s.cols.length h.c1) ∧ w'.cell? ⟨gb, off + i * 12, none⟩ = some (.int .i64 bi) ∧ w'.cell? ⟨gb, off + k * 12, none⟩ = some (.int .i64 bk)) (go_keep)
          (first | (go_at_call 10; refine (awake_true _).mono ?_; rintro e w9 ⟨rfl, hb9⟩; have y0 := (hb9.cell (p := ⟨g, 0, none⟩) hgs).trans e0; have y1 := (hb9.cell (p := ⟨gb, off + i * 12, none⟩) hgl).trans ca; have y2 := (hb9.cell (p := ⟨gb, off + k * 12, none⟩) hgl).trans cb))
        go_wp2
        go_ret
        exact ⟨rfl, (hS.on (drew_below W 1)).be.trans (hb9.mono hS.be.size)⟩
end Go.Proofs.Ytbkinjpaigmghaa
