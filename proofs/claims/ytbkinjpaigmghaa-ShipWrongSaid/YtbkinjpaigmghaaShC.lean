/-
  Walks of package ship: covers, CoverOf, along, Under, Upon.
-/
import Derived.Test.YtbkinjpaigmghaaShB
import Derived.StillTailTactics
namespace Go.Proofs.Ytbkinjpaigmghaa
open Go.RowKit

set_option maxHeartbeats 400000 in
theorem covers1 (r row : Int) (g : Nat) (w : World) (h : w.cell? ⟨g, 1, none⟩ = some (.int .i64 row)) :
    Calls Try.prog 65 #[.int .i64 r, .pointer (some ⟨g, 0, none⟩)] w (Ret w (.bool (r == row))) := by
  go_enter Try.func65, Try.ntmps65
  go_wp2
  go_ret
  exact ⟨rfl, Below.refl _ _⟩

def covB (x : Cov) (c : Col) : Bool := x.bay == c.bay && decide (0 < (pick (· == c.row) x.rows).length)

set_option maxRecDepth 100000 in
set_option maxHeartbeats 1000000 in
theorem covers_any (x : Cov) (Ax : Option Addr) (px : Nat) (c : Col) (A : Option Addr) (q : Nat) (w : World) (hx : SlT tInt w (Lt w.heap.size) Ax x.rows) (hl : x.rows.length ≤ 1000000) :
    Calls Try.prog 46 #[.agg #[.int .i64 x.bay, .slice Ax x.rows.length px], .agg (colL c A q).toArray] w (Ret w (.bool (covB x c))) := by
  have HX := Lib.hid hx; clear hx
  have HC : Hid (covB x c = (x.bay == c.bay && decide (0 < (pick (· == c.row) x.rows).length))) := Lib.hid rfl
  generalize covB x c = r at *
  obtain ⟨xb, xr⟩ := x
  simp only at HX HC hl ⊢
  obtain ⟨cb, cr, cd, ct, ch, c2, c4, cl, cp, cx, cy, cz⟩ := c
  unfold colL
  simp only at HC ⊢
  cases e1 : (xb == cb) with
  | false =>
    have HV : Hid (r = false) := Lib.hid (by rw [HC.out, e1]; rfl)
    go_enter Try.func46, Try.ntmps46
    go_wp2
    go_ret
    exact ⟨by rw [HV.out]; rfl, ba2 w _ _⟩
  | true =>
    have HV : Hid (r = decide (0 < (pick (· == cr) xr).length)) := Lib.hid (by rw [HC.out, e1]; rfl)
    clear HC
    go_enter Try.func46, Try.ntmps46
    go_wp2_with fail
    have hbx := ba2 w (.cells #[.int .i64 xb, .slice Ax xr.length px] 55) (.cells (colL ⟨cb, cr, cd, ct, ch, c2, c4, cl, cp, cx, cy, cz⟩ A q).toArray 53)
    refine (chosenInt_any Ax px xr 65 _ (· == cr) _ ?_ hl Try.call65 ?_).mono ?_
    · exact (HX.out.below hbx).up hbx.size
    · intro z w' _ hb'
      have k1 := Bk.new (w.alloc (.cells #[.int .i64 xb, .slice Ax xr.length px] 55)) 53 (colL ⟨cb, cr, cd, ct, ch, c2, c4, cl, cp, cx, cy, cz⟩ A q).toArray
      simp at k1
      exact covers1 z cr _ w' ((k1.below hb' k1.lt).cell 1)
    · intro e w1 hO
      obtain ⟨A', c', rfl, hc, hsl, hb1⟩ := OwnInts.sl (OwnInts.from hO hbx)
      clear hO hbx
      generalize (pick (· == cr) xr).length = n at *
      go_wp2
      go_ret
      exact ⟨by rw [HV.out]; rw [ret_eq]; simp, hb1⟩

set_option maxRecDepth 100000 in
set_option maxHeartbeats 1000000 in
theorem coverOf1 (x : Cov) (Ax : Option Addr) (px : Nat) (s : Shp) (h : Hd) (k : Nat) (gs gk : Nat) (w : World) (hx : SlT tInt w (Lt w.heap.size) Ax x.rows) (hl : x.rows.length ≤ 1000000)
    (hg : Bk w gs 32 (shpA s h)) (hk : Bk w gk 3 #[.int .i64 k]) (hs : SlT tCol w (Lt w.heap.size) h.A1 s.cols) (hkl : k < s.cols.length) :
    Calls Try.prog 45 #[.agg #[.int .i64 x.bay, .slice Ax x.rows.length px], .pointer (some ⟨gs, 0, none⟩), .pointer (some ⟨gk, 0, none⟩)] w (Ret w (.bool (covB x (s.cols.getD k default)))) := by
  obtain ⟨b, off, Ap, q, hA1, hbB, hq, hpl, c0, c1, c2, c3, c4, c5, c6, c7, c8, c9, c10, c11⟩ := hs.col hkl
  have g0 := hg.cell 0
  have k0 := hk.cell 0
  simp [shpA, hA1] at g0 k0
  have HCV := Lib.hid (covers_any x Ax px (s.cols.getD k default) Ap q)
  have HX := Lib.hid hx; clear hx
  have n1 := hg.lt
  have n2 := hk.lt
  simp only [Lt] at hbB
  clear hpl hs hA1
  generalize s.cols.getD k default = c at *
  obtain ⟨cb, cr, cd, ct, ch, x2, x4, cl, cp, cx, cy, cz⟩ := c
  simp only at c0 c1 c2 c3 c4 c5 c6 c7 c8 c9 c10 c11 hq
  have n3 : gs < w.heap.size + 1 := by omega
  have n4 : gk < w.heap.size + 1 := by omega
  have n5 : b < w.heap.size + 1 := by omega
  have i1 : (0 : Int) ≤ (k : Int) := by omega
  have i2 : (k : Int) < (s.cols.length : Int) := by omega
  go_enter Try.func45, Try.ntmps45
  go_wp2_with fail
  go_region_held3 (fun w' => w'.cell? ⟨w.heap.size, 0, none⟩ = some (.int .i64 x.bay) ∧ w'.cell? ⟨w.heap.size, 1, none⟩ = some (.slice Ax x.rows.length px) ∧ w'.cell? ⟨gs, 0, none⟩ = some (.slice (some ⟨b, off, none⟩) s.cols.length h.c1) ∧ w'.cell? ⟨gk, 0, none⟩ = some (.int .i64 k) ∧ w'.cell? ⟨b, off + k * 12, none⟩ = some (.int .i64 cb) ∧ w'.cell? ⟨b, off + k * 12 + 1, none⟩ = some (.int .i64 cr) ∧ w'.cell? ⟨b, off + k * 12 + 2, none⟩ = some (.bool cd) ∧ w'.cell? ⟨b, off + k * 12 + 3, none⟩ = some (.int .i64 ct) ∧ w'.cell? ⟨b, off + k * 12 + 4, none⟩ = some (.int .i64 ch) ∧ w'.cell? ⟨b, off + k * 12 + 5, none⟩ = some (.int .i64 x2) ∧ w'.cell? ⟨b, off + k * 12 + 6, none⟩ = some (.int .i64 x4) ∧ w'.cell? ⟨b, off + k * 12 + 7, none⟩ = some (.int .i64 cl) ∧ w'.cell? ⟨b, off + k * 12 + 8, none⟩ = some (.slice Ap cp.length q) ∧ w'.cell? ⟨b, off + k * 12 + 9, none⟩ = some (.int .i64 cx) ∧ w'.cell? ⟨b, off + k * 12 + 10, none⟩ = some (.int .i64 cy) ∧ w'.cell? ⟨b, off + k * 12 + 11, none⟩ = some (.int .i64 cz)) (go_keep)
    (first | (go_at_call 46; refine (HCV.out _ (by exact SlT.on HX.out (ba1 w _).drew) hl).mono ?_; rintro e w1 ⟨rfl, hb1⟩; obtain ⟨hc1, hf1⟩ := bcell hb1))
  go_wp2
  go_ret
  exact ⟨rfl, (ba1 w _).drew.trans (hb1.mono (ba1 w _).drew.size)⟩

def coverOfF (s : Shp) (k : Int) : Int :=
  if k < 0 ∨ (s.cols.length : Int) ≤ k then -1 else
  match pick (fun x => covB x (s.cols.getD k.toNat default)) s.covs with
  | [] => -1
  | i :: _ => i
/-- The lists of a ship are short. -/
structure Few (s : Shp) : Prop where
  cols : s.cols.length ≤ 1000000
  covs : s.covs.length ≤ 1000000
  rows : ∀ x ∈ s.covs, x.rows.length ≤ 1000000
  plugs : ∀ x ∈ s.cols, x.plugs.length ≤ 1000000

set_option maxRecDepth 100000 in
set_option maxHeartbeats 1000000 in
theorem coverOf_out (s : Shp) (h : Hd) (k : Int) (w : World) (hk : k < 0 ∨ (s.cols.length : Int) ≤ k) :
    Calls Try.prog 16 #[.agg (shpA s h), .int .i64 k] w (Ret w (.int .i64 (coverOfF s k))) := by
  have HV : Hid (coverOfF s k = -1) := Lib.hid (by unfold coverOfF; rw [if_pos hk])
  unfold shpA
  by_cases h0 : k < 0
  · have d0 : decide (k < 0) = true := by simpa using h0
    go_enter Try.func16, Try.ntmps16
    go_wp2
    go_ret
    exact ⟨by rw [HV.out]; rfl, ba2 w _ _⟩
  · have d0 : decide (k < 0) = false := by simpa using h0
    have h1 : (s.cols.length : Int) ≤ k := by omega
    have d1 : decide ((s.cols.length : Int) ≤ k) = true := by simpa using h1
    go_enter Try.func16, Try.ntmps16
    go_wp2
    go_ret
    exact ⟨by rw [HV.out]; rfl, ba2 w _ _⟩

set_option maxRecDepth 100000 in
set_option maxHeartbeats 1000000 in
theorem coverOf_in (s : Shp) (h : Hd) (k : Nat) (w : World) (hs : ShpR w (Lt w.heap.size) s h) (hf : Few s) (hk : k < s.cols.length) :
    Calls Try.prog 16 #[.agg (shpA s h), .int .i64 k] w (Ret w (.int .i64 (coverOfF s k))) := by
  have HV : Hid (coverOfF s k = match pick (fun x => covB x (s.cols.getD k default)) s.covs with | [] => -1 | i :: _ => i) := Lib.hid (by unfold coverOfF; rw [if_neg (by omega), Int.toNat_natCast])
  have HS := Lib.hid hs; clear hs
  have HW := Lib.hid hf; clear hf
  unfold shpA
  have h1 : (k : Int) < (s.cols.length : Int) := by omega
  have d0 : decide ((k : Int) < 0) = false := by simp
  have d1 : decide (s.cols.length ≤ k) = false := by simp; omega
  go_enter Try.func16, Try.ntmps16
  go_wp2_with fail
  have hbx := ba2 w (.cells (shpA s h) 32) (.cells #[.int .i64 k] 3)
  refine (chosenCov_any h.A2 h.c2 s.covs 45 _ (fun x => covB x (s.cols.getD k default)) _ ?_ HW.out.covs Try.call45 ?_).mono ?_
  · exact (HS.out.covs.below hbx).up hbx.size
  · intro c A q w' hm hb' hq hsl
    have k1 := (Bk.new w 32 (shpA s h)).alloc (.cells #[.int .i64 k] 3)
    have k2 := Bk.new (w.alloc (.cells (shpA s h) 32)) 3 #[.int .i64 k]
    simp at k1 k2
    exact coverOf1 c A q s h k _ _ w' (hsl.more (lt_more hb'.size)) (HW.out.rows c hm) (k1.below hb' k1.lt) (k2.below hb' k2.lt) (((HS.out.cols.below hbx).up hbx.size).on hb') hk
  · intro e w1 hO
    obtain ⟨A, c, rfl, hc, hsl, hb1⟩ := OwnInts.sl (OwnInts.from hO hbx)
    clear hO hbx
    generalize pick (fun x => covB x (s.cols.getD k default)) s.covs = L at *
    cases L with
    | nil =>
      simp only [List.length_nil]
      go_wp2
      go_ret
      exact ⟨by rw [HV.out]; rfl, hb1⟩
    | cons i L =>
      obtain ⟨b, off, rfl, hbB, hcell⟩ := hsl.int (j := 0) (by simp)
      simp only [List.getD_cons_zero, Nat.add_zero, List.length_cons] at hcell ⊢
      have hl0 : (((L.length + 1 : Nat) : Int) == 0) = false := by simp; omega
      have hl1 : (0 : Nat) < L.length + 1 := by omega
      generalize L.length + 1 = n at *
      go_wp2
      go_ret
      exact ⟨by rw [HV.out]; rfl, hb1⟩
theorem coverOf_any (s : Shp) (h : Hd) (k : Int) (w : World) (hs : ShpR w (Lt w.heap.size) s h) (hf : Few s) :
    Calls Try.prog 16 #[.agg (shpA s h), .int .i64 k] w (Ret w (.int .i64 (coverOfF s k))) := by
  by_cases hk : k < 0 ∨ (s.cols.length : Int) ≤ k
  · exact coverOf_out s h k w hk
  · obtain ⟨n, rfl⟩ := Int.eq_ofNat_of_zero_le (show 0 ≤ k by omega)
    exact coverOf_in s h n w hs hf (by omega)
end Go.Proofs.Ytbkinjpaigmghaa
