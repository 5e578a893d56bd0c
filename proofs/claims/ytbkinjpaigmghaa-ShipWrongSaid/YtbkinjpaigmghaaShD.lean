/-
  Walks of package ship: along, Under, Upon, Beside.
-/
import Derived.Test.YtbkinjpaigmghaaShC
namespace Go.Proofs.Ytbkinjpaigmghaa
open Go.RowKit

def alongB (x : Cov) (deck : Bool) (c : Col) : Bool := c.deck == deck && covB x c

set_option maxRecDepth 100000 in
set_option maxHeartbeats 2000000 in
theorem along1 (c : Col) (A : Option Addr) (q : Nat) (s : Shp) (h : Hd) (k : Nat) (deck : Bool) (gd gs gk : Nat) (w : World) (hd : Bk w gd 4 #[.bool deck])
    (hg : Bk w gs 32 (shpA s h)) (hk : Bk w gk 3 #[.int .i64 k]) (hs : SlT tCov w (Lt w.heap.size) h.A2 s.covs) (hkl : k < s.covs.length) (hf : Few s) :
    Calls Try.prog 66 #[.agg (colL c A q).toArray, .pointer (some ⟨gd, 0, none⟩), .pointer (some ⟨gs, 0, none⟩), .pointer (some ⟨gk, 0, none⟩)] w (Ret w (.bool (alongB (s.covs.getD k default) deck c))) := by
  obtain ⟨b, off, Ap, p, hA1, hbB, hq, hpl, c0, c1⟩ := hs.cov hkl
  have HR := Lib.hid (hf.rows _ (getD_memD hkl default)); clear hf
  have g0 := hg.cell 1
  have k0 := hk.cell 0
  have d0 := hd.cell 0
  simp [shpA, hA1] at g0 k0 d0
  have HCV := Lib.hid (covers_any (s.covs.getD k default) Ap p c A q)
  have HX := Lib.hid hpl
  have HV : Hid (alongB (s.covs.getD k default) deck c = (c.deck == deck && covB (s.covs.getD k default) c)) := Lib.hid rfl
  have n1 := hg.lt
  have n2 := hk.lt
  have n0 := hd.lt
  simp only [Lt] at hbB
  clear hpl hs hA1
  generalize alongB (s.covs.getD k default) deck c = r at *
  generalize covB (s.covs.getD k default) c = r2 at *
  generalize s.covs.getD k default = x at *
  obtain ⟨xb, xr⟩ := x
  obtain ⟨cb, cr, cd, ct, ch, x2, x4, cl, cp, cx, cy, cz⟩ := c
  unfold colL at *
  simp only at c0 c1 hq HX HR HV ⊢
  cases e1 : (cd == deck) with
  | false =>
    have HVV : Hid (r = false) := Lib.hid (by rw [HV.out, e1]; rfl)
    go_enter Try.func66, Try.ntmps66
    go_wp2_with fail
    go_quiet (fail)
    go_wp2
    go_ret
    exact ⟨by rw [HVV.out]; rfl, below_drewN (ba1 w _) _⟩
  | true =>
    have HVV : Hid (r = r2) := Lib.hid (by rw [HV.out, e1]; rfl)
    have n3 : gs < w.heap.size + 1 := by omega
    have n4 : gk < w.heap.size + 1 := by omega
    have n5 : b < w.heap.size + 1 := by omega
    have n6 : gd < w.heap.size + 1 := by omega
    have i1 : (0 : Int) ≤ (k : Int) := by omega
    have i2 : (k : Int) < (s.covs.length : Int) := by omega
    go_enter Try.func66, Try.ntmps66
    go_wp2_with fail
    go_region_held3 (fun w' => w'.cell? ⟨w.heap.size, 0, none⟩ = some (.int .i64 cb) ∧ w'.cell? ⟨w.heap.size, 1, none⟩ = some (.int .i64 cr) ∧ w'.cell? ⟨w.heap.size, 2, none⟩ = some (.bool cd) ∧ w'.cell? ⟨w.heap.size, 3, none⟩ = some (.int .i64 ct) ∧ w'.cell? ⟨w.heap.size, 4, none⟩ = some (.int .i64 ch) ∧ w'.cell? ⟨w.heap.size, 5, none⟩ = some (.int .i64 x2) ∧ w'.cell? ⟨w.heap.size, 6, none⟩ = some (.int .i64 x4) ∧ w'.cell? ⟨w.heap.size, 7, none⟩ = some (.int .i64 cl) ∧ w'.cell? ⟨w.heap.size, 8, none⟩ = some (.slice A cp.length q) ∧ w'.cell? ⟨w.heap.size, 9, none⟩ = some (.int .i64 cx) ∧ w'.cell? ⟨w.heap.size, 10, none⟩ = some (.int .i64 cy) ∧ w'.cell? ⟨w.heap.size, 11, none⟩ = some (.int .i64 cz) ∧
        w'.cell? ⟨gd, 0, none⟩ = some (.bool deck) ∧ w'.cell? ⟨gs, 1, none⟩ = some (.slice (some ⟨b, off, none⟩) s.covs.length h.c2) ∧ w'.cell? ⟨gk, 0, none⟩ = some (.int .i64 k) ∧ w'.cell? ⟨b, off + k * 2, none⟩ = some (.int .i64 xb) ∧ w'.cell? ⟨b, off + k * 2 + 1, none⟩ = some (.slice Ap xr.length p)) (go_keep)
      (first | (go_at_call 46; refine (HCV.out _ (by exact SlT.on HX.out (ba1 w _).drew) HR.out).mono ?_; rintro e w1 ⟨rfl, hb1⟩; obtain ⟨hc1, hf1⟩ := bcell hb1))
    go_wp2
    go_ret
    exact ⟨by rw [HVV.out]; rfl, (ba1 w _).drew.trans (hb1.mono (ba1 w _).drew.size)⟩

def alongF (s : Shp) (k : Int) (deck : Bool) : List Int :=
  if k < 0 ∨ (s.covs.length : Int) ≤ k then [] else pick (alongB (s.covs.getD k.toNat default) deck) s.cols

set_option maxRecDepth 100000 in
set_option maxHeartbeats 1000000 in
theorem along_out (s : Shp) (h : Hd) (k : Int) (deck : Bool) (w : World) (hk : k < 0 ∨ (s.covs.length : Int) ≤ k) :
    Calls Try.prog 47 #[.agg (shpA s h), .int .i64 k, .bool deck] w (OwnInts w (alongF s k deck)) := by
  have HV : Hid (alongF s k deck = []) := Lib.hid (by unfold alongF; rw [if_pos hk])
  unfold shpA
  by_cases h0 : k < 0
  · have d0 : decide (k < 0) = true := by simpa using h0
    go_enter Try.func47, Try.ntmps47
    go_wp2
    go_ret
    exact ⟨_, rfl, by rw [HV.out]; exact OwnT.nil, ba3 w _ _ _⟩
  · have d0 : decide (k < 0) = false := by simpa using h0
    have h1 : (s.covs.length : Int) ≤ k := by omega
    have d1 : decide ((s.covs.length : Int) ≤ k) = true := by simpa using h1
    go_enter Try.func47, Try.ntmps47
    go_wp2
    go_ret
    exact ⟨_, rfl, by rw [HV.out]; exact OwnT.nil, ba3 w _ _ _⟩

set_option maxRecDepth 100000 in
set_option maxHeartbeats 1000000 in
theorem along_in (s : Shp) (h : Hd) (k : Nat) (deck : Bool) (w : World) (hs : ShpR w (Lt w.heap.size) s h) (hf : Few s) (hk : k < s.covs.length) :
    Calls Try.prog 47 #[.agg (shpA s h), .int .i64 k, .bool deck] w (OwnInts w (alongF s k deck)) := by
  have HV : Hid (alongF s k deck = pick (alongB (s.covs.getD k default) deck) s.cols) := Lib.hid (by unfold alongF; rw [if_neg (by omega), Int.toNat_natCast])
  have HS := Lib.hid hs; clear hs
  have HW := Lib.hid hf; clear hf
  unfold shpA
  have h1 : (k : Int) < (s.covs.length : Int) := by omega
  have d0 : decide ((k : Int) < 0) = false := by simp
  have d1 : decide (s.covs.length ≤ k) = false := by simp; omega
  go_enter Try.func47, Try.ntmps47
  go_wp2_with fail
  have hbx := ba3 w (.cells (shpA s h) 32) (.cells #[.int .i64 k] 3) (.cells #[.bool deck] 4)
  refine (chosenCol_any h.A1 h.c1 s.cols 66 _ (alongB (s.covs.getD k default) deck) _ ?_ HW.out.cols Try.call66 ?_).mono ?_
  · exact (HS.out.cols.below hbx).up hbx.size
  · intro c A q w' hm hb' hq hsl
    have k1 := ((Bk.new w 32 (shpA s h)).alloc (.cells #[.int .i64 k] 3)).alloc (.cells #[.bool deck] 4)
    have k2 := (Bk.new (w.alloc (.cells (shpA s h) 32)) 3 #[.int .i64 k]).alloc (.cells #[.bool deck] 4)
    have k3 := Bk.new ((w.alloc (.cells (shpA s h) 32)).alloc (.cells #[.int .i64 k] 3)) 4 #[.bool deck]
    simp at k1 k2 k3
    exact along1 c A q s h k deck _ _ _ w' (k3.below hb' k3.lt) (k1.below hb' k1.lt) (k2.below hb' k2.lt) (((HS.out.covs.below hbx).up hbx.size).on hb') hk HW.out
  · intro e w1 hO
    obtain ⟨v, rfl, ho, hb1⟩ := OwnInts.from hO hbx
    clear hO hbx
    go_wp2
    go_ret
    exact ⟨_, rfl, by rw [HV.out]; exact ho, hb1⟩
theorem along_any (s : Shp) (h : Hd) (k : Int) (deck : Bool) (w : World) (hs : ShpR w (Lt w.heap.size) s h) (hf : Few s) :
    Calls Try.prog 47 #[.agg (shpA s h), .int .i64 k, .bool deck] w (OwnInts w (alongF s k deck)) := by
  by_cases hk : k < 0 ∨ (s.covs.length : Int) ≤ k
  · exact along_out s h k deck w hk
  · obtain ⟨n, rfl⟩ := Int.eq_ofNat_of_zero_le (show 0 ≤ k by omega)
    exact along_in s h n deck w hs hf (by omega)

set_option maxRecDepth 100000 in
set_option maxHeartbeats 1000000 in
theorem under_any (s : Shp) (h : Hd) (k : Int) (w : World) (hs : ShpR w (Lt w.heap.size) s h) (hf : Few s) :
    Calls Try.prog 18 #[.agg (shpA s h), .int .i64 k] w (OwnInts w (alongF s k false)) := by
  have HS := Lib.hid hs; clear hs
  have HW := Lib.hid hf; clear hf
  unfold shpA
  go_enter Try.func18, Try.ntmps18
  go_wp2_with fail
  refine (along_any s h k false _ (HS.out.on (ba1 w _)) HW.out).mono ?_
  intro e w1 hO
  obtain ⟨v, rfl, ho, hb1⟩ := OwnInts.from hO (ba1 w _)
  clear hO
  go_wp2
  go_ret
  exact ⟨_, rfl, ho, hb1⟩
set_option maxRecDepth 100000 in
set_option maxHeartbeats 1000000 in
theorem upon_any (s : Shp) (h : Hd) (k : Int) (w : World) (hs : ShpR w (Lt w.heap.size) s h) (hf : Few s) :
    Calls Try.prog 19 #[.agg (shpA s h), .int .i64 k] w (OwnInts w (alongF s k true)) := by
  have HS := Lib.hid hs; clear hs
  have HW := Lib.hid hf; clear hf
  unfold shpA
  go_enter Try.func19, Try.ntmps19
  go_wp2_with fail
  refine (along_any s h k true _ (HS.out.on (ba1 w _)) HW.out).mono ?_
  intro e w1 hO
  obtain ⟨v, rfl, ho, hb1⟩ := OwnInts.from hO (ba1 w _)
  clear hO
  go_wp2
  go_ret
  exact ⟨_, rfl, ho, hb1⟩
end Go.Proofs.Ytbkinjpaigmghaa
