/-
  Walks of package ship: Beside, Apart, Tallest, Places.
-/
import Derived.Test.YtbkinjpaigmghaaShD
namespace Go.Proofs.Ytbkinjpaigmghaa
open Go.RowKit

def I64 (x : Int) : Prop := -9223372036854775808 ≤ x ∧ x ≤ 9223372036854775807
def besB (a c : Col) : Bool := c.bay == a.bay && (c.deck == a.deck && (decide (a.row < c.row) && (c.row - 1 == a.row) || decide (c.row < a.row) && (c.row + 1 == a.row)))

set_option maxRecDepth 100000 in
set_option maxHeartbeats 2000000 in
theorem beside1 (c : Col) (A : Option Addr) (q : Nat) (a : Col) (Aa : Option Addr) (qa : Nat) (g : Nat) (w : World) (hg : Bk w g 53 (colL a Aa qa).toArray) (h1 : I64 a.row) (h2 : I64 c.row) :
    Calls Try.prog 54 #[.agg (colL c A q).toArray, .pointer (some ⟨g, 0, none⟩)] w (Ret w (.bool (besB a c))) := by
  have g0 : w.cell? ⟨g, 0, none⟩ = some (.int .i64 a.bay) := hg.cell 0
  have g1 : w.cell? ⟨g, 1, none⟩ = some (.int .i64 a.row) := hg.cell 1
  have g2 : w.cell? ⟨g, 2, none⟩ = some (.bool a.deck) := hg.cell 2
  have n1 := hg.lt
  have HV : Hid (besB a c = (c.bay == a.bay && (c.deck == a.deck && (decide (a.row < c.row) && (c.row - 1 == a.row) || decide (c.row < a.row) && (c.row + 1 == a.row))))) := Lib.hid rfl
  clear hg
  generalize besB a c = r at *
  obtain ⟨h1a, h1b⟩ := h1
  obtain ⟨h2a, h2b⟩ := h2
  obtain ⟨ab, ar, ad, _, _, _, _, _, _, _, _, _⟩ := a
  obtain ⟨cb, cr, cd, ct, ch, x2, x4, cl, cp, cx, cy, cz⟩ := c
  unfold colL
  simp only at *
  cases e1 : (cb == ab) with
  | false =>
    have HVV : Hid (r = false) := Lib.hid (by rw [HV.out, e1]; rfl)
    go_enter Try.func54, Try.ntmps54
    go_wp2
    go_ret
    exact ⟨by rw [HVV.out]; rfl, ba1 w _⟩
  | true =>
    cases e2 : (cd == ad) with
    | false =>
      have HVV : Hid (r = false) := Lib.hid (by rw [HV.out, e1, e2]; rfl)
      go_enter Try.func54, Try.ntmps54
      go_wp2
      go_ret
      exact ⟨by rw [HVV.out]; rfl, ba1 w _⟩
    | true =>
      rcases Int.lt_trichotomy ar cr with hlt | heq | hgt
      · have d1 : decide (ar < cr) = true := by simpa using hlt
        have d2 : decide (cr < ar) = false := by simp; omega
        cases e3 : (cr - 1 == ar)
        all_goals
          have HVV := Lib.hid (show r = _ by rw [HV.out, e1, e2, d1, d2, e3])
          go_enter Try.func54, Try.ntmps54
          go_wp2
          go_ret
          exact ⟨by rw [HVV.out]; rfl, ba1 w _⟩
      · have d1 : decide (ar < cr) = false := by simp; omega
        have d2 : decide (cr < ar) = false := by simp; omega
        have HVV := Lib.hid (show r = _ by rw [HV.out, e1, e2, d1, d2])
        have HEQ := Lib.hid heq; clear heq
        go_enter Try.func54, Try.ntmps54
        go_wp2
        go_ret
        exact ⟨by rw [HVV.out]; rfl, ba1 w _⟩
      · have d1 : decide (ar < cr) = false := by simp; omega
        have d2 : decide (cr < ar) = true := by simpa using hgt
        cases e3 : (cr + 1 == ar)
        all_goals
          have HVV := Lib.hid (show r = _ by rw [HV.out, e1, e2, d1, d2, e3])
          go_enter Try.func54, Try.ntmps54
          go_wp2
          go_ret
          exact ⟨by rw [HVV.out]; rfl, ba1 w _⟩

def besideF (s : Shp) (k : Int) : List Int :=
  if k < 0 ∨ (s.cols.length : Int) ≤ k then [] else pick (besB (s.cols.getD k.toNat default)) s.cols

set_option maxRecDepth 100000 in
set_option maxHeartbeats 1000000 in
theorem beside_out (s : Shp) (h : Hd) (k : Int) (w : World) (hk : k < 0 ∨ (s.cols.length : Int) ≤ k) :
    Calls Try.prog 29 #[.agg (shpA s h), .int .i64 k] w (OwnInts w (besideF s k)) := by
  have HV : Hid (besideF s k = []) := Lib.hid (by unfold besideF; rw [if_pos hk])
  unfold shpA
  by_cases h0 : k < 0
  · have d0 : decide (k < 0) = true := by simpa using h0
    go_enter Try.func29, Try.ntmps29
    go_wp2
    go_ret
    exact ⟨_, rfl, by rw [HV.out]; exact OwnT.nil, ba1 w _⟩
  · have d0 : decide (k < 0) = false := by simpa using h0
    have h1 : (s.cols.length : Int) ≤ k := by omega
    have d1 : decide ((s.cols.length : Int) ≤ k) = true := by simpa using h1
    go_enter Try.func29, Try.ntmps29
    go_wp2
    go_ret
    exact ⟨_, rfl, by rw [HV.out]; exact OwnT.nil, ba1 w _⟩
set_option maxRecDepth 100000 in
set_option maxHeartbeats 1000000 in
theorem beside_in (s : Shp) (h : Hd) (k : Nat) (w : World) (hs : ShpR w (Lt w.heap.size) s h) (hl : s.cols.length ≤ 1000000) (hr : ∀ c ∈ s.cols, I64 c.row) (hk : k < s.cols.length) :
    Calls Try.prog 29 #[.agg (shpA s h), .int .i64 k] w (OwnInts w (besideF s k)) := by
  have HV : Hid (besideF s k = pick (besB (s.cols.getD k default)) s.cols) := Lib.hid (by unfold besideF; rw [if_neg (by omega), Int.toNat_natCast])
  obtain ⟨b, off, Ap, q, hA1, hbB, hq, hpl, c0, c1, c2, c3, c4, c5, c6, c7, c8, c9, c10, c11⟩ := hs.cols.col hk
  have HS := Lib.hid hs; clear hs
  have HR := Lib.hid hr; clear hr
  have HM := Lib.hid (getD_memD hk default)
  have h1 : (k : Int) < (s.cols.length : Int) := by omega
  have d0 : decide ((k : Int) < 0) = false := by simp
  have d1 : decide (s.cols.length ≤ k) = false := by simp; omega
  have hbl : b < w.heap.size := hbB
  clear hpl hbB
  unfold shpA
  rw [hA1]
  generalize s.cols.getD k default = a at *
  have HA := Lib.hid hA1; clear hA1
  have HCA : Hid ((colL a Ap q).toArray = #[.int .i64 a.bay, .int .i64 a.row, .bool a.deck, .int .i64 a.tiers, .int .i64 a.height, .int .i64 a.k20, .int .i64 a.k40, .int .i64 a.lash, .slice Ap a.plugs.length q, .int .i64 a.x, .int .i64 a.y, .int .i64 a.z]) := Lib.hid rfl
  go_enter Try.func29, Try.ntmps29
  go_wp2_with fail
  have hbx := ba2 w (.cells (shpA s h) 32) (.cells (colL a Ap q).toArray 53)
  have hbx' := hbx
  unfold shpA at hbx
  rw [HA.out, HCA.out] at hbx
  have hcl := (HS.out.cols.below hbx).up hbx.size
  rw [HA.out] at hcl
  refine (chosenCol_any (some ⟨b, off, none⟩) h.c1 s.cols 54 _ (besB a) _ hcl hl Try.call54 ?_).mono ?_
  · intro c A q' w' hm hb' hq' hsl
    have k1 := Bk.new (w.alloc (.cells (shpA s h) 32)) 53 (colL a Ap q).toArray
    unfold shpA at k1
    rw [HA.out] at k1
    simp at k1
    exact beside1 c A q' a Ap q _ w' (k1.below hb' k1.lt) (HR.out _ HM.out) (HR.out c hm)
  · intro e w1 hO
    obtain ⟨v, rfl, ho, hb1⟩ := OwnInts.from hO hbx
    clear hO hbx hbx' c0 c1 c2 c3 c4 c5 c6 c7 c8 c9 c10 c11
    go_wp2
    go_ret
    exact ⟨_, rfl, by rw [HV.out]; exact ho, hb1⟩
theorem beside_any (s : Shp) (h : Hd) (k : Int) (w : World) (hs : ShpR w (Lt w.heap.size) s h) (hl : s.cols.length ≤ 1000000) (hr : ∀ c ∈ s.cols, I64 c.row) :
    Calls Try.prog 29 #[.agg (shpA s h), .int .i64 k] w (OwnInts w (besideF s k)) := by
  by_cases hk : k < 0 ∨ (s.cols.length : Int) ≤ k
  · exact beside_out s h k w hk
  · obtain ⟨n, rfl⟩ := Int.eq_ofNat_of_zero_le (show 0 ≤ k by omega)
    exact beside_in s h n w hs hl hr (by omega)
end Go.Proofs.Ytbkinjpaigmghaa
