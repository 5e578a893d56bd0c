/-
  Contracts and lemmas, in one text: ShA, ShB, ShC, ShD, ShE, ShF, ShG, ShH, ShI, ShJ.
-/
import Derived.Test.YtmhikcleekfbpaaDoorChecked
import Derived.Test.YtmhikcleekfbpaaDoorB1
import Derived.Outline
import Derived.Deep.DeepCutAuto
import Derived.BigQuiet
import Derived.Deep.QuietTactic
import Derived.Deep.RegionHeld3
import Derived.StillTailTactics
import Derived.BigRegion
import Derived.DeepKeys4
namespace Go.Proofs.YtmhikcleekfbpaaDoor
open Go.RowKit

theorem el_int : El Tryd.prog 33 3 1 8 := El.mk' Tryd.underlying33 (by kernel_rfl) (by decide)

theorem getD_memD {α : Type} {l : List α} {k : Nat} (h : k < l.length) (d : α) : l.getD k d ∈ l := by simp [h]
/-- The indices, from k on, of the elements that are wanted. -/
def pickFrom {α : Type} (p : α → Bool) : List α → Nat → List Int
  | [], _ => []
  | x :: l, k => if p x then (k : Int) :: pickFrom p l (k + 1) else pickFrom p l (k + 1)
def pick {α : Type} (p : α → Bool) (l : List α) : List Int := pickFrom p l 0
theorem pickFrom_append {α : Type} (p : α → Bool) (m : List α) : ∀ (l : List α) (k : Nat), pickFrom p (l ++ m) k = pickFrom p l k ++ pickFrom p m (k + l.length)
  | [], k => by simp [pickFrom]
  | x :: l, k => by
    have e : k + 1 + l.length = k + (x :: l).length := by simp; omega
    simp only [List.cons_append, pickFrom, pickFrom_append p m l (k + 1), e]
    split <;> simp
theorem pick_take {α : Type} (p : α → Bool) {l : List α} {k : Nat} (h : k < l.length) (d : α) : pick p (l.take (k + 1)) = pick p (l.take k) ++ if p (l.getD k d) then [(k : Int)] else [] := by
  unfold pick
  rw [List.take_succ_eq_append_getElem h, pickFrom_append]
  have : (l.take k).length = k := by simp; omega
  simp [pickFrom, this, h]
theorem pickFrom_len {α : Type} (p : α → Bool) : ∀ (l : List α) (k : Nat), (pickFrom p l k).length ≤ l.length
  | [], _ => by simp [pickFrom]
  | x :: l, k => by have := pickFrom_len p l (k + 1); unfold pickFrom; split <;> simp <;> omega
theorem pick_len {α : Type} (p : α → Bool) (l : List α) : (pick p l).length ≤ l.length := pickFrom_len p l 0

theorem below_of_alloc {w w' : World} {o : Obj} (h : Below (w.alloc o).heap.size (w.alloc o) w') : Below w.heap.size w w' := ((Below.refl _ _).alloc (Nat.le_refl _) o).trans (h.mono (by simp))
def OwnInts (w : World) (l : List Int) (e : Ending) (w' : World) : Prop := ∃ v, e = .returned v ∧ OwnT tInt 3 w' w.heap.size v l ∧ Below w.heap.size w w'
/-- A closure on columns that reports p. -/
def ColFn (w : World) (S : Nat → Prop) (l : List Col) (fid : FuncId) (caps : Array Value) (p : Col → Bool) : Prop :=
  ∀ (c : Col) (A : Option Addr) (q : Nat) (w' : World), c ∈ l → Below w.heap.size w w' → c.plugs.length ≤ q → SlT tInt w' S A c.plugs → Calls Tryd.prog fid (#[.agg (colL c A q).toArray] ++ caps) w' fun e w'' => e = .returned (.bool (p c)) ∧ Below w'.heap.size w' w''

set_option maxRecDepth 100000 in
set_option maxHeartbeats 2000000 in
theorem chosenCol_any (A : Option Addr) (c : Nat) (l : List Col) (fid : FuncId) (caps : Array Value) (p : Col → Bool) (w : World) (hs : SlT tCol w (Lt w.heap.size) A l) (hl : l.length ≤ 1000000) (hent : ∀ (args : Array Value) (w : World), (callFunc fid args).run Tryd.prog w = .ok (.enter fid args) w) (hf : ColFn w (Lt w.heap.size) l fid caps p) :
    Calls Tryd.prog 50 #[.slice A l.length c, .func (.func fid) #[] caps] w (OwnInts w (pick p l)) := by
  have HF := Lib.hid hf; clear hf
  have HS := Lib.hid hs; clear hs
  go_enter Tryd.func50, Tryd.ntmps50
  go_wp2
  go_loopw [5, 10] (fun v i wr => ∃ k : Nat, k ≤ l.length ∧ i = .int .i64 k ∧ OwnT tInt 3 wr w.heap.size v (pick p (l.take k)) ∧ Below w.heap.size w wr) (fun _ i _ => l.length - (intOf i).toNat)
  case atStart => exact ⟨0, Nat.zero_le _, rfl, OwnT.nil, Below.refl _ _⟩
  case round =>
    obtain ⟨k, hk, rfl, hown, hb⟩ := hrel
    by_cases hlt : k < l.length
    · obtain ⟨b, off, Ap, q, rfl, hbB, hq, hpl, c0, c1, c2, c3, c4, c5, c6, c7, c8, c9, c10, c11⟩ := (HS.out.below hb).col hlt
      have HP := Lib.hid (pick_take p hlt default)
      have hpk := pick_len p (l.take k)
      have HPL := Lib.hid hpl; clear hpl
      have HMEM := Lib.hid (getD_memD hlt default)
      generalize l.getD k default = x at *
      obtain ⟨xb, xr, xd, xt, xh, x2, x4, xl, xp, xx, xy, xz⟩ := x
      simp only at c0 c1 c2 c3 c4 c5 c6 c7 c8 c9 c10 c11 hq
      have HC := Lib.hid (HF.out ⟨xb, xr, xd, xt, xh, x2, x4, xl, xp, xx, xy, xz⟩ Ap q (wr.alloc (.cells (colL ⟨xb, xr, xd, xt, xh, x2, x4, xl, xp, xx, xy, xz⟩ Ap q).toArray 35)) HMEM.out (hb.alloc hb.size _) hq (HPL.out.keep (keep_below ((Below.refl _ _).alloc hb.size _))))
      generalize p ⟨xb, xr, xd, xt, xh, x2, x4, xl, xp, xx, xy, xz⟩ = px at *
      clear HPL
      go_wp2_with fail
      refine HC.out.mono ?_
      rintro e w1 ⟨rfl, hb1⟩
      have hb1' := below_of_alloc hb1
      clear HC hb1 c0 c1 c2 c3 c4 c5 c6 c7 c8 c9 c10 c11
      have hz1 := hb1'.size
      have hz0 := hb.size
      cases px with
      | true =>
        obtain ⟨xs, ho, hfl⟩ := hown.below hb1'
        go_wp2_with (at_builtin; (refine wpList_append1 el_int rfl (.tmp 18) (.tmp 20) rfl w.heap.size _ (pick p (l.take k)).length xs rfl ho #[.int .i64 k] _ rfl rfl rfl ?c1 ?c2 ?c3 ?_))
        case c1 => unfold maxLen; simp at hpk; omega
        case c2 => simp at hpk; omega
        case c3 => omega
        intro v' w3 hown' hgr hd3 hbel
        go_wp2
        go_roundw
        case rel => exact ⟨k + 1, by omega, by go_num, by rw [HP.out]; exact OwnT.int1 hfl hown' hgr hd3, (hb.trans (hb1'.mono hz0)).trans hbel⟩
        case measure => simp [intOf]; omega
      | false =>
        go_wp2
        go_roundw
        case rel => exact ⟨k + 1, by omega, by go_num, by rw [HP.out]; simpa using hown.below hb1', hb.trans (hb1'.mono hz0)⟩
        case measure => simp [intOf]; omega
    · have hkn : l.take k = l := List.take_of_length_le (by omega)
      rw [hkn] at hown
      clear hkn
      go_wp2
      go_ret
      exact ⟨_, rfl, hown, hb⟩
/-- A closure on covers that reports p. -/
def CovFn (w : World) (S : Nat → Prop) (l : List Cov) (fid : FuncId) (caps : Array Value) (p : Cov → Bool) : Prop :=
  ∀ (c : Cov) (A : Option Addr) (q : Nat) (w' : World), c ∈ l → Below w.heap.size w w' → c.rows.length ≤ q → SlT tInt w' S A c.rows → Calls Tryd.prog fid (#[.agg #[.int .i64 c.bay, .slice A c.rows.length q]] ++ caps) w' fun e w'' => e = .returned (.bool (p c)) ∧ Below w'.heap.size w' w''

/-- A closure on ints that reports p. -/
def IntFn (w : World) (l : List Int) (fid : FuncId) (caps : Array Value) (p : Int → Bool) : Prop :=
  ∀ (c : Int) (w' : World), c ∈ l → Below w.heap.size w w' → Calls Tryd.prog fid (#[.int .i64 c] ++ caps) w' fun e w'' => e = .returned (.bool (p c)) ∧ Below w'.heap.size w' w''

end Go.Proofs.YtmhikcleekfbpaaDoor
namespace Go.Proofs.YtmhikcleekfbpaaDoor
open Go.RowKit

theorem ba1 (w : World) (o : Obj) : Below w.heap.size w (w.alloc o) := (Below.refl _ _).alloc (Nat.le_refl _) _
theorem ba2 (w : World) (o p : Obj) : Below w.heap.size w ((w.alloc o).alloc p) := (ba1 w o).alloc (by simp) _
theorem ba3 (w : World) (o p q : Obj) : Below w.heap.size w (((w.alloc o).alloc p).alloc q) := (ba2 w o p).alloc (by simp; omega) _
theorem ba4 (w : World) (o p q r : Obj) : Below w.heap.size w ((((w.alloc o).alloc p).alloc q).alloc r) := (ba3 w o p q).alloc (by simp; omega) _

theorem bcell {W w1 : World} (hb : Below W.heap.size W w1) : (∀ b o, b < W.heap.size → w1.cell? ⟨b, o, none⟩ = W.cell? ⟨b, o, none⟩) ∧ (∀ b o, b < W.heap.size → w1.frozen? ⟨b, o, none⟩ = W.frozen? ⟨b, o, none⟩) :=
  ⟨fun b o h => hb.cell (p := ⟨b, o, none⟩) h, fun b o h => hb.frozen (p := ⟨b, o, none⟩) h⟩

/-- What a call that only makes memory leaves. -/
def Ret (w : World) (v : Value) (e : Ending) (w' : World) : Prop := e = .returned v ∧ Below w.heap.size w w'
theorem OwnInts.from {w W : World} {l : List Int} {e : Ending} {w' : World} (h : OwnInts W l e w') (hb : Below w.heap.size w W) : OwnInts w l e w' := by
  obtain ⟨v, h1, h2, h3⟩ := h
  exact ⟨v, h1, h2.down hb.size, hb.trans (h3.mono hb.size)⟩
theorem OwnInts.sl {w : World} {l : List Int} {e : Ending} {w' : World} (h : OwnInts w l e w') : ∃ A c, e = .returned (.slice A l.length c) ∧ l.length ≤ c ∧ SlT tInt w' (Lt w'.heap.size) A l ∧ Below w.heap.size w w' := by
  obtain ⟨v, h1, h2, h3⟩ := h
  obtain ⟨A, c, rfl, h4, h5, h6⟩ := h2.sl
  exact ⟨A, c, h1, h4, h6, h3⟩

def findB (bay row : Int) (deck : Bool) (c : Col) : Bool := c.bay == bay && (c.row == row && c.deck == deck)
def findF (s : Shp) (bay row : Int) (deck : Bool) : Int × Bool :=
  match pick (findB bay row deck) s.cols with
  | [] => (0, false)
  | i :: _ => (i, true)

end Go.Proofs.YtmhikcleekfbpaaDoor
namespace Go.Proofs.YtmhikcleekfbpaaDoor
open Go.RowKit

def covB (x : Cov) (c : Col) : Bool := x.bay == c.bay && decide (0 < (pick (· == c.row) x.rows).length)

def coverOfF (s : Shp) (k : Int) : Int :=
  if k < 0 ∨ (s.cols.length : Int) ≤ k then -1 else
  match pick (fun x => covB x (s.cols.getD k.toNat default)) s.covs with
  | [] => -1
  | i :: _ => i
/-- The lists of a ship are short. -/
structure Few (s : Shp) : Prop where
  cols : s.cols.length ≤ 1000000
  covs : s.covs.length ≤ 1000000
  rows : ∀ x ∈ s.covs, x.rows.length ≤ 1000000
  plugs : ∀ x ∈ s.cols, x.plugs.length ≤ 1000000

end Go.Proofs.YtmhikcleekfbpaaDoor
namespace Go.Proofs.YtmhikcleekfbpaaDoor
open Go.RowKit

def alongB (x : Cov) (deck : Bool) (c : Col) : Bool := c.deck == deck && covB x c

def alongF (s : Shp) (k : Int) (deck : Bool) : List Int :=
  if k < 0 ∨ (s.covs.length : Int) ≤ k then [] else pick (alongB (s.covs.getD k.toNat default) deck) s.cols

end Go.Proofs.YtmhikcleekfbpaaDoor
namespace Go.Proofs.YtmhikcleekfbpaaDoor
open Go.RowKit

def I64 (x : Int) : Prop := -9223372036854775808 ≤ x ∧ x ≤ 9223372036854775807
def besB (a c : Col) : Bool := c.bay == a.bay && (c.deck == a.deck && (decide (a.row < c.row) && (c.row - 1 == a.row) || decide (c.row < a.row) && (c.row + 1 == a.row)))

set_option maxRecDepth 100000 in
set_option maxHeartbeats 2000000 in
theorem beside1 (c : Col) (A : Option Addr) (q : Nat) (a : Col) (Aa : Option Addr) (qa : Nat) (g : Nat) (w : World) (hg : Bk w g 35 (colL a Aa qa).toArray) (h1 : I64 a.row) (h2 : I64 c.row) :
    Calls Tryd.prog 51 #[.agg (colL c A q).toArray, .pointer (some ⟨g, 0, none⟩)] w (Ret w (.bool (besB a c))) := by
  have g0 : w.cell? ⟨g, 0, none⟩ = some (.int .i64 a.bay) := hg.cell 0
  have g1 : w.cell? ⟨g, 1, none⟩ = some (.int .i64 a.row) := hg.cell 1
  have g2 : w.cell? ⟨g, 2, none⟩ = some (.bool a.deck) := hg.cell 2
  have n1 := hg.lt
  have HV : Hid (besB a c = (c.bay == a.bay && (c.deck == a.deck && (decide (a.row < c.row) && (c.row - 1 == a.row) || decide (c.row < a.row) && (c.row + 1 == a.row))))) := Lib.hid rfl
  clear hg
  generalize besB a c = r at *
  obtain ⟨h1a, h1b⟩ := h1
  obtain ⟨h2a, h2b⟩ := h2
  obtain ⟨ab, ar, ad, _, _, _, _, _, _, _, _, _⟩ := a
  obtain ⟨cb, cr, cd, ct, ch, x2, x4, cl, cp, cx, cy, cz⟩ := c
  unfold colL
  simp only at *
  cases e1 : (cb == ab) with
  | false =>
    have HVV : Hid (r = false) := Lib.hid (by rw [HV.out, e1]; rfl)
    go_enter Tryd.func51, Tryd.ntmps51
    go_wp2
    go_ret
    exact ⟨by rw [HVV.out]; rfl, ba1 w _⟩
  | true =>
    cases e2 : (cd == ad) with
    | false =>
      have HVV : Hid (r = false) := Lib.hid (by rw [HV.out, e1, e2]; rfl)
      go_enter Tryd.func51, Tryd.ntmps51
      go_wp2
      go_ret
      exact ⟨by rw [HVV.out]; rfl, ba1 w _⟩
    | true =>
      rcases Int.lt_trichotomy ar cr with hlt | heq | hgt
      · have d1 : decide (ar < cr) = true := by simpa using hlt
        have d2 : decide (cr < ar) = false := by simp; omega
        cases e3 : (cr - 1 == ar)
        all_goals
          have HVV := Lib.hid (show r = _ by rw [HV.out, e1, e2, d1, d2, e3])
          go_enter Tryd.func51, Tryd.ntmps51
          go_wp2
          go_ret
          exact ⟨by rw [HVV.out]; rfl, ba1 w _⟩
      · have d1 : decide (ar < cr) = false := by simp; omega
        have d2 : decide (cr < ar) = false := by simp; omega
        have HVV := Lib.hid (show r = _ by rw [HV.out, e1, e2, d1, d2])
        have HEQ := Lib.hid heq; clear heq
        go_enter Tryd.func51, Tryd.ntmps51
        go_wp2
        go_ret
        exact ⟨by rw [HVV.out]; rfl, ba1 w _⟩
      · have d1 : decide (ar < cr) = false := by simp; omega
        have d2 : decide (cr < ar) = true := by simpa using hgt
        cases e3 : (cr + 1 == ar)
        all_goals
          have HVV := Lib.hid (show r = _ by rw [HV.out, e1, e2, d1, d2, e3])
          go_enter Tryd.func51, Tryd.ntmps51
          go_wp2
          go_ret
          exact ⟨by rw [HVV.out]; rfl, ba1 w _⟩

def besideF (s : Shp) (k : Int) : List Int :=
  if k < 0 ∨ (s.cols.length : Int) ≤ k then [] else pick (besB (s.cols.getD k.toNat default)) s.cols

set_option maxRecDepth 100000 in
set_option maxHeartbeats 1000000 in
theorem beside_out (s : Shp) (h : Hd) (k : Int) (w : World) (hk : k < 0 ∨ (s.cols.length : Int) ≤ k) :
    Calls Tryd.prog 39 #[.agg (shpA s h), .int .i64 k] w (OwnInts w (besideF s k)) := by
  have HV : Hid (besideF s k = []) := Lib.hid (by unfold besideF; rw [if_pos hk])
  unfold shpA
  by_cases h0 : k < 0
  · have d0 : decide (k < 0) = true := by simpa using h0
    go_enter Tryd.func39, Tryd.ntmps39
    go_wp2
    go_ret
    exact ⟨_, rfl, by rw [HV.out]; exact OwnT.nil, ba1 w _⟩
  · have d0 : decide (k < 0) = false := by simpa using h0
    have h1 : (s.cols.length : Int) ≤ k := by omega
    have d1 : decide ((s.cols.length : Int) ≤ k) = true := by simpa using h1
    go_enter Tryd.func39, Tryd.ntmps39
    go_wp2
    go_ret
    exact ⟨_, rfl, by rw [HV.out]; exact OwnT.nil, ba1 w _⟩
set_option maxRecDepth 100000 in
set_option maxHeartbeats 1000000 in
theorem beside_in (s : Shp) (h : Hd) (k : Nat) (w : World) (hs : ShpR w (Lt w.heap.size) s h) (hl : s.cols.length ≤ 1000000) (hr : ∀ c ∈ s.cols, I64 c.row) (hk : k < s.cols.length) :
    Calls Tryd.prog 39 #[.agg (shpA s h), .int .i64 k] w (OwnInts w (besideF s k)) := by
  have HV : Hid (besideF s k = pick (besB (s.cols.getD k default)) s.cols) := Lib.hid (by unfold besideF; rw [if_neg (by omega), Int.toNat_natCast])
  obtain ⟨b, off, Ap, q, hA1, hbB, hq, hpl, c0, c1, c2, c3, c4, c5, c6, c7, c8, c9, c10, c11⟩ := hs.cols.col hk
  have HS := Lib.hid hs; clear hs
  have HR := Lib.hid hr; clear hr
  have HM := Lib.hid (getD_memD hk default)
  have h1 : (k : Int) < (s.cols.length : Int) := by omega
  have d0 : decide ((k : Int) < 0) = false := by simp
  have d1 : decide (s.cols.length ≤ k) = false := by simp; omega
  have hbl : b < w.heap.size := hbB
  clear hpl hbB
  unfold shpA
  rw [hA1]
  generalize s.cols.getD k default = a at *
  have HA := Lib.hid hA1; clear hA1
  have HCA : Hid ((colL a Ap q).toArray = #[.int .i64 a.bay, .int .i64 a.row, .bool a.deck, .int .i64 a.tiers, .int .i64 a.height, .int .i64 a.k20, .int .i64 a.k40, .int .i64 a.lash, .slice Ap a.plugs.length q, .int .i64 a.x, .int .i64 a.y, .int .i64 a.z]) := Lib.hid rfl
  go_enter Tryd.func39, Tryd.ntmps39
  go_wp2_with fail
  have hbx := ba2 w (.cells (shpA s h) 32) (.cells (colL a Ap q).toArray 35)
  have hbx' := hbx
  unfold shpA at hbx
  rw [HA.out, HCA.out] at hbx
  have hcl := (HS.out.cols.below hbx).up hbx.size
  rw [HA.out] at hcl
  refine (chosenCol_any (some ⟨b, off, none⟩) h.c1 s.cols 51 _ (besB a) _ hcl hl Tryd.call51 ?_).mono ?_
  · intro c A q' w' hm hb' hq' hsl
    have k1 := Bk.new (w.alloc (.cells (shpA s h) 32)) 35 (colL a Ap q).toArray
    unfold shpA at k1
    rw [HA.out] at k1
    simp at k1
    exact beside1 c A q' a Ap q _ w' (k1.below hb' k1.lt) (HR.out _ HM.out) (HR.out c hm)
  · intro e w1 hO
    obtain ⟨v, rfl, ho, hb1⟩ := OwnInts.from hO hbx
    clear hO hbx hbx' c0 c1 c2 c3 c4 c5 c6 c7 c8 c9 c10 c11
    go_wp2
    go_ret
    exact ⟨_, rfl, by rw [HV.out]; exact ho, hb1⟩
theorem beside_any (s : Shp) (h : Hd) (k : Int) (w : World) (hs : ShpR w (Lt w.heap.size) s h) (hl : s.cols.length ≤ 1000000) (hr : ∀ c ∈ s.cols, I64 c.row) :
    Calls Tryd.prog 39 #[.agg (shpA s h), .int .i64 k] w (OwnInts w (besideF s k)) := by
  by_cases hk : k < 0 ∨ (s.cols.length : Int) ≤ k
  · exact beside_out s h k w hk
  · obtain ⟨n, rfl⟩ := Int.eq_ofNat_of_zero_le (show 0 ≤ k by omega)
    exact beside_in s h n w hs hl hr (by omega)
end Go.Proofs.YtmhikcleekfbpaaDoor
namespace Go.Proofs.YtmhikcleekfbpaaDoor
open Go.RowKit

def apartF (s : Shp) (a b : Int) : Int × Bool :=
  if (a < 0 ∨ b < 0) ∨ ((s.cols.length : Int) ≤ a ∨ (s.cols.length : Int) ≤ b) then (0, false) else
  let m := (s.cols.getD a.toNat default).bay
  let n := (s.cols.getD b.toNat default).bay
  if (m < 0 ∨ n < 0) ∨ (40 ≤ m ∨ 40 ≤ n) then (0, false) else if m < n then (n - m, true) else (m - n, true)

set_option maxRecDepth 100000 in
set_option maxHeartbeats 1000000 in
theorem apart_out (s : Shp) (h : Hd) (a b : Int) (w : World) (hk : (a < 0 ∨ b < 0) ∨ ((s.cols.length : Int) ≤ a ∨ (s.cols.length : Int) ≤ b)) :
    Calls Tryd.prog 22 #[.agg (shpA s h), .int .i64 a, .int .i64 b] w (Ret w (.tuple #[.int .i64 (apartF s a b).1, .bool (apartF s a b).2])) := by
  have HV : Hid (apartF s a b = (0, false)) := Lib.hid (by unfold apartF; rw [if_pos hk])
  unfold shpA
  have hc : (a < b ∧ a < 0) ∨ (a < b ∧ 0 ≤ a ∧ (s.cols.length : Int) ≤ b) ∨ (b < a ∧ b < 0) ∨ (b < a ∧ 0 ≤ b ∧ (s.cols.length : Int) ≤ a) ∨ (a = b ∧ a < 0) ∨ (a = b ∧ 0 ≤ a ∧ (s.cols.length : Int) ≤ a) := by omega
  clear hk
  rcases hc with ⟨h1, h2⟩ | ⟨h1, h2, h3⟩ | ⟨h1, h2⟩ | ⟨h1, h2, h3⟩ | ⟨rfl, h2⟩ | ⟨rfl, h2, h3⟩
  all_goals
    go_enter Tryd.func22, Tryd.ntmps22
    go_wp2
    go_ret2
    exact ⟨by rw [HV.out]; rfl, ba1 w _⟩
theorem prod_val {p : Int × Bool} {x : Int} {b : Bool} (h : p = (x, b)) : Value.tuple #[.int .i64 p.1, .bool p.2] = .tuple #[.int .i64 x, .bool b] := by rw [h]

set_option maxRecDepth 100000 in
set_option maxHeartbeats 2000000 in
theorem apart_in (s : Shp) (h : Hd) (a b : Nat) (w : World) (hs : ShpR w (Lt w.heap.size) s h) (ha : a < s.cols.length) (hb : b < s.cols.length) :
    Calls Tryd.prog 22 #[.agg (shpA s h), .int .i64 a, .int .i64 b] w (Ret w (.tuple #[.int .i64 (apartF s a b).1, .bool (apartF s a b).2])) := by
  obtain ⟨g, off, _, _, hA, hbB, _, _, ca, _⟩ := hs.cols.col ha
  obtain ⟨g', off', _, _, hA', _, _, _, cb, _⟩ := hs.cols.col hb
  have hgg := hA.symm.trans hA'
  injection hgg with hgg
  injection hgg with e1 e2
  subst e1 e2
  have hgl : g < w.heap.size := hbB
  unfold shpA
  rw [hA]
  have HV : Hid (apartF s a b = if ((s.cols.getD a default).bay < 0 ∨ (s.cols.getD b default).bay < 0) ∨ (40 ≤ (s.cols.getD a default).bay ∨ 40 ≤ (s.cols.getD b default).bay) then (0, false) else if (s.cols.getD a default).bay < (s.cols.getD b default).bay then ((s.cols.getD b default).bay - (s.cols.getD a default).bay, true) else ((s.cols.getD a default).bay - (s.cols.getD b default).bay, true)) := Lib.hid (by
    unfold apartF; rw [if_neg (by omega)]; simp only [Int.toNat_natCast])
  clear hA hA' hbB hs
  generalize (s.cols.getD a default).bay = m at *
  generalize (s.cols.getD b default).bay = n at *
  have i1 : (0 : Int) ≤ (a : Int) := by omega
  have i2 : (a : Int) < (s.cols.length : Int) := by omega
  have i3 : (0 : Int) ≤ (b : Int) := by omega
  have i4 : (b : Int) < (s.cols.length : Int) := by omega
  have hab : a < b ∨ b < a ∨ a = b := by omega
  have hcase : ((m < n ∧ m < 0) ∨ (m < n ∧ 0 ≤ m ∧ 40 ≤ n) ∨ (n < m ∧ n < 0) ∨ (n < m ∧ 0 ≤ n ∧ 40 ≤ m) ∨ (m = n ∧ m < 0) ∨ (m = n ∧ 0 ≤ m ∧ 40 ≤ m)) ∨ ((m < n ∧ 0 ≤ m ∧ n < 40) ∨ (n < m ∧ 0 ≤ n ∧ m < 40) ∨ (m = n ∧ 0 ≤ m ∧ m < 40)) := by omega
  obtain ⟨r, hr⟩ : ∃ r, apartF s a b = r := ⟨_, rfl⟩
  have HR := Lib.hid hr
  rw [hr] at HV
  rw [hr]
  clear hr
  have HRV : Hid (∃ x y, r = (x, y) ∧ ((m < n ∧ m < 0) ∨ (m < n ∧ 0 ≤ m ∧ 40 ≤ n) ∨ (n < m ∧ n < 0) ∨ (n < m ∧ 0 ≤ n ∧ 40 ≤ m) ∨ (m = n ∧ m < 0) ∨ (m = n ∧ 0 ≤ m ∧ 40 ≤ m) → x = 0 ∧ y = false) ∧ (m < n ∧ 0 ≤ m ∧ n < 40 → x = n - m ∧ y = true) ∧ (n < m ∧ 0 ≤ n ∧ m < 40 → x = m - n ∧ y = true) ∧ (m = n ∧ 0 ≤ m ∧ m < 40 → x = 0 ∧ y = true)) := Lib.hid (by
    rw [HV.out]
    split
    · exact ⟨_, _, rfl, (fun _ => ⟨rfl, rfl⟩), (by omega), (by omega), (by omega)⟩
    · split
      · exact ⟨_, _, rfl, (by omega), (fun _ => ⟨rfl, rfl⟩), (by omega), (by omega)⟩
      · exact ⟨_, _, rfl, (by omega), (by omega), (fun _ => ⟨rfl, rfl⟩), (fun _ => ⟨by omega, rfl⟩)⟩)
  clear HV HR
  have hmn : a = b → m = n := fun e => by
    subst e
    have := ca.symm.trans cb
    simpa using this
  rcases hab with h1 | h1 | h1
  · clear hmn
    go_enter Tryd.func22, Tryd.ntmps22
    go_wp2_with fail
    go_quiet (fail)
    rcases hcase with (⟨q1, q2⟩ | ⟨q1, q2, q3⟩ | ⟨q1, q2⟩ | ⟨q1, q2, q3⟩ | ⟨q1, q2⟩ | ⟨q1, q2, q3⟩) | (⟨q1, q2, q3⟩ | ⟨q1, q2, q3⟩ | ⟨q1, q2, q3⟩)
    all_goals
      obtain ⟨x, y, rfl, r1, r2, r3, r4⟩ := HRV.out
      first
        | (have e := r1 (by omega)
           obtain ⟨rfl, rfl⟩ := e)
        | (have e := r2 (by omega)
           obtain ⟨rfl, rfl⟩ := e)
        | (have e := r3 (by omega)
           obtain ⟨rfl, rfl⟩ := e)
        | (have e := r4 (by omega)
           obtain ⟨rfl, rfl⟩ := e)
      clear r1 r2 r3 r4
      first
        | (subst q1
           go_wp2
           go_ret2
           exact ⟨by first | rfl | (simp; done), below_drewN (ba1 w _) _⟩)
        | (go_wp2
           go_ret2
           exact ⟨rfl, below_drewN (ba1 w _) _⟩)
  · clear hmn
    go_enter Tryd.func22, Tryd.ntmps22
    go_wp2_with fail
    go_quiet (fail)
    rcases hcase with (⟨q1, q2⟩ | ⟨q1, q2, q3⟩ | ⟨q1, q2⟩ | ⟨q1, q2, q3⟩ | ⟨q1, q2⟩ | ⟨q1, q2, q3⟩) | (⟨q1, q2, q3⟩ | ⟨q1, q2, q3⟩ | ⟨q1, q2, q3⟩)
    all_goals
      obtain ⟨x, y, rfl, r1, r2, r3, r4⟩ := HRV.out
      first
        | (have e := r1 (by omega)
           obtain ⟨rfl, rfl⟩ := e)
        | (have e := r2 (by omega)
           obtain ⟨rfl, rfl⟩ := e)
        | (have e := r3 (by omega)
           obtain ⟨rfl, rfl⟩ := e)
        | (have e := r4 (by omega)
           obtain ⟨rfl, rfl⟩ := e)
      clear r1 r2 r3 r4
      first
        | (subst q1
           go_wp2
           go_ret2
           exact ⟨by first | rfl | (simp; done), below_drewN (ba1 w _) _⟩)
        | (go_wp2
           go_ret2
           exact ⟨rfl, below_drewN (ba1 w _) _⟩)
  · obtain rfl := hmn h1
    subst h1
    clear cb hmn hcase
    have R1 : Hid (m < 0 ∨ 40 ≤ m → r = (0, false)) := Lib.hid fun hh => by
      obtain ⟨x, y, e, r1, _⟩ := HRV.out
      obtain ⟨rfl, rfl⟩ := r1 (by omega)
      exact e
    have R2 : Hid (0 ≤ m ∧ m < 40 → r = (0, true)) := Lib.hid fun hh => by
      obtain ⟨x, y, e, _, _, _, r4⟩ := HRV.out
      obtain ⟨rfl, rfl⟩ := r4 ⟨rfl, hh⟩
      exact e
    have hc3 : (m < 0) ∨ (0 ≤ m ∧ 40 ≤ m) ∨ (0 ≤ m ∧ m < 40) := by omega
    clear HRV
    go_enter Tryd.func22, Tryd.ntmps22
    go_wp2_with fail
    go_quiet (fail)
    rcases hc3 with q | ⟨q, q2⟩ | ⟨q, q2⟩
    · obtain rfl := R1.out (by omega)
      go_wp2
      go_ret2
      exact ⟨rfl, below_drewN (ba1 w _) _⟩
    · obtain rfl := R1.out (by omega)
      go_wp2
      go_ret2
      exact ⟨rfl, below_drewN (ba1 w _) _⟩
    · obtain rfl := R2.out (by omega)
      go_wp2
      go_ret2
      exact ⟨by simp, below_drewN (ba1 w _) _⟩
theorem apart_any (s : Shp) (h : Hd) (a b : Int) (w : World) (hs : ShpR w (Lt w.heap.size) s h) :
    Calls Tryd.prog 22 #[.agg (shpA s h), .int .i64 a, .int .i64 b] w (Ret w (.tuple #[.int .i64 (apartF s a b).1, .bool (apartF s a b).2])) := by
  by_cases hk : (a < 0 ∨ b < 0) ∨ ((s.cols.length : Int) ≤ a ∨ (s.cols.length : Int) ≤ b)
  · exact apart_out s h a b w hk
  · obtain ⟨n, rfl⟩ := Int.eq_ofNat_of_zero_le (show 0 ≤ a by omega)
    obtain ⟨m, rfl⟩ := Int.eq_ofNat_of_zero_le (show 0 ≤ b by omega)
    exact apart_in s h n m w hs (by omega) (by omega)
end Go.Proofs.YtmhikcleekfbpaaDoor
namespace Go.Proofs.YtmhikcleekfbpaaDoor
open Go.RowKit

theorem list_ext {α : Type} (d : α) {a b : List α} {n : Nat} (ha : a.length = n) (hb : b.length = n) (h : ∀ i, i < n → a.getD i d = b.getD i d) : a = b := by
  apply List.ext_getElem
  · omega
  · intro i h1 h2
    have := h i (by omega)
    simpa [h1, h2] using this
def tallTo (l : List Col) : Nat → Int
  | 0 => 0
  | k + 1 => if k = 0 ∨ tallTo l k < (l.getD k default).tiers then (l.getD k default).tiers else tallTo l k
def placesTo (l : List Col) : Nat → Int
  | 0 => 0
  | k + 1 => wrap64 (placesTo l k + wrap64 (2 * (l.getD k default).tiers))

/-- What a call that only reads leaves. -/
def Rets (w : World) (v : Value) (e : Ending) (w' : World) : Prop := e = .returned v ∧ ∃ m, w' = w.drewN m

set_option maxRecDepth 100000 in
set_option maxHeartbeats 1000000 in
theorem sameInts_any (A1 A2 : Option Addr) (c1 c2 : Nat) (L1 L2 : List Int) (S1 S2 : Nat → Prop) (w : World) (h1 : SlT tInt w S1 A1 L1) (h2 : SlT tInt w S2 A2 L2) (hn : L1.length ≤ maxLen) :
    Calls Tryd.prog 19 #[.slice A1 L1.length c1, .slice A2 L2.length c2] w (Rets w (.bool (decide (L1 = L2)))) := by
  unfold maxLen at hn
  by_cases hne : L1.length = L2.length
  · have HNE := Lib.hid hne
    have hb0 : ((L1.length : Int) != (L2.length : Int)) = false := by simp; omega
    clear hne
    go_enter Tryd.func19, Tryd.ntmps19
    go_wp2
    go_loopw [5] (fun i wr => ∃ k m : Nat, k ≤ L1.length ∧ i = .int .i64 k ∧ wr = w.drewN m ∧ Hid (∀ i, i < k → L1.getD i 0 = L2.getD i 0)) (fun i _ => L1.length - (intOf i).toNat)
    case atStart => exact ⟨0, 0, Nat.zero_le _, rfl, rfl, Lib.hid (fun i hi => absurd hi (by omega))⟩
    case round =>
      obtain ⟨k, m, hk, rfl, rfl, HE⟩ := hrel
      by_cases hlt : k < L1.length
      · obtain ⟨p1, o1, rfl, _, e1⟩ := h1.int hlt
        obtain ⟨p2, o2, rfl, _, e2⟩ := h2.int (j := k) (by rw [← HNE.out]; exact hlt)
        have hlt' : (k : Int) < (L1.length : Int) := by omega
        have hlt2 : (k : Int) < (L2.length : Int) := by have := HNE.out; omega
        have hk0 : (0 : Int) ≤ (k : Int) := by omega
        by_cases hg : L1.getD k 0 = L2.getD k 0
        · have HE2 := Lib.hid (show ∀ i, i < k + 1 → L1.getD i 0 = L2.getD i 0 from fun i hi => by
            rcases Nat.lt_succ_iff_lt_or_eq.1 hi with h | h
            · exact HE.out i h
            · rw [h]; exact hg)
          rw [← hg] at e2
          clear HE hg
          generalize L1.getD k 0 = g1 at *
          go_wp2
          go_quiet (fail)
          go_wp2
          go_roundw
          case rel => exact ⟨k + 1, m + nq, by omega, by go_num, by simp, HE2⟩
          case measure => simp [intOf]; omega
        · have hbq : (L1.getD k 0 != L2.getD k 0) = true := by simpa using hg
          have HNEQ := Lib.hid (show decide (L1 = L2) = false by
            rw [decide_eq_false_iff_not]; intro h; exact hg (by rw [h]))
          clear HE hg
          generalize L1.getD k 0 = g1 at *
          generalize L2.getD k 0 = g2 at *
          go_wp2
          go_quiet (fail)
          go_wp2
          go_ret
          exact ⟨by rw [HNEQ.out]; rfl, m + nq, by simp [World.drewN_drewN]⟩
      · obtain rfl : k = L1.length := by omega
        have HY := Lib.hid (show decide (L1 = L2) = true by
          rw [decide_eq_true_iff]; exact list_ext 0 rfl HNE.out.symm HE.out)
        go_wp2
        go_ret
        exact ⟨by rw [HY.out]; rfl, m, rfl⟩
  · have hb : ((L1.length : Int) != (L2.length : Int)) = true := by simp; omega
    have HNE := Lib.hid (show decide (L1 = L2) = false by
      rw [decide_eq_false_iff_not]; intro h; rw [h] at hne; exact hne rfl)
    go_enter Tryd.func19, Tryd.ntmps19
    go_wp2
    go_ret
    exact ⟨by rw [HNE.out]; rfl, 0, rfl⟩
end Go.Proofs.YtmhikcleekfbpaaDoor
namespace Go.Proofs.YtmhikcleekfbpaaDoor
open Go.RowKit

def spL (t : Int × Int × Int) : List Value := [.int .i64 t.1, .int .i64 t.2.1, .int .i64 t.2.2]
def tSpan : Ty (Int × Int × Int) where
  k := 3
  pos := by decide
  rd := fun _ _ cs t => cs = spL t
  len := by rintro _ _ _ _ rfl; rfl
  one := by rintro _ _ _ _ rfl; rfl
  keep := fun h _ => h
  more := fun h _ => h
def inB (t : Int × Int × Int) : Bool := !(decide (t.1 < t.2.1) || decide (t.2.2 < t.1))
theorem SlT.span {w : World} {S : Nat → Prop} {A : Option Addr} {l : List (Int × Int × Int)} (h : SlT tSpan w S A l) {i : Nat} (hi : i < l.length) :
    ∃ b off, A = some ⟨b, off, none⟩ ∧ S b ∧ w.cell? ⟨b, off + i * 3, none⟩ = some (.int .i64 (l.getD i default).1) ∧ w.cell? ⟨b, off + i * 3 + 1, none⟩ = some (.int .i64 (l.getD i default).2.1) ∧ w.cell? ⟨b, off + i * 3 + 2, none⟩ = some (.int .i64 (l.getD i default).2.2) := by
  obtain ⟨b, off, cs, e, hb, h1, hc⟩ := h.at_ hi default
  rw [show cs = _ from h1] at hc
  exact ⟨b, off, e, hb, hc 0 _ rfl, hc 1 _ rfl, hc 2 _ rfl⟩
theorem all_take {α : Type} (p : α → Bool) {l : List α} {k : Nat} (h : k < l.length) (d : α) : (l.take (k + 1)).all p = ((l.take k).all p && p (l.getD k d)) := by
  rw [List.take_succ_eq_append_getElem h, List.all_append]; simp [h]
theorem all_getD_false {α : Type} (p : α → Bool) {l : List α} {k : Nat} (h : k < l.length) (d : α) (hf : p (l.getD k d) = false) : l.all p = false := by
  rw [List.all_eq_false]; exact ⟨_, getD_memD h d, by simp only [hf]; simp⟩

set_option maxRecDepth 100000 in
set_option maxHeartbeats 1000000 in
theorem right1 (A : Option Addr) (c : Nat) (l : List (Int × Int × Int)) (w : World) (hs : SlT tSpan w (Lt w.heap.size) A l) (hl : l.length ≤ 1000000) :
    Calls Tryd.prog 78 #[.slice A l.length c] w (Ret w (.bool (l.all inB))) := by
  have HS := Lib.hid hs; clear hs
  go_enter Tryd.func78, Tryd.ntmps78
  go_wp2
  go_loopw [7] (fun i wr => ∃ k : Nat, k ≤ l.length ∧ i = .int .i64 k ∧ Hid ((l.take k).all inB = true) ∧ Below w.heap.size w wr) (fun i _ => l.length - (intOf i).toNat)
  case atStart => exact ⟨0, Nat.zero_le _, rfl, Lib.hid rfl, Below.refl _ _⟩
  case round =>
    obtain ⟨k, hk, rfl, HA, hb⟩ := hrel
    by_cases hlt : k < l.length
    · obtain ⟨b, off, rfl, hbB, c0, c1, c2⟩ := (HS.out.below hb).span hlt
      have HT := Lib.hid (all_take inB hlt default)
      have HN := Lib.hid (all_getD_false inB hlt default)
      have HI : Hid (inB (l.getD k default) = !(decide ((l.getD k default).1 < (l.getD k default).2.1) || decide ((l.getD k default).2.2 < (l.getD k default).1))) := Lib.hid rfl
      generalize l.getD k default = x at *
      obtain ⟨n, lo, hi⟩ := x
      simp only at c0 c1 c2 HI
      cases d1 : decide (n < lo) with
      | true =>
        have HV : Hid (l.all inB = false) := Lib.hid (HN.out (by rw [HI.out, d1]; rfl))
        go_wp2
        go_ret
        exact ⟨by rw [HV.out]; rfl, hb.alloc hb.size _⟩
      | false =>
        cases d2 : decide (hi < n) with
        | true =>
          have HV : Hid (l.all inB = false) := Lib.hid (HN.out (by rw [HI.out, d1, d2]; rfl))
          go_wp2
          go_ret
          exact ⟨by rw [HV.out]; rfl, hb.alloc hb.size _⟩
        | false =>
          have HV : Hid ((l.take (k + 1)).all inB = true) := Lib.hid (by rw [HT.out, HA.out, HI.out, d1, d2]; rfl)
          go_wp2
          go_roundw
          case rel => exact ⟨k + 1, by omega, by go_num, HV, hb.alloc hb.size _⟩
          case measure => simp [intOf]; omega
    · have hkn : l.take k = l := List.take_of_length_le (by omega)
      rw [hkn] at HA
      clear hkn
      go_wp2
      go_ret
      exact ⟨by rw [HA.out]; rfl, hb⟩

def plugOK (c : Col) (i : Nat) : Bool := inB (c.plugs.getD i 0, 0, wrap64 (c.tiers - 1)) && !(decide (0 < i) && decide (c.plugs.getD i 0 ≤ c.plugs.getD (i - 1) 0))
def spans (c : Col) : List (Int × Int × Int) := [(c.bay, 0, 39), (c.row, 0, 30), (c.tiers, 1, 10), (c.height, 0, 40000), (c.k20, 0, 500000000), (c.k40, 0, 500000000), (c.lash, 0, 1000000000000), (c.x, -500000, 500000), (c.y, -500000, 500000), (c.z, -500000, 500000)]
def colOK (c : Col) : Bool := (List.range c.plugs.length).all (plugOK c) && (spans c).all inB
theorem range_all_succ {p : Nat → Bool} {k : Nat} : (List.range (k + 1)).all p = ((List.range k).all p && p k) := by
  rw [List.range_succ, List.all_append]; simp
theorem range_all_false {p : Nat → Bool} {n k : Nat} (h : k < n) (hf : p k = false) : (List.range n).all p = false := by
  rw [List.all_eq_false]; exact ⟨k, by simpa using h, by simp [hf]⟩
/-- Spans just laid in a block of their own. -/
theorem sl_spans (w : World) (e : TypeId) (l : List (Int × Int × Int)) (cs : Array Value) (h : cs.toList = l.flatMap spL) : SlT tSpan (w.alloc (.cells cs e)) (Lt (w.alloc (.cells cs e)).heap.size) (some ⟨w.heap.size, 0, none⟩) l := by
  intro _
  refine ⟨w.heap.size, 0, rfl, by simp [Lt], fun i x hx => ⟨spL x, rfl, fun j u hu => ?_⟩⟩
  have key : ∀ (l : List (Int × Int × Int)) (i : Nat), l[i]? = some x → (l.flatMap spL)[i * 3 + j]? = some u := by
    intro l
    induction l with
    | nil => intro i hi; simp at hi
    | cons t l ih =>
      intro i hi
      have hj : j < 3 := by have := (List.getElem?_eq_some_iff.1 hu).1; simpa [spL] using this
      rw [List.flatMap_cons]
      cases i with
      | zero =>
        simp at hi; subst hi
        rw [List.getElem?_append_left (by simp [spL]; omega)]
        simpa using hu
      | succ i =>
        rw [List.getElem?_append_right (by simp [spL]; omega)]
        have := ih i (by simpa using hi)
        rw [show (i + 1) * 3 + j - (spL t).length = i * 3 + j by simp [spL]; omega]
        exact this
  have hk := key l i hx
  rw [← h] at hk
  rw [show (0 + i * tSpan.k + j) = i * 3 + j by simp [tSpan], (Bk.new w e cs).cell]
  simpa using hk

set_option maxRecDepth 100000 in
set_option maxHeartbeats 4000000 in
theorem right_any (c : Col) (A : Option Addr) (q : Nat) (w : World) (hp : SlT tInt w (Lt w.heap.size) A c.plugs) (hl : c.plugs.length ≤ 1000000) :
    Calls Tryd.prog 67 #[.agg (colL c A q).toArray] w (Ret w (.bool (colOK c))) := by
  have HV : Hid (colOK c = ((List.range c.plugs.length).all (plugOK c) && (spans c).all inB)) := Lib.hid rfl
  have HO : Hid (∀ i, plugOK c i = (inB (c.plugs.getD i 0, 0, wrap64 (c.tiers - 1)) && !(decide (0 < i) && decide (c.plugs.getD i 0 ≤ c.plugs.getD (i - 1) 0)))) := Lib.hid fun _ => rfl
  have HSP : Hid (spans c = [(c.bay, 0, 39), (c.row, 0, 30), (c.tiers, 1, 10), (c.height, 0, 40000), (c.k20, 0, 500000000), (c.k40, 0, 500000000), (c.lash, 0, 1000000000000), (c.x, -500000, 500000), (c.y, -500000, 500000), (c.z, -500000, 500000)]) := Lib.hid rfl
  generalize colOK c = r at *
  generalize plugOK c = pk at *
  generalize spans c = sp at *
  obtain ⟨cb, cr, cd, ct, ch, c2, c4, cl, cp, cx, cy, cz⟩ := c
  unfold colL
  simp only at *
  have hb0 := ba1 w (.cells #[.int .i64 cb, .int .i64 cr, .bool cd, .int .i64 ct, .int .i64 ch, .int .i64 c2, .int .i64 c4, .int .i64 cl, .slice A cp.length q, .int .i64 cx, .int .i64 cy, .int .i64 cz] 35)
  have k0 := Bk.new w 35 #[.int .i64 cb, .int .i64 cr, .bool cd, .int .i64 ct, .int .i64 ch, .int .i64 c2, .int .i64 c4, .int .i64 cl, .slice A cp.length q, .int .i64 cx, .int .i64 cy, .int .i64 cz]
  have HP := Lib.hid (hp.below hb0); clear hp
  go_enter Tryd.func67, Tryd.ntmps67
  go_wp2
  have HB0 := Lib.hid hb0; clear hb0
  have HK0 := Lib.hid k0; clear k0
  generalize (w.alloc _) = w0 at *
  have hz0 := HB0.out.size
  go_loopw [9] (fun i wr => ∃ k : Nat, k ≤ cp.length ∧ i = .int .i64 k ∧ Hid ((List.range k).all pk = true) ∧ Below w0.heap.size w0 wr) (fun i _ => cp.length - (intOf i).toNat)
  case atStart => exact ⟨0, Nat.zero_le _, rfl, Lib.hid rfl, Below.refl _ _⟩
  case round =>
    obtain ⟨k, hk, rfl, HA, hb⟩ := hrel
    have kk := HK0.out.below hb HK0.out.lt
    have e0 := kk.cell 0; have e1 := kk.cell 1; have e3 := kk.cell 3; have e4 := kk.cell 4; have e5 := kk.cell 5; have e6 := kk.cell 6; have e7 := kk.cell 7; have e8 := kk.cell 8; have e9 := kk.cell 9; have e10 := kk.cell 10; have e11 := kk.cell 11
    simp at e0 e1 e3 e4 e5 e6 e7 e8 e9 e10 e11
    have hkl := kk.lt
    have hbw := HB0.out.trans (hb.mono hz0)
    have hzr := hb.size
    clear kk
    by_cases hlt : k < cp.length
    · obtain ⟨b, off, hA, hbB, hc⟩ := (HP.out.below (hb.mono hz0)).int hlt
      have HPR : Hid (0 < k → wr.cell? ⟨b, off + (k - 1), none⟩ = some (.int .i64 (cp.getD (k - 1) 0))) := Lib.hid fun h0 => by
        obtain ⟨b', off', hA', _, hc'⟩ := (HP.out.below (hb.mono hz0)).int (j := k - 1) (by omega)
        rw [hA] at hA'; injection hA' with hA'; injection hA' with q1 q2; subst q1 q2; exact hc'
      have hbl : b < w.heap.size := hbB
      have HOk := Lib.hid (HO.out k)
      generalize cp.getD k 0 = p at *
      generalize cp.getD (k - 1) 0 = p' at *
      rw [hA] at e8
      rw [hA]
      have HAA := Lib.hid hA; clear hA
      have HR1 := right1 (some ⟨wr.heap.size, 0, none⟩) 1 [(p, 0, wrap64 (ct - 1))] (wr.alloc (.cells #[.int .i64 p, .int .i64 0, .int .i64 (wrap64 (ct - 1))] 135)) (sl_spans wr _ _ _ rfl) (by simp)
      rw [show [(p, 0, wrap64 (ct - 1))].all inB = inB (p, 0, wrap64 (ct - 1)) by simp] at HR1
      have HRR := Lib.hid HR1; clear HR1
      generalize inB (p, 0, wrap64 (ct - 1)) = ib at *
      go_wp2_with fail
      refine HRR.out.mono ?_
      rintro e w1 ⟨rfl, hb1⟩
      have hb1' := below_of_alloc hb1
      clear HRR hb1
      have f8 := (hb1'.cell (p := ⟨w.heap.size, 8, none⟩) hkl).trans e8
      have hz1 := hb1'.size
      cases ib with
      | false =>
        have HVV : Hid (r = false) := Lib.hid (by rw [HV.out, range_all_false hlt (by rw [HOk.out]; rfl)]; rfl)
        go_wp2
        go_ret
        exact ⟨by rw [HVV.out]; rfl, hbw.trans (hb1'.mono hbw.size)⟩
      | true =>
        by_cases hk0 : 0 < k
        · have d0 : decide ((0 : Int) < (k : Int)) = true := by simp; omega
          have d0' : decide (0 < k) = true := by simp; omega
          have hpr := (hb1'.cell (p := ⟨b, off + (k - 1), none⟩) (by simp; omega)).trans (HPR.out hk0)
          have i1 : (0 : Int) ≤ (k : Int) - 1 := by omega
          have i2 : (k : Int) - 1 < (cp.length : Int) := by omega
          have i5 : ((k : Int) - 1).toNat = k - 1 := by omega
          cases d1 : decide (p ≤ p') with
          | true =>
            have HVV : Hid (r = false) := Lib.hid (by rw [HV.out, range_all_false hlt (by rw [HOk.out, d0', d1]; rfl)]; rfl)
            clear HPR
            go_wp2
            go_ret
            exact ⟨by rw [HVV.out]; rfl, hbw.trans (hb1'.mono hbw.size)⟩
          | false =>
            have HVV : Hid ((List.range (k + 1)).all pk = true) := Lib.hid (by rw [range_all_succ, HA.out, HOk.out, d0', d1]; rfl)
            clear HPR
            go_wp2
            go_roundw
            case rel => exact ⟨k + 1, by omega, by go_num, HVV, hb.trans (hb1'.mono hzr)⟩
            case measure => simp [intOf]; omega
        · have d0 : decide ((0 : Int) < (k : Int)) = false := by simp; omega
          have d0' : decide (0 < k) = false := by simp; omega
          have HVV : Hid ((List.range (k + 1)).all pk = true) := Lib.hid (by rw [range_all_succ, HA.out, HOk.out, d0']; rfl)
          clear HPR
          go_wp2
          go_roundw
          case rel => exact ⟨k + 1, by omega, by go_num, HVV, hb.trans (hb1'.mono hzr)⟩
          case measure => simp [intOf]; omega
    · obtain rfl : k = cp.length := by omega
      have HRR := Lib.hid (right1 (some ⟨wr.heap.size, 0, none⟩) 10 sp (wr.alloc (.cells (sp.flatMap spL).toArray 135)) (sl_spans wr _ _ _ rfl) (by rw [HSP.out]; simp))
      have HVV : Hid (r = sp.all inB) := Lib.hid (by rw [HV.out, HA.out]; rfl)
      rw [HSP.out] at HRR
      have HSL : Hid (sp.all inB = [(cb, 0, 39), (cr, 0, 30), (ct, 1, 10), (ch, 0, 40000), (c2, 0, 500000000), (c4, 0, 500000000), (cl, 0, 1000000000000), (cx, -500000, 500000), (cy, -500000, 500000), (cz, -500000, 500000)].all inB) := Lib.hid (by rw [HSP.out])
      go_wp2_with fail
      refine HRR.out.mono ?_
      rintro e w1 ⟨rfl, hb1⟩
      have hb1' := below_of_alloc hb1
      clear HRR hb1
      rw [← HSL.out]
      go_wp2
      go_ret
      exact ⟨by rw [HVV.out]; rfl, hbw.trans (hb1'.mono hbw.size)⟩
end Go.Proofs.YtmhikcleekfbpaaDoor
namespace Go.Proofs.YtmhikcleekfbpaaDoor
open Go.RowKit

theorem laidOutP : laidOutB Tryd.prog = true := by kernel_rfl
theorem key3_law : WideMaps.KeyLaw Tryd.prog 126 := deep_law_laid laidOutP (m := 2) (by omega) (of_decide_eq_true (by kernel_rfl)) (by kernel_rfl) (by rw [Tryd.underlying126])
theorem key3_type : Tryd.prog.keyType 126 = true := by kernel_rfl
theorem cells3 : Tryd.prog.cellsOf 126 = 3 := by kernel_rfl
theorem cellsInt : Tryd.prog.cellsOf 3 = 1 := by kernel_rfl
theorem zeroInt (u : World) : (zeroValue 3).run Tryd.prog u = .ok (.int .i64 0) u := by kernel_rfl
theorem typesSz : ∃ m, Tryd.prog.types.size = m + 1 := ⟨Tryd.prog.types.size - 1, by have : 0 < Tryd.prog.types.size := of_decide_eq_true (by kernel_rfl); omega⟩
theorem key3 (k : Int × Int × Int) (h1 : I64 k.1) (h2 : I64 k.2.1) (h3 : I64 k.2.2) : ∃ kl, keyOf Tryd.prog 126 (mkKey k) = some kl := by
  obtain ⟨m, hm⟩ := typesSz
  have w1 := wf_i64 h1.1 h1.2
  have w2 := wf_i64 h2.1 h2.2
  have w3 := wf_i64 h3.1 h3.2
  unfold keyOf mkKey
  rw [Tryd.underlying126]
  have hlit : Tryd.prog.keyLits (Tryd.prog.types.size + 1) 126 (Value.agg #[.int .i64 k.1, .int .i64 k.2.1, .int .i64 k.2.2]).cells.toList = some [.int .i64 k.1, .int .i64 k.2.1, .int .i64 k.2.2] := by
    rw [hm]
    simp [Program.keyLits, Tryd.underlying126, Tryd.underlying3, cells3, cellsInt, Value.cells, List.range_succ, w1, w2, w3]
  have hform : (Value.agg #[.int .i64 k.1, .int .i64 k.2.1, .int .i64 k.2.2]).formed Tryd.prog 126 = true := by simp [Value.formed, Tryd.underlying126, cells3]
  simp only [key3_type, hform, Bool.and_self, if_true, hlit, Option.map_some]
  exact ⟨_, rfl⟩
end Go.Proofs.YtmhikcleekfbpaaDoor
namespace Go.Proofs.YtmhikcleekfbpaaDoor
open Go.RowKit

def keyC (c : Col) : Int × Int × Int := (c.bay, c.row, if c.deck then 1 else 0)
def keysX (x : Cov) : List (Int × Int × Int) := x.rows.map fun r => (x.bay, r, 2)
def keysOf (s : Shp) : List (Int × Int × Int) := s.cols.map keyC ++ s.covs.flatMap keysX
def rowOK (x : Cov) (i : Nat) : Bool := !(decide (x.rows.getD i 0 < 0) || decide (30 < x.rows.getD i 0) || (decide (0 < i) && decide (x.rows.getD i 0 ≤ x.rows.getD (i - 1) 0)))
def covOK (x : Cov) : Bool := !(decide (x.bay < 0) || decide (40 ≤ x.bay) || decide (x.rows.length = 0)) && (List.range x.rows.length).all (rowOK x)
def once (L : List (Int × Int × Int)) : Bool := L.all fun k => decide (L.count k ≤ 1)
def rightF (s : Shp) : Bool := decide (1 ≤ s.cols.length ∧ s.cols.length ≤ 200 ∧ s.covs.length ≤ 40) && (s.cols.all colOK && (s.covs.all covOK && once (keysOf s)))
/-- The numbers of a ship are ints. -/
structure Ints (s : Shp) : Prop where
  cols : ∀ c ∈ s.cols, I64 c.bay ∧ I64 c.row ∧ I64 c.tiers
theorem cells_keep {w w' : World} {b : Nat} (hg : w.grownBy w' (some b)) {g : Nat} {t : TypeId} {cs : Array Value} (hk : Bk w g t cs) (hne : g ≠ b) : Bk w' g t cs := hk.grown hg (by intro e; injection e with e; exact hne e)
theorem below_inc {B b : Nat} {a w w' : World} (h : Below B a w) (hg : w.grownBy w' (some b)) (hB : B ≤ b) (hs : B ≤ w.heap.size) : Below B a w' := h.trans (below_of_grown hg hB hs)

set_option maxRecDepth 100000 in
set_option maxHeartbeats 4000000 in
theorem shipRight_small (s : Shp) (h : Hd) (w : World) (hbad : ¬ (1 ≤ s.cols.length ∧ s.cols.length ≤ 200 ∧ s.covs.length ≤ 40)) :
    Calls Tryd.prog 52 #[.agg (shpA s h)] w (Ret w (.bool (rightF s))) := by
  have HV : Hid (rightF s = false) := Lib.hid (by unfold rightF; simp [hbad])
  unfold shpA
  have hc : (s.cols.length < 1) ∨ (1 ≤ s.cols.length ∧ 200 < s.cols.length) ∨ (1 ≤ s.cols.length ∧ s.cols.length ≤ 200 ∧ 40 < s.covs.length) := by omega
  clear hbad
  rcases hc with h1 | ⟨h1, h2⟩ | ⟨h1, h2, h3⟩
  · have d1 : decide ((s.cols.length : Int) < 1) = true := by simp only [decide_eq_true_eq]; omega
    go_enter Tryd.func52, Tryd.ntmps52
    go_wp2
    go_ret
    exact ⟨by rw [HV.out]; rfl, ba1 w _⟩
  · have d1 : decide ((s.cols.length : Int) < 1) = false := by simp only [decide_eq_false_iff_not]; omega
    have d2 : decide ((200 : Int) < (s.cols.length : Int)) = true := by simp only [decide_eq_true_eq]; omega
    go_enter Tryd.func52, Tryd.ntmps52
    go_wp2
    go_ret
    exact ⟨by rw [HV.out]; rfl, ba1 w _⟩
  · have d1 : decide ((s.cols.length : Int) < 1) = false := by simp only [decide_eq_false_iff_not]; omega
    have d2 : decide ((200 : Int) < (s.cols.length : Int)) = false := by simp only [decide_eq_false_iff_not]; omega
    have d3 : decide ((40 : Int) < (s.covs.length : Int)) = true := by simp only [decide_eq_true_eq]; omega
    go_enter Tryd.func52, Tryd.ntmps52
    go_wp2
    go_ret
    exact ⟨by rw [HV.out]; rfl, ba1 w _⟩

set_option maxRecDepth 100000 in
set_option maxHeartbeats 8000000 in
theorem shipRight_main (s : Shp) (h : Hd) (w : World) (hs : ShpR w (Lt w.heap.size) s h) (hf : Few s) (hi : Ints s) (h1 : 1 ≤ s.cols.length) (h2 : s.cols.length ≤ 200) (h3 : s.covs.length ≤ 40) :
    Calls Tryd.prog 52 #[.agg (shpA s h)] w (Ret w (.bool (rightF s))) := by
  have HV : Hid (rightF s = (s.cols.all colOK && (s.covs.all covOK && once (keysOf s)))) := Lib.hid (by unfold rightF; simp [h1, h2, h3])
  have hb0 := ba1 w (.cells (shpA s h) 32)
  have HS := Lib.hid (hs.below hb0); clear hs
  have k0 := Bk.new w 32 (shpA s h)
  have HF := Lib.hid hf; clear hf
  have HI := Lib.hid hi; clear hi
  generalize rightF s = r at *
  unfold shpA at *
  have d1 : decide ((s.cols.length : Int) < 1) = false := by simp only [decide_eq_false_iff_not]; omega
  have d2 : decide ((200 : Int) < (s.cols.length : Int)) = false := by simp only [decide_eq_false_iff_not]; omega
  have d3 : decide ((40 : Int) < (s.covs.length : Int)) = false := by simp only [decide_eq_false_iff_not]; omega
  have hcm := Cnt.made (P := Tryd.prog) (kt := 126) (et := 3) (w.alloc (Obj.cells #[.slice h.A1 s.cols.length h.c1, .slice h.A2 s.covs.length h.c2, .int .i64 s.l0, .int .i64 s.l1, .int .i64 s.l2, .int .i64 s.l3, .slice h.A3 s.rows.length h.c3, .slice h.A4 s.frames.length h.c4, .slice h.A5 s.tanks.length h.c5, .int .i64 s.m0, .int .i64 s.m1, .int .i64 s.m2, .int .i64 s.m3] 32))
  rw [show (w.alloc (Obj.cells #[.slice h.A1 s.cols.length h.c1, .slice h.A2 s.covs.length h.c2, .int .i64 s.l0, .int .i64 s.l1, .int .i64 s.l2, .int .i64 s.l3, .slice h.A3 s.rows.length h.c3, .slice h.A4 s.frames.length h.c4, .slice h.A5 s.tanks.length h.c5, .int .i64 s.m0, .int .i64 s.m1, .int .i64 s.m2, .int .i64 s.m3] 32)).heap.size = w.heap.size + 1 by simp] at hcm
  have HCM := Lib.hid hcm; clear hcm
  have HZE := Lib.hid (show (w.alloc (Obj.cells #[.slice h.A1 s.cols.length h.c1, .slice h.A2 s.covs.length h.c2, .int .i64 s.l0, .int .i64 s.l1, .int .i64 s.l2, .int .i64 s.l3, .slice h.A3 s.rows.length h.c3, .slice h.A4 s.frames.length h.c4, .slice h.A5 s.tanks.length h.c5, .int .i64 s.m0, .int .i64 s.m1, .int .i64 s.m2, .int .i64 s.m3] 32)).heap.size = w.heap.size + 1 by simp)
  have hmm := @run_makeMap Tryd.prog
  have HB0 := Lib.hid hb0; clear hb0
  have HK0 := Lib.hid k0; clear k0
  go_enter Tryd.func52, Tryd.ntmps52
  go_wp2
  clear hmm d1 d2 d3
  generalize (w.alloc _) = w0 at *
  have hz0 := HB0.out.size
  have hk0l := HK0.out.lt
  have hwz : w.heap.size + 1 ≤ w0.heap.size := by omega
  have hwz2 : w0.heap.size ≤ w.heap.size + 1 := by have := HZE.out; omega
  have hbm := ba1 w0 (.map #[] 0)
  go_loopw [33] (fun i wr => ∃ k : Nat, k ≤ s.cols.length ∧ i = .int .i64 k ∧ Hid ((s.cols.take k).all colOK = true) ∧ Cnt Tryd.prog 126 3 wr (w.heap.size + 1) k ((s.cols.take k).map keyC) ∧ Below w0.heap.size w0 wr) (fun i _ => s.cols.length - (intOf i).toNat)
  case atStart => exact ⟨0, Nat.zero_le _, rfl, Lib.hid rfl, HCM.out, hbm⟩
  case round =>
    obtain ⟨k, hk, rfl, HA, hcnt, hb⟩ := hrel
    have hzr := hb.size
    have hml := hcnt.lt
    by_cases hlt : k < s.cols.length
    · obtain ⟨b, off, Ap, q, hA, hbB, hq, hpl, c0, c1, c2, c3, c4, c5, c6, c7, c8, c9, c10, c11⟩ := (HS.out.cols.below (hb.mono hz0)).col hlt
      have HT := Lib.hid (all_take colOK hlt default)
      have HN := Lib.hid (all_getD_false colOK hlt default)
      have HM : Hid ((s.cols.take (k + 1)).map keyC = (s.cols.take k).map keyC ++ [keyC (s.cols.getD k default)]) := Lib.hid (by
        rw [List.take_succ_eq_append_getElem hlt, List.map_append]; simp [hlt])
      have HIx := Lib.hid (HI.out.cols _ (getD_memD hlt default))
      have hpll := HF.out.plugs _ (getD_memD hlt default)
      have HPL := Lib.hid hpl; clear hpl
      rw [hA]
      clear hA
      have hbl : b < w.heap.size := hbB
      generalize s.cols.getD k default = x at *
      have hLl : ((s.cols.take k).map keyC).length ≤ 1000000000 := by simp; omega
      generalize (s.cols.take k).map keyC = L at *
      obtain ⟨xb, xr, xd, xt, xh, x2, x4, xl, xp, xx, xy, xz⟩ := x
      simp only at c0 c1 c2 c3 c4 c5 c6 c7 c8 c9 c10 c11 hq hpll HPL HIx
      have hcw : Cnt Tryd.prog 126 3 (wr.alloc (.cells #[.int .i64 xb, .int .i64 xr, .bool xd, .int .i64 xt, .int .i64 xh, .int .i64 x2, .int .i64 x4, .int .i64 xl, .slice Ap xp.length q, .int .i64 xx, .int .i64 xy, .int .i64 xz] 35)).drew (w.heap.size + 1) k L := (hcnt.alloc _).drew
      obtain ⟨kl, hkl⟩ := key3 (keyC ⟨xb, xr, xd, xt, xh, x2, x4, xl, xp, xx, xy, xz⟩) HIx.out.1 HIx.out.2.1 (by unfold keyC I64; simp only; split <;> omega)
      obtain ⟨cn, v0, st, w1, w2, hcn, r1, r2, r3, r4, hcnt2, g1, g2, z1, z2⟩ := hcw.inc key3_law Tryd.underlying125 Tryd.underlying3 zeroInt (by unfold maxLen; omega) hLl _ hkl
      have kb : Bk (wr.alloc (.cells #[.int .i64 xb, .int .i64 xr, .bool xd, .int .i64 xt, .int .i64 xh, .int .i64 x2, .int .i64 x4, .int .i64 xl, .slice Ap xp.length q, .int .i64 xx, .int .i64 xy, .int .i64 xz] 35)).drew wr.heap.size 35 #[.int .i64 xb, .int .i64 xr, .bool xd, .int .i64 xt, .int .i64 xh, .int .i64 x2, .int .i64 x4, .int .i64 xl, .slice Ap xp.length q, .int .i64 xx, .int .i64 xy, .int .i64 xz] := Bk.new _ _ _
      have HKB := Lib.hid (cells_keep g2 kb (by omega)); clear kb
      have HCN := Lib.hid hcnt2; clear hcnt2 hcw hkl
      have HG2 := Lib.hid g2; clear g2 g1
      have HZ2 := Lib.hid z2; clear z2 z1
      cases xd with
      | true =>
        simp only [mkKey, keyC, if_true] at r1 r2 r3 r4
        go_upto_region 10 with fail
        go_cut [5, 6] (fun p d wx => p = .pointer (some ⟨wr.heap.size, 0, none⟩) ∧ wx = w2)
        case first =>
          go_region
          all_goals
            go_wp2_with fail
            go_meet
            exact ⟨rfl, rfl⟩
        case rest =>
          obtain ⟨rfl, rfl⟩ := hcut
          clear r1 r2 r3 r4 c0 c1 c2 c3 c4 c5 c6 c7 c8 c9 c10 c11 hcnt
          have hzz := HZ2.out
          simp at hzz
          have hzw : wr.heap.size < wc.heap.size := by omega
          have hb2 := below_inc (hb.alloc hzr (.cells #[.int .i64 xb, .int .i64 xr, .bool true, .int .i64 xt, .int .i64 xh, .int .i64 x2, .int .i64 x4, .int .i64 xl, .slice Ap xp.length q, .int .i64 xx, .int .i64 xy, .int .i64 xz] 35)).drew HG2.out hwz2 (by simp; omega)
          have hbr := below_inc ((Below.refl w.heap.size wr).alloc (by omega) (.cells #[.int .i64 xb, .int .i64 xr, .bool true, .int .i64 xt, .int .i64 xh, .int .i64 x2, .int .i64 x4, .int .i64 xl, .slice Ap xp.length q, .int .i64 xx, .int .i64 xy, .int .i64 xz] 35)).drew HG2.out (by omega) (by simp; omega)
          have e0 := HKB.out.cell 0; have e1 := HKB.out.cell 1; have e2 := HKB.out.cell 2; have e3 := HKB.out.cell 3; have e4 := HKB.out.cell 4; have e5 := HKB.out.cell 5; have e6 := HKB.out.cell 6; have e7 := HKB.out.cell 7; have e8 := HKB.out.cell 8; have e9 := HKB.out.cell 9; have e10 := HKB.out.cell 10; have e11 := HKB.out.cell 11
          simp at e0 e1 e2 e3 e4 e5 e6 e7 e8 e9 e10 e11
          have HRC := Lib.hid (right_any ⟨xb, xr, true, xt, xh, x2, x4, xl, xp, xx, xy, xz⟩ Ap q wc ((HPL.out.below hbr).up (by omega)) hpll)
          clear hzz
          generalize colOK ⟨xb, xr, true, xt, xh, x2, x4, xl, xp, xx, xy, xz⟩ = ok at *
          go_wp2_with fail
          refine HRC.out.mono ?_
          rintro e w4 ⟨rfl, hb4⟩
          clear HRC e0 e1 e2 e3 e4 e5 e6 e7 e8 e9 e10 e11
          have hb24 := hb2.trans (hb4.mono (by omega))
          cases ok with
          | true =>
            have HVV : Hid ((s.cols.take (k + 1)).all colOK = true) := Lib.hid (by rw [HT.out, HA.out]; rfl)
            go_wp2
            go_roundw
            case rel => exact ⟨k + 1, by omega, by go_num, HVV, by rw [HM.out]; exact HCN.out.below hb4 (Nat.le_refl _), hb24⟩
            case measure => simp [intOf]; omega
          | false =>
            have HVV : Hid (r = false) := Lib.hid (by rw [HV.out, HN.out rfl]; rfl)
            go_wp2
            go_ret
            exact ⟨by rw [HVV.out]; rfl, HB0.out.trans (hb24.mono hz0)⟩
      | false =>
        simp only [mkKey, keyC, if_false, Bool.false_eq_true] at r1 r2 r3 r4
        go_upto_region 10 with fail
        go_cut [5, 6] (fun p d wx => p = .pointer (some ⟨wr.heap.size, 0, none⟩) ∧ wx = w2)
        case first =>
          go_region
          all_goals
            go_wp2_with fail
            go_meet
            exact ⟨rfl, rfl⟩
        case rest =>
          obtain ⟨rfl, rfl⟩ := hcut
          clear r1 r2 r3 r4 c0 c1 c2 c3 c4 c5 c6 c7 c8 c9 c10 c11 hcnt
          have hzz := HZ2.out
          simp at hzz
          have hzw : wr.heap.size < wc.heap.size := by omega
          have hb2 := below_inc (hb.alloc hzr (.cells #[.int .i64 xb, .int .i64 xr, .bool false, .int .i64 xt, .int .i64 xh, .int .i64 x2, .int .i64 x4, .int .i64 xl, .slice Ap xp.length q, .int .i64 xx, .int .i64 xy, .int .i64 xz] 35)).drew HG2.out hwz2 (by simp; omega)
          have hbr := below_inc ((Below.refl w.heap.size wr).alloc (by omega) (.cells #[.int .i64 xb, .int .i64 xr, .bool false, .int .i64 xt, .int .i64 xh, .int .i64 x2, .int .i64 x4, .int .i64 xl, .slice Ap xp.length q, .int .i64 xx, .int .i64 xy, .int .i64 xz] 35)).drew HG2.out (by omega) (by simp; omega)
          have e0 := HKB.out.cell 0; have e1 := HKB.out.cell 1; have e2 := HKB.out.cell 2; have e3 := HKB.out.cell 3; have e4 := HKB.out.cell 4; have e5 := HKB.out.cell 5; have e6 := HKB.out.cell 6; have e7 := HKB.out.cell 7; have e8 := HKB.out.cell 8; have e9 := HKB.out.cell 9; have e10 := HKB.out.cell 10; have e11 := HKB.out.cell 11
          simp at e0 e1 e2 e3 e4 e5 e6 e7 e8 e9 e10 e11
          have HRC := Lib.hid (right_any ⟨xb, xr, false, xt, xh, x2, x4, xl, xp, xx, xy, xz⟩ Ap q wc ((HPL.out.below hbr).up (by omega)) hpll)
          clear hzz
          generalize colOK ⟨xb, xr, false, xt, xh, x2, x4, xl, xp, xx, xy, xz⟩ = ok at *
          go_wp2_with fail
          refine HRC.out.mono ?_
          rintro e w4 ⟨rfl, hb4⟩
          clear HRC e0 e1 e2 e3 e4 e5 e6 e7 e8 e9 e10 e11
          have hb24 := hb2.trans (hb4.mono (by omega))
          cases ok with
          | true =>
            have HVV : Hid ((s.cols.take (k + 1)).all colOK = true) := Lib.hid (by rw [HT.out, HA.out]; rfl)
            go_wp2
            go_roundw
            case rel => exact ⟨k + 1, by omega, by go_num, HVV, by rw [HM.out]; exact HCN.out.below hb4 (Nat.le_refl _), hb24⟩
            case measure => simp [intOf]; omega
          | false =>
            have HVV : Hid (r = false) := Lib.hid (by rw [HV.out, HN.out rfl]; rfl)
            go_wp2
            go_ret
            exact ⟨by rw [HVV.out]; rfl, HB0.out.trans (hb24.mono hz0)⟩
    · obtain rfl : k = s.cols.length := by omega
      rw [List.take_length] at HA hcnt
      have HV2 : Hid (r = (s.covs.all covOK && once (keysOf s))) := Lib.hid (by rw [HV.out, HA.out]; rfl)
      have HKE : Hid (keysOf s = s.cols.map keyC ++ s.covs.flatMap keysX) := Lib.hid rfl
      have hKl : (s.cols.map keyC).length ≤ 200 := by simp; omega
      have hKn : s.cols.length = (s.cols.map keyC).length := by simp
      rw [hKn] at hcnt
      clear hKn HV HA HI HCM hbm
      generalize s.cols.map keyC = K1 at *
      obtain ⟨wo, rfl⟩ : ∃ wo : World, wo = wr := ⟨_, rfl⟩
      have kk := HK0.out.below hb hk0l
      have m1 := kk.cell 1
      simp at m1
      clear kk
      go_wp2
      go_loopw [57] (fun i wr => ∃ k : Nat, k ≤ s.covs.length ∧ i = .int .i64 k ∧ Hid ((s.covs.take k).all covOK = true) ∧ (K1 ++ (s.covs.take k).flatMap keysX).length ≤ 200 + 1000000 * k ∧ Cnt Tryd.prog 126 3 wr (w.heap.size + 1) (K1 ++ (s.covs.take k).flatMap keysX).length (K1 ++ (s.covs.take k).flatMap keysX) ∧ Below w0.heap.size w0 wr) (fun i _ => s.covs.length - (intOf i).toNat)
      case atStart => exact ⟨0, Nat.zero_le _, rfl, Lib.hid rfl, by simpa using hKl, by simpa using hcnt, hb⟩
      case round =>
        clear hb hcnt hzr hml m1
        obtain ⟨k, hk, rfl, HA, hLl, hcnt, hb⟩ := hrel
        have hzr := hb.size
        have hml := hcnt.lt
        by_cases hlt : k < s.covs.length
        · obtain ⟨b, off, Ap, q, hA, hbB, hq, hpl, c0, c1⟩ := (HS.out.covs.below (hb.mono hz0)).cov hlt
          have HT := Lib.hid (all_take covOK hlt default)
          have HN := Lib.hid (all_getD_false covOK hlt default)
          have HM : Hid (K1 ++ (s.covs.take (k + 1)).flatMap keysX = (K1 ++ (s.covs.take k).flatMap keysX) ++ keysX (s.covs.getD k default)) := Lib.hid (by
            rw [List.take_succ_eq_append_getElem hlt, List.flatMap_append, List.append_assoc]; simp [hlt])
          have hrl := HF.out.rows _ (getD_memD hlt default)
          have HC : Hid (covOK (s.covs.getD k default) = (!(decide ((s.covs.getD k default).bay < 0) || decide (40 ≤ (s.covs.getD k default).bay) || decide ((s.covs.getD k default).rows.length = 0)) && (List.range (s.covs.getD k default).rows.length).all (rowOK (s.covs.getD k default)))) := Lib.hid rfl
          have HRO : Hid (∀ i, rowOK (s.covs.getD k default) i = !(decide ((s.covs.getD k default).rows.getD i 0 < 0) || decide (30 < (s.covs.getD k default).rows.getD i 0) || (decide (0 < i) && decide ((s.covs.getD k default).rows.getD i 0 ≤ (s.covs.getD k default).rows.getD (i - 1) 0)))) := Lib.hid fun _ => rfl
          have HKX : Hid (keysX (s.covs.getD k default) = (s.covs.getD k default).rows.map fun r => ((s.covs.getD k default).bay, r, 2)) := Lib.hid rfl
          have HPL := Lib.hid hpl; clear hpl
          rw [hA]
          clear hA
          have hbl : b < w.heap.size := hbB
          generalize rowOK (s.covs.getD k default) = ro at *
          generalize keysX (s.covs.getD k default) = kx at *
          generalize covOK (s.covs.getD k default) = co at *
          generalize s.covs.getD k default = x at *
          generalize K1 ++ (s.covs.take k).flatMap keysX = L at *
          obtain ⟨xb, xr⟩ := x
          simp only at c0 c1 hq hrl HC HRO HKX HPL
          have hbx := hb.alloc hzr (.cells #[.int .i64 xb, .slice Ap xr.length q] 98)
          have hbig : (xb < 0) ∨ (0 ≤ xb ∧ 40 ≤ xb) ∨ (0 ≤ xb ∧ xb < 40 ∧ xr.length = 0) ∨ (0 ≤ xb ∧ xb < 40 ∧ 0 < xr.length) := by omega
          rcases hbig with q1 | ⟨q1, q2⟩ | ⟨q1, q2, q3⟩ | ⟨q1, q2, q3⟩
          · have HVV : Hid (r = false) := Lib.hid (by rw [HV2.out, HN.out (by rw [HC.out]; simp [q1])]; rfl)
            have t1 : decide (xb < 0) = true := by simpa using q1
            go_wp2
            go_ret
            exact ⟨by rw [HVV.out]; rfl, HB0.out.trans (hbx.mono hz0)⟩
          · have HVV : Hid (r = false) := Lib.hid (by rw [HV2.out, HN.out (by rw [HC.out]; simp [q2])]; rfl)
            have t1 : decide (xb < 0) = false := by simp; omega
            have t2 : decide (40 ≤ xb) = true := by simpa using q2
            go_wp2
            go_ret
            exact ⟨by rw [HVV.out]; rfl, HB0.out.trans (hbx.mono hz0)⟩
          · have HVV : Hid (r = false) := Lib.hid (by rw [HV2.out, HN.out (by rw [HC.out]; simp [q3])]; rfl)
            have t1 : decide (xb < 0) = false := by simp; omega
            have t2 : decide (40 ≤ xb) = false := by simp; omega
            have t3 : ((xr.length : Int) == 0) = true := by simp; exact List.eq_nil_of_length_eq_zero q3
            clear q3
            go_wp2
            go_ret
            exact ⟨by rw [HVV.out]; rfl, HB0.out.trans (hbx.mono hz0)⟩
          · have HC2 : Hid (co = (List.range xr.length).all ro) := Lib.hid (by
              rw [HC.out, show decide (xb < 0) = false by simp; omega, show decide (40 ≤ xb) = false by simp; omega, show decide (xr.length = 0) = false by simp only [decide_eq_false_iff_not]; omega]; rfl)
            have t1 : decide (xb < 0) = false := by simp; omega
            have t2 : decide (40 ≤ xb) = false := by simp; omega
            have t3 : ((xr.length : Int) == 0) = false := by simp; intro e; rw [e] at q3; simp at q3
            have kb := Bk.new wr 98 #[.int .i64 xb, .slice Ap xr.length q]
            have hcw := hcnt.alloc (.cells #[.int .i64 xb, .slice Ap xr.length q] 98)
            have HPW := Lib.hid (HPL.out.below ((Below.refl w.heap.size wr).alloc (by omega) (.cells #[.int .i64 xb, .slice Ap xr.length q] 98)))
            have HKB := Lib.hid kb; clear kb
            have HCW := Lib.hid hcw; clear hcw
            have HBX := Lib.hid hbx; clear hbx
            have hxw : w0.heap.size ≤ (wr.alloc (.cells #[.int .i64 xb, .slice Ap xr.length q] 98)).heap.size := by simp; omega
            have hgx : wr.heap.size < (wr.alloc (.cells #[.int .i64 xb, .slice Ap xr.length q] 98)).heap.size := by simp
            go_wp2
            generalize (wr.alloc _) = wx at *
            clear HPL
            obtain ⟨wq, rfl⟩ : ∃ wq : World, wq = wr := ⟨_, rfl⟩
            go_loopw [78] (fun i wi => ∃ j : Nat, j ≤ xr.length ∧ i = .int .i64 j ∧ Hid ((List.range j).all ro = true) ∧ Cnt Tryd.prog 126 3 wi (w.heap.size + 1) (L.length + j) (L ++ (xr.take j).map fun r => (xb, r, 2)) ∧ Bk wi wq.heap.size 98 #[.int .i64 xb, .slice Ap xr.length q] ∧ Below w0.heap.size w0 wi) (fun i _ => xr.length - (intOf i).toNat)
            case atStart => exact ⟨0, Nat.zero_le _, rfl, Lib.hid rfl, by simpa using HCW.out, HKB.out, HBX.out⟩
            case round =>
              obtain ⟨j, hj, rfl, HJ, hcj, kbj, hbj⟩ := hrel
              have hzj := hbj.size
              have hkj := kbj.lt
              have b0 := kbj.cell 0
              have b1 := kbj.cell 1
              simp at b0 b1
              by_cases hjl : j < xr.length
              · obtain ⟨pb, po, rfl, hpb, hpc⟩ := (HPW.out.keep (w' := wr) (fun b o hb' => (hbj.cell (p := ⟨b, o, none⟩) (by have hq' : b < w.heap.size := hb'; show b < w0.heap.size; omega)).trans (HBX.out.cell (p := ⟨b, o, none⟩) (by have hq' : b < w.heap.size := hb'; show b < w0.heap.size; omega)).symm)).int hjl
                have hpb' : pb < w.heap.size := hpb
                have HPR : Hid (0 < j → wr.cell? ⟨pb, po + (j - 1), none⟩ = some (.int .i64 (xr.getD (j - 1) 0))) := Lib.hid fun h0 => by
                  obtain ⟨b', off', hA', _, hc'⟩ := (HPW.out.keep (w' := wr) (fun b o hb' => (hbj.cell (p := ⟨b, o, none⟩) (by have hq' : b < w.heap.size := hb'; show b < w0.heap.size; omega)).trans (HBX.out.cell (p := ⟨b, o, none⟩) (by have hq' : b < w.heap.size := hb'; show b < w0.heap.size; omega)).symm)).int (j := j - 1) (by omega)
                  injection hA' with hA'; injection hA' with q1 q2; subst q1 q2; exact hc'
                have HRJ := Lib.hid (HRO.out j)
                have HTJ : Hid ((xr.take (j + 1)).map (fun r => (xb, r, (2 : Int))) = (xr.take j).map (fun r => (xb, r, (2 : Int))) ++ [(xb, xr.getD j 0, 2)]) := Lib.hid (by
                  rw [List.take_succ_eq_append_getElem hjl, List.map_append]; simp [hjl])
                generalize xr.getD j 0 = p at *
                generalize xr.getD (j - 1) 0 = p' at *
                have HBAD : Hid (ro j = false → r = false) := Lib.hid fun hh => by rw [HV2.out, HN.out (by rw [HC2.out]; exact range_all_false hjl hh)]; rfl
                have hpc3 : (p < 0) ∨ (0 ≤ p ∧ 30 < p) ∨ (0 ≤ p ∧ p ≤ 30 ∧ 0 < j ∧ p ≤ p') ∨ (0 ≤ p ∧ p ≤ 30 ∧ (j = 0 ∨ p' < p)) := by omega
                rcases hpc3 with u1 | ⟨u1, u2⟩ | ⟨u1, u2, u3, u4⟩ | ⟨u1, u2, u3⟩
                · obtain rfl := HBAD.out (by rw [HRJ.out]; simp [u1])
                  have t4 : decide (p < 0) = true := by simpa using u1
                  clear HPR
                  go_wp2
                  go_ret
                  exact ⟨rfl, HB0.out.trans (hbj.mono hz0)⟩
                · obtain rfl := HBAD.out (by rw [HRJ.out]; simp [u2])
                  have t4 : decide (p < 0) = false := by simp; omega
                  have t5 : decide (30 < p) = true := by simpa using u2
                  clear HPR
                  go_wp2
                  go_ret
                  exact ⟨rfl, HB0.out.trans (hbj.mono hz0)⟩
                · obtain rfl := HBAD.out (by rw [HRJ.out]; simp [u3, u4])
                  have t4 : decide (p < 0) = false := by simp; omega
                  have t5 : decide (30 < p) = false := by simp; omega
                  have t6 : decide ((0 : Int) < (j : Int)) = true := by simp; omega
                  have t7 : decide (p ≤ p') = true := by simpa using u4
                  have hpr := HPR.out u3
                  have i1 : (0 : Int) ≤ (j : Int) - 1 := by omega
                  have i2 : (j : Int) - 1 < (xr.length : Int) := by omega
                  have i5 : ((j : Int) - 1).toNat = j - 1 := by omega
                  clear HPR
                  go_wp2
                  go_ret
                  exact ⟨rfl, HB0.out.trans (hbj.mono hz0)⟩
                · have HOK : Hid ((List.range (j + 1)).all ro = true) := Lib.hid (by
                    rw [range_all_succ, HJ.out, HRJ.out]
                    simp
                    omega)
                  obtain ⟨kl, hkl⟩ := key3 (xb, p, 2) ⟨by simp only; omega, by simp only; omega⟩ ⟨by simp only; omega, by simp only; omega⟩ ⟨by simp only; omega, by simp only; omega⟩
                  obtain ⟨cn, v0, st, w1, w2, hcn, r1, r2, r3, r4, hcnt2, g1, g2, z1, z2⟩ := (hcj.drew).inc key3_law Tryd.underlying125 Tryd.underlying3 zeroInt (by unfold maxLen; omega) (by simp; omega) _ hkl
                  simp only [mkKey] at r1 r2 r3 r4
                  have HRES := Lib.hid (And.intro hcnt2 (And.intro (cells_keep g2 (show Bk wr.drew wq.heap.size 98 #[.int .i64 xb, .slice (some ⟨pb, po, none⟩) xr.length q] from kbj) (by omega)) (below_inc hbj.drew g2 hwz2 (by simp; omega))))
                  clear hcnt2 g1 g2 z1 z2 hkl
                  have t4 : decide (p < 0) = false := by simp; omega
                  have t5 : decide (30 < p) = false := by simp; omega
                  by_cases hj0 : 0 < j
                  · have t6 : decide ((0 : Int) < (j : Int)) = true := by simp; omega
                    have t7 : decide (p ≤ p') = false := by simp; omega
                    have hpr := HPR.out hj0
                    have i1 : (0 : Int) ≤ (j : Int) - 1 := by omega
                    have i2 : (j : Int) - 1 < (xr.length : Int) := by omega
                    have i5 : ((j : Int) - 1).toNat = j - 1 := by omega
                    clear HPR
                    go_wp2_with fail
                    go_region
                    go_wp2
                    go_roundw
                    case rel => exact ⟨j + 1, by omega, by go_num, HOK, by rw [HTJ.out, ← List.append_assoc]; exact HRES.out.1, HRES.out.2⟩
                    case measure => simp [intOf]; omega
                  · have t6 : decide ((0 : Int) < (j : Int)) = false := by simp; omega
                    clear HPR
                    go_wp2_with fail
                    go_region
                    go_wp2
                    go_roundw
                    case rel => exact ⟨j + 1, by omega, by go_num, HOK, by rw [HTJ.out, ← List.append_assoc]; exact HRES.out.1, HRES.out.2⟩
                    case measure => simp [intOf]; omega
              · obtain rfl : j = xr.length := by omega
                rw [List.take_length, ← HKX.out] at hcj
                have HOK : Hid ((s.covs.take (k + 1)).all covOK = true) := Lib.hid (by rw [HT.out, HA.out, HC2.out, HJ.out]; rfl)
                have hkxl : kx.length = xr.length := by rw [HKX.out]; simp
                rw [← hkxl, ← List.length_append] at hcj
                clear hkxl
                have hlen : (L ++ kx).length ≤ 200 + 1000000 * (k + 1) := by rw [List.length_append, HKX.out, List.length_map]; omega
                have HLEN := Lib.hid hlen; clear hlen
                have HCJ := Lib.hid hcj; clear hcj
                go_wp2
                go_roundw
                case rel => exact ⟨k + 1, by omega, by go_num, HOK, by rw [HM.out]; exact HLEN.out, by rw [HM.out]; exact HCJ.out, hbj⟩
                case measure => simp [intOf]; omega
        · obtain rfl : k = s.covs.length := by omega
          rw [List.take_length] at HA hcnt
          have HV3 : Hid (r = once (keysOf s)) := Lib.hid (by rw [HV2.out, HA.out]; rfl)
          rw [← HKE.out] at hcnt
          obtain ⟨D, hown, hat, hhas, hkeys⟩ := hcnt
          have HON : Hid ((∀ k ∈ keysOf s, (keysOf s).count k ≤ 1) → r = true) := Lib.hid fun hh => by
            rw [HV3.out]; unfold once; rw [List.all_eq_true]; intro k hk; simpa using hh k hk
          have HOFF : Hid (∀ k ∈ keysOf s, 1 < (keysOf s).count k → r = false) := Lib.hid fun k hk hh => by
            rw [HV3.out]; unfold once; rw [List.all_eq_false]; exact ⟨k, hk, by simp; omega⟩
          have HAT := Lib.hid hat; clear hat
          have HHAS := Lib.hid hhas; clear hhas
          have HKEYS := Lib.hid hkeys; clear hkeys
          generalize (keysOf s).length = n at *
          clear HF HS HA HKE HV3 HV2 hLl
          generalize keysOf s = L at *
          have KK := Maps.Keyed.of_law key3_law
          have hbB : w0.heap.size ≤ wr.heap.size := hzr
          go_wp2_with (first
            | (at_range; refine wpList_range_own _ rfl _ 125 rfl 126 3 KK Tryd.underlying125 _ (w.heap.size + 1) n D rfl hown ?_; intro w5 hrg5 hg5 hs5)
            | go_in)
          go_frame
          obtain ⟨wq, rfl⟩ : ∃ wq : World, wq = wr := ⟨_, rfl⟩
          have hb5 : Below w0.heap.size w0 w5 := hb.trans ⟨hg5.os, hg5.tape, hg5.output, hg5.size, fun i hi => hg5.block i (by omega) (by simp)⟩
          go_loopw [12] (fun _ wr => ∃ (left : Lit → Bool) (cnt : Nat), wr.ranges (H := Unit) Tryd.prog 126 (plainElem Tryd.prog 3) (w.heap.size + 1) wq.heap.size n D left cnt ∧ Hid (∀ kl, Maps.has D kl = true → left kl = false → ∀ c : Int, D.atKey kl (.lit (.int .i64 0)) = .lit (.int .i64 c) → c ≤ 1) ∧ Below w0.heap.size w0 wr) (fun _ wr => wr.rangeLeft (w.heap.size + 1) wq.heap.size)
          case atStart => exact ⟨_, _, hrg5, Lib.hid (fun kl h1 h2 => by rw [h1] at h2; cases h2), hb5⟩
          case round =>
            obtain ⟨left, cnt, hrg, HLE, hbr⟩ := hrel
            go_wp2_with (first
              | (at_next; refine wpList_next_ranges _ rfl _ rfl 126 KK (plainElem Tryd.prog 3) (fun v : Value => v) (Value.int .i64) (fun key kl _ => ⟨key, rfl⟩) (fun v y hv => (plainElem_int_inv Tryd.underlying3 hv).elim fun c h => ⟨c, h.1⟩) (w.heap.size + 1) wq.heap.size n D left cnt rfl hrg ?_ ?_)
              | go_in)
            · intro _ hl0
              have hr := HON.out fun k hk => by
                obtain ⟨kl, e1, e2⟩ := HKEYS.out k hk
                have := HLE.out kl e2 (hl0 kl) _ (HAT.out k kl e1)
                omega
              subst hr
              go_wp2
              go_ret
              exact ⟨rfl, HB0.out.trans (hbr.mono hz0)⟩
            · intro x c kl y y2 w6 cnt6 hkx hlx hRy haty hrg6 hlt6 hg6 hs6 hen
              obtain ⟨c', hc', hy, _⟩ := plainElem_int_inv Tryd.underlying3 hRy
              have hcc : c' = c := by injection hc' with _ h2; exact h2.symm
              subst hcc
              have hyy : y = .lit (.int .i64 c') := by injection hy
              have hhk := Maps.has_true_of_atKey haty
              have hb6 : Below w0.heap.size w0 w6 := below_inc hbr hg6 (by omega) hbr.size
              obtain ⟨kk, hkm, hkk⟩ := HHAS.out kl hhk
              have hcnt : c' = (L.count kk : Nat) := by
                have h1 := HAT.out kk kl hkk
                rw [haty, hyy] at h1
                injection h1 with h1
                injection h1 with _ h1
              by_cases hc1 : 1 < c'
              · have hr := HOFF.out kk hkm (by omega)
                subst hr
                have t9 : decide (1 < c') = true := by simpa using hc1
                clear hcnt hyy hy haty
                go_wp2
                go_ret
                exact ⟨rfl, HB0.out.trans (hb6.mono hz0)⟩
              · have t9 : decide (1 < c') = false := by simpa using hc1
                have HLE2 : Hid (∀ kl', Maps.has D kl' = true → (left kl' && !kl'.sameKey kl) = false → ∀ c : Int, D.atKey kl' (.lit (.int .i64 0)) = .lit (.int .i64 c) → c ≤ 1) := Lib.hid fun kl' h1 h2 c h3 => by
                  cases hl : left kl' with
                  | false => exact HLE.out kl' h1 hl c h3
                  | true =>
                    rw [hl] at h2
                    have h4 : kl'.sameKey kl = true := by simpa using h2
                    have := WideAt.sameKey_eq h4
                    subst this
                    rw [haty, hyy] at h3
                    injection h3 with h3
                    injection h3 with _ h3
                    omega
                clear hcnt hyy hy haty
                go_wp2
                go_roundw
                case rel => exact ⟨_, cnt6, hrg6, HLE2, hb6⟩
                case measure => rw [hrg6.left_eq, hrg.left_eq]; exact hlt6
theorem shipRight_any (s : Shp) (h : Hd) (w : World) (hs : ShpR w (Lt w.heap.size) s h) (hf : Few s) (hi : Ints s) : Calls Tryd.prog 52 #[.agg (shpA s h)] w (Ret w (.bool (rightF s))) := by
  by_cases hc : 1 ≤ s.cols.length ∧ s.cols.length ≤ 200 ∧ s.covs.length ≤ 40
  · exact shipRight_main s h w hs hf hi hc.1 hc.2.1 hc.2.2
  · exact shipRight_small s h w hc
end Go.Proofs.YtmhikcleekfbpaaDoor
