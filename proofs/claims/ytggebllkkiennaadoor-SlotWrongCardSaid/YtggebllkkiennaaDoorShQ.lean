/-
  The walk of the statement ShipBeside.
-/
import Derived.Test.YtggebllkkiennaaDoorShM
import Derived.Test.YtggebllkkiennaaDoorShP
import Derived.IntWalk
namespace Go.Proofs.YtggebllkkiennaaDoor
open Go.RowKit

theorem ownT_sl {α : Type} {T : Ty α} {e : TypeId} {w : World} {base : Nat} {A : Option Addr} {n c : Nat} {l : List α} (h : OwnT T e w base (.slice A n c) l) : SlT T w (Lt w.heap.size) A l := by
  obtain ⟨A', c', e, _, _, h3⟩ := h.sl
  injection e with e1 _ _
  subst e1
  exact h3
theorem built_rd {w : World} {base : Nat} {l : List Col} {covs : List Cov} {A1 A2 : Option Addr} {c1 c2 : Nat} {gs : List Nat} (h1 : OwnT tCol 54 w base (.slice A1 l.length c1) l) (h2 : CovOwn w base (.slice A2 covs.length c2) covs gs)
    (h3 : l.length ≤ c1 ∧ c1 ≤ maxLen) (h4 : covs.length ≤ c2 ∧ c2 ≤ maxLen) : ShpR w (Lt w.heap.size) (shp0 l covs) (hd0 A1 c1 A2 c2) :=
  ⟨h3.1, h4.1, Nat.zero_le _, Nat.zero_le _, Nat.zero_le _, h3.2, h4.2, by simp [hd0], by simp [hd0], by simp [hd0], ownT_sl h1, ownT_sl h2.ownT, SlT.nil, SlT.nil, SlT.nil⟩
/-- A ship that Built makes. -/
structure Bu (s : Shp) : Prop where
  cols : Cols s.cols
  one : 1 ≤ s.cols.length
  few : s.cols.length ≤ 12
  sub : s.covs.Sublist (allTo 5)
  eq : s = shp0 s.cols s.covs
theorem Bu.right {s : Shp} (h : Bu s) : rightF s = true := by rw [h.eq]; exact built_right h.cols ⟨h.one, h.few⟩ h.sub
theorem Bu.Few {s : Shp} (h : Bu s) : Few s := by rw [h.eq]; exact built_few h.cols h.few h.sub
theorem Bu.ints {s : Shp} (h : Bu s) : Ints s := by rw [h.eq]; exact built_ints h.cols
theorem Bu.rows {s : Shp} (h : Bu s) : ∀ c ∈ s.cols, I64 c.row := by rw [h.eq]; exact built_rows h.cols
theorem Bu.short {s : Shp} (h : Bu s) : s.cols.length ≤ 1000000 := by have := h.few; omega
theorem Bu.col {s : Shp} (h : Bu s) {i : Nat} (hi : i < s.cols.length) : GoodCol (s.cols.getD i default) := cols_mem h.cols hi
theorem Bu.beside {s : Shp} (h : Bu s) {i : Nat} (hi : i < s.cols.length) (z : Int) : z ∈ besideF s i ↔ ∃ m : Nat, m < s.cols.length ∧ z = (m : Int) ∧ besB (s.cols.getD i default) (s.cols.getD m default) = true := by
  have := beside_mem (covs := s.covs) hi z
  rw [← h.eq] at this
  exact this
theorem Bu.two {s : Shp} (h : Bu s) {i : Nat} (hi : i < s.cols.length) : (besideF s i).length ≤ 2 := by
  have := beside_two (covs := s.covs) h.cols hi
  rw [← h.eq] at this
  exact this
def dist (a b : Col) : Int := if a.bay < b.bay then b.bay - a.bay else a.bay - b.bay
theorem Bu.apart {s : Shp} (h : Bu s) {i k : Nat} (hi : i < s.cols.length) (hk : k < s.cols.length) : apartF s i k = (dist (s.cols.getD i default) (s.cols.getD k default), true) := by
  have := apart_same (covs := s.covs) h.cols hi hk
  rw [← h.eq] at this
  exact this
/-- What Built returns, as a ship of its own. -/
def BuRet (w : World) (e : Ending) (w' : World) : Prop :=
  ∃ (s : Shp) (h : Hd) (gs : List Nat), e = .returned (.agg (shpA s h)) ∧ Bu s ∧ OwnT tCol 54 w' w.heap.size (.slice h.A1 s.cols.length h.c1) s.cols ∧ CovOwn w' w.heap.size (.slice h.A2 s.covs.length h.c2) s.covs gs ∧ ShpR w' (Lt w'.heap.size) s h ∧ Below w.heap.size w w'
theorem built_s {A : Option Addr} {c : Nat} {l : List (Nat × Nat × Nat × Bool)} {covers : Nat} {w : World} (hs : SlT tPl w (Lt w.heap.size) A l) (hl : ∀ p ∈ l, p.1 < 256 ∧ p.2.1 < 256 ∧ p.2.2.1 < 256) (hc : l.length ≤ c) (hcm : c ≤ maxLen) :
    Calls Tryd.prog 18 #[.slice A l.length c, .int .u32 covers] w (BuRet w) :=
  (built_any A c l covers w hs hl hc hcm).mono fun _ _ ⟨l, covs, A1, c1, A2, c2, gs, h0, h1, h2, h3, h4, h5, h6, h7, h8⟩ =>
    ⟨shp0 l covs, hd0 A1 c1 A2 c2, gs, h0, ⟨h1, h2.1, h2.2, h3, rfl⟩, h4, h5, built_rd h4 h5 h6 h7, h8⟩
theorem drew_below (W : World) (m : Nat) : Below W.heap.size W (W.drewN m) := below_drewN (Below.refl _ _) m
theorem any_take {α : Type} (p : α → Bool) {l : List α} {k : Nat} (h : k < l.length) (d : α) : (l.take (k + 1)).any p = ((l.take k).any p || p (l.getD k d)) := by
  rw [List.take_succ_eq_append_getElem h, List.any_append]; simp [h]

end Go.Proofs.YtggebllkkiennaaDoor
