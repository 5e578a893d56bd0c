/-
  The walk of the statements' lists.
-/
import Derived.Test.YtcjnabbggmbfgaaDoorDgO2
import Derived.Test.YtcjnabbggmbfgaaDoorDgQ
import Derived.Test.YtcjnabbggmbfgaaDoorDgP
import Derived.Test.YtcjnabbggmbfgaaDoorDgPlain4
namespace Go.Proofs.YtcjnabbggmbfgaaDoor
open Go.RowKit

def Dg.divP (l : List Nat) : List (List Nat) := if Dg.err l = 0 then Dg.divide l else []
theorem Dg.divP_good (l : List Nat) : (Dg.divP l).length ≤ 9 ∧ ∀ i, i < (Dg.divP l).length → 0 < ((Dg.divP l).getD i []).length ∧ ((Dg.divP l).getD i []).length ≤ 9 := by
  unfold Dg.divP
  split
  · have h := Dg.divide_good l
    exact ⟨h.1.1, fun i hi => ⟨(h.1.2 i hi).1, (h.1.2 i hi).2.1⟩⟩
  · simp
theorem Dg.divP_lt (l : List Nat) : ∀ g ∈ Dg.divP l, ∀ x ∈ g, x < 256 := by
  intro g hg x hx
  unfold Dg.divP at hg
  split at hg
  · have h := Dg.divide_good l
    obtain ⟨i, hi, rfl⟩ := List.getElem_of_mem hg
    obtain ⟨k, hk, rfl⟩ := List.getElem_of_mem hx
    have h2 := ((h.1.2 i hi).2.2.2 k (by simpa [hi] using hk)).2.1
    simp [Dg.at_, hi, hk] at h2
    omega
  · simp at hg
theorem divide_p (A : Option Addr) (n c : Nat) (l : List Nat) (w : World) (ht : TabOK w) (hs : Sl w w.heap.size 1 A n (u8s l)) :
    Calls Tryd.prog 11 #[.slice A n c] w (DivRetA w (Dg.divP l) (Dg.err l)) := by
  unfold Dg.divP
  by_cases h : Dg.err l = 0
  · have h2 := Dg.err_ok h
    have := divide_okA A n c l w ht hs h
    rw [(Dg.pre_all h2.1 h2.2).1] at this
    rw [if_pos h, h]; exact this
  · rw [if_neg h]
    refine (divide_err A n c l w hs h).mono fun _ _ ⟨v, h1, h2, h3⟩ => ⟨v, h1, ?_, h3⟩
    obtain ⟨vs, h4, h5, h6⟩ := h2
    exact ⟨vs, h4, h5, h6, fun i h hi => by simp at hi⟩
theorem rdivide_p (A : Option Addr) (n c : Nat) (l : List Nat) (w : World) (hs : Sl w w.heap.size 1 A n (u8s l)) :
    Calls Tryd.prog 27 #[.slice A n c] w (DivRet w (Dg.divP l) (Dg.err l)) := by
  unfold Dg.divP
  by_cases h : Dg.err l = 0
  · have := rdivide_ok A n c l w hs h
    rw [Dg.rdiv_eq] at this
    rw [if_pos h, h]; exact this
  · rw [if_neg h]; exact rdivide_err A n c l w hs h
def Dg.strP (cls : Nat) (l : List Nat) : Nat × Int := if Dg.err l ≠ 0 then (0, Dg.err l) else if 9 < cls then (0, 130) else (Dg.most cls l, 0)
theorem strictest_p (cls : Nat) (A : Option Addr) (n c : Nat) (l : List Nat) (w : World) (ht : TabOK w) (hs : Sl w w.heap.size 1 A n (u8s l)) :
    Calls Tryd.prog 15 #[.int .u8 cls, .slice A n c] w fun e w' => e = .returned (.tuple #[.int .u8 (Dg.strP cls l).1, .int .i64 (Dg.strP cls l).2]) ∧ Below w.heap.size w w' := by
  unfold Dg.strP
  by_cases h : Dg.err l = 0
  · rw [if_neg (by simpa using h)]
    by_cases h9 : 9 < cls
    · rw [if_pos h9]; exact strictest_cls cls A n c l w hs h h9
    · have h2 := Dg.err_ok h
      have := strictest_ok cls A n c l w ht hs h (by omega)
      rw [(Dg.pre_all h2.1 h2.2).1, Dg.strict_most cls l (fun x hx => by have := h2.2 x hx; omega)] at this
      rw [if_neg h9]; exact this
  · rw [if_pos h]; exact strictest_err cls A n c l w hs h
theorem rstrictest_p (cls : Nat) (A : Option Addr) (n c : Nat) (l : List Nat) (w : World) (hs : Sl w w.heap.size 1 A n (u8s l)) :
    Calls Tryd.prog 26 #[.int .u8 cls, .slice A n c] w fun e w' => e = .returned (.tuple #[.int .u8 (Dg.strP cls l).1, .int .i64 (Dg.strP cls l).2]) ∧ Below w.heap.size w w' := by
  unfold Dg.strP
  by_cases h : Dg.err l = 0
  · rw [if_neg (by simpa using h)]
    by_cases h9 : 9 < cls
    · rw [if_pos h9]; exact rstrict_cls cls A n c l w hs h h9
    · rw [if_neg h9]; exact rstrict_ok cls A n c l w hs h (by omega)
  · rw [if_pos h]; exact rstrict_err cls A n c l w hs h

/-- A second division while it is spoilt: rows from i on are as they were; all lies from base on. -/
structure AInv (w0 W : World) (base g : Nat) (cur : Array Value) (R : List (List Nat)) (i : Nat) : Prop where
  kg : Bk W g 22 cur
  sz : R.length ≤ cur.size
  lo : base ≤ g
  own : ∀ j, i ≤ j → j < R.length → W.ownsRow base 5 1 (cur.getD j undef) (R.getD j []).length (u8s (R.getD j []))
  apart : ∀ j h, i ≤ j → i ≤ h → j < R.length → h < R.length → j ≠ h → (cur.getD j undef).ownBlock = none ∨ (cur.getD j undef).ownBlock ≠ (cur.getD h undef).ownBlock
  be : Below base w0 W
  bs : base ≤ W.heap.size
/-- The row that is being spoilt. -/
structure ARow (W : World) (base : Nat) (v : Value) (gi ci len : Nat) : Prop where
  ev : v = .slice (some ⟨gi, 0, none⟩) len ci
  own : ∃ xs, W.ownsRow base 5 1 v len xs
  lo : base ≤ gi
theorem ARow.cell {W : World} {base gi ci len : Nat} {v : Value} (h : ARow W base v gi ci len) {k : Nat} (hk : k < len) : (∃ u, W.cell? ⟨gi, k, none⟩ = some u) ∧ W.frozen? ⟨gi, k, none⟩ = false := by
  obtain ⟨rfl, ⟨xs, ho⟩, _⟩ := h
  have h1 := ho.cellAt k (by omega)
  have h2 := ho.frozenAt k
  have hl := ho.1
  exact ⟨⟨xs[k]'(by omega), by rw [h1]; simp⟩, h2⟩
theorem AInv.store {w0 W : World} {base g i : Nat} {cur : Array Value} {R : List (List Nat)} {gi ci len : Nat} (hI : AInv w0 W base g cur R (i + 1)) (hr : ARow W base (cur.getD i undef) gi ci len)
    (hap : ∀ h, i + 1 ≤ h → h < R.length → (cur.getD h undef).ownBlock = none ∨ (cur.getD h undef).ownBlock ≠ some gi) (k : Nat) (u : Value) :
    AInv w0 (W.setCell ⟨gi, k, none⟩ u) base g cur R (i + 1) ∧ ARow (W.setCell ⟨gi, k, none⟩ u) base (cur.getD i undef) gi ci len := by
  obtain ⟨e, ⟨xs, ho⟩, lo⟩ := hr
  rw [e] at ho
  have hs := ho.stored k u
  have hgg : g ≠ gi := by
    rcases ho.2 with ⟨h, _⟩ | ⟨g', cap', cur', h, _, hh, _⟩
    · simp at h
    · simp only [Value.slice.injEq, Option.some.injEq, Addr.mk.injEq, and_true, true_and] at h
      obtain ⟨rfl, rfl⟩ := h
      exact Bk.ne_ hI.kg (show Bk W gi 5 cur' from hh) (by decide)
  refine ⟨⟨hI.kg.far (by simpa using hgg) u, hI.sz, hI.lo, fun j hj hl => (hI.own j hj hl).kept hs.2 (hap j hj hl), hI.apart, hI.be.setCell (by simpa using lo) u, by simpa [World.setCell] using hI.bs⟩, ⟨e, ⟨_, by rw [e]; exact hs.1⟩, lo⟩⟩
theorem AInv.next {w0 W w3 : World} {base g i : Nat} {cur : Array Value} {R : List (List Nat)} {gi ci len : Nat} {v : Value} (hI : AInv w0 W base g cur R (i + 1)) (hr : ARow W base (cur.getD i undef) gi ci len)
    (hap : ∀ h, i + 1 ≤ h → h < R.length → (cur.getD h undef).ownBlock = none ∨ (cur.getD h undef).ownBlock ≠ some gi) (hg : W.grownBy w3 (some gi)) (hb : Below base W w3) :
    Bk w3 g 22 cur ∧ AInv w0 (w3.setCell ⟨g, i, none⟩ v) base g (cur.setIfInBounds i v) R (i + 1) := by
  obtain ⟨e, ⟨xs, ho⟩, lo⟩ := hr
  rw [e] at ho
  have hgg : g ≠ gi := by
    rcases ho.2 with ⟨h, _⟩ | ⟨g', cap', cur', h, _, hh, _⟩
    · simp at h
    · simp only [Value.slice.injEq, Option.some.injEq, Addr.mk.injEq, and_true, true_and] at h
      obtain ⟨rfl, rfl⟩ := h
      exact Bk.ne_ hI.kg (show Bk W gi 5 cur' from hh) (by decide)
  have k3 : Bk w3 g 22 cur := hI.kg.grown hg (by simpa using hgg)
  have key : ∀ j, i + 1 ≤ j → (cur.setIfInBounds i v).getD j undef = cur.getD j undef := fun j hj => agetD_set_ne _ _ _ _ _ (by omega)
  refine ⟨k3, k3.set_ i v, by simpa using hI.sz, hI.lo, fun j hj hl => ?_, fun j h hj hh hl hk hne => ?_, (hI.be.trans hb).setCell (by simpa using hI.lo) v, ?_⟩
  · rw [key j hj]
    have h1 := (hI.own j hj hl).kept hg (hap j hj hl)
    exact own_far h1 _ _ (own_ne h1 k3 (by decide))
  · rw [key j hj, key h hh]; exact hI.apart j h hj hh hl hk hne
  · have := hI.bs; have := hg.size; simp [World.setCell]; omega
/-- The state of the spoiling at row i. -/
def AI (w0 W : World) (base : Nat) (A : Option Addr) (R : List (List Nat)) (i : Nat) : Prop :=
  Below base w0 W ∧ base ≤ W.heap.size ∧ (i < R.length → ∃ g cur, A = some ⟨g, 0, none⟩ ∧ AInv w0 W base g cur R i)
theorem AI.start {w0 W : World} {v : Value} {R : List (List Nat)} (h : GroupsA W w0.heap.size v R) (hb : Below w0.heap.size w0 W) : ∃ A c, v = .slice A R.length c ∧ AI w0 W w0.heap.size A R 0 := by
  obtain ⟨vs, ho, hl, hi, hap⟩ := h
  rcases ho.2 with ⟨rfl, h0⟩ | ⟨g, cap, cur, rfl, hg, hh, hn, hm, hsz, ht⟩
  · exact ⟨none, 0, by rw [h0], hb, hb.size, fun h => by omega⟩
  · have key : ∀ j, j < R.length → cur.getD j undef = vs.getD j undef := by
      intro j hj
      rw [← ht, List.getD_eq_getElem?_getD, List.getElem?_take_of_lt (show j < R.length * 1 by omega)]
      simp
    refine ⟨_, cap, rfl, hb, hb.size, fun _ => ⟨g, cur, rfl, hh, by omega, hg, fun j _ hj => ?_, fun j h _ _ hj hh hne => ?_, hb, hb.size⟩⟩
    · rw [key j hj]; exact hi j hj
    · rw [key j hj, key h hh]; exact hap j h hj hh hne
theorem AInv.row {w0 W : World} {base g i : Nat} {cur : Array Value} {R : List (List Nat)} (hI : AInv w0 W base g cur R i) (hi : i < R.length) (hp : 0 < (R.getD i []).length) :
    ∃ gi ci, ARow W base (cur.getD i undef) gi ci (R.getD i []).length ∧ AInv w0 W base g cur R (i + 1) ∧ (∀ h, i + 1 ≤ h → h < R.length → (cur.getD h undef).ownBlock = none ∨ (cur.getD h undef).ownBlock ≠ some gi) ∧
      W.cell? ⟨g, i, none⟩ = some (.slice (some ⟨gi, 0, none⟩) (R.getD i []).length ci) := by
  have ho := hI.own i (Nat.le_refl _) hi
  rcases ho.2 with ⟨_, h⟩ | ⟨gi, ci, cu, e, lo, _⟩
  · omega
  · refine ⟨gi, ci, ⟨e, ⟨_, ho⟩, lo⟩, ⟨hI.kg, hI.sz, hI.lo, fun j hj hl => hI.own j (by omega) hl, fun j h hj hh => hI.apart j h (by omega) (by omega), hI.be, hI.bs⟩, fun h hh hl => ?_, ?_⟩
    · have := hI.apart h i (by omega) (Nat.le_refl _) hl hi (by omega)
      rw [e] at this
      exact this
    · rw [hI.kg.cell i, ← e]
      have : i < cur.size := by have := hI.sz; omega
      simp [this]
end Go.Proofs.YtcjnabbggmbfgaaDoor
