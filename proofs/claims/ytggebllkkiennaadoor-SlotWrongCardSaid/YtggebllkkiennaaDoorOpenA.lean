/-
  Arguments that came in, opened: slices and structs read as lists and structures.
-/
import Derived.Test.YtggebllkkiennaaDoorShL
import Derived.Test.YtggebllkkiennaaDoorPost
import Derived.Deep.Slices
import Derived.ChangeArms
namespace Go.Proofs.YtggebllkkiennaaDoor
open Go.ChangeShapes Go.WideShapes Go.ChangeAt Go.RowKit Go.Deep

theorem own : ownKnob Tryd.prog.godebug = none := by kernel_rfl
theorem laidOut : laidOutB Tryd.prog = true := by kernel_rfl
/-- Values of type t read as T says. -/
def Opens {α : Type} {H : Type} (enc : TypeId × Value → H) (W : World) (T : Ty α) (t : TypeId) (Q : α → Prop) : Prop :=
  ∀ (fuel : Nat) (cs : List Value) (x : DataW H × List MemPlace), DataW.trod enc Tryd.prog W 0 (fun _ => true) true fuel t cs = some x → ∃ a, T.rd W (Lt W.heap.size) cs a ∧ Q a
theorem cellsI : Tryd.prog.cellsOf 3 = 1 := by kernel_rfl
theorem cellsB : Tryd.prog.cellsOf 4 = 1 := by kernel_rfl
theorem cells8 : Tryd.prog.cellsOf 5 = 1 := by kernel_rfl
theorem cellsPl : Tryd.prog.cellsOf 100 = 4 := by kernel_rfl
section
variable {H : Type} {enc : TypeId × Value → H} {W : World}
theorem opens_int : Opens enc W tInt 3 I64 := fun fuel cs x h => by
  obtain ⟨n, rfl, _, hw⟩ := DataW.trod_int Tryd.underlying3 h
  exact ⟨n, rfl, bounds_i64 hw⟩
/-- A list out of a list of what is known of each place. -/
theorem pick_list {α : Type} (d : α) : ∀ (n : Nat) (R : Nat → α → Prop), (∀ i, i < n → ∃ a, R i a) → ∃ l : List α, l.length = n ∧ ∀ i, i < n → R i (l.getD i d)
  | 0, _, _ => ⟨[], rfl, fun i hi => absurd hi (by omega)⟩
  | n + 1, R, h => by
    obtain ⟨l, hl, hr⟩ := pick_list d n R fun i hi => h i (by omega)
    obtain ⟨a, ha⟩ := h n (by omega)
    refine ⟨l ++ [a], by simp [hl], fun i hi => ?_⟩
    by_cases e : i < n
    · have := hr i e
      simp only [List.getD_eq_getElem?_getD] at this ⊢
      rw [List.getElem?_append_left (by omega)]
      exact this
    · have : i = n := by omega
      subst this
      rw [← hl]
      simpa [hl] using ha
theorem open_slT {α : Type} {T : Ty α} {t e : TypeId} {Q : α → Prop} [Inhabited α] (ht : Tryd.prog.underlying t = some (.slice e)) (hk : Tryd.prog.cellsOf e = T.k) (hel : Opens enc W T e Q)
    {fuel : Nat} {cs : List Value} {x : DataW H × List MemPlace} (h : DataW.trod enc Tryd.prog W 0 (fun _ => true) true fuel t cs = some x) :
    ∃ (A : Option Addr) (c : Nat) (l : List α), cs = [.slice A l.length c] ∧ l.length ≤ c ∧ c ≤ maxLen ∧ SlT T W (Lt W.heap.size) A l ∧ ∀ a ∈ l, Q a := by
  rcases open_slice ht h with ⟨rfl, _⟩ | ⟨a, len, cap, m, n, D, Pl, rfl, _, hl, hm, hmm, _, hi⟩
  · exact ⟨none, 0, [], rfl, Nat.le_refl _, by simp, SlT.nil, by simp⟩
  · simp only [if_true] at hmm
    subst hmm
    rw [hk] at hi
    obtain ⟨l, hll, hR⟩ := pick_list (default : α) len (fun i x => ∃ cs', (∀ j u, cs'[j]? = some u → W.cell? (a.add (i * T.k + j)) = some u) ∧ T.rd W (Lt W.heap.size) cs' x ∧ Q x) fun i hil => by
      obtain ⟨cs', hc, ht'⟩ := hi i (by omega)
      obtain ⟨_, hcl, hat⟩ := World.cells?_some hc
      obtain ⟨x, hx, hq⟩ := hel n cs' _ ht'
      refine ⟨x, cs', fun j u hu => ?_, hx, hq⟩
      have hj : j < T.k := by rw [← hcl]; exact (List.getElem?_eq_some_iff.1 hu).1
      rw [← add_add, hat j hj, hu]
    subst hll
    refine ⟨some a, m, l, rfl, by omega, by omega, fun hn => ?_, fun x hx => ?_⟩
    · have hp : 0 < l.length := by cases l with | nil => exact absurd rfl hn | cons x l => simp
      obtain ⟨b, off, spot⟩ := a
      obtain ⟨cs0, hc0, hrd0, _⟩ := hR 0 hp
      have hl0 := T.len hrd0
      have hk0 := T.pos
      have hcell0 := hc0 0 (cs0[0]'(by omega)) (List.getElem?_eq_getElem _)
      have hspot : spot = none := by simpa [Addr.add] using World.cell?_spot hcell0
      subst hspot
      refine ⟨b, off, rfl, ?_, fun i x hx => ?_⟩
      · rw [add_mk] at hcell0
        exact block_lt_of_cell hcell0
      · have hil := (List.getElem?_eq_some_iff.1 hx).1
        obtain ⟨cs', hc', hrd', _⟩ := hR i hil
        have hxe : l.getD i default = x := by simp [hx]
        rw [hxe] at hrd'
        refine ⟨cs', hrd', fun j u hu => ?_⟩
        have := hc' j u hu
        rw [add_mk] at this
        rw [Nat.add_assoc]
        exact this
    · obtain ⟨i, hil, rfl⟩ := List.getElem_of_mem hx
      obtain ⟨_, _, _, hq⟩ := hR i hil
      simpa [hil] using hq
theorem opens_list {α : Type} {T : Ty α} {t e : TypeId} {Q : α → Prop} [Inhabited α] (ht : Tryd.prog.underlying t = some (.slice e)) (hk : Tryd.prog.cellsOf e = T.k) (hel : Opens enc W T e Q) : Opens enc W (tList T) t (fun l => ∀ a ∈ l, Q a) := fun fuel cs x h => by
  obtain ⟨A, c, l, rfl, h1, h2, h3, h4⟩ := open_slT ht hk hel h
  exact ⟨l, ⟨A, c, rfl, h1, h3⟩, h4⟩
set_option maxRecDepth 100000 in
theorem opens_place : Opens enc W tPl 100 (fun p => p.1 < 256 ∧ p.2.1 < 256 ∧ p.2.2.1 < 256) := fun fuel cs x h => by
  obtain ⟨xs, n, _, _, hl, hxl, hf⟩ := DataW.trod_struct Tryd.underlying100 h
  have hl4 : cs.length = 4 := hl.trans cellsPl
  match cs, hl4, xs, hxl with
  | [c0, c1, c2, c3], _, [x0, x1, x2, x3], _ =>
    have f0 := hf 0 _ rfl
    have f1 := hf 1 _ rfl
    have f2 := hf 2 _ rfl
    have f3 := hf 3 _ rfl
    simp [cells8, cellsB] at f0 f1 f2 f3
    obtain ⟨n0, e0, _, w0⟩ := DataW.trod_int Tryd.underlying5 f0
    obtain ⟨n1, e1, _, w1⟩ := DataW.trod_int Tryd.underlying5 f1
    obtain ⟨n2, e2, _, w2⟩ := DataW.trod_int Tryd.underlying5 f2
    obtain ⟨b3, e3, _⟩ := DataW.trod_bool Tryd.underlying4 f3
    have q0 := bounds_u8 w0
    have q1 := bounds_u8 w1
    have q2 := bounds_u8 w2
    obtain ⟨a0, rfl⟩ := Int.eq_ofNat_of_zero_le q0.1
    obtain ⟨a1, rfl⟩ := Int.eq_ofNat_of_zero_le q1.1
    obtain ⟨a2, rfl⟩ := Int.eq_ofNat_of_zero_le q2.1
    have e0 := (List.cons.inj e0).1
    have e1 := (List.cons.inj e1).1
    have e2 := (List.cons.inj e2).1
    have e3 := (List.cons.inj e3).1
    subst e0 e1 e2 e3
    exact ⟨(a0, a1, a2, b3), rfl, by show a0 < 256; omega, by show a1 < 256; omega, by show a2 < 256; omega⟩
set_option maxRecDepth 100000 in
theorem open_places {base : Nat} {r : Reach} {v : Value} {d : DataW H} {p : List MemPlace} (hv : Value.okWide Tryd.prog W r base 49 v) (h : DataW.Trod enc Tryd.prog W 0 (fun _ => true) true 49 v d p) :
    ∃ A c l, v = .slice A l.length c ∧ l.length ≤ c ∧ c ≤ maxLen ∧ SlT tPl W (Lt W.heap.size) A l ∧ ∀ q ∈ l, q.1 < 256 ∧ q.2.1 < 256 ∧ q.2.2.1 < 256 := by
  obtain ⟨a0, len0, cap0, rfl⟩ := okWide_slice Tryd.underlying49 hv
  obtain ⟨fuel, hf⟩ := h
  obtain ⟨A, c, l, e, h1, h2, h3, h4⟩ := open_slT (T := tPl) Tryd.underlying49 cellsPl opens_place hf
  simp [Value.cells] at e
  obtain ⟨rfl, rfl, rfl⟩ := e
  exact ⟨a0, cap0, l, rfl, h1, h2, h3, h4⟩
end
end Go.Proofs.YtggebllkkiennaaDoor
