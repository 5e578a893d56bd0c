/-
  The walk of the statement ShipCovers.
-/
import Derived.Test.YtbkinjpaigmghaaShP2
import Derived.Deep.OwnRows
namespace Go.Proofs.Ytbkinjpaigmghaa
open Go.RowKit

theorem made_met (n : Nat) : madeCells #[Value.int .i64 0] n = metA n (fun _ => 0) := by
  apply Array.ext_getElem?
  intro i
  by_cases hi : i < n
  · rw [metA_at n _ i hi]
    simp [madeCells, hi, Nat.mod_one]
  · rw [Array.getElem?_eq_none (by rw [size_madeCells]; omega), Array.getElem?_eq_none (by rw [metA_size]; omega)]
theorem make_met (n : Nat) (hn : n ≤ 1000000) (w : World) : (Instr.makeSlice 39 (.int .i64 (n : Int)) (.int .i64 (n : Int))).run Try.prog w = .ok (.slice (some ⟨w.heap.size, 0, none⟩) n n) (w.alloc (.cells (metA n (fun _ => 0)) 3)) := by
  rw [← made_met]
  exact run_make_row' (P := Try.prog) 39 3 (.int .i64 0) 8 Try.underlying39 (by kernel_rfl) rfl .i64 .i64 n (by omega) (by omega) w

/-- What ShipCovers keeps: the ship in its variable, and the counts. -/
structure SC (w W : World) (g gm : Nat) (s : Shp) (h : Hd) (M : Nat → Nat) : Prop where
  rd : ShpR W (Lt g) s h
  bk : Bk W g 32 (shpA s h)
  be : Below w.heap.size w W
  met : Bk W gm 3 (metA s.cols.length M)
  own : w.heap.size ≤ gm
  lt : g < gm
theorem SC.sh {w W : World} {g gm : Nat} {s : Shp} {h : Hd} {M : Nat → Nat} (r : SC w W g gm s h M) : Sh w W g s h := ⟨r.rd.up (by have := r.bk.lt; omega), r.bk, r.be⟩
theorem SC.on {w W W' : World} {g gm : Nat} {s : Shp} {h : Hd} {M : Nat → Nat} (r : SC w W g gm s h M) (hb : Below W.heap.size W W') : SC w W' g gm s h M :=
  ⟨r.rd.below (hb.mono (by have := r.bk.lt; omega)), r.bk.below hb r.bk.lt, r.be.trans (hb.mono r.be.size), r.met.below hb r.met.lt, r.own, r.lt⟩
theorem SC.store {w W : World} {g gm : Nat} {s : Shp} {h : Hd} {M : Nat → Nat} (r : SC w W g gm s h M) (x v : Nat) (hx : x < s.cols.length) : SC w (W.setCell ⟨gm, x, none⟩ (.int .i64 (v : Nat))) g gm s h (fun c => if c = x then v else M c) := by
  have hlt := r.lt
  refine ⟨r.rd.keep fun b o hb => World.cell?_setCell_other _ _ _ _ (by intro e; injection e with e; have hb' : b < g := hb; omega), r.bk.far (by simp; omega) _, r.be.setCell r.own _, ?_, r.own, r.lt⟩
  rw [← metA_set _ _ _ _ hx]
  exact r.met.set_ x _
theorem SC.congr {w W : World} {g gm : Nat} {s : Shp} {h : Hd} {M N : Nat → Nat} (r : SC w W g gm s h M) (e : ∀ c, c < s.cols.length → M c = N c) : SC w W g gm s h N := ⟨r.rd, r.bk, r.be, by rw [← metA_congr _ _ _ e]; exact r.met, r.own, r.lt⟩
/-- Is the column counted? (covers before k; of cover k the parts before i) -/
def part (c : Col) : Nat := if c.deck then 1 else 0
def doneB (s : Shp) (k i c : Nat) : Bool := decide (0 ≤ coverOfF s c ∧ coverOfF s c < (k : Int)) || (decide (coverOfF s c = (k : Int)) && decide (part (s.cols.getD c default) < i))
def doneM (s : Shp) (k i : Nat) (P : List Int) (j c : Nat) : Nat := if doneB s k i c || decide ((c : Int) ∈ P.take j) then 1 else 0
theorem doneM_zero (s : Shp) (c : Nat) (h : Bu s) : doneM s 0 0 [] 0 c = 0 := by
  unfold doneM doneB
  simp
theorem doneM_part {s : Shp} (h : Bu s) {k : Nat} (hk : k < s.covs.length) (i : Nat) (hi : i < 2) {c : Nat} (hc : c < s.cols.length) :
    doneM s k i (alongF s k (decide (i = 1))) (alongF s k (decide (i = 1))).length c = doneM s k (i + 1) [] 0 c := by
  unfold doneM doneB
  rw [List.take_length]
  have hm : decide ((c : Int) ∈ alongF s k (decide (i = 1))) = (decide (coverOfF s c = (k : Int)) && decide (part (s.cols.getD c default) = i)) := by
    rw [Bool.eq_iff_iff]
    simp only [decide_eq_true_eq, Bool.and_eq_true]
    rw [along_iff h hk]
    constructor
    · rintro ⟨m, h1, h2, h3, h4⟩
      have : m = c := by omega
      subst this
      refine ⟨h4, ?_⟩
      unfold part
      rw [h3]
      by_cases e : i = 1
      · simp [e]
      · simp [e]; omega
    · rintro ⟨h1, h2⟩
      refine ⟨c, hc, rfl, ?_, h1⟩
      unfold part at h2
      cases hd : (s.cols.getD c default).deck with
      | true => rw [hd] at h2; simp at h2; simp [← h2]
      | false => rw [hd] at h2; simp at h2; simp [← h2]
  rw [hm]
  congr 1
  simp
  constructor
  · rintro (h1 | h1)
    · rcases h1 with h1 | h1
      · exact .inl h1
      · exact .inr ⟨h1.1, by omega⟩
    · exact .inr ⟨h1.1, by omega⟩
  · rintro (h1 | h1)
    · exact .inl (.inl h1)
    · by_cases e : part (s.cols.getD c default) = i
      · exact .inr ⟨h1.1, by simpa using e⟩
      · refine .inl (.inr ⟨h1.1, ?_⟩)
        have h2 := h1.2
        simp only [List.getD_eq_getElem?_getD] at e
        omega
theorem doneM_next {s : Shp} (k : Nat) (c : Nat) (h : Bu s) (hc : c < s.cols.length) : doneM s k 2 [] 0 c = doneM s (k + 1) 0 [] 0 c := by
  unfold doneM doneB
  have hp : part (s.cols.getD c default) < 2 := by unfold part; split <;> omega
  congr 1
  simp
  simp only [List.getD_eq_getElem?_getD] at hp
  constructor
  · rintro (h1 | h1)
    · exact ⟨h1.1, by omega⟩
    · omega
  · rintro ⟨h1, h2⟩
    by_cases e : coverOfF s c = (k : Int)
    · exact .inr ⟨e, hp⟩
    · exact .inl ⟨h1, by omega⟩
/-- One column more is counted. -/
theorem doneM_step {s : Shp} (h : Bu s) {k : Nat} (hk : k < s.covs.length) (i : Nat) (hi : i < 2) {j : Nat} (hj : j < (alongF s k (decide (i = 1))).length) (x : Nat) (hx : (alongF s k (decide (i = 1))).getD j 0 = (x : Int)) :
    doneM s k i (alongF s k (decide (i = 1))) j x = 0 ∧ ∀ c, c < s.cols.length → doneM s k i (alongF s k (decide (i = 1))) (j + 1) c = if c = x then 1 else doneM s k i (alongF s k (decide (i = 1))) j c := by
  have hnd := along_nodup (s := s) hk (decide (i = 1))
  have hmem := (along_iff h hk (decide (i = 1)) x).1 (by rw [← hx]; exact getD_memD hj 0)
  obtain ⟨x', hx1, hx2, hx3, hx4⟩ := hmem
  obtain rfl : x = x' := by omega
  generalize alongF s k (decide (i = 1)) = P at *
  have hts : P.take (j + 1) = P.take j ++ [(x : Int)] := by
    rw [List.take_succ_eq_append_getElem hj]
    congr 1
    simp [hj] at hx
    rw [hx]
  have hnot : ¬ (x : Int) ∈ P.take j := by
    have h1 : (P.take (j + 1)).Nodup := (List.take_sublist _ _).nodup hnd
    rw [hts, List.nodup_append] at h1
    intro hm
    exact h1.2.2 _ hm _ (by simp) rfl
  have hpart : part (s.cols.getD x default) = i := by
    unfold part
    rw [hx3]
    by_cases e : i = 1
    · simp [e]
    · simp [e]; omega
  have hnd2 : doneB s k i x = false := by
    unfold doneB
    rw [hx4, hpart]
    simp
  refine ⟨by unfold doneM; rw [hnd2]; simp [hnot], fun c hc => ?_⟩
  unfold doneM
  rw [hts]
  by_cases e : c = x
  · subst e; simp
  · rw [if_neg e]
    congr 1
    simp
    constructor
    · rintro (h1 | h1 | h1)
      · exact .inl h1
      · exact .inr h1
      · omega
    · rintro (h1 | h1)
      · exact .inl h1
      · exact .inr (.inl h1)
theorem doneM_end {s : Shp} (h : Bu s) {c : Nat} (hc : c < s.cols.length) : doneM s s.covs.length 0 [] 0 c ≤ 1 ∧ (doneM s s.covs.length 0 [] 0 c = 0 ↔ coverOfF s c = -1) := by
  refine ⟨by unfold doneM; split <;> omega, ?_⟩
  unfold doneM doneB
  rcases cover_none h hc with e | ⟨k, hk, e⟩
  · rw [e]; simp
  · rw [e]; simp; omega
end Go.Proofs.Ytbkinjpaigmghaa
