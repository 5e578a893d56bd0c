/-
  Plain facts for LashRoom: a box more, in a slot that is free, and the moments.
-/
import Derived.Test.YtncfakkajknhaaaLaFp
import Derived.Test.YtncfakkajknhaaaStRp
namespace Go.Proofs.Ytncfakkajknhaaa
open Go.RowKit

theorem half_three {x : Slt} {size : Nat} (h3 : x.half ∈ halvesL size) : x.half = 0 ∨ x.half = 1 ∨ x.half = 2 := by
  unfold halvesL at h3
  split at h3
  · simp at h3; omega
  · split at h3
    · simp at h3; omega
    · simp at h3
/-- No box of a state stands over a free slot, at any height. -/
theorem none_over {s : Shp} {bs : List Bx} {st : List Stw} (h : Ld s bs st) {x : Slt} {size : Nat} (hx : x ∈ freeF s st size) : ∀ (n : Nat) (y : Stw), y ∈ st → y.slot.col = x.col → y.slot.tier = x.tier + n → sharesB y.slot.half x.half = true → False
  | 0, y, hy, hc, ht, hsh => by
    obtain ⟨_, _, f3⟩ := free_in hx
    have hm := f3 y hy
    have : meetB x y.slot = true := by
      unfold meetB
      unfold sharesB at hsh ⊢
      simp only [Bool.and_eq_true, Bool.or_eq_true, beq_iff_eq] at hsh ⊢
      omega
    rw [this] at hm
    cases hm
  | n + 1, y, hy, hc, ht, hsh => by
    obtain ⟨f1, _, _⟩ := free_in hx
    have hs := slot_in f1
    have hh3 := half_three hs.2.2.2.2
    have no : ∀ half : Nat, hasB y.slot (st.map (·.slot)) half = true → sharesB half x.half = true → False := fun half hh hq => by
      unfold hasB at hh
      obtain ⟨z, hz, e⟩ := List.any_eq_true.1 hh
      obtain ⟨u, hu, rfl⟩ := List.mem_map.1 hz
      have e := (sltEq_iff _ _).1 e
      refine none_over h hx n u hu ?_ ?_ ?_
      · rw [← e]; exact hc
      · rw [← e]; simp only; omega
      · rw [← e]; exact hq
    have hheld := h.held hy
    unfold heldB at hheld
    simp only [Bool.or_eq_true, Bool.and_eq_true, decide_eq_true_eq, beq_iff_eq] at hheld
    rcases hheld with h1 | h1 | ⟨h1, h2, h3⟩
    · omega
    · exact no _ h1 hsh
    · rcases hh3 with h4 | h4 | h4
      · exact no _ h2 (by rw [h4]; rfl)
      · exact no _ h2 (by rw [h4]; rfl)
      · exact no _ h3 (by rw [h4]; rfl)
theorem over_no {s : Shp} {bs : List Bx} {st : List Stw} (h : Ld s bs st) {x : Slt} {size : Nat} (hx : x ∈ freeF s st size) {y : Stw} (hy : y ∈ st) : overB y.slot x = false := by
  cases ho : overB y.slot x with
  | false => rfl
  | true =>
    unfold overB at ho
    simp only [Bool.and_eq_true, decide_eq_true_eq, beq_iff_eq] at ho
    exact (none_over h hx (y.slot.tier - x.tier).toNat y hy ho.1 (by omega) ho.2.2).elim
theorem fmap_congr {α β : Type} {f g : α → Option β} : ∀ {l : List α}, (∀ x ∈ l, f x = g x) → l.filterMap f = l.filterMap g
  | [], _ => rfl
  | a :: l, h => by
    rw [List.filterMap_cons, List.filterMap_cons, h a (by simp), fmap_congr fun x hx => h x (by simp [hx])]
theorem halfL_more {s : Shp} {bs : List Bx} {st : List Stw} (h : Ld s bs st) {b : Bx} (hb : b.id = 900) (x : Slt) (c : Int) (hf : Nat) : halfL (bs ++ [b]) (st ++ [⟨900, x⟩]) c hf = halfL bs st c hf ++ if inHalf c hf x then [(x, b)] else [] := by
  unfold halfL
  rw [List.filterMap_append]
  congr 1
  · refine fmap_congr fun y hy => ?_
    unfold halfOf
    rw [findBx_more (h.box_at hy).1]
  · simp only [List.filterMap_cons, List.filterMap_nil]
    unfold halfOf
    simp only
    rw [find900 h hb]
    cases inHalf c hf x <;> rfl
theorem liftH_more {s : Shp} {bs : List Bx} {st : List Stw} (h : Ld s bs st) {b : Bx} (hb : b.id = 900) {x z : Slt} (ho : overB z x = false) (hf : Nat) : liftH (bs ++ [b]) (st ++ [⟨900, x⟩]) z hf = liftH bs st z hf := by
  unfold liftH
  rw [halfL_more h hb, List.map_append, List.sum_append]
  split
  · simp [liftP, ho]
  · simp
theorem lift_more {s : Shp} {bs : List Bx} {st : List Stw} (h : Ld s bs st) {b : Bx} (hb : b.id = 900) {x z : Slt} (ho : overB z x = false) : liftF (bs ++ [b]) (st ++ [⟨900, x⟩]) z = liftF bs st z := by
  unfold liftF liftTo
  congr 1
  funext a k
  rw [liftH_more h hb ho]
theorem moment_more {s : Shp} {bs : List Bx} {st : List Stw} (h : Ld s bs st) {b : Bx} (hb : b.id = 900) {x : Slt} (hx : x ∈ freeF s st b.size) (c : Int) (hf : Nat) : momentF (bs ++ [b]) (st ++ [⟨900, x⟩]) c hf = momentF bs st c hf + if inHalf c hf x then b.kilos * liftF bs st x else 0 := by
  unfold momentF
  rw [halfL_more h hb, List.map_append, List.sum_append]
  congr 1
  · congr 1
    refine List.map_congr_left fun p hp => ?_
    obtain ⟨y, hy, _, _, e⟩ := mem_halfL hp
    rw [lift_more h hb (by rw [e]; exact over_no h hx hy)]
  · split
    · simp only [List.map_cons, List.map_nil, List.sum_cons, List.sum_nil, Int.add_zero]
      rw [lift_more h hb (by unfold overB; simp)]
    · rfl
theorem lfaults_nil {s : Shp} {bs : List Bx} {st : List Stw} {c : Int} : lfaultsF s bs st c = [] ↔ lashF s c = 0 ∨ (momentF bs st c 1 ≤ lashF s c ∧ momentF bs st c 2 ≤ lashF s c) := by
  unfold lfaultsF
  by_cases hz : lashF s c = 0
  · simp [hz]
  · rw [if_neg hz]
    have e : lfTo bs st (lashF s c) c 2 = (if lashF s c < momentF bs st c 1 then [⟨c, 1, momentF bs st c 1 - lashF s c⟩] else []) ++ if lashF s c < momentF bs st c 2 then [⟨c, 2, momentF bs st c 2 - lashF s c⟩] else [] := by
      rw [lfTo_succ, lfTo_succ]
      simp [lfTo]
    rw [e, List.append_eq_nil_iff]
    constructor
    · rintro ⟨h1, h2⟩
      right
      constructor
      · split at h1
        · cases h1
        · omega
      · split at h2
        · cases h2
        · omega
    · rintro (h1 | ⟨h1, h2⟩)
      · exact absurd h1 hz
      · exact ⟨if_neg (by omega), if_neg (by omega)⟩
/-- The box is within what there is room for in a half. -/
theorem half_room {L M K lift : Int} (hl : 0 < lift) : K ≤ (L - M) / lift ↔ M + K * lift ≤ L := by
  rw [Int.le_ediv_iff_mul_le hl]
  omega
theorem lroom_bd {s : Shp} {bs : List Bx} {st : List Stw} {x : Slt} {k : Nat} (hl : s.cols.length ≤ 12) (hx : x.col = (k : Int)) (hk : k < s.cols.length) (h3 : x.half = 0 ∨ x.half = 1 ∨ x.half = 2) (hno : lfaultsF s bs st k = []) : 0 ≤ lroomF s bs st x ∧ lroomF s bs st x ≤ 500000000 := by
  have hn := lfaults_nil.1 hno
  unfold lroomF
  rw [show thereB s x.col = true by unfold thereB; simp; omega, if_pos rfl, hx]
  split
  · omega
  · rename_i hz
    rcases hn with hn | ⟨n1, n2⟩
    · exact absurd hn hz
    · have d : ∀ M, M ≤ lashF s k → 0 < liftF bs st x → 0 ≤ (lashF s k - M) / liftF bs st x := fun M hM hp => Int.ediv_nonneg (by omega) (by omega)
      have d1 := d _ n1
      have d2 := d _ n2
      clear d
      rcases h3 with e | e | e
      all_goals
        unfold hvL
        rw [e]
        simp only [lroomGo, minI, if_true, Nat.reduceEqDiff, if_false, Nat.succ_ne_zero]
        (repeat' split) <;> omega
/-- The stage's theorem. -/
theorem lroom_exact {s : Shp} {bs : List Bx} {st : List Stw} (h : Ld s bs st) {b : Bx} {x : Slt} {k : Nat} (hb : b.id = 900) (hx : x ∈ freeF s st b.size) (hk : x.col = (k : Int)) (hno : lfaultsF s bs st k = []) (h0 : 0 ≤ b.kilos) :
    (b.kilos ≤ lroomF s bs st x → lfaultsF s (bs ++ [b]) (st ++ [⟨900, x⟩]) k = []) ∧ (lroomF s bs st x < b.kilos → lroomF s bs st x < 500000000 → lfaultsF s (bs ++ [b]) (st ++ [⟨900, x⟩]) k ≠ []) := by
  obtain ⟨f1, _, _⟩ := free_in hx
  have hs := slot_in f1
  have h3 := half_three hs.2.2.2.2
  have hn := lfaults_nil.1 hno
  rw [Ne, lfaults_nil, moment_more h hb hx, moment_more h hb hx]
  have hin : ∀ half, inHalf k half x = (x.half == half || x.half == 0) := fun half => by unfold inHalf; rw [hk]; simp
  rw [hin, hin]
  unfold lroomF
  rw [show thereB s x.col = true by unfold thereB; simp; omega, if_pos rfl, hk]
  have hl0 := (lift_bd bs (l := st) (by have := h.stlen; omega) x).1
  by_cases hz : lashF s k = 0
  · rw [if_pos hz]
    exact ⟨fun _ => .inl hz, fun _ h => by omega⟩
  · rw [if_neg hz]
    rcases hn with hn | ⟨n1, n2⟩
    · exact absurd hn hz
    · generalize lashF s k = L at *
      generalize momentF bs st k = Mf at *
      generalize liftF bs st x = lf at *
      generalize b.kilos = K at *
      rcases Int.lt_or_eq_of_le hl0 with hp | hp
      · have e1 := half_room (L := L) (M := Mf 1) (K := K) hp
        have e2 := half_room (L := L) (M := Mf 2) (K := K) hp
        have q1 := Int.mul_nonneg h0 hl0
        generalize K * lf = P at *
        rcases h3 with e | e | e
        all_goals
          unfold hvL
          rw [e]
          simp only [lroomGo, minI, if_true, Nat.reduceEqDiff, if_false, Nat.succ_ne_zero, Nat.reduceBEq, Bool.or_true, Bool.or_false, Bool.false_eq_true, Bool.true_or, Bool.false_or, beq_self_eq_true, if_pos hp, if_neg (show ¬ L - Mf 1 < 0 by omega), if_neg (show ¬ L - Mf 2 < 0 by omega)]
          generalize (L - Mf 1) / lf = D1 at *
          generalize (L - Mf 2) / lf = D2 at *
          constructor
          · intro hle
            right
            revert hle
            (repeat' split) <;> omega
          · intro h1 h2 h4
            revert h1 h2
            (repeat' split) <;> omega
      · subst hp
        simp only [Int.mul_zero]
        rcases h3 with e | e | e
        all_goals
          unfold hvL
          rw [e]
          simp only [lroomGo, minI, if_true, Nat.reduceEqDiff, if_false, Nat.succ_ne_zero, Nat.reduceBEq, Bool.or_true, Bool.or_false, Bool.false_eq_true, Bool.true_or, Bool.false_or, beq_self_eq_true, if_neg (show ¬ (0 : Int) < 0 by omega), if_neg (show ¬ L - Mf 1 < 0 by omega), if_neg (show ¬ L - Mf 2 < 0 by omega)]
          exact ⟨fun _ => .inr ⟨by (repeat' split) <;> omega, by (repeat' split) <;> omega⟩, fun _ h => by omega⟩
end Go.Proofs.Ytncfakkajknhaaa
