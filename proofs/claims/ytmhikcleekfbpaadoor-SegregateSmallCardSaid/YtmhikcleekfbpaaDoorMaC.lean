/-
  Contracts over the ship, the boxes and the state that many builds.
-/
import Derived.Test.YtmhikcleekfbpaaDoorMaA
import Derived.Test.YtmhikcleekfbpaaDoorSgI
import Derived.Test.YtmhikcleekfbpaaDoorCbP
namespace Go.Proofs.YtmhikcleekfbpaaDoor
open Go.RowKit

theorem el_bxM : El Tryd.prog 42 41 tBx.k 64 := El.mk' Tryd.underlying42 (by kernel_rfl) (by decide)
theorem el_stwM : El Tryd.prog 46 44 tStw.k 32 := El.mk' Tryd.underlying46 (by kernel_rfl) (by decide)
theorem el_colN : El Tryd.prog 22 35 tColN.k 112 := El.mk' Tryd.underlying22 (by kernel_rfl) (by decide)
theorem clM_len (n : Nat) : (clM n).length = n := by unfold clM; simp
theorem shM_eq (A1 : Option Addr) (c1 : Nat) : shpA shM (hd0 A1 c1 none 0) = #[.slice A1 21 c1, .slice none 0 0, .int .i64 0, .int .i64 0, .int .i64 0, .int .i64 0, .slice none 0 0, .slice none 0 0, .slice none 0 0, .int .i64 0, .int .i64 0, .int .i64 0, .int .i64 0] := by
  unfold shpA shM shp0 hd0
  simp only [clM_len]
  rfl
theorem colM_mem {n : Nat} {c : Col} (h : c ∈ clM n) : ∃ i, i < n ∧ c = colM i := by
  obtain ⟨i, hi, rfl⟩ := List.mem_map.1 h
  exact ⟨i, List.mem_range.1 hi, rfl⟩
theorem few_M : Few shM := ⟨by show (clM 21).length ≤ _; rw [clM_len]; decide, by decide, fun x hx => (by cases hx), fun x hx => by obtain ⟨i, hi, rfl⟩ := colM_mem hx; exact Nat.zero_le _⟩
theorem ints_M : Ints shM := ⟨fun c hc => by obtain ⟨i, hi, rfl⟩ := colM_mem hc; unfold colM I64; simp only; omega⟩
theorem rows_M : ∀ c ∈ shM.cols, I64 c.row := fun c hc => (ints_M.cols c hc).2.1
theorem cols_M : shM.cols.length ≤ 1000000 := by show (clM 21).length ≤ _; rw [clM_len]; decide
theorem tiers_M (c : Nat) : tiersN shM c ≤ 12 := tiers_leG (fun c hc => by obtain ⟨i, hi, rfl⟩ := colM_mem hc; unfold colM; simp only; omega) c
theorem all_M (size : Nat) : (allF shM size).length ≤ 1000000 := all_leG tiers_M (by show (clM 21).length ≤ _; rw [clM_len]; decide) size
theorem stM_tier {n : Nat} : ∀ x ∈ stM n, x.slot.tier ≤ 9223372036854775807 := fun x hx => by
  obtain ⟨i, hi, rfl⟩ := List.mem_map.1 hx
  show (i : Int) % 10 ≤ _
  omega
def clX (f : Nat → Nat) (n : Nat) : List Cl := if dErr shM (bxM f 210) (stM n) = 0 then clashF shM (bxM f 210) (stM n) else []
def agX (f : Nat → Nat) (n : Nat) : List Int := if oErr shM (bxM f 210) (stM n) 1 = 0 then againstF shM (goodsF (bxM f 210) (stM n)) (swM 0) (clsF (bxM f 210) 1) else []
def frX (f : Nat → Nat) (n : Nat) : List Slt := if oErr shM (bxM f 210) (stM n) 999 = 0 then freeS shM (bxM f 210) (stM n) 999 else []
theorem MA.kCl {w V : World} {g b q b2 q2 : Nat} {A1 : Option Addr} {c1 : Nat} {f : Nat → Nat} (h : MA w V g (clM 21) A1 c1 (.slice (some ⟨b, 0, none⟩) 210 q) (bxM f 210) (.slice (some ⟨b2, 0, none⟩) 210 q2) (stM 210)) (ht : TabOK w) (hn : NamesOK w) {n : Nat} (hq : n ≤ 210) : Calls Tryd.prog 12 #[.agg #[.slice A1 21 c1, .slice none 0 0, .int .i64 0, .int .i64 0, .int .i64 0, .int .i64 0, .slice none 0 0, .slice none 0 0, .slice none 0 0, .int .i64 0, .int .i64 0, .int .i64 0, .int .i64 0], .slice (some ⟨b, 0, none⟩) 210 q, .slice (some ⟨b2, 0, none⟩) n q2] V (fun e w' => Below V.heap.size V w' ∧ ∃ A c, e = .returned (.tuple #[.slice A (clX f n).length c, .int .i64 (dErr shM (bxM f 210) (stM n) : Nat)]) ∧ (clX f n).length ≤ c ∧ SlT tCl w' (Lt w'.heap.size) A (clX f n)) := by
  have hr := h.rd
  have e1 : shpA shM (hd0 A1 c1 none 0) = #[.slice A1 21 c1, .slice none 0 0, .int .i64 0, .int .i64 0, .int .i64 0, .int .i64 0, .slice none 0 0, .slice none 0 0, .slice none 0 0, .int .i64 0, .int .i64 0, .int .i64 0, .int .i64 0] := shM_eq A1 c1
  obtain ⟨Ab, qb, hb1, hb2, _, hb3⟩ := h.bx.toT.sl
  injection hb1 with hb1 _ hb4
  subst hb1 hb4
  obtain ⟨As, qs, hs1, hs2, _, hs3⟩ := h.sx.toT.sl
  injection hs1 with hs1 _ hs4
  subst hs1 hs4
  have hs5 := hs3.take n
  rw [stM_take hq] at hs5
  rw [stM_len] at hs2
  have ht' := ht.below h.be ht.lt
  have hn' := hn.below h.be hn.lt
  have k := clashes_any shM (hd0 A1 c1 none 0) (some ⟨b, 0, none⟩) q (bxM f 210) (some ⟨b2, 0, none⟩) q2 (stM n) V hr few_M ints_M cols_M hb3 (by rw [bxM_len]; decide) hs5 (by rw [stM_len]; omega) (by rw [stM_len]; omega) stM_tier hn' rows_M ht'
  rw [e1, bxM_len, stM_len] at k
  refine k.mono ?_
  rintro e w' ⟨hb, v, rfl, ho⟩
  obtain ⟨A, c, rfl, hc, _, hs⟩ := ho.sl
  exact ⟨hb, A, c, rfl, hc, hs⟩
theorem MA.kAg {w V : World} {g b q b2 q2 : Nat} {A1 : Option Addr} {c1 : Nat} {f : Nat → Nat} (h : MA w V g (clM 21) A1 c1 (.slice (some ⟨b, 0, none⟩) 210 q) (bxM f 210) (.slice (some ⟨b2, 0, none⟩) 210 q2) (stM 210)) (ht : TabOK w) (hn : NamesOK w) {n : Nat} (hq : n ≤ 210) : Calls Tryd.prog 15 #[.agg #[.slice A1 21 c1, .slice none 0 0, .int .i64 0, .int .i64 0, .int .i64 0, .int .i64 0, .slice none 0 0, .slice none 0 0, .slice none 0 0, .int .i64 0, .int .i64 0, .int .i64 0, .int .i64 0], .slice (some ⟨b, 0, none⟩) 210 q, .slice (some ⟨b2, 0, none⟩) n q2, .agg #[.int .i64 1, .int .i64 0, .int .i64 0, .int .u8 0]] V (fun e w' => Below V.heap.size V w' ∧ ∃ A c, e = .returned (.tuple #[.slice A (agX f n).length c, .int .i64 (oErr shM (bxM f 210) (stM n) 1 : Nat)]) ∧ (agX f n).length ≤ c ∧ SlT tInt w' (Lt w'.heap.size) A (agX f n)) := by
  have hr := h.rd
  have e1 : shpA shM (hd0 A1 c1 none 0) = #[.slice A1 21 c1, .slice none 0 0, .int .i64 0, .int .i64 0, .int .i64 0, .int .i64 0, .slice none 0 0, .slice none 0 0, .slice none 0 0, .int .i64 0, .int .i64 0, .int .i64 0, .int .i64 0] := shM_eq A1 c1
  obtain ⟨Ab, qb, hb1, hb2, _, hb3⟩ := h.bx.toT.sl
  injection hb1 with hb1 _ hb4
  subst hb1 hb4
  obtain ⟨As, qs, hs1, hs2, _, hs3⟩ := h.sx.toT.sl
  injection hs1 with hs1 _ hs4
  subst hs1 hs4
  have hs5 := hs3.take n
  rw [stM_take hq] at hs5
  rw [stM_len] at hs2
  have ht' := ht.below h.be ht.lt
  have hn' := hn.below h.be hn.lt
  have k := Against_any shM (hd0 A1 c1 none 0) (some ⟨b, 0, none⟩) q (bxM f 210) (some ⟨b2, 0, none⟩) q2 (stM n) (swM 0) V hr few_M ints_M cols_M hb3 (by rw [bxM_len]; decide) hs5 (by rw [stM_len]; omega) (by rw [stM_len]; omega) stM_tier hn' rows_M ht'
  rw [e1, bxM_len, stM_len] at k
  refine k.mono ?_
  rintro e w' ⟨hb, v, rfl, ho⟩
  obtain ⟨A, c, rfl, hc, _, hs⟩ := ho.sl
  exact ⟨hb, A, c, rfl, hc, hs⟩
theorem MA.kFr {w V : World} {g b q b2 q2 : Nat} {A1 : Option Addr} {c1 : Nat} {f : Nat → Nat} (h : MA w V g (clM 21) A1 c1 (.slice (some ⟨b, 0, none⟩) 210 q) (bxM f 210) (.slice (some ⟨b2, 0, none⟩) 210 q2) (stM 210)) (ht : TabOK w) (hn : NamesOK w) {n : Nat} (hq : n ≤ 210) : Calls Tryd.prog 17 #[.agg #[.slice A1 21 c1, .slice none 0 0, .int .i64 0, .int .i64 0, .int .i64 0, .int .i64 0, .slice none 0 0, .slice none 0 0, .slice none 0 0, .int .i64 0, .int .i64 0, .int .i64 0, .int .i64 0], .slice (some ⟨b, 0, none⟩) 210 q, .slice (some ⟨b2, 0, none⟩) n q2, .int .i64 999] V (fun e w' => Below V.heap.size V w' ∧ ∃ A c, e = .returned (.tuple #[.slice A (frX f n).length c, .int .i64 (oErr shM (bxM f 210) (stM n) 999 : Nat)]) ∧ (frX f n).length ≤ c ∧ SlT tSlt w' (Lt w'.heap.size) A (frX f n)) := by
  have hr := h.rd
  have e1 : shpA shM (hd0 A1 c1 none 0) = #[.slice A1 21 c1, .slice none 0 0, .int .i64 0, .int .i64 0, .int .i64 0, .int .i64 0, .slice none 0 0, .slice none 0 0, .slice none 0 0, .int .i64 0, .int .i64 0, .int .i64 0, .int .i64 0] := shM_eq A1 c1
  obtain ⟨Ab, qb, hb1, hb2, _, hb3⟩ := h.bx.toT.sl
  injection hb1 with hb1 _ hb4
  subst hb1 hb4
  obtain ⟨As, qs, hs1, hs2, _, hs3⟩ := h.sx.toT.sl
  injection hs1 with hs1 _ hs4
  subst hs1 hs4
  have hs5 := hs3.take n
  rw [stM_take hq] at hs5
  rw [stM_len] at hs2
  have ht' := ht.below h.be ht.lt
  have hn' := hn.below h.be hn.lt
  have k := Free_any shM (hd0 A1 c1 none 0) (some ⟨b, 0, none⟩) q (bxM f 210) (some ⟨b2, 0, none⟩) q2 (stM n) 999 V hr few_M ints_M cols_M hb3 (by rw [bxM_len]; decide) hs5 (by rw [stM_len]; omega) (by rw [stM_len]; omega) stM_tier hn' rows_M ht' (fun c => by have := tiers_M c; omega) all_M
  rw [e1, bxM_len, stM_len] at k
  refine k.mono ?_
  rintro e w' ⟨hb, v, rfl, ho⟩
  obtain ⟨A, c, rfl, hc, _, hs⟩ := ho.sl
  exact ⟨hb, A, c, rfl, hc, hs⟩
theorem MA.ksM {w V : World} {g b q b2 q2 : Nat} {A1 : Option Addr} {c1 : Nat} {f : Nat → Nat} (h : MA w V g (clM 21) A1 c1 (.slice (some ⟨b, 0, none⟩) 210 q) (bxM f 210) (.slice (some ⟨b2, 0, none⟩) 210 q2) (stM 210)) : Bk V g 32 #[.slice A1 21 c1, .slice none 0 0, .int .i64 0, .int .i64 0, .int .i64 0, .int .i64 0, .slice none 0 0, .slice none 0 0, .slice none 0 0, .int .i64 0, .int .i64 0, .int .i64 0, .int .i64 0] := by
  have := h.ks
  rw [show shpA (shp0 (clM 21) []) (hd0 A1 c1 none 0) = #[.slice A1 21 c1, .slice none 0 0, .int .i64 0, .int .i64 0, .int .i64 0, .int .i64 0, .slice none 0 0, .slice none 0 0, .slice none 0 0, .int .i64 0, .int .i64 0, .int .i64 0, .int .i64 0] from shM_eq A1 c1] at this
  exact this
theorem MA.setK {w U : World} {g b q : Nat} {A1 : Option Addr} {c1 : Nat} {f : Nat → Nat} {vl : Value} {st : List Stw} (h : MA w U g (clM 21) A1 c1 (.slice (some ⟨b, 0, none⟩) 210 q) (bxM f 210) vl st) {j : Nat} (hj : j < 210) (z : Nat) :
    MA w (U.setCell ⟨b, j * 9 + 7, none⟩ (.int .u8 (z : Nat))) g (clM 21) A1 c1 (.slice (some ⟨b, 0, none⟩) 210 q) (bxM (setM f j z) 210) vl st ∧ U.cell? ⟨b, j * 9 + 7, none⟩ = some (.int .u8 (f j : Nat)) ∧ U.frozen? ⟨b, j * 9 + 7, none⟩ = false := by
  have h' : MA w U g (clM 21) A1 c1 (.slice (some ⟨b, 0, none⟩) (bxM f 210).length q) (bxM f 210) vl st := by rw [bxM_len]; exact h
  have hx : (bxM f 210)[j]? = some (bxi f j) := by unfold bxM; simp [hj]
  obtain ⟨h1, h2, h3⟩ := h'.setB (z := z) hx
  refine ⟨?_, h2, h3⟩
  have e : ({ bxi f j with cls := z } : Bx) = bxi (setM f j z) j := by unfold bxi setM; simp
  rw [e, bxM_set f hj z, bxM_len] at h1
  exact h1
theorem MA.st0 {w V : World} {g b q b2 q2 : Nat} {A1 : Option Addr} {c1 : Nat} {f : Nat → Nat} (h : MA w V g (clM 21) A1 c1 (.slice (some ⟨b, 0, none⟩) 210 q) (bxM f 210) (.slice (some ⟨b2, 0, none⟩) 210 q2) (stM 210)) : V.cell? ⟨b2, 0, none⟩ = some (.int .i64 1) ∧ V.cell? ⟨b2, 1, none⟩ = some (.int .i64 0) ∧ V.cell? ⟨b2, 2, none⟩ = some (.int .i64 0) ∧ V.cell? ⟨b2, 3, none⟩ = some (.int .u8 0) := by
  have hs : OwnS tStw 44 V (g + 1) (Lt (g + 1)) (.slice (some ⟨b2, 0, none⟩) (stM 210).length q2) (stM 210) := by rw [stM_len]; exact h.sx
  obtain ⟨cs, hr, hc⟩ := hs.cellG (i := 0) (x := swM 0) (by unfold stM; simp)
  have hr : cs = stwL (swM 0) := hr
  subst hr
  have z : 0 * tStw.k = 0 := rfl
  rw [z] at hc
  exact ⟨(hc 0 _ rfl).1, (hc 1 _ rfl).1, (hc 2 _ rfl).1, (hc 3 _ rfl).1⟩
end Go.Proofs.YtmhikcleekfbpaaDoor
