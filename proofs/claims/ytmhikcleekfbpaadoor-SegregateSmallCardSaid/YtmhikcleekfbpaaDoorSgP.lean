/-
  The plain mathematics of chapter 14 (segregate): near, pairs, dangerous boxes, clashes. No program in sight.
-/
import Derived.Test.YtmhikcleekfbpaaDoorSgK
import Derived.Test.YtmhikcleekfbpaaDoorStP
namespace Go.Proofs.YtmhikcleekfbpaaDoor
open Go.RowKit

/-- The columns stand where a right ship has them. -/
def Cs (s : Shp) : Prop := ∀ c ∈ s.cols, (0 ≤ c.bay ∧ c.bay < 40) ∧ 0 ≤ c.row ∧ c.row ≤ 1000000
def colIn (s : Shp) (z : Int) : Bool := decide (0 ≤ z) && decide (z < s.cols.length)
def stackB (a b : Slt) : Bool := a.col == b.col && (a.tier != b.tier && (a.half == b.half || (a.half == 0 || b.half == 0)))
def rowsB (c d : Col) : Bool := c.row == d.row + 1 || d.row == c.row + 1
def blockB (s : Shp) (a b : Slt) : Bool := a.col == b.col || (((s.cols.getD a.col.toNat default).bay == (s.cols.getD b.col.toNat default).bay && (s.cols.getD a.col.toNat default).row == (s.cols.getD b.col.toNat default).row) || ((s.cols.getD a.col.toNat default).bay == (s.cols.getD b.col.toNat default).bay && ((s.cols.getD a.col.toNat default).deck == (s.cols.getD b.col.toNat default).deck && rowsB (s.cols.getD a.col.toNat default) (s.cols.getD b.col.toNat default))))
def bayB (s : Shp) (a b : Slt) : Bool := (s.cols.getD a.col.toNat default).bay == (s.cols.getD b.col.toNat default).bay || ((s.cols.getD a.col.toNat default).bay == (s.cols.getD b.col.toNat default).bay + 1 || (s.cols.getD b.col.toNat default).bay == (s.cols.getD a.col.toNat default).bay + 1)
/-- Near, by the numbers of columns alone. -/
def nearR (s : Shp) (a b : Slt) (code : Nat) : Bool := (colIn s a.col && colIn s b.col) && (decide (0 < code) && (stackB a b || (decide (1 < code) && (blockB s a b || (decide (2 < code) && bayB s a b)))))
theorem rule2_eq (a b : Slt) : rule2 a b = stackB a b := by
  unfold rule2 overB stackB sharesB
  rw [Bool.eq_iff_iff]
  simp only [Bool.or_eq_true, Bool.and_eq_true, beq_iff_eq, decide_eq_true_eq, bne_iff_ne]
  omega
theorem rule3_eq {s : Shp} {a b : Slt} (ha : colIn s a.col = true) (hb : colIn s b.col = true) : rule3 s a.col.toNat b.col.toNat = blockB s a b := by
  unfold colIn at ha hb
  simp only [Bool.and_eq_true, decide_eq_true_eq] at ha hb
  have e1 : ((a.col.toNat : Nat) : Int) = a.col := by omega
  have e2 : ((b.col.toNat : Nat) : Int) = b.col := by omega
  have hm : ((besideF s (a.col.toNat : Nat)).any fun y => ((b.col.toNat : Nat) : Int) == y) = besB (s.cols.getD a.col.toNat default) (s.cols.getD b.col.toNat default) := by
    rw [Bool.eq_iff_iff, List.any_eq_true]
    unfold besideF
    rw [if_neg (by omega), Int.toNat_natCast]
    constructor
    · rintro ⟨y, hy, he⟩
      obtain ⟨m, h1, rfl, h3⟩ := (mem_pick _ default _ _).1 hy
      simp only [beq_iff_eq] at he
      rwa [show b.col.toNat = m by omega]
    · intro h
      exact ⟨_, (mem_pick _ default _ _).2 ⟨b.col.toNat, by omega, rfl, h⟩, by simp⟩
  unfold rule3 blockB rowsB
  rw [hm, e1, e2]
  generalize s.cols.getD a.col.toNat default = c
  generalize s.cols.getD b.col.toNat default = d
  rw [Bool.eq_iff_iff]
  simp only [Bool.or_eq_true, Bool.and_eq_true, beq_iff_eq, besB_iff]
  constructor
  · rintro (h | ⟨h1, h2, h3⟩ | h)
    · exact .inl h
    · exact .inr (.inr ⟨h1.symm, h2.symm, by omega⟩)
    · exact .inr (.inl h)
  · rintro (h | h | ⟨h1, h2, h3⟩)
    · exact .inl h
    · exact .inr (.inr h)
    · exact .inr (.inl ⟨h1.symm, h2.symm, by omega⟩)
theorem apart_eq {s : Shp} (hs : Cs s) {a b : Slt} (ha : colIn s a.col = true) (hb : colIn s b.col = true) :
    (apartF s a.col b.col).2 = true ∧ rule4 s a b = bayB s a b := by
  unfold colIn at ha hb
  simp only [Bool.and_eq_true, decide_eq_true_eq] at ha hb
  have h1 := hs _ (getD_memD (l := s.cols) (k := a.col.toNat) (by omega) default)
  have h2 := hs _ (getD_memD (l := s.cols) (k := b.col.toNat) (by omega) default)
  unfold rule4 bayB apartF
  rw [if_neg (by omega)]
  generalize s.cols.getD a.col.toNat default = c at *
  generalize s.cols.getD b.col.toNat default = d at *
  simp only
  rw [if_neg (by omega)]
  refine ⟨by split <;> rfl, ?_⟩
  rw [Bool.eq_iff_iff]
  simp only [Bool.or_eq_true, beq_iff_eq, decide_eq_true_eq]
  split <;> simp only <;> omega
theorem apart_out14 {s : Shp} {a b : Int} (h : (colIn s a && colIn s b) = false) : (apartF s a b).2 = false := by
  unfold apartF
  rw [if_pos]
  unfold colIn at h
  simp only [Bool.and_eq_false_iff, decide_eq_false_iff_not] at h
  omega
theorem near_eq {s : Shp} (hs : Cs s) (a b : Slt) (code : Nat) : nearF s a b code = nearR s a b code := by
  unfold nearF nearR
  cases hin : (colIn s a.col && colIn s b.col) with
  | false => rw [apart_out14 hin]; rfl
  | true =>
    obtain ⟨ha, hb⟩ := Bool.and_eq_true_iff.1 hin
    obtain ⟨h1, h2⟩ := apart_eq hs ha hb
    rw [h1, Bool.true_and, Bool.true_and]
    have e : nearTo s a b code 4 = (((decide (1 ≤ code) && rule2 a b) || (decide (2 ≤ code) && rule3 s a.col.toNat b.col.toNat)) || (decide (3 ≤ code) && rule4 s a b)) := by
      rw [nearTo_succ, nearTo_succ, nearTo_succ, nearTo_succ]
      simp [nearTo, ruleN]
    rw [e, rule2_eq, rule3_eq ha hb, h2]
    generalize stackB a b = x
    generalize blockB s a b = y
    generalize bayB s a b = z
    rw [Bool.eq_iff_iff]
    simp only [Bool.or_eq_true, Bool.and_eq_true, decide_eq_true_eq]
    constructor
    · rintro ((⟨h, hx⟩ | ⟨h, hx⟩) | ⟨h, hx⟩)
      · exact ⟨by omega, .inl hx⟩
      · exact ⟨by omega, .inr ⟨by omega, .inl hx⟩⟩
      · exact ⟨by omega, .inr ⟨by omega, .inr ⟨by omega, hx⟩⟩⟩
    · rintro ⟨h, hx | ⟨h2, hx | ⟨h3, hx⟩⟩⟩
      · exact .inl (.inl ⟨by omega, hx⟩)
      · exact .inl (.inr ⟨by omega, hx⟩)
      · exact .inr ⟨by omega, hx⟩
theorem nearR_symm (s : Shp) (a b : Slt) (code : Nat) : nearR s a b code = nearR s b a code := by
  unfold nearR
  have h1 : stackB a b = stackB b a := by
    unfold stackB
    rw [Bool.eq_iff_iff]
    simp only [Bool.or_eq_true, Bool.and_eq_true, beq_iff_eq, bne_iff_ne]
    omega
  have h2 : blockB s a b = blockB s b a := by
    unfold blockB rowsB
    rw [Bool.eq_iff_iff]
    simp only [Bool.or_eq_true, Bool.and_eq_true, beq_iff_eq]
    constructor
    · rintro (h | ⟨h1, h2⟩ | ⟨h1, h2, h3⟩)
      · exact .inl h.symm
      · exact .inr (.inl ⟨h1.symm, h2.symm⟩)
      · exact .inr (.inr ⟨h1.symm, h2.symm, h3.symm⟩)
    · rintro (h | ⟨h1, h2⟩ | ⟨h1, h2, h3⟩)
      · exact .inl h.symm
      · exact .inr (.inl ⟨h1.symm, h2.symm⟩)
      · exact .inr (.inr ⟨h1.symm, h2.symm, h3.symm⟩)
  have h3 : bayB s a b = bayB s b a := by
    unfold bayB
    rw [Bool.eq_iff_iff]
    simp only [Bool.or_eq_true, beq_iff_eq]
    omega
  rw [h1, h2, h3, Bool.and_comm (colIn s a.col)]
theorem nearR_zero (s : Shp) (a b : Slt) : nearR s a b 0 = false := by
  unfold nearR; simp
theorem nearR_mono {s : Shp} {a b : Slt} {c d : Nat} (h : c ≤ d) (hn : nearR s a b c = true) : nearR s a b d = true := by
  unfold nearR at hn ⊢
  simp only [Bool.or_eq_true, Bool.and_eq_true, decide_eq_true_eq] at hn ⊢
  obtain ⟨h1, h2, h3 | ⟨h4, h5 | ⟨h6, h7⟩⟩⟩ := hn
  · exact ⟨h1, by omega, .inl h3⟩
  · exact ⟨h1, by omega, .inr ⟨by omega, .inl h5⟩⟩
  · exact ⟨h1, by omega, .inr ⟨by omega, .inr ⟨by omega, h7⟩⟩⟩
theorem nearR_top {s : Shp} {a b : Slt} {c : Nat} (h : 3 ≤ c) : nearR s a b c = nearR s a b 3 := by
  unfold nearR
  rw [decide_eq_true (by omega : 0 < c), decide_eq_true (by omega : 1 < c), decide_eq_true (by omega : 2 < c)]
  rfl
theorem nearR_self {s : Shp} {a : Slt} (ha : colIn s a.col = true) (c : Nat) : nearR s a a c = decide (1 < c) := by
  unfold nearR
  have h1 : stackB a a = false := by unfold stackB; simp
  have h2 : blockB s a a = true := by unfold blockB; simp
  rw [ha, h1, h2]
  rw [Bool.eq_iff_iff]
  simp
  omega

/-- The pairs of a list: each with those behind it. -/
def rowG {α : Type} (d : α) (l : List α) (i : Nat) : List (α × α) := (l.drop (i + 1)).map fun b => (l.getD i d, b)
def pairsTo {α : Type} (d : α) (l : List α) (i : Nat) : List (α × α) := (List.range i).flatMap (rowG d l)
def pairsG {α : Type} : List α → List (α × α)
  | [] => []
  | a :: l => (l.map fun b => (a, b)) ++ pairsG l
theorem pairsTo_all {α : Type} (d : α) : ∀ l : List α, pairsTo d l l.length = pairsG l
  | [] => rfl
  | a :: l => by
    unfold pairsTo pairsG
    rw [List.length_cons, List.range_succ_eq_map, List.flatMap_cons, List.flatMap_map, ← pairsTo_all d l]
    rfl
theorem pairsTo_succ {α : Type} (d : α) (l : List α) (i : Nat) : pairsTo d l (i + 1) = pairsTo d l i ++ rowG d l i := by
  unfold pairsTo
  rw [List.range_succ, List.flatMap_append]
  simp
theorem pairsTo_len {α : Type} (d : α) (l : List α) : ∀ i, (pairsTo d l i).length ≤ i * l.length
  | 0 => by simp [pairsTo]
  | i + 1 => by
    rw [pairsTo_succ, List.length_append]
    have h1 := pairsTo_len d l i
    have h2 : (rowG d l i).length ≤ l.length := by unfold rowG; simp
    rw [Nat.succ_mul]; omega
/-- A pair of which one is not wanted is not wanted. -/
theorem pairsG_filter {α β : Type} (p : α → Bool) (f : α × α → Option β) (h : ∀ a b, p a = false ∨ p b = false → f (a, b) = none) : ∀ l : List α, (pairsG l).filterMap f = (pairsG (l.filter p)).filterMap f
  | [] => rfl
  | a :: l => by
    have ih := pairsG_filter p f h l
    have hrow : ∀ m : List α, (m.map fun b => (a, b)).filterMap f = ((m.filter p).map fun b => (a, b)).filterMap f := by
      intro m
      induction m with
      | nil => rfl
      | cons b m ihm =>
        cases hb : p b with
        | true => rw [List.filter_cons_of_pos hb]; simp only [List.map_cons, List.filterMap_cons, ihm]
        | false =>
          rw [List.filter_cons_of_neg (by simp [hb])]
          simp only [List.map_cons, List.filterMap_cons, h a b (.inr hb), ihm]
    cases ha : p a with
    | true =>
      rw [List.filter_cons_of_pos ha]
      simp only [pairsG, List.filterMap_append, ih]
      rw [hrow l]
    | false =>
      rw [List.filter_cons_of_neg (by simp [ha])]
      simp only [pairsG, List.filterMap_append, ih]
      rw [show (l.map fun b => (a, b)).filterMap f = [] from by
        rw [List.filterMap_eq_nil_iff]
        rintro ⟨x, y⟩ hx
        obtain ⟨b, _, e⟩ := List.mem_map.1 hx
        injection e with e1 e2
        subst e1 e2
        exact h _ _ (.inl ha)]
      rfl

theorem filter_takeG {α : Type} (p : α → Bool) (l : List α) {k : Nat} (h : k < l.length) (d : α) : (l.take (k + 1)).filter p = (l.take k).filter p ++ if p (l.getD k d) then [l.getD k d] else [] := by
  rw [List.take_succ_eq_append_getElem h, List.filter_append]
  have e : l.getD k d = l[k] := by simp [h]
  rw [e]
  cases hp : p l[k] <;> simp [hp]
theorem filter_lenG {α : Type} (p : α → Bool) (l : List α) (k : Nat) : ((l.take k).filter p).length ≤ k := Nat.le_trans (List.length_filter_le _ _) (List.length_take_le _ _)
/-- A box of a state with its class. -/
structure Gd where
  st : Stw
  cls : Nat
  deriving DecidableEq, Inhabited
structure Cl where
  a : Int
  b : Int
  code : Nat
  deriving DecidableEq, Inhabited
def clsF (boxes : List Bx) (id : Int) : Nat := (findBx boxes id).1.cls
def gdsF (boxes : List Bx) (l : List Stw) : List Gd := l.map fun x => ⟨x, clsF boxes x.box⟩
def dngB (g : Gd) : Bool := decide (0 < g.cls)
def goodsF (boxes : List Bx) (l : List Stw) : List Gd := (gdsF boxes l).filter dngB
def overB9 (boxes : List Bx) (x : Stw) : Bool := decide (9 < clsF boxes x.box)
/-- The error of a state. -/
def dErr (s : Shp) (boxes : List Bx) (l : List Stw) : Nat := if stowRight s boxes l then (if l.any (overB9 boxes) then 130 else if 200 < (goodsF boxes l).length then 5 else 0) else 2
def goodsTo (boxes : List Bx) (l : List Stw) (k : Nat) : List Gd := goodsF boxes (l.take k)
theorem goodsF_succ (boxes : List Bx) {l : List Stw} {k : Nat} (h : k < l.length) : goodsF boxes (l.take (k + 1)) = goodsF boxes (l.take k) ++ if 0 < clsF boxes (l.getD k default).box then [⟨l.getD k default, clsF boxes (l.getD k default).box⟩] else [] := by
  unfold goodsF gdsF
  rw [List.take_succ_eq_append_getElem h, List.map_append, List.filter_append]
  have e : l.getD k default = l[k] := by simp [h]
  rw [e]
  by_cases hp : 0 < clsF boxes l[k].box
  · rw [if_pos hp]; simp [dngB, hp]
  · rw [if_neg hp]; simp [dngB, hp]
theorem goods_len (boxes : List Bx) (l : List Stw) : (goodsF boxes l).length ≤ l.length := by
  unfold goodsF gdsF
  exact Nat.le_trans (List.length_filter_le _ _) (by simp)
theorem goods_cls {boxes : List Bx} {l : List Stw} (h : l.any (overB9 boxes) = false) : ∀ g ∈ goodsF boxes l, 0 < g.cls ∧ g.cls < 10 ∧ g.st ∈ l ∧ g.cls = clsF boxes g.st.box := fun g hg => by
  obtain ⟨h1, h2⟩ := List.mem_filter.1 hg
  obtain ⟨x, hx, rfl⟩ := List.mem_map.1 h1
  rw [List.any_eq_false] at h
  have h3 := h x hx
  unfold overB9 at h3
  unfold dngB at h2
  simp only [decide_eq_true_eq] at h2 h3
  exact ⟨h2, by show clsF boxes x.box < 10; omega, hx, rfl⟩
def codeG (a b : Gd) : Nat := Dg.tab a.cls b.cls
def clB (s : Shp) (p : Gd × Gd) : Option Cl := if nearF s p.1.st.slot p.2.st.slot (codeG p.1 p.2) then some ⟨p.1.st.box, p.2.st.box, codeG p.1 p.2⟩ else none
def clashF (s : Shp) (boxes : List Bx) (l : List Stw) : List Cl := (pairsG (goodsF boxes l)).filterMap (clB s)
def agB (s : Shp) (x : Stw) (cls : Nat) (g : Gd) : Bool := g.st.box != x.box && nearF s g.st.slot x.slot (Dg.tab g.cls cls)
def againstF (s : Shp) (gs : List Gd) (x : Stw) (cls : Nat) : List Int := (gs.filter (agB s x cls)).map (·.st.box)
/-- The error of a box beside a state. -/
def oErr (s : Shp) (boxes : List Bx) (l : List Stw) (id : Int) : Nat := if dErr s boxes l = 0 then (if (findBx boxes id).2 then (if 9 < clsF boxes id then 130 else 0) else 6) else dErr s boxes l
def freeS (s : Shp) (boxes : List Bx) (l : List Stw) (id : Int) : List Slt := (allF s (findBx boxes id).1.size).filter fun x => decide ((againstF s (goodsF boxes l) ⟨id, x⟩ (clsF boxes id)).length = 0)
theorem oErr_bad {s : Shp} {boxes : List Bx} {l : List Stw} {id : Int} (h : dErr s boxes l ≠ 0) : oErr s boxes l id = dErr s boxes l := by unfold oErr; rw [if_neg h]
theorem oErr_ok {s : Shp} {boxes : List Bx} {l : List Stw} {id : Int} (h : oErr s boxes l id = 0) : dErr s boxes l = 0 ∧ (findBx boxes id).2 = true ∧ clsF boxes id < 10 := by
  unfold oErr at h
  by_cases hd : dErr s boxes l = 0
  · rw [if_pos hd] at h
    refine ⟨hd, ?_⟩
    split at h
    · rename_i hf
      refine ⟨hf, ?_⟩
      split at h
      · cases h
      · omega
    · cases h
  · rw [if_neg hd] at h
    exact absurd h hd
theorem dErr_ok {s : Shp} {boxes : List Bx} {l : List Stw} (h : dErr s boxes l = 0) : stowRight s boxes l = true ∧ l.any (overB9 boxes) = false ∧ (goodsF boxes l).length ≤ 200 := by
  unfold dErr at h
  split at h
  · rename_i hr
    refine ⟨hr, ?_⟩
    split at h
    · cases h
    · rename_i ha
      refine ⟨by simpa using ha, ?_⟩
      split at h
      · cases h
      · omega
  · cases h
end Go.Proofs.YtmhikcleekfbpaaDoor
