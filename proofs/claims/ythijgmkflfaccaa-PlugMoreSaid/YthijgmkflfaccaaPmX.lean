/-
  Contracts and lemmas, in one text: LnH, PmP, PmQ, PmR, PmS.
-/
import Derived.Test.YthijgmkflfaccaaLn
import Derived.Test.YthijgmkflfaccaaStR
import Derived.Test.YthijgmkflfaccaaPsP
import Derived.Test.YthijgmkflfaccaaPeP
import Derived.Test.YthijgmkflfaccaaPlQ
import Derived.Test.YthijgmkflfaccaaPwQ
import Derived.Test.YthijgmkflfaccaaPlU
namespace Go.Proofs.Ythijgmkflfaccaa
open Go.RowKit

theorem colK_rd {w : World} {S : Nat → Prop} {cs : List Value} {c : Col} {ms : List Int} (h : tColK.rd w S cs (c, ms)) : tCol.rd w S cs c := by
  obtain ⟨A, p, rfl, h1, h2⟩ := h
  exact ⟨A, p, rfl, by simp only at h1; omega, h2.fst⟩
theorem covK_rd {w : World} {S : Nat → Prop} {cs : List Value} {c : Cov} {ms : List Int} (h : tCovK.rd w S cs (c, ms)) : tCov.rd w S cs c := by
  obtain ⟨A, p, rfl, h1, h2⟩ := h
  exact ⟨A, p, rfl, by simp only at h1; omega, h2.fst⟩
theorem tnkK_rd {w : World} {S : Nat → Prop} {cs : List Value} {c : Tnk} {ms : List Int} (h : tTnkK.rd w S cs (c, ms)) : tTnk.rd w S cs c := by
  obtain ⟨A, p, rfl, h1, h2⟩ := h
  exact ⟨A, p, rfl, by simp only at h1; omega, h2.fst⟩
theorem SlT.lent {α : Type} {T : Ty α} {U : Ty (α × List Int)} (hk : U.k = T.k) (hr : ∀ {w S cs c ms}, U.rd w S cs (c, ms) → T.rd w S cs c) {w : World} {S : Nat → Prop} {A : Option Addr} {l : List α} {ms : List Int} (h : SlT U w S A (l.map fun c => (c, ms))) : SlT T w S A l := fun hn => by
  obtain ⟨b, off, hA, hb, hc⟩ := h (by intro e; exact hn (List.map_eq_nil_iff.1 e))
  refine ⟨b, off, hA, hb, fun i x hx => ?_⟩
  obtain ⟨cs, h1, h2⟩ := hc i (x, ms) (by simp [hx])
  exact ⟨cs, hr h1, by rw [← hk]; exact h2⟩
theorem OwnF.sl2 {α : Type} {T : Ty α} {e : TypeId} {w : World} {base : Nat} {A : Option Addr} {n c : Nat} {l : List α} (h : OwnF T e w base (.slice A n c) l) : l.length ≤ c ∧ c ≤ maxLen ∧ SlT T w (Fr base w) A l := by
  obtain ⟨A', c', e, h1, h2, h3⟩ := h.sl
  injection e with e1 e2 e3
  subst e1 e3
  exact ⟨h1, h2, h3⟩
theorem fr_up {base B : Nat} {w : World} (h : base ≤ B) : ∀ b, Fr B w b → Fr base w b := fun b hb => ⟨Nat.le_trans h hb.1, hb.2⟩
theorem LentR.rd {base B1 : Nat} {w : World} {s : Shp} {h : Hd} (r : LentR base B1 w s h) : ShpR w (Fr base w) s h := by
  obtain ⟨a1, a2, a3⟩ := r.cols.sl2
  obtain ⟨b1, b2, b3⟩ := r.covs.sl2
  obtain ⟨c1, c2, c3⟩ := r.tanks.sl2
  rw [List.length_append, lentC_len] at a1
  rw [List.length_append, lentCo_len] at b1
  rw [List.length_append, lentTn_len] at c1
  have hm := r.mid.1
  exact ⟨by omega, by omega, by have := r.rows.1; omega, by have := r.frames.1; omega, by omega, a2, b2, r.rows.2.1, r.frames.2.1, c2,
    SlT.lent rfl colK_rd a3.fst, (SlT.lent rfl covK_rd b3.fst).more (fr_up hm), r.rows.2.2.fst.more (fr_up hm), r.frames.2.2.fst.more (fr_up hm), (SlT.lent rfl tnkK_rd c3.fst).more (fr_up hm)⟩
theorem LentR.on {base B1 : Nat} {w w' : World} {s : Shp} {h : Hd} (r : LentR base B1 w s h) (hb : Below w.heap.size w w') : LentR base B1 w' s h :=
  ⟨⟨r.mid.1, Nat.le_trans r.mid.2 hb.size⟩, r.lt, r.cols.on hb, r.covs.on hb, ⟨r.rows.1, r.rows.2.1, r.rows.2.2.frOn hb⟩, ⟨r.frames.1, r.frames.2.1, r.frames.2.2.frOn hb⟩, r.tanks.on hb⟩
/-- The ship with other plugs in its column c. -/
def setP (s : Shp) (c : Nat) (ps : List Int) : Shp := { s with cols := s.cols.set c { s.cols.getD c default with plugs := ps } }
/-- The columns' block. -/
theorem LentR.block {base B1 : Nat} {w : World} {s : Shp} {h : Hd} (r : LentR base B1 w s h) : ∃ q, h.A1 = some ⟨q, 0, none⟩ ∧ base ≤ q ∧ q < B1 ∧ ∃ cs, Bk w q 66 cs := by
  obtain ⟨S, hS, xs, h1, h2, h3⟩ := r.cols
  have hlen : (lentC s.cols ++ marksC 12).length = s.cols.length + 12 := by rw [List.length_append, lentC_len, marksC_len]
  obtain ⟨_, h0 | ⟨q, cap, cur, hv, hb, hh, _⟩⟩ := h1
  · have := h0.2; omega
  · injection hv with e1 _ e3
    exact ⟨q, e1, hb, r.lt q (by rw [e1]; rfl), cur, hh⟩
theorem LentR.set {base B1 : Nat} {w : World} {s : Shp} {h : Hd} (r : LentR base B1 w s h) {q : Nat} (hq : h.A1 = some ⟨q, 0, none⟩) {c : Nat} (hc : c < s.cols.length) {A' : Option Addr} {c' : Nat} {ps : List Int} (hps : ps.length ≤ c') (hsl : SlT tInt w (fun b => b < w.heap.size ∧ b ≠ q) A' ps) :
    ShpR (w.setCell ⟨q, c * 12 + 8, none⟩ (.slice A' ps.length c')) (Lt w.heap.size) (setP s c ps) h := by
  have hrd := r.rd
  obtain ⟨q', hq', hqb, hqB, _⟩ := r.block
  obtain rfl : q' = q := by rw [hq] at hq'; injection hq' with e; injection e with e; exact e.symm
  obtain ⟨S, hS, xs, h1, h2, h3⟩ := r.cols
  have hm := r.mid
  rw [hq] at h1 h3
  have hlen : (lentC s.cols ++ marksC 12).length = s.cols.length + 12 := by rw [List.length_append, lentC_len, marksC_len]
  rw [hlen] at h1
  obtain ⟨hst, _⟩ := h1.stored (c * 12 + 8) (.slice A' ps.length c')
  have hk : ∀ x o, x ≠ q' → (w.setCell ⟨q', c * 12 + 8, none⟩ (.slice A' ps.length c')).cell? ⟨x, o, none⟩ = w.cell? ⟨x, o, none⟩ := fun x o hx => cell_farK hx
  have hxc : (lentC s.cols ++ marksC 12)[c]? = some (s.cols.getD c default, marksI 12) := by
    rw [List.getElem?_append_left (by rw [lentC_len]; exact hc)]
    simp [lentC, hc]
  have hf2 := (h2.more (S' := fun x => x < w.heap.size ∧ x ≠ q') fun x hx => ⟨(h3 x hx).1, fun e => (h3 x hx).2 (by rw [e]; rfl)⟩).set (i := c) (x' := ({ s.cols.getD c default with plugs := ps }, [])) (j := 8) (u := .slice A' ps.length c') hxc (by decide) (by
    rintro cs ⟨A0, p0, rfl, q1, q2⟩
    exact ⟨A', c', rfl, hps, by simpa using hsl⟩)
  have hf3 := hf2.keep (w' := w.setCell ⟨q', c * 12 + 8, none⟩ (.slice A' ps.length c')) fun x o hx => hk x o hx.2
  have hlt : (setP s c ps).cols.length = s.cols.length := List.length_set
  have keepB : ∀ b, Fr B1 w b → b ≠ q' := fun b hb e => by have := hb.1; omega
  have b3 := (r.covs.sl2).2.2
  have c3 := (r.tanks.sl2).2.2
  have lt : ∀ b, Fr B1 w b → Lt w.heap.size b := fun b hb => hb.2
  refine ⟨by rw [hlt]; exact hrd.n1, hrd.n2, hrd.n3, hrd.n4, hrd.n5, hrd.m1, hrd.m2, hrd.m3, hrd.m4, hrd.m5, ?_, ?_, ?_, ?_, ?_⟩
  · rw [hq]
    intro _
    refine ⟨q', 0, rfl, by show q' < w.heap.size; omega, fun i x hx => ?_⟩
    obtain ⟨m, hm'⟩ : ∃ m, ((lentC s.cols ++ marksC 12).set c ({ s.cols.getD c default with plugs := ps }, []))[i]? = some (x, m) := by
      have hx' : (s.cols.set c { s.cols.getD c default with plugs := ps })[i]? = some x := hx
      have hi : i < s.cols.length := by have := (List.getElem?_eq_some_iff.1 hx').1; simpa using this
      rw [List.getElem?_set] at hx' ⊢
      by_cases e : c = i
      · subst e
        simp only [if_true, hc] at hx'
        refine ⟨[], ?_⟩
        rw [if_pos rfl, if_pos (by rw [hlen]; omega)]
        injection hx' with hx'
        rw [hx']
      · rw [if_neg e] at hx' ⊢
        refine ⟨marksI 12, ?_⟩
        rw [List.getElem?_append_left (by rw [lentC_len]; exact hi)]
        simp [lentC, hx']
    obtain ⟨cs, h1', h2'⟩ := (hf3.more (S' := Lt w.heap.size) fun x hx => hx.1).at_ (i := i) (x := (x, m)) hm'
    refine ⟨cs, colK_rd h1', fun j u hu => ?_⟩
    have := hst.cells (g := q') rfl (i * tColK.k + j) u (h2' j u hu)
    rw [add_mk] at this
    rw [Nat.add_assoc]
    exact this
  · exact ((SlT.lent rfl covK_rd b3.fst).keep fun x o hx => hk x o (keepB x hx)).more lt
  · exact (r.rows.2.2.fst.keep fun x o hx => hk x o (keepB x hx)).more lt
  · exact (r.frames.2.2.fst.keep fun x o hx => hk x o (keepB x hx)).more lt
  · exact ((SlT.lent rfl tnkK_rd c3.fst).keep fun x o hx => hk x o (keepB x hx)).more lt
end Go.Proofs.Ythijgmkflfaccaa
namespace Go.Proofs.Ythijgmkflfaccaa
open Go.RowKit

/-- The plugs of column c with one more in tier k, as the program collects them. -/
def moreL (s : Shp) (c k n : Nat) : List Int := ((List.range n).filter fun j : Nat => decide (j = k) || pluggedB s c j).map fun j : Nat => (j : Int)
theorem moreL_succ (s : Shp) (c k n : Nat) : moreL s c k (n + 1) = moreL s c k n ++ if (decide (n = k) || pluggedB s c n) then [(n : Int)] else [] := by
  unfold moreL
  rw [List.range_succ, List.filter_append, List.map_append]
  congr 1
  simp only [List.filter_cons, List.filter_nil]
  split <;> rfl
theorem mem_moreL {s : Shp} {c k n : Nat} {t : Int} : t ∈ moreL s c k n ↔ 0 ≤ t ∧ t < n ∧ (t = k ∨ pluggedB s c t = true) := by
  unfold moreL
  simp only [List.mem_map, List.mem_filter, List.mem_range, Bool.or_eq_true, decide_eq_true_eq]
  constructor
  · rintro ⟨j, ⟨h1, h2⟩, rfl⟩
    refine ⟨by omega, by omega, ?_⟩
    rcases h2 with rfl | h2
    · exact .inl rfl
    · exact .inr h2
  · rintro ⟨h1, h2, h3⟩
    obtain ⟨j, rfl⟩ := Int.eq_ofNat_of_zero_le h1
    refine ⟨j, ⟨by omega, ?_⟩, rfl⟩
    rcases h3 with h3 | h3
    · exact .inl (by omega)
    · exact .inr h3
theorem setP_get {s : Shp} {c : Nat} {ps : List Int} (h : c < s.cols.length) (i : Nat) : (setP s c ps).cols.getD i default = if i = c then { s.cols.getD c default with plugs := ps } else s.cols.getD i default := by
  unfold setP
  simp only [List.getD_eq_getElem?_getD, List.getElem?_set]
  by_cases e : i = c
  · subst e; simp [h]
  · rw [if_neg (fun h => e h.symm), if_neg e]
/-- One plug more. -/
def moreS (s : Shp) (c k : Nat) : Shp := setP s c (moreL s c k (s.cols.getD c default).tiers.toNat)
theorem more_plugged {s : Shp} {c k : Nat} (hc : c < s.cols.length) (hk : (k : Int) < (s.cols.getD c default).tiers) (i t : Int) : pluggedB (moreS s c k) i t = true ↔ pluggedB s i t = true ∨ (i = c ∧ t = k) := by
  rw [plugged_iff, plugged_iff]
  have hlen : (moreS s c k).cols.length = s.cols.length := List.length_set
  rw [hlen]
  constructor
  · rintro ⟨m, h1, rfl, h2, h3, h4⟩
    unfold moreS at h3 h4
    rw [setP_get hc] at h3 h4
    by_cases e : m = c
    · subst e
      rw [if_pos rfl] at h3 h4
      obtain ⟨_, _, h5⟩ := mem_moreL.1 h4
      rcases h5 with h5 | h5
      · exact .inr ⟨rfl, h5⟩
      · exact .inl (plugged_iff.1 h5)
    · rw [if_neg e] at h3 h4
      exact .inl ⟨m, h1, rfl, h2, h3, h4⟩
  · rintro (⟨m, h1, rfl, h2, h3, h4⟩ | ⟨rfl, rfl⟩)
    · refine ⟨m, h1, rfl, h2, ?_⟩
      unfold moreS
      rw [setP_get hc]
      by_cases e : m = c
      · subst e
        rw [if_pos rfl]
        exact ⟨h3, mem_moreL.2 ⟨h2, by omega, .inr (plugged_iff.2 ⟨m, h1, rfl, h2, h3, h4⟩)⟩⟩
      · rw [if_neg e]
        exact ⟨h3, h4⟩
    · refine ⟨c, hc, rfl, by omega, ?_⟩
      unfold moreS
      rw [setP_get hc, if_pos rfl]
      exact ⟨hk, mem_moreL.2 ⟨by omega, by omega, .inl rfl⟩⟩
theorem more_sup {s : Shp} {c k : Nat} (hc : c < s.cols.length) (hk : (k : Int) < (s.cols.getD c default).tiers) (hn : pluggedB s c k = false) : supF (moreS s c k) = supF s + 1 := by
  have hp : (pairsF (moreS s c k)).Perm (((c : Int), (k : Int)) :: pairsF s) := by
    refine (List.perm_ext_iff_of_nodup (nodup_pairs _) ?_).2 fun x => ?_
    · refine List.nodup_cons.2 ⟨fun hm => ?_, nodup_pairs s⟩
      unfold pluggedB at hn
      rw [List.contains_iff_mem.2 hm] at hn
      cases hn
    · have h := more_plugged hc hk x.1 x.2
      unfold pluggedB at h
      rw [List.contains_iff_mem, List.contains_iff_mem] at h
      rw [List.mem_cons]
      obtain ⟨x1, x2⟩ := x
      simp only [Prod.mk.injEq] at h ⊢
      rw [h]
      constructor
      · rintro (h1 | h1)
        · exact .inr h1
        · exact .inl h1
      · rintro (h1 | h1)
        · exact .inr h1
        · exact .inl h1
  unfold supF
  rw [hp.length_eq]
  rfl
theorem more_pf {s : Shp} {c k : Nat} (hc : c < s.cols.length) (hk : (k : Int) < (s.cols.getD c default).tiers) (bs : List Bx) (st : List Stw) : pfF (moreS s c k) bs st = (((st.filter (coldB bs)).filter (unfedB s)).filter fun x : Stw => !(decide (x.slot.col = (c : Int)) && decide (x.slot.tier = (k : Int)))).map (·.box) := by
  unfold pfF
  rw [List.filter_filter (l := st.filter (coldB bs))]
  congr 1
  refine List.filter_congr fun x _ => ?_
  have h := more_plugged hc hk x.slot.col x.slot.tier
  unfold unfedB
  rw [Bool.eq_iff_iff]
  simp only [Bool.not_eq_true', Bool.and_eq_true, Bool.not_eq_eq_eq_not, Bool.not_true, Bool.and_eq_false_iff, decide_eq_false_iff_not]
  rw [← Bool.not_eq_true, h, ← Bool.not_eq_true]
  constructor
  · intro h1
    refine ⟨?_, fun h2 => h1 (.inl h2)⟩
    by_cases e : x.slot.col = c
    · exact .inr fun e2 => h1 (.inr ⟨e, e2⟩)
    · exact .inl e
  · rintro ⟨h1, h2⟩ (h3 | ⟨h3, h4⟩)
    · exact h2 h3
    · rcases h1 with h1 | h1
      · exact h1 h3
      · exact h1 h4
end Go.Proofs.Ythijgmkflfaccaa
namespace Go.Proofs.Ythijgmkflfaccaa
open Go.RowKit

theorem at_zero {s : Shp} {c k : Nat} (hc : c < s.cols.length) (hk : (k : Int) < (s.cols.getD c default).tiers) : atF s ⟨c, k, 0⟩ = pluggedB s c k :=
  at_all (sz := 40) (.inr rfl) (mem_all.2 ⟨c, k, hc, by unfold tiersN; omega, rfl, rfl, by simp [halvesL]⟩)
theorem more_at {s : Shp} {c k : Nat} (hc : c < s.cols.length) (hk : (k : Int) < (s.cols.getD c default).tiers) : atF (moreS s c k) ⟨c, k, 0⟩ = true := by
  have hlen : (moreS s c k).cols.length = s.cols.length := List.length_set
  rw [at_zero (by rw [hlen]; exact hc) (by unfold moreS; rw [setP_get hc, if_pos rfl]; exact hk)]
  exact (more_plugged hc hk c k).2 (.inr ⟨rfl, rfl⟩)
theorem moreL_len (s : Shp) (c k n : Nat) : (moreL s c k n).length ≤ n := by
  unfold moreL
  rw [List.length_map]
  exact Nat.le_trans (List.length_filter_le _ _) (by simp)
theorem more_mem {s : Shp} {c k : Nat} (h : c < s.cols.length) {x : Col} (hx : x ∈ (moreS s c k).cols) : x = { s.cols.getD c default with plugs := moreL s c k (s.cols.getD c default).tiers.toNat } ∨ x ∈ s.cols := by
  rcases List.mem_or_eq_of_mem_set hx with h1 | h1
  · exact .inr h1
  · exact .inl h1
theorem more_few {s : Shp} {c k : Nat} (h : Lm s) (hc : c < s.cols.length) : Few (moreS s c k) := by
  refine ⟨by have := h.twelve; show (s.cols.set c _).length ≤ _; rw [List.length_set]; omega, h.few.covs, h.few.rows, fun x hx => ?_⟩
  rcases more_mem hc hx with rfl | hx
  · have h1 := h.at_ hc
    have := moreL_len s c k (s.cols.getD c default).tiers.toNat
    show (moreL s c k (s.cols.getD c default).tiers.toNat).length ≤ _
    omega
  · exact h.few.plugs x hx
theorem more_ints {s : Shp} {c k : Nat} (h : Lm s) (hc : c < s.cols.length) : Ints (moreS s c k) := ⟨fun x hx => by
  rcases more_mem hc hx with rfl | hx
  · have := h.ints.cols _ (getD_memD hc default)
    exact this
  · exact h.ints.cols x hx⟩
theorem few_lent {s : Shp} (h : Lm s) (hz : s.rows = [] ∧ s.frames = [] ∧ s.tanks = []) : FewL s := by
  obtain ⟨h1, h2, h3⟩ := hz
  have hf := h.few
  exact ⟨by have := h.twelve; omega, by have := hf.covs; omega, by rw [h1]; simp, by rw [h2]; simp, by rw [h3]; simp, fun x hx => by have := hf.plugs x hx; omega, fun x hx => by have := hf.rows x hx; omega, fun x hx => by rw [h3] at hx; cases hx⟩
/-- What the program looks for: of each box of l the places that pass q. -/
def wantR (q : Stw → Bool) (st : List Stw) (id : Int) : List Int := (st.filter fun y => y.box == id && q y).map (fun _ => id)
theorem want_one {q : Stw → Bool} : ∀ {st : List Stw}, st.Pairwise (fun a b => a.box < b.box) → ∀ {x : Stw}, x ∈ st → wantR q st x.box = if q x then [x.box] else []
  | [], _, x, hx => by cases hx
  | y :: st, hp, x, hx => by
    obtain ⟨h1, h2⟩ := List.pairwise_cons.1 hp
    unfold wantR
    rw [List.filter_cons]
    rcases List.mem_cons.1 hx with rfl | hx
    · have hn : (st.filter fun z => z.box == x.box && q z) = [] := by
        rw [List.filter_eq_nil_iff]
        intro z hz
        have := h1 z hz
        simp only [Bool.and_eq_true, beq_iff_eq]
        omega
      rw [hn]
      cases q x <;> simp
    · have hne : (y.box == x.box) = false := by
        have := h1 x hx
        simp; omega
      rw [hne]
      exact want_one h2 hx
theorem want_all {q : Stw → Bool} {st : List Stw} (hp : st.Pairwise (fun a b => a.box < b.box)) : ∀ {l : List Stw}, (∀ x ∈ l, x ∈ st) → (l.map (·.box)).flatMap (wantR q st) = (l.filter q).map (·.box)
  | [], _ => rfl
  | x :: l, h => by
    rw [List.map_cons, List.flatMap_cons, want_one hp (h x (by simp)), want_all hp fun y hy => h y (by simp [hy]), List.filter_cons]
    cases q x <;> simp
theorem want_pf {s : Shp} {bs : List Bx} {st : List Stw} (hd : Ld s bs st) {c k : Nat} (hc : c < s.cols.length) (hk : (k : Int) < (s.cols.getD c default).tiers) :
    (pfF s bs st).flatMap (wantR (fun x : Stw => !(decide (x.slot.col = (c : Int)) && decide (x.slot.tier = (k : Int)))) st) = pfF (moreS s c k) bs st := by
  rw [more_pf hc hk]
  unfold pfF
  refine want_all (stow_iff.1 hd.right).2.2.1 fun x hx => ?_
  exact (List.mem_filter.1 (List.mem_filter.1 hx).1).1
end Go.Proofs.Ythijgmkflfaccaa
namespace Go.Proofs.Ythijgmkflfaccaa
open Go.RowKit

theorem filter_set_len {α : Type} (p : α → Bool) (y d : α) : ∀ (l : List α) (k : Nat), k < l.length → ((l.set k y).filter p).length + (if p (l.getD k d) then 1 else 0) = (l.filter p).length + (if p y then 1 else 0)
  | [], k, h => by simp at h
  | x :: l, 0, _ => by
    simp only [List.set_cons_zero, List.filter_cons, List.getD_cons_zero]
    cases p x <;> cases p y <;> simp
  | x :: l, k + 1, h => by
    have ih := filter_set_len p y d l k (by simpa using h)
    simp only [List.set_cons_succ, List.filter_cons, List.getD_cons_succ]
    cases p x
    · simpa using ih
    · simp only [if_true, List.length_cons]
      omega
theorem demand_turn (bs : List Bx) {k : Nat} (hk : k < bs.length) :
    demF bs - 1 ≤ demF (bs.set k (rfB (!(bs.getD k zBx).reefer) (bs.getD k zBx))) ∧ demF (bs.set k (rfB (!(bs.getD k zBx).reefer) (bs.getD k zBx))) ≤ demF bs + 1 ∧
    ((bs.getD k zBx).reefer = false → demF bs ≤ demF (bs.set k (rfB (!(bs.getD k zBx).reefer) (bs.getD k zBx)))) ∧
    ((bs.getD k zBx).reefer = true → demF (bs.set k (rfB (!(bs.getD k zBx).reefer) (bs.getD k zBx))) ≤ demF bs) := by
  have h4 := filter_set_len (reefB 40) (rfB (!(bs.getD k zBx).reefer) (bs.getD k zBx)) zBx bs k hk
  have h2 := filter_set_len (reefB 20) (rfB (!(bs.getD k zBx).reefer) (bs.getD k zBx)) zBx bs k hk
  generalize bs.getD k zBx = b at *
  unfold demF
  generalize ((bs.set k (rfB (!b.reefer) b)).filter (reefB 40)).length = x4 at *
  generalize ((bs.set k (rfB (!b.reefer) b)).filter (reefB 20)).length = x2 at *
  generalize (bs.filter (reefB 40)).length = y4 at *
  generalize (bs.filter (reefB 20)).length = y2 at *
  have e4 : reefB 40 b = (b.reefer && b.size == 40) := rfl
  have e2 : reefB 20 b = (b.reefer && b.size == 20) := rfl
  have f4 : reefB 40 (rfB (!b.reefer) b) = (!b.reefer && b.size == 40) := rfl
  have f2 : reefB 20 (rfB (!b.reefer) b) = (!b.reefer && b.size == 20) := rfl
  rw [e4, f4] at h4
  rw [e2, f2] at h2
  by_cases h40 : b.size = 40
  · have h20 : ¬ b.size = 20 := by omega
    cases hr : b.reefer <;> simp [hr, h40] at h4 h2 ⊢ <;> omega
  · by_cases h20 : b.size = 20
    · cases hr : b.reefer <;> simp [hr, h20] at h4 h2 ⊢ <;> omega
    · cases hr : b.reefer <;> simp [hr, h20, h40] at h4 h2 ⊢ <;> omega
end Go.Proofs.Ythijgmkflfaccaa
namespace Go.Proofs.Ythijgmkflfaccaa
open Go.RowKit

theorem OwnS.int1 {e : TypeId} {w w' : World} {base : Nat} {S : Nat → Prop} {v v' : Value} {l : List Int} {x : Int} {xs : List Value} (hf : Flat tInt w S xs l) (hS : ∀ b, S b → But w v b) (ho : w'.ownsRow base e 1 v' (l.length + 1) (xs ++ [.int .i64 x])) (hg : w.grownBy w' v.ownBlock)
    (hd : v'.ownBlock = v.ownBlock ∨ ∃ g, v'.ownBlock = some g ∧ w.heap.size ≤ g) : OwnS tInt e w' base S v' (l ++ [x]) := OwnS.append (m := [x]) (ys := [.int .i64 x]) hf (Flat.single (T := tInt) (cs := [.int .i64 x]) rfl) hS ho hg hd
theorem own_pl {Z : World} {B q m c : Nat} {S : Nat → Prop} {A : Option Addr} {l : List Int} (ho : OwnS tInt 3 Z B S (.slice A m c) l) (hq : q < B) : l.length ≤ c ∧ SlT tInt Z (fun b => b < Z.heap.size ∧ b ≠ q) A l := by
  obtain ⟨ys, hy, hyf, _⟩ := ho
  obtain ⟨A0, c0, e, hc0, _, hs0⟩ := OwnT.sl (show OwnT tInt 3 Z B _ _ from ⟨ys, hy, hyf.plain plain_int⟩)
  injection e with e1 e2 e3
  subst e1 e3
  refine ⟨hc0, fun hn => ?_⟩
  obtain ⟨q', off, e, hq', hcell⟩ := hs0 hn
  subst e
  have := (hy.lt q' rfl).1
  exact ⟨q', off, rfl, ⟨hq', by omega⟩, hcell⟩
theorem want_succ (q : Stw → Bool) (st : List Stw) (id : Int) {j : Nat} (h : j < st.length) : wantR q (st.take (j + 1)) id = wantR q (st.take j) id ++ if ((st.getD j default).box == id && q (st.getD j default)) then [id] else [] := by
  unfold wantR
  rw [filter_take _ st h default, List.map_append]
  congr 1
  split <;> rfl
theorem want_len (q : Stw → Bool) (st : List Stw) (id : Int) (j : Nat) : (wantR q (st.take j) id).length ≤ st.length := by
  unfold wantR
  rw [List.length_map]
  exact filter_take_len _ st j
theorem flat_succ (f : Int → List Int) (l : List Int) {i : Nat} (h : i < l.length) : (l.take (i + 1)).flatMap f = (l.take i).flatMap f ++ f (l.getD i 0) := by
  rw [List.take_succ_eq_append_getElem h, List.flatMap_append]
  simp [h]
theorem flat_len (f : Int → List Int) (n : Nat) (hf : ∀ x, (f x).length ≤ n) : ∀ l : List Int, (l.flatMap f).length ≤ l.length * n
  | [] => by simp
  | x :: l => by
    have := flat_len f n hf l
    have := hf x
    rw [List.flatMap_cons, List.length_append, List.length_cons, Nat.succ_mul]
    omega
theorem flat_take_len (q : Stw → Bool) (st : List Stw) (l : List Int) (i : Nat) (h1 : st.length ≤ 9) (h2 : l.length ≤ 9) : ((l.take i).flatMap (wantR q st)).length ≤ 81 := by
  have h3 := flat_len (wantR q st) 9 (fun x => by have := want_len q st x st.length; rw [List.take_length] at this; omega) (l.take i)
  have h4 : (l.take i).length ≤ 9 := by rw [List.length_take]; omega
  omega
theorem colP_len (i : Nat) (T : Int) : ∀ (ps : List Int) (L : List (Int × Int)), (colP i T ps L).length ≤ L.length + ps.length
  | [], L => by simp [colP]
  | p :: ps, L => by
    have := colP_len i T ps (stepP i T L p)
    have h2 : (stepP i T L p).length ≤ L.length + 1 := by
      unfold stepP addP
      split <;> (try split) <;> simp
    show (colP i T ps (stepP i T L p)).length ≤ _
    rw [List.length_cons]
    omega
theorem pairs_len (cols : List Col) (M : Nat) (h : ∀ c ∈ cols, c.plugs.length ≤ M) : ∀ n, n ≤ cols.length → (pairsTo cols n).length ≤ n * M
  | 0, _ => by simp [pairsTo]
  | n + 1, hn => by
    have := pairs_len cols M h n (by omega)
    have h2 := colP_len n (cols.getD n default).tiers (cols.getD n default).plugs (pairsTo cols n)
    have h3 := h _ (getD_memD (show n < cols.length by omega) default)
    show (colP n _ _ (pairsTo cols n)).length ≤ _
    rw [Nat.succ_mul]
    omega
theorem sup_few {s : Shp} (h : Lm s) : supF s ≤ 12000000 := by
  have h1 := pairs_len s.cols 1000000 (fun c hc => by have := h.few.plugs c hc; omega) s.cols.length (Nat.le_refl _)
  have h2 := h.twelve
  have h3 := Nat.mul_le_mul_right 1000000 h2
  show (pairsTo s.cols s.cols.length).length ≤ _
  omega
theorem dem_few (bs : List Bx) : 0 ≤ demF bs ∧ demF bs ≤ 2 * (bs.length : Int) + 1 := by
  have h1 := List.length_filter_le (reefB 40) bs
  have h2 := List.length_filter_le (reefB 20) bs
  unfold demF
  omega
/-- A column's plugs stored in the copy. -/
structure MP (s : Shp) (h : Hd) (k t q gt gx : Nat) (W Z9 : World) : Prop where
  rd : ShpR Z9 (Lt Z9.heap.size) (moreS s k t) h
  kt : Bk Z9 gt 37 (shpA s h)
  kx : Bk Z9 gx 47 #[.int .i64 (k : Nat), .int .i64 (t : Nat), .int .u8 0]
  be : Below W.heap.size W Z9
theorem MP.make {W Z : World} {B0 B1 BL gt gx q k t j c' : Nat} {s : Shp} {h : Hd} {A' : Option Addr} (hl : LentR B0 B1 Z s h) (hq : h.A1 = some ⟨q, 0, none⟩) (hqb : B0 ≤ q) (hqB : q < B1) (hk : k < s.cols.length) (hj : (j : Int) = (s.cols.getD k default).tiers)
    (kt : Bk Z gt 37 (shpA s h)) (kx : Bk Z gx 47 #[.int .i64 (k : Nat), .int .i64 (t : Nat), .int .u8 0]) (hgt : B1 ≤ gt) (hgx : gx < B0) (hWB : W.heap.size ≤ B0) (hb : Below W.heap.size W Z) (hBL : B1 ≤ BL)
    {S : Nat → Prop} (ho : OwnS tInt 3 Z BL S (.slice A' (moreL s k t j).length c') (moreL s k t j)) :
    MP s h k t q gt gx W (Z.setCell ⟨q, k * 12 + 8, none⟩ (.slice A' (moreL s k t j).length c')) := by
  obtain ⟨hcap, hsl⟩ := own_pl ho (show q < BL by omega)
  have hS := hl.set hq hk hcap hsl
  have hms : setP s k (moreL s k t j) = moreS s k t := by
    unfold moreS
    rw [← hj]
    rfl
  rw [hms] at hS
  refine ⟨?_, kt.far (p := ⟨q, k * 12 + 8, none⟩) (by show gt ≠ q; omega) _, kx.far (p := ⟨q, k * 12 + 8, none⟩) (by show gx ≠ q; omega) _, hb.setCell (p := ⟨q, k * 12 + 8, none⟩) (by show W.heap.size ≤ q; omega) _⟩
  rw [size_setP]
  exact hS
theorem MP.on {W Z9 Y : World} {s : Shp} {h : Hd} {k t q gt gx : Nat} (r : MP s h k t q gt gx W Z9) (hb : Below Z9.heap.size Z9 Y) : MP s h k t q gt gx W Y :=
  ⟨r.rd.on hb, r.kt.below hb r.kt.lt, r.kx.below hb r.kx.lt, r.be.trans (hb.mono r.be.size)⟩
theorem more_shpA {s : Shp} {k t : Nat} {h : Hd} : shpA (moreS s k t) h = shpA s h := by
  have hlen : (moreS s k t).cols.length = s.cols.length := List.length_set
  unfold shpA
  rw [hlen]
  rfl
/-- The cell of a column's plugs, to write. -/
theorem LentR.cell8 {base B1 : Nat} {w : World} {s : Shp} {h : Hd} (r : LentR base B1 w s h) {q : Nat} (hq : h.A1 = some ⟨q, 0, none⟩) {k : Nat} (hk : k < s.cols.length) : ∃ Ap p, w.cell? ⟨q, k * 12 + 8, none⟩ = some (.slice Ap (s.cols.getD k default).plugs.length p) ∧ w.frozen? ⟨q, k * 12 + 8, none⟩ = false := by
  obtain ⟨b, off, Ap, p, eA, _, _, _, hcells⟩ := r.rd.cols.col hk
  rw [hq] at eA
  injection eA with eA
  injection eA with eb eo _
  subst eb eo
  obtain ⟨q', hq', _, _, cs, hbk⟩ := r.block
  rw [hq] at hq'
  injection hq' with hq'
  injection hq' with e
  subst e
  refine ⟨Ap, p, ?_, hbk.frozen _⟩
  simpa using hcells.2.2.2.2.2.2.2.2.1
/-- A box of the call's own turned in place. -/
theorem box_turn {V : World} {B : Nat} {S : Nat → Prop} {A : Option Addr} {c : Nat} {bs : List Bx} (ho : OwnS tBx 51 V B S (.slice A bs.length c) bs) {k : Nat} (hk : k < bs.length) :
    ∃ b, A = some ⟨b, 0, none⟩ ∧ B ≤ b ∧ V.frozen? ⟨b, k * 9 + 8, none⟩ = false ∧ V.cell? ⟨b, k * 9 + 8, none⟩ = some (.bool (bs.getD k zBx).reefer) ∧
      ∀ u : Bool, SlT tBx (V.setCell ⟨b, k * 9 + 8, none⟩ (.bool u)) (Lt (V.setCell ⟨b, k * 9 + 8, none⟩ (.bool u)).heap.size) A (bs.set k (rfB u (bs.getD k zBx))) := by
  obtain ⟨b, cc', e, hbB, _, _⟩ := OwnS.form ho (by omega)
  injection e with e1 _ e3
  subst e1 e3
  have hob := ho
  obtain ⟨xs, ho, hf, _⟩ := ho
  have hx : bs[k]? = some (bs.getD k zBx) := by simp [hk]
  obtain ⟨cs, hcs, hc⟩ := hf.at_ hx
  have hcs' : cs = bxL (bs.getD k zBx) := hcs
  subst hcs'
  have h8 := hc 8 (.bool (bs.getD k zBx).reefer) rfl
  have c8 := ho.cells (g := b) rfl (k * 9 + 8) _ h8
  rw [add_mk, Nat.zero_add] at c8
  refine ⟨b, rfl, hbB, ho.frozenAt _, c8, fun u => ?_⟩
  have h9 := OwnS.set (T := tBx) (x' := rfB u (bs.getD k zBx)) (j := 8) (u := .bool u) hob hx (by decide) (by
    rintro cs rfl
    rfl)
  obtain ⟨A', c', e, _, _, hs⟩ := h9.sl'
  injection e with e1
  subst e1
  exact hs
end Go.Proofs.Ythijgmkflfaccaa
