/-
  Plain laws of chapter 14: pairs one by one, the clashes of one box, a state without a box. No program in sight.
-/
import Derived.Test.YtmhikcleekfbpaaDoorSgP
namespace Go.Proofs.YtmhikcleekfbpaaDoor
open Go.RowKit

theorem rowG_take {α : Type} (d : α) (l : List α) (i : Nat) {k : Nat} (h : i + 1 + k < l.length) : (rowG d l i).take (k + 1) = (rowG d l i).take k ++ [(l.getD i d, l.getD (i + 1 + k) d)] := by
  unfold rowG
  have hk : k < ((l.drop (i + 1)).map fun b => (l.getD i d, b)).length := by simp; omega
  rw [List.take_succ_eq_append_getElem hk]
  congr 1
  simp only [List.getElem_map, List.getElem_drop]
  rw [show l.getD (i + 1 + k) d = l[i + 1 + k] from by simp [h]]
theorem rowG_len {α : Type} (d : α) (l : List α) (i : Nat) : (rowG d l i).length = l.length - (i + 1) := by unfold rowG; simp
theorem pairs_pre {α : Type} (d : α) (l : List α) {i : Nat} (hi : i < l.length) (k : Nat) : pairsTo d l i ++ (rowG d l i).take k <+: pairsG l := by
  rw [← pairsTo_all d l]
  have h1 : pairsTo d l (i + 1) <+: pairsTo d l l.length := by
    obtain ⟨n, hn⟩ : ∃ n, l.length = i + 1 + n := ⟨l.length - (i + 1), by omega⟩
    rw [hn]
    clear hn
    induction n with
    | zero => exact List.prefix_rfl
    | succ n ih => rw [← Nat.add_assoc, pairsTo_succ d l (i + 1 + n)]; exact ih.trans (List.prefix_append _ _)
  refine List.IsPrefix.trans ?_ h1
  rw [pairsTo_succ]
  exact (List.prefix_append_right_inj _).2 (List.take_prefix _ _)
/-- What the next pair gives. -/
theorem hit_at {α β : Type} (f : α → Option β) (e : β) {P L : List α} {p : α} {c : β} (h : P ++ [p] <+: L) (hc : f p = some c) : (P.filterMap f).length < (L.filterMap f).length ∧ (L.filterMap f).getD (P.filterMap f).length e = c := by
  obtain ⟨R, rfl⟩ := h
  rw [List.filterMap_append, List.filterMap_append]
  have : [p].filterMap f = [c] := by simp [hc]
  rw [this]
  constructor
  · simp
  · simp
theorem miss_at {α β : Type} (f : α → Option β) {P : List α} {p : α} (hc : f p = none) : (P ++ [p]).filterMap f = P.filterMap f := by
  rw [List.filterMap_append]; simp [hc]
theorem hit_len {α β : Type} (f : α → Option β) {P : List α} {p : α} {c : β} (hc : f p = some c) : ((P ++ [p]).filterMap f).length = (P.filterMap f).length + 1 := by
  rw [List.filterMap_append]; simp [hc]
theorem mem_pairsG {α : Type} : ∀ {l : List α} {a b : α}, (a, b) ∈ pairsG l → [a, b].Sublist l
  | [], _, _, h => by cases h
  | x :: l, a, b, h => by
    unfold pairsG at h
    rcases List.mem_append.1 h with h | h
    · obtain ⟨y, hy, e⟩ := List.mem_map.1 h
      injection e with e1 e2
      subst e1 e2
      exact (List.singleton_sublist.2 hy).cons_cons x
    · exact (mem_pairsG h).cons x

def nr (s : Shp) (a b : Gd) : Bool := nearF s a.st.slot b.st.slot (codeG a b)
theorem clB_eq (s : Shp) (a b : Gd) : clB s (a, b) = if nr s a b then some ⟨a.st.box, b.st.box, codeG a b⟩ else none := rfl
/-- The boxes with which a box clashes. -/
def mineF (x : Int) (cs : List Cl) : List Int := cs.flatMap fun c => (if c.a == x then [c.b] else []) ++ (if c.b == x then [c.a] else [])
theorem mine_append (x : Int) (a b : List Cl) : mineF x (a ++ b) = mineF x a ++ mineF x b := by simp [mineF]
theorem mine_none {x : Int} {cs : List Cl} (h : ∀ c ∈ cs, c.a ≠ x ∧ c.b ≠ x) : mineF x cs = [] := by
  unfold mineF
  rw [List.flatMap_eq_nil_iff]
  intro c hc
  obtain ⟨h1, h2⟩ := h c hc
  simp [h1, h2]
theorem row_none (s : Shp) (a : Gd) {x : Int} {l : List Gd} (ha : a.st.box ≠ x) (h : ∀ b ∈ l, b.st.box ≠ x) : mineF x ((l.map fun b => (a, b)).filterMap (clB s)) = [] := by
  refine mine_none fun c hc => ?_
  obtain ⟨p, hp, he⟩ := List.mem_filterMap.1 hc
  obtain ⟨b, hb, rfl⟩ := List.mem_map.1 hp
  rw [clB_eq] at he
  split at he
  · injection he with he
    subst he
    exact ⟨ha, h b hb⟩
  · cases he
theorem row_first (s : Shp) (a : Gd) : ∀ {l : List Gd}, (∀ b ∈ l, b.st.box ≠ a.st.box) → mineF a.st.box ((l.map fun b => (a, b)).filterMap (clB s)) = (l.filter fun g => nr s a g).map (·.st.box)
  | [], _ => rfl
  | b :: l, h => by
    have ih := row_first s a (l := l) fun c hc => h c (List.mem_cons_of_mem _ hc)
    have hb : b.st.box ≠ a.st.box := h b (List.mem_cons_self ..)
    rw [List.map_cons, List.filterMap_cons, clB_eq]
    cases hn : nr s a b with
    | true =>
      rw [List.filter_cons_of_pos (by simpa using hn)]
      simp only [if_true, List.map_cons]
      rw [← ih]
      simp [mineF, hb]
    | false =>
      rw [List.filter_cons_of_neg (by simp [hn])]
      simpa using ih
theorem row_other (s : Shp) (a x : Gd) (hax : a.st.box ≠ x.st.box) : ∀ {l : List Gd}, (l.map (·.st.box)).Nodup → x ∈ l → mineF x.st.box ((l.map fun b => (a, b)).filterMap (clB s)) = if nr s a x then [a.st.box] else []
  | [], _, h => by cases h
  | b :: l, hn, h => by
    rw [List.map_cons, List.nodup_cons] at hn
    rw [List.map_cons, List.filterMap_cons, clB_eq]
    rcases List.mem_cons.1 h with rfl | h
    · have hno := row_none s a (x := x.st.box) (l := l) hax fun b hb e => hn.1 (List.mem_map.2 ⟨b, hb, e⟩)
      cases hnr : nr s a x with
      | true =>
        simp only [if_true]
        rw [show ∀ c : Cl, ∀ L, c :: L = [c] ++ L from fun _ _ => rfl, mine_append, hno]
        simp [mineF, hax]
      | false => simpa using hno
    · have ih := row_other s a x hax hn.2 h
      have hb : b.st.box ≠ x.st.box := fun e => hn.1 (List.mem_map.2 ⟨x, h, e.symm⟩)
      cases hnr : nr s a b with
      | true =>
        simp only [if_true]
        rw [show ∀ c : Cl, ∀ L, c :: L = [c] ++ L from fun _ _ => rfl, mine_append, ih]
        simp [mineF, hax, hb]
      | false => simpa using ih
theorem clash_ids (s : Shp) {l : List Gd} {c : Cl} (h : c ∈ (pairsG l).filterMap (clB s)) : ∃ a b, [a, b].Sublist l ∧ c.a = a.st.box ∧ c.b = b.st.box ∧ c.code = codeG a b ∧ nr s a b = true := by
  obtain ⟨⟨a, b⟩, hp, he⟩ := List.mem_filterMap.1 h
  rw [clB_eq] at he
  split at he
  · rename_i hn
    injection he with he
    subst he
    exact ⟨a, b, mem_pairsG hp, rfl, rfl, rfl, hn⟩
  · cases he
theorem sub_mem {α : Type} {a b : α} {l : List α} (h : [a, b].Sublist l) : a ∈ l ∧ b ∈ l := ⟨h.subset (by simp), h.subset (by simp)⟩
/-- The boxes with which a box clashes are those that are against it. -/
theorem mine_all (s : Shp) {x : Gd} : ∀ {l : List Gd}, (l.map (·.st.box)).Nodup → (∀ a ∈ l, ∀ b ∈ l, nr s a b = nr s b a) → x ∈ l → mineF x.st.box ((pairsG l).filterMap (clB s)) = (l.filter fun g => g.st.box != x.st.box && nr s g x).map (·.st.box)
  | [], _, _, h => by cases h
  | a :: l, hn, hs, h => by
    rw [List.map_cons, List.nodup_cons] at hn
    unfold pairsG
    rw [List.filterMap_append, mine_append]
    have hne : ∀ b ∈ l, b.st.box ≠ a.st.box := fun b hb e => hn.1 (List.mem_map.2 ⟨b, hb, e⟩)
    rcases List.mem_cons.1 h with rfl | h
    · rw [row_first s x hne, mine_none (cs := (pairsG l).filterMap (clB s)) fun c hc => by
        obtain ⟨a, b, h1, h2, h3, _⟩ := clash_ids s hc
        obtain ⟨h4, h5⟩ := sub_mem h1
        rw [h2, h3]
        exact ⟨hne a h4, hne b h5⟩]
      rw [List.append_nil, List.filter_cons_of_neg (by simp)]
      congr 1
      refine List.filter_congr fun b hb => ?_
      rw [hs x (List.mem_cons_self ..) b (List.mem_cons_of_mem _ hb)]
      simp [hne b hb]
    · have ih := mine_all s (x := x) hn.2 (fun a ha b hb => hs a (List.mem_cons_of_mem _ ha) b (List.mem_cons_of_mem _ hb)) h
      have hax : a.st.box ≠ x.st.box := fun e => hne x h e.symm
      rw [ih, row_other s a x hax hn.2 h]
      cases hnr : nr s a x with
      | true => rw [List.filter_cons_of_pos (by simp [hax, hnr])]; simp
      | false => rw [List.filter_cons_of_neg (by simp [hnr])]; simp
theorem filterMap_congr14 {α β : Type} {f g : α → Option β} : ∀ {l : List α}, (∀ x ∈ l, f x = g x) → l.filterMap f = l.filterMap g
  | [], _ => rfl
  | x :: l, h => by
    rw [List.filterMap_cons, List.filterMap_cons, h x (List.mem_cons_self ..), filterMap_congr14 fun y hy => h y (List.mem_cons_of_mem _ hy)]
/-- Without a box the clashes are those that do not name it. -/
theorem clash_less (s : Shp) (x : Int) (l : List Gd) : ((pairsG l).filterMap (clB s)).filter (fun c => c.a != x && c.b != x) = (pairsG (l.filter fun g => g.st.box != x)).filterMap (clB s) := by
  let f : Gd × Gd → Option Cl := fun p => if p.1.st.box != x && p.2.st.box != x then clB s p else none
  have hf : ∀ a b, f (a, b) = if a.st.box != x && b.st.box != x then clB s (a, b) else none := fun _ _ => rfl
  have h1 : ((pairsG l).filterMap (clB s)).filter (fun c => c.a != x && c.b != x) = (pairsG l).filterMap f := by
    generalize pairsG l = L
    induction L with
    | nil => rfl
    | cons p L ih =>
      obtain ⟨a, b⟩ := p
      rw [List.filterMap_cons, List.filterMap_cons, hf, clB_eq]
      cases hn : nr s a b with
      | true =>
        cases hx : (a.st.box != x && b.st.box != x) with
        | true => simp only [if_true]; rw [List.filter_cons_of_pos (by simpa using hx), ih]
        | false => simp only [if_true, Bool.false_eq_true, if_false]; rw [List.filter_cons_of_neg (by simp [hx]), ih]
      | false =>
        cases hx : (a.st.box != x && b.st.box != x) with
        | true => simpa using ih
        | false => simpa using ih
  have h2 := pairsG_filter (fun g : Gd => g.st.box != x) f (fun a b h => by
    rw [hf]
    rcases h with h | h
    · rw [show (a.st.box != x) = false from h]; rfl
    · rw [show (b.st.box != x) = false from h, Bool.and_false]; rfl) l
  rw [h1, h2]
  have h3 : ∀ p ∈ pairsG (l.filter fun g => g.st.box != x), f p = clB s p := by
    rintro ⟨a, b⟩ hp
    obtain ⟨h4, h5⟩ := sub_mem (mem_pairsG hp)
    have h6 := (List.mem_filter.1 h4).2
    have h7 := (List.mem_filter.1 h5).2
    rw [hf, show (a.st.box != x) = true from h6, show (b.st.box != x) = true from h7]; rfl
  exact filterMap_congr14 h3
end Go.Proofs.YtmhikcleekfbpaaDoor
