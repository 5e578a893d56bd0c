/-
  Plain facts on ships that Built makes.
-/
import Derived.Test.YtggebllkkiennaaDoorShN
namespace Go.Proofs.YtggebllkkiennaaDoor
open Go.RowKit

theorem mem_pickFrom {α : Type} (p : α → Bool) (d : α) (z : Int) : ∀ (l : List α) (k : Nat), z ∈ pickFrom p l k ↔ ∃ m : Nat, m < l.length ∧ z = ((k + m : Nat) : Int) ∧ p (l.getD m d) = true
  | [], k => by simp [pickFrom]
  | x :: l, k => by
    have ih := mem_pickFrom p d z l (k + 1)
    unfold pickFrom
    constructor
    · intro h
      by_cases hp : p x = true
      · rw [if_pos hp] at h
        rcases List.mem_cons.1 h with h | h
        · exact ⟨0, by simp, by simpa using h, by simpa using hp⟩
        · obtain ⟨m, h1, h2, h3⟩ := ih.1 h
          exact ⟨m + 1, by simpa using h1, by omega, by simpa using h3⟩
      · rw [if_neg hp] at h
        obtain ⟨m, h1, h2, h3⟩ := ih.1 h
        exact ⟨m + 1, by simpa using h1, by omega, by simpa using h3⟩
    · rintro ⟨m, h1, h2, h3⟩
      cases m with
      | zero =>
        have hp : p x = true := by simpa using h3
        rw [if_pos hp]
        exact List.mem_cons.2 (.inl (by simpa using h2))
      | succ m =>
        have : z ∈ pickFrom p l (k + 1) := ih.2 ⟨m, by simpa using h1, by omega, by simpa using h3⟩
        split
        · exact List.mem_cons.2 (.inr this)
        · exact this
theorem mem_pick {α : Type} (p : α → Bool) (d : α) (z : Int) (l : List α) : z ∈ pick p l ↔ ∃ m : Nat, m < l.length ∧ z = (m : Int) ∧ p (l.getD m d) = true := by
  unfold pick
  rw [mem_pickFrom p d z l 0]
  simp
theorem pickFrom_lt {α : Type} (p : α → Bool) : ∀ (l : List α) (k : Nat), (pickFrom p l k).Pairwise (· < ·) ∧ ∀ z ∈ pickFrom p l k, (k : Int) ≤ z
  | [], k => by simp [pickFrom]
  | x :: l, k => by
    have ih := pickFrom_lt p l (k + 1)
    unfold pickFrom
    split
    · refine ⟨List.pairwise_cons.2 ⟨fun z hz => by have := ih.2 z hz; omega, ih.1⟩, fun z hz => ?_⟩
      rcases List.mem_cons.1 hz with h | h
      · omega
      · have := ih.2 z h; omega
    · exact ⟨ih.1, fun z hz => by have := ih.2 z hz; omega⟩
theorem pick_nodup {α : Type} (p : α → Bool) (l : List α) : (pick p l).Nodup := (pickFrom_lt p l 0).1.imp fun h => by omega
theorem pick_nil {α : Type} (p : α → Bool) (l : List α) (d : α) (h : ∀ m, m < l.length → p (l.getD m d) = false) : pick p l = [] := by
  cases hp : pick p l with
  | nil => rfl
  | cons z L =>
    have : z ∈ pick p l := by rw [hp]; simp
    obtain ⟨m, h1, _, h3⟩ := (mem_pick p d z l).1 this
    rw [h m h1] at h3
    cases h3
/-- The first that is wanted. -/
theorem pick_first {α : Type} (p : α → Bool) (l : List α) (d : α) (m : Nat) (hm : m < l.length) (h1 : p (l.getD m d) = true) (h2 : ∀ j, j < m → p (l.getD j d) = false) : ∃ L, pick p l = (m : Int) :: L := by
  have hmem := (mem_pick p d m l).2 ⟨m, hm, rfl, h1⟩
  cases hp : pick p l with
  | nil => rw [hp] at hmem; cases hmem
  | cons z L =>
    have hz : z ∈ pick p l := by rw [hp]; simp
    obtain ⟨j, hj, rfl, hj3⟩ := (mem_pick p d z l).1 hz
    have hord := (pickFrom_lt p l 0).1
    rw [show pickFrom p l 0 = pick p l from rfl, hp] at hord
    rw [hp] at hmem
    rw [List.pairwise_cons] at hord
    rcases List.mem_cons.1 hmem with e | hin
    · exact ⟨L, by rw [e]⟩
    · have := hord.1 _ hin
      have hjm : j < m := by omega
      rw [h2 j hjm] at hj3
      cases hj3
theorem nodup_sub {α : Type} [DecidableEq α] : ∀ {l m : List α}, l.Nodup → (∀ x ∈ l, x ∈ m) → l.length ≤ m.length
  | [], m, _, _ => by simp
  | x :: l, m, hn, hs => by
    rw [List.nodup_cons] at hn
    have hx : x ∈ m := hs x (by simp)
    have := nodup_sub (l := l) (m := m.erase x) hn.2 (fun y hy => by
      rw [List.mem_erase_of_ne (by rintro rfl; exact hn.1 hy)]
      exact hs y (by simp [hy]))
    rw [List.length_erase_of_mem hx] at this
    have h0 : 0 < m.length := List.length_pos_of_mem hx
    simp only [List.length_cons]
    omega
theorem nodup_map_on {α β : Type} {f : α → β} {l : List α} (h : l.Nodup) (hf : ∀ x ∈ l, ∀ y ∈ l, f x = f y → x = y) : (l.map f).Nodup := by
  unfold List.Nodup
  rw [List.pairwise_map]
  exact List.Pairwise.imp_of_mem (fun ha hb hne e => hne (hf _ ha _ hb e)) h
/-- Two columns of one ship with the same place are one. -/
theorem cols_inj {l : List Col} (h : Cols l) {i j : Nat} (hi : i < l.length) (hj : j < l.length) (he : keyC (l.getD i default) = keyC (l.getD j default)) : i = j := by
  have hn := h.2
  have h1 : (l.map keyC)[i]'(by simpa using hi) = (l.map keyC)[j]'(by simpa using hj) := by
    simpa [hi, hj] using he
  exact (List.getElem_inj hn).1 h1
theorem cols_mem {l : List Col} (h : Cols l) {i : Nat} (hi : i < l.length) : GoodCol (l.getD i default) := h.1 _ (getD_memD hi default)
theorem good_i64 {c : Col} (h : GoodCol c) : I64 c.bay ∧ I64 c.row ∧ I64 c.tiers := by
  have := h.bay; have := h.row; have := h.tiers
  unfold I64
  omega
theorem once_of_nodup {L : List (Int × Int × Int)} (h : L.Nodup) : once L = true := by
  unfold once
  rw [List.all_eq_true]
  intro k _
  simpa using List.nodup_iff_count.1 h k
theorem sub_flatMap {α β : Type} (f : α → List β) {l m : List α} (h : l.Sublist m) : (l.flatMap f).Sublist (m.flatMap f) := by
  induction h with
  | slnil => exact List.Sublist.refl _
  | cons a _ ih =>
    rw [List.flatMap_cons]
    exact ih.trans (List.sublist_append_right _ _)
  | cons_cons a _ ih =>
    rw [List.flatMap_cons, List.flatMap_cons]
    exact (List.Sublist.refl _).append ih
theorem all_keys : ((allTo 5).flatMap keysX).Nodup := by decide
theorem all_covs : ∀ x ∈ allTo 5, covOK x = true ∧ 0 ≤ x.bay ∧ x.bay ≤ 4 ∧ x.rows.length ≤ 3 := by decide
theorem good_ok {c : Col} (h : GoodCol c) : colOK c = true := by
  have h1 := h.bay; have h2 := h.row; have h3 := h.tiers; have h4 := h.x; have h5 := h.y; have h6 := h.z
  unfold colOK spans
  rw [h.plugs, h.height, h.k20, h.k40, h.lash, h6]
  simp [inB]
  split <;> omega
theorem built_few {l : List Col} {covs : List Cov} (h : Cols l) (hl : l.length ≤ 12) (hc : covs.Sublist (allTo 5)) : Few (shp0 l covs) := by
  refine ⟨by show l.length ≤ 1000000; omega, ?_, fun x hx => ?_, fun x hx => ?_⟩
  · have := hc.length_le
    have h2 : (allTo 5).length = 10 := by decide
    show covs.length ≤ 1000000
    omega
  · have := (all_covs x (hc.subset hx)).2.2.2
    omega
  · rw [(h.1 x hx).plugs]; simp
theorem built_ints {l : List Col} {covs : List Cov} (h : Cols l) : Ints (shp0 l covs) := ⟨fun c hc => good_i64 (h.1 c hc)⟩
theorem built_rows {l : List Col} {covs : List Cov} (h : Cols l) : ∀ c ∈ (shp0 l covs).cols, I64 c.row := fun c hc => (good_i64 (h.1 c hc)).2.1
theorem built_right {l : List Col} {covs : List Cov} (h : Cols l) (hl : 1 ≤ l.length ∧ l.length ≤ 12) (hc : covs.Sublist (allTo 5)) : rightF (shp0 l covs) = true := by
  have hcl := hc.length_le
  have h10 : (allTo 5).length = 10 := by decide
  unfold rightF
  rw [show decide (1 ≤ (shp0 l covs).cols.length ∧ (shp0 l covs).cols.length ≤ 200 ∧ (shp0 l covs).covs.length ≤ 40) = true by
    rw [decide_eq_true_iff]
    refine ⟨hl.1, ?_, ?_⟩
    · show l.length ≤ 200; omega
    · show covs.length ≤ 40; omega]
  rw [show (shp0 l covs).cols.all colOK = true by rw [List.all_eq_true]; exact fun c hc => good_ok (h.1 c hc)]
  rw [show (shp0 l covs).covs.all covOK = true by rw [List.all_eq_true]; exact fun x hx => (all_covs x (hc.subset hx)).1]
  rw [show once (keysOf (shp0 l covs)) = true by
    apply once_of_nodup
    unfold keysOf
    rw [List.nodup_append]
    refine ⟨h.2, (sub_flatMap keysX hc).nodup all_keys, fun a ha b hb e => ?_⟩
    subst e
    obtain ⟨c, hcm, rfl⟩ := List.mem_map.1 ha
    obtain ⟨x, hx, hk⟩ := List.mem_flatMap.1 hb
    unfold keysX at hk
    obtain ⟨r, hr, e⟩ := List.mem_map.1 hk
    unfold keyC at e
    simp only [Prod.mk.injEq] at e
    have := e.2.2
    split at this <;> omega]
  rfl
/-- Who is beside whom. -/
theorem besB_symm (a c : Col) : besB a c = besB c a := by
  unfold besB
  rw [Bool.eq_iff_iff]
  simp
  constructor
  · rintro ⟨h1, h2, h3⟩; exact ⟨h1.symm, h2.symm, by omega⟩
  · rintro ⟨h1, h2, h3⟩; exact ⟨h1.symm, h2.symm, by omega⟩
theorem besB_iff (a c : Col) : besB a c = true ↔ c.bay = a.bay ∧ c.deck = a.deck ∧ (c.row = a.row + 1 ∨ c.row = a.row - 1) := by
  unfold besB
  simp
  intro _ _
  omega
theorem beside_mem {l : List Col} {covs : List Cov} {i : Nat} (hi : i < l.length) (z : Int) : z ∈ besideF (shp0 l covs) i ↔ ∃ m : Nat, m < l.length ∧ z = (m : Int) ∧ besB (l.getD i default) (l.getD m default) = true := by
  have : besideF (shp0 l covs) i = pick (besB (l.getD i default)) l := by
    unfold besideF
    rw [if_neg (by show ¬ ((i : Int) < 0 ∨ (l.length : Int) ≤ (i : Int)); omega), Int.toNat_natCast]
    rfl
  rw [this, mem_pick _ default]
theorem beside_two {l : List Col} {covs : List Cov} (h : Cols l) {i : Nat} (hi : i < l.length) : (besideF (shp0 l covs) i).length ≤ 2 := by
  have he : besideF (shp0 l covs) i = pick (besB (l.getD i default)) l := by
    unfold besideF
    rw [if_neg (by show ¬ ((i : Int) < 0 ∨ (l.length : Int) ≤ (i : Int)); omega), Int.toNat_natCast]
    rfl
  generalize ha : l.getD i default = a at *
  have hnd := pick_nodup (besB a) l
  have hmem : ∀ z ∈ pick (besB a) l, ∃ m : Nat, m < l.length ∧ z = (m : Int) ∧ besB a (l.getD m default) = true := fun z hz => (mem_pick _ default z l).1 hz
  rw [he]
  have hk : ((pick (besB a) l).map fun z => keyC (l.getD z.toNat default)).Nodup := by
    refine nodup_map_on hnd fun x hx y hy e => ?_
    obtain ⟨m, hm, rfl, _⟩ := hmem x hx
    obtain ⟨n, hn, rfl, _⟩ := hmem y hy
    simp only [Int.toNat_natCast] at e
    rw [cols_inj h hm hn e]
  have hs : ∀ k ∈ (pick (besB a) l).map fun z => keyC (l.getD z.toNat default), k ∈ [(a.bay, a.row + 1, if a.deck then (1 : Int) else 0), (a.bay, a.row - 1, if a.deck then (1 : Int) else 0)] := by
    intro k hk
    obtain ⟨z, hz, rfl⟩ := List.mem_map.1 hk
    obtain ⟨m, hm, rfl, hb⟩ := hmem z hz
    rw [Int.toNat_natCast]
    obtain ⟨h1, h2, h3⟩ := (besB_iff _ _).1 hb
    unfold keyC
    rw [h1, h2]
    rcases h3 with h3 | h3 <;> rw [h3] <;> simp
  have := nodup_sub hk hs
  simpa using this
theorem apart_same {l : List Col} {covs : List Cov} (h : Cols l) {i k : Nat} (hi : i < l.length) (hk : k < l.length) :
    apartF (shp0 l covs) i k = (if (l.getD i default).bay < (l.getD k default).bay then (l.getD k default).bay - (l.getD i default).bay else (l.getD i default).bay - (l.getD k default).bay, true) := by
  have h1 := (cols_mem h hi).bay
  have h2 := (cols_mem h hk).bay
  unfold apartF
  rw [if_neg (by show ¬ (((i : Int) < 0 ∨ (k : Int) < 0) ∨ ((l.length : Int) ≤ (i : Int) ∨ (l.length : Int) ≤ (k : Int))); omega)]
  simp only [Int.toNat_natCast]
  show (if (((l.getD i default).bay < 0 ∨ (l.getD k default).bay < 0) ∨ (40 ≤ (l.getD i default).bay ∨ 40 ≤ (l.getD k default).bay)) then ((0 : Int), false) else _) = _
  rw [if_neg (by omega)]
  show (if (l.getD i default).bay < (l.getD k default).bay then _ else _) = _
  split <;> rfl
end Go.Proofs.YtggebllkkiennaaDoor
