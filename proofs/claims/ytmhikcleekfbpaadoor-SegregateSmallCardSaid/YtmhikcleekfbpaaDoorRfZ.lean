/-
  Contracts and lemmas, in one text: RfA, RfB, RfC, RfD, RfP, RfE, RfF.
-/
import Derived.Test.YtmhikcleekfbpaaDoorB3
import Derived.IntWalk
import Derived.Test.YtmhikcleekfbpaaDoorB4
namespace Go.Proofs.YtmhikcleekfbpaaDoor
open Go.RowKit

def withinB (n low high : Int) : Bool := decide (low ≤ n) && decide (n ≤ high)
set_option maxHeartbeats 1000000 in
theorem within_any (n lo hi : Int) (w : World) : Calls Tryd.prog 72 #[.int .i64 n, .int .i64 lo, .int .i64 hi] w fun e w' => e = .returned (.bool (withinB n lo hi)) ∧ w = w' := by
  unfold withinB
  by_cases h1 : lo ≤ n
  · by_cases h2 : n ≤ hi
    · have e1 : decide (lo ≤ n) = true := decide_eq_true h1
      have e2 : decide (n ≤ hi) = true := decide_eq_true h2
      rw [e1, e2]
      go_enter Tryd.func72, Tryd.ntmps72
      go_wp2
      go_ret
      exact ⟨rfl, rfl⟩
    · have e1 : decide (lo ≤ n) = true := decide_eq_true h1
      have e2 : decide (n ≤ hi) = false := decide_eq_false h2
      rw [e1, e2]
      go_enter Tryd.func72, Tryd.ntmps72
      go_wp2
      go_ret
      exact ⟨rfl, rfl⟩
  · have e1 : decide (lo ≤ n) = false := decide_eq_false h1
    rw [e1]
    go_enter Tryd.func72, Tryd.ntmps72
    go_wp2
    go_ret
    exact ⟨rfl, rfl⟩
end Go.Proofs.YtmhikcleekfbpaaDoor
namespace Go.Proofs.YtmhikcleekfbpaaDoor
open Go.RowKit

theorem besB_self (a : Col) : besB a a = false := by unfold besB; simp
theorem besB_no {a x : Col} (h : x.row = a.row ∨ (a.row < x.row ∧ a.row + 1 ≠ x.row) ∨ (x.row < a.row ∧ x.row + 1 ≠ a.row)) : besB a x = false := by
  unfold besB
  have : (decide (a.row < x.row) && (x.row - 1 == a.row) || decide (x.row < a.row) && (x.row + 1 == a.row)) = false := by
    simp only [Bool.or_eq_false_iff, Bool.and_eq_false_iff, decide_eq_false_iff_not, beq_eq_false_iff_ne]
    omega
  rw [this]; simp
theorem besB_yes {a x : Col} (h : (a.row < x.row ∧ a.row + 1 = x.row) ∨ (x.row < a.row ∧ x.row + 1 = a.row)) : besB a x = (x.bay == a.bay && x.deck == a.deck) := by
  unfold besB
  have : (decide (a.row < x.row) && (x.row - 1 == a.row) || decide (x.row < a.row) && (x.row + 1 == a.row)) = true := by
    simp only [Bool.or_eq_true, Bool.and_eq_true, decide_eq_true_eq, beq_iff_eq]
    omega
  rw [this]; simp
end Go.Proofs.YtmhikcleekfbpaaDoor
namespace Go.Proofs.YtmhikcleekfbpaaDoor
open Go.RowKit

theorem pick_hit {α : Type} {p : α → Bool} {l : List α} {i : Nat} {d : α} (h0 : pick p (l.take i) = []) (hi : i < l.length) (hp : p (l.getD i d) = true) : ∃ r, pick p l = (i : Int) :: r := by
  have h1 := pick_take p hi d
  rw [h0, if_pos hp] at h1
  refine ⟨pickFrom p (l.drop (i + 1)) (0 + (l.take (i + 1)).length), ?_⟩
  show pickFrom p l 0 = _
  conv => lhs; rw [← List.take_append_drop (i + 1) l, pickFrom_append]
  rw [show pickFrom p (l.take (i + 1)) 0 = [(i : Int)] from h1]
  rfl
theorem pick_next {α : Type} {p : α → Bool} {l : List α} {i : Nat} {d : α} (h0 : pick p (l.take i) = []) (hi : i < l.length) (hp : p (l.getD i d) = false) : pick p (l.take (i + 1)) = [] := by
  rw [pick_take p hi d, h0, hp]; simp
theorem pickFrom_pos {α : Type} (p : α → Bool) : ∀ (l : List α) (k : Nat), decide (0 < (pickFrom p l k).length) = l.any p
  | [], _ => rfl
  | x :: l, k => by
    have ih := pickFrom_pos p l (k + 1)
    unfold pickFrom
    rw [List.any_cons]
    split
    · rename_i h; rw [h]; simp
    · rename_i h
      have h' : p x = false := by simpa using h
      rw [ih, h']
      simp
set_option maxRecDepth 100000 in
set_option maxHeartbeats 4000000 in
theorem inside_any (A : Option Addr) (c : Nat) (l : List Int) (row : Int) (w : World) (hs : SlT tInt w (Lt w.heap.size) A l) (hl : l.length ≤ 17592186043904) :
    Calls Tryd.prog 74 #[.slice A l.length c, .int .i64 row] w (Ret w (.bool (decide (0 < (pick (· == row) l).length)))) := by
  have HV : Hid (decide (0 < (pick (· == row) l).length) = l.any (· == row)) := Lib.hid (pickFrom_pos _ _ _)
  generalize decide (0 < (pick (· == row) l).length) = r at *
  have HS := Lib.hid hs
  clear hs
  go_enter Tryd.func74, Tryd.ntmps74
  go_wp2_with fail
  go_loopw [5] (fun i wr => ∃ k : Nat, k ≤ l.length ∧ i = .int .i64 k ∧ Hid ((∀ j, j < k → l.getD j 0 ≠ row) ∧ Below w.heap.size w wr)) (fun i _ => l.length - (intOf i).toNat)
  case atStart => exact ⟨0, Nat.zero_le _, rfl, Lib.hid (And.intro (fun j hj => absurd hj (by omega)) (Below.refl _ _))⟩
  case round =>
    obtain ⟨k, hk, rfl, HB⟩ := hrel
    obtain ⟨V, rfl⟩ : ∃ V, V = wr := ⟨_, rfl⟩
    by_cases hlt : k < l.length
    · obtain ⟨b1, o1, rfl, _, e1⟩ := (HS.out.on HB.out.2).int hlt
      have i0 : (0 : Int) ≤ (k : Int) := by omega
      have i1 : (k : Int) < (l.length : Int) := by omega
      by_cases hx : l.getD k 0 = row
      · have HY : Hid (r = true) := Lib.hid (by rw [HV.out]; exact List.any_eq_true.2 ⟨_, getD_memD hlt 0, by simpa using hx⟩)
        have b1 : (l.getD k 0 == row) = true := by simpa using hx
        have HE := Lib.hid HB.out.2
        clear hx HB
        generalize l.getD k 0 = x at *
        go_wp2_with fail
        go_ret
        exact ⟨by rw [HY.out]; rfl, HE.out⟩
      · have b1 : (l.getD k 0 == row) = false := by simpa using hx
        have HN := Lib.hid (And.intro (show ∀ j, j < k + 1 → l.getD j 0 ≠ row from fun j hj => by
          rcases Nat.lt_succ_iff_lt_or_eq.1 hj with h | h
          · exact HB.out.1 j h
          · rw [h]; exact hx) HB.out.2)
        clear hx HB
        generalize l.getD k 0 = x at *
        go_wp2_with fail
        go_roundw
        case rel => first | exact ⟨k + 1, by omega, by go_num, HN⟩ | ((repeat apply Exists.intro); (first | exact ⟨⟨k + 1, by omega, by go_num, HN⟩, rfl⟩ | exact ⟨by omega, by go_num, HN⟩))
        case measure => simp [intOf]; omega
    · obtain rfl : k = l.length := by omega
      have HY : Hid (r = false) := Lib.hid (by
        rw [HV.out, List.any_eq_false]
        intro x hx
        obtain ⟨j, hj, rfl⟩ := List.getElem_of_mem hx
        have := HB.out.1 j hj
        simpa [hj] using this)
      have HE := Lib.hid HB.out.2
      clear HB
      go_wp2_with fail
      go_ret
      exact ⟨by rw [HY.out]; rfl, HE.out⟩
end Go.Proofs.YtmhikcleekfbpaaDoor
namespace Go.Proofs.YtmhikcleekfbpaaDoor
open Go.RowKit

end Go.Proofs.YtmhikcleekfbpaaDoor
namespace Go.Proofs.YtmhikcleekfbpaaDoor
open Go.RowKit

/-- The plug i of a column, as the reference checks it. -/
def plugR (c : Col) (i : Nat) : Bool := !(decide (c.plugs.getD i 0 < 0) || decide (c.tiers ≤ c.plugs.getD i 0)) && !(decide (0 < i) && decide (c.plugs.getD i 0 ≤ c.plugs.getD (i - 1) 0))
def limR (c : Col) : Bool :=
  withinB c.bay 0 39 && (withinB c.row 0 30 && (withinB c.tiers 1 10 && (withinB c.height 0 40000 && ((withinB c.k20 0 500000000 && (withinB c.k40 0 500000000 && withinB c.lash 0 1000000000000)) && (withinB c.x (-500000) 500000 && (withinB c.y (-500000) 500000 && withinB c.z (-500000) 500000))))))
def colR (c : Col) : Bool := (List.range c.plugs.length).all (plugR c) && limR c
theorem lim_spans (c : Col) : limR c = (spans c).all inB := by
  unfold limR spans withinB
  rw [Bool.eq_iff_iff]
  simp only [Bool.and_eq_true, decide_eq_true_eq, List.all_cons, List.all_nil, inB, Bool.and_true, Bool.not_eq_true', Bool.or_eq_false_iff, decide_eq_false_iff_not]
  omega
theorem colR_eq (c : Col) : colR c = colOK c := by
  unfold colR colOK
  rw [lim_spans]
  by_cases ht : 1 ≤ c.tiers ∧ c.tiers ≤ 10
  · have : ∀ i, plugR c i = plugOK c i := fun i => by
      unfold plugR plugOK
      rw [IntWalk.wrap64_in _ (by omega), Bool.eq_iff_iff]
      simp only [inB, Bool.and_eq_true, Bool.not_eq_true', Bool.or_eq_false_iff, decide_eq_false_iff_not, Bool.and_eq_false_iff]
      omega
    rw [funext this]
  · have : (spans c).all inB = false := by
      rw [List.all_eq_false]
      refine ⟨(c.tiers, 1, 10), by simp [spans], ?_⟩
      simp only [inB, Bool.not_eq_true, Bool.not_eq_false', Bool.or_eq_true, decide_eq_true_eq]
      omega
    rw [this]; simp
/-- The first i columns, as the reference checks them. -/
def okTo (s : Shp) (i : Nat) : Prop := ∀ a, a < i → colOK (s.cols.getD a default) = true ∧ ∀ b, b < a → keyC (s.cols.getD b default) ≠ keyC (s.cols.getD a default)
def covTo (s : Shp) (i : Nat) : Prop := ∀ a, a < i → covOK (s.covs.getD a default) = true ∧ ∀ r ∈ (s.covs.getD a default).rows, ∀ b, b < a → ¬ ((s.covs.getD b default).bay = (s.covs.getD a default).bay ∧ r ∈ (s.covs.getD b default).rows)
theorem once_nodup (L : List (Int × Int × Int)) : once L = true ↔ L.Nodup := by
  constructor
  · intro h
    rw [List.nodup_iff_count]
    intro a
    unfold once at h
    rw [List.all_eq_true] at h
    by_cases ha : a ∈ L
    · simpa using h a ha
    · rw [List.count_eq_zero_of_not_mem ha]; omega
  · exact once_of_nodup
theorem pairwise_getD {α : Type} (R : α → α → Prop) (d : α) : ∀ (l : List α), l.Pairwise R ↔ ∀ a, a < l.length → ∀ b, b < a → R (l.getD b d) (l.getD a d) := by
  intro l
  rw [List.pairwise_iff_getElem]
  constructor
  · intro h a ha b hb
    have := h b a (by omega) ha hb
    simpa [ha, show b < l.length by omega] using this
  · intro h i j hi hj hij
    have := h j hj i hij
    simpa [hi, hj] using this
theorem rows_nodup {x : Cov} (h : covOK x = true) : x.rows.Nodup := by
  unfold covOK at h
  rw [Bool.and_eq_true, List.all_eq_true] at h
  have hs : ∀ i, 0 < i → i < x.rows.length → x.rows.getD (i - 1) 0 < x.rows.getD i 0 := fun i h0 hi => by
    have := h.2 i (by simpa using hi)
    unfold rowOK at this
    simp only [Bool.not_eq_true', Bool.or_eq_false_iff, Bool.and_eq_false_iff, decide_eq_false_iff_not] at this
    omega
  have hl : ∀ a b, b < a → a < x.rows.length → x.rows.getD b 0 < x.rows.getD a 0 := by
    intro a
    induction a with
    | zero => intro b hb; omega
    | succ a ih =>
      intro b hb ha
      have h1 := hs (a + 1) (by omega) ha
      rw [Nat.add_sub_cancel] at h1
      by_cases e : b = a
      · rw [e]; exact h1
      · exact Int.lt_trans (ih b (by omega) (by omega)) h1
  unfold List.Nodup
  rw [pairwise_getD _ 0]
  intro a ha b hb
  have := hl a b hb ha
  omega
theorem mem_keysX {x : Cov} {k : Int × Int × Int} : k ∈ keysX x ↔ k.1 = x.bay ∧ k.2.1 ∈ x.rows ∧ k.2.2 = 2 := by
  unfold keysX
  rw [List.mem_map]
  constructor
  · rintro ⟨r, hr, rfl⟩; exact ⟨rfl, hr, rfl⟩
  · rintro ⟨h1, h2, h3⟩; exact ⟨k.2.1, h2, by rw [← h1, ← h3]⟩
theorem keysX_nodup {x : Cov} (h : x.rows.Nodup) : (keysX x).Nodup := by
  unfold keysX
  exact nodup_map_on h fun a _ b _ e => by simpa using e
theorem keys_iff {s : Shp} (hc : ∀ x ∈ s.covs, x.rows.Nodup) : (keysOf s).Nodup ↔ (∀ a, a < s.cols.length → ∀ b, b < a → keyC (s.cols.getD b default) ≠ keyC (s.cols.getD a default)) ∧
    (∀ a, a < s.covs.length → ∀ r ∈ (s.covs.getD a default).rows, ∀ b, b < a → ¬ ((s.covs.getD b default).bay = (s.covs.getD a default).bay ∧ r ∈ (s.covs.getD b default).rows)) := by
  unfold keysOf
  rw [List.nodup_append]
  have hd : ∀ a ∈ s.cols.map keyC, ∀ b ∈ s.covs.flatMap keysX, a ≠ b := by
    intro a ha b hb e
    subst e
    obtain ⟨c, _, rfl⟩ := List.mem_map.1 ha
    obtain ⟨x, _, hx⟩ := List.mem_flatMap.1 hb
    have := (mem_keysX.1 hx).2.2
    unfold keyC at this
    simp only at this
    split at this <;> omega
  have h1 : (s.cols.map keyC).Nodup ↔ ∀ a, a < s.cols.length → ∀ b, b < a → keyC (s.cols.getD b default) ≠ keyC (s.cols.getD a default) := by
    unfold List.Nodup
    rw [List.pairwise_map, pairwise_getD _ default]
  have h2 : (s.covs.flatMap keysX).Nodup ↔ ∀ a, a < s.covs.length → ∀ r ∈ (s.covs.getD a default).rows, ∀ b, b < a → ¬ ((s.covs.getD b default).bay = (s.covs.getD a default).bay ∧ r ∈ (s.covs.getD b default).rows) := by
    unfold List.Nodup
    rw [List.pairwise_flatMap, pairwise_getD _ default]
    constructor
    · rintro ⟨_, h⟩ a ha r hr b hb ⟨e1, e2⟩
      exact h a ha b hb ((s.covs.getD a default).bay, r, 2) (mem_keysX.2 ⟨e1.symm, e2, rfl⟩) _ (mem_keysX.2 ⟨rfl, hr, rfl⟩) rfl
    · intro h
      refine ⟨fun x hx => keysX_nodup (hc x hx), fun a ha b hb x hx y hy e => ?_⟩
      subst e
      have p := mem_keysX.1 hx
      have q := mem_keysX.1 hy
      exact h a ha x.2.1 q.2.1 b hb ⟨p.1.symm.trans q.1, p.2.1⟩
  rw [h1, h2]
  exact ⟨fun h => ⟨h.1, h.2.1⟩, fun h => ⟨h.1, h.2, hd⟩⟩
theorem all_getD {α : Type} (d : α) (p : α → Bool) (l : List α) : l.all p = true ↔ ∀ a, a < l.length → p (l.getD a d) = true := by
  rw [List.all_eq_true]
  constructor
  · intro h a ha; exact h _ (getD_memD ha d)
  · intro h x hx
    obtain ⟨i, hi, rfl⟩ := List.getElem_of_mem hx
    have := h i hi
    simpa [hi] using this
theorem right_iff (s : Shp) : rightF s = true ↔ (1 ≤ s.cols.length ∧ s.cols.length ≤ 200 ∧ s.covs.length ≤ 40) ∧ okTo s s.cols.length ∧ covTo s s.covs.length := by
  unfold rightF okTo covTo
  rw [Bool.and_eq_true, Bool.and_eq_true, Bool.and_eq_true, decide_eq_true_eq, all_getD default, all_getD default, once_nodup]
  constructor
  · rintro ⟨h1, h2, h3, h4⟩
    have hc : ∀ x ∈ s.covs, x.rows.Nodup := fun x hx => by
      obtain ⟨i, hi, rfl⟩ := List.getElem_of_mem hx
      have := h3 i hi
      exact rows_nodup (by simpa [hi] using this)
    obtain ⟨k1, k2⟩ := (keys_iff hc).1 h4
    exact ⟨h1, fun a ha => ⟨h2 a ha, k1 a ha⟩, fun a ha => ⟨h3 a ha, k2 a ha⟩⟩
  · rintro ⟨h1, h2, h3⟩
    have hc : ∀ x ∈ s.covs, x.rows.Nodup := fun x hx => by
      obtain ⟨i, hi, rfl⟩ := List.getElem_of_mem hx
      have := (h3 i hi).1
      exact rows_nodup (by simpa [hi] using this)
    exact ⟨h1, fun a ha => (h2 a ha).1, fun a ha => (h3 a ha).1, (keys_iff hc).2 ⟨fun a ha => (h2 a ha).2, fun a ha => (h3 a ha).2⟩⟩
theorem right_no_cols {s : Shp} {a : Nat} (ha : a < s.cols.length) (h : colOK (s.cols.getD a default) = false) : rightF s = false := by
  rw [Bool.eq_false_iff]; intro h'
  have := (((right_iff s).1 h').2.1 a ha).1
  rw [h] at this; cases this
theorem right_no_keys {s : Shp} {a b : Nat} (ha : a < s.cols.length) (hb : b < a) (h : keyC (s.cols.getD b default) = keyC (s.cols.getD a default)) : rightF s = false := by
  rw [Bool.eq_false_iff]; intro h'
  exact (((right_iff s).1 h').2.1 a ha).2 b hb h
theorem right_no_covs {s : Shp} {a : Nat} (ha : a < s.covs.length) (h : covOK (s.covs.getD a default) = false) : rightF s = false := by
  rw [Bool.eq_false_iff]; intro h'
  have := (((right_iff s).1 h').2.2 a ha).1
  rw [h] at this; cases this
theorem right_no_rows {s : Shp} {a b : Nat} (ha : a < s.covs.length) (hb : b < a) {r : Int} (hr : r ∈ (s.covs.getD a default).rows) (h1 : (s.covs.getD b default).bay = (s.covs.getD a default).bay) (h2 : r ∈ (s.covs.getD b default).rows) : rightF s = false := by
  rw [Bool.eq_false_iff]; intro h'
  exact (((right_iff s).1 h').2.2 a ha).2 r hr b hb ⟨h1, h2⟩
end Go.Proofs.YtmhikcleekfbpaaDoor
namespace Go.Proofs.YtmhikcleekfbpaaDoor
open Go.RowKit

set_option maxRecDepth 100000 in
set_option maxHeartbeats 4000000 in
theorem refColumn_any (c : Col) (A : Option Addr) (q : Nat) (w : World) (hp : SlT tInt w (Lt w.heap.size) A c.plugs) (hl : c.plugs.length ≤ 17592186043904) :
    Calls Tryd.prog 73 #[.agg (colL c A q).toArray] w (Ret w (.bool (colR c))) := by
  have hb0 := ba1 w (.cells (colL c A q).toArray 35)
  have KE := Lib.hid (Bk.new w 35 (colL c A q).toArray)
  have HS := Lib.hid (hp.on hb0)
  have HB0 := Lib.hid hb0
  clear hp hb0
  have HV : Hid (colR c = ((List.range c.plugs.length).all (plugR c) && limR c)) := Lib.hid rfl
  have HPR : Hid (∀ i, plugR c i = (!(decide (c.plugs.getD i 0 < 0) || decide (c.tiers ≤ c.plugs.getD i 0)) && !(decide (0 < i) && decide (c.plugs.getD i 0 ≤ c.plugs.getD (i - 1) 0)))) := Lib.hid fun _ => rfl
  have HLM : Hid (limR c = (withinB c.bay 0 39 && (withinB c.row 0 30 && (withinB c.tiers 1 10 && (withinB c.height 0 40000 && ((withinB c.k20 0 500000000 && (withinB c.k40 0 500000000 && withinB c.lash 0 1000000000000)) && (withinB c.x (-500000) 500000 && (withinB c.y (-500000) 500000 && withinB c.z (-500000) 500000)))))))) := Lib.hid rfl
  have HRS : Hid (∀ i, (List.range (i + 1)).all (plugR c) = ((List.range i).all (plugR c) && plugR c i)) := Lib.hid fun i => range_all_succ
  have HRF : Hid (∀ i, i < c.plugs.length → plugR c i = false → (List.range c.plugs.length).all (plugR c) = false) := Lib.hid fun i h1 h2 => range_all_false h1 h2
  generalize colR c = R at *
  generalize plugR c = pr at *
  generalize limR c = lim at *
  obtain ⟨xb, xr, xd, xt, xh, x2, x4, xl, xp, xx, xy, xz⟩ := c
  unfold colL at *
  simp only at *
  go_enter Tryd.func73, Tryd.ntmps73
  go_upto_region 1 with fail
  generalize hW : (w.alloc _) = W at *
  clear hW
  go_wp2_with fail
  go_loopw [3] (fun i wr => ∃ k : Nat, k ≤ xp.length ∧ i = .int .i64 k ∧ Hid ((List.range k).all pr = true ∧ Below W.heap.size W wr)) (fun i _ => xp.length - (intOf i).toNat)
  case atStart => exact ⟨0, Nat.zero_le _, rfl, Lib.hid (And.intro rfl (Below.refl _ _))⟩
  case round =>
    obtain ⟨k, hk, rfl, HB⟩ := hrel
    obtain ⟨V, rfl⟩ : ∃ V, V = wr := ⟨_, rfl⟩
    have e8 : V.cell? ⟨w.heap.size, 8, none⟩ = some (.slice A xp.length q) := (KE.out.below HB.out.2 KE.out.lt).cell 8
    by_cases hlt : k < xp.length
    · obtain ⟨b1, o1, rfl, _, a0⟩ := (HS.out.on HB.out.2).int hlt
      have e3 : V.cell? ⟨w.heap.size, 3, none⟩ = some (.int .i64 xt) := (KE.out.below HB.out.2 KE.out.lt).cell 3
      have i0 : (0 : Int) ≤ (k : Int) := by omega
      have i1 : (k : Int) < (xp.length : Int) := by omega
      have HPK := Lib.hid (HPR.out k)
      have HRSK := Lib.hid (HRS.out k)
      have HRFK := Lib.hid (HRF.out k hlt)
      have HA := Lib.hid HB.out.1
      have HBV := Lib.hid HB.out.2
      clear HB HRS HRF HPR
      by_cases hbad : xp.getD k 0 < 0 ∨ xt ≤ xp.getD k 0
      · have HY : Hid (R = false) := Lib.hid (by
          rw [HV.out, HRFK.out (by
            rw [HPK.out]
            rcases hbad with h | h
            · rw [decide_eq_true h]; simp
            · rw [decide_eq_true h]; simp)]; simp)
        have hc : xp.getD k 0 < 0 ∨ (¬ xp.getD k 0 < 0 ∧ xt ≤ xp.getD k 0) := by omega
        clear hbad HPK HRSK HRFK HA
        generalize xp.getD k 0 = x at *
        rcases hc with g | ⟨g, g2⟩
        · have d1 : decide (x < 0) = true := decide_eq_true g
          clear g
          go_upto_region 4 with fail
          have e8 : ∀ p : Gr V, p.W.cell? ⟨w.heap.size, 8, none⟩ = some (.slice (some ⟨b1, o1, none⟩) xp.length q) := Gr.cell e8
          have e3 : ∀ p : Gr V, p.W.cell? ⟨w.heap.size, 3, none⟩ = some (.int .i64 xt) := Gr.cell e3
          have a0 : ∀ p : Gr V, p.W.cell? ⟨b1, o1 + k, none⟩ = some (.int .i64 x) := Gr.cell a0
          refine wp_region_gr (by kernel_rfl) (by kernel_rfl) ?_
          repeat (go_big_quiet_step (fail))
          refine wpQuiet_nil ?_
          rintro Y ⟨⟨_, hbY⟩, rfl⟩
          have HE := Lib.hid (HB0.out.trans ((HBV.out.trans (hbY.mono HBV.out.size)).mono HB0.out.size))
          clear hbY
          go_wp2_with fail
          go_ret
          exact ⟨by rw [HY.out]; rfl, HE.out⟩
        · have d1 : decide (x < 0) = false := decide_eq_false g
          have d2 : decide (xt ≤ x) = true := decide_eq_true g2
          clear g g2
          go_upto_region 4 with fail
          have e8 : ∀ p : Gr V, p.W.cell? ⟨w.heap.size, 8, none⟩ = some (.slice (some ⟨b1, o1, none⟩) xp.length q) := Gr.cell e8
          have e3 : ∀ p : Gr V, p.W.cell? ⟨w.heap.size, 3, none⟩ = some (.int .i64 xt) := Gr.cell e3
          have a0 : ∀ p : Gr V, p.W.cell? ⟨b1, o1 + k, none⟩ = some (.int .i64 x) := Gr.cell a0
          refine wp_region_gr (by kernel_rfl) (by kernel_rfl) ?_
          repeat (go_big_quiet_step (fail))
          refine wpQuiet_nil ?_
          rintro Y ⟨⟨_, hbY⟩, rfl⟩
          have HE := Lib.hid (HB0.out.trans ((HBV.out.trans (hbY.mono HBV.out.size)).mono HB0.out.size))
          clear hbY
          go_wp2_with fail
          go_ret
          exact ⟨by rw [HY.out]; rfl, HE.out⟩
      · have g1 : ¬ xp.getD k 0 < 0 := fun h => hbad (.inl h)
        have g2 : ¬ xt ≤ xp.getD k 0 := fun h => hbad (.inr h)
        have d1 : decide (xp.getD k 0 < 0) = false := decide_eq_false g1
        have d2 : decide (xt ≤ xp.getD k 0) = false := decide_eq_false g2
        have HP2 : Hid (pr k = !(decide (0 < k) && decide (xp.getD k 0 ≤ xp.getD (k - 1) 0))) := Lib.hid (by rw [HPK.out, d1, d2]; rfl)
        clear hbad g1 g2 HPK
        cases k with
        | zero =>
          have HN : Hid ((List.range (0 + 1)).all pr = true ∧ Below W.heap.size W V) := Lib.hid ⟨by rw [HRSK.out, HA.out, HP2.out]; rfl, HBV.out⟩
          clear HRSK HRFK HA HP2
          simp only [Nat.add_zero] at a0
          generalize xp.getD 0 0 = x at *
          go_upto_region 4 with fail
          have e8 : ∀ p : Gr V, p.W.cell? ⟨w.heap.size, 8, none⟩ = some (.slice (some ⟨b1, o1, none⟩) xp.length q) := Gr.cell e8
          have e3 : ∀ p : Gr V, p.W.cell? ⟨w.heap.size, 3, none⟩ = some (.int .i64 xt) := Gr.cell e3
          have a0 : ∀ p : Gr V, p.W.cell? ⟨b1, o1, none⟩ = some (.int .i64 x) := Gr.cell a0
          refine wp_region_gr (by kernel_rfl) (by kernel_rfl) ?_
          repeat (go_big_quiet_step (fail))
          refine wpQuiet_nil ?_
          rintro Y ⟨⟨_, hbY⟩, rfl⟩
          have e8 : ∀ p : Gr Y, p.W.cell? ⟨w.heap.size, 8, none⟩ = some (.slice (some ⟨b1, o1, none⟩) xp.length q) := Gr.cell (e8 ⟨Y, hbY⟩)
          have e3 : ∀ p : Gr Y, p.W.cell? ⟨w.heap.size, 3, none⟩ = some (.int .i64 xt) := Gr.cell (e3 ⟨Y, hbY⟩)
          have a0 : ∀ p : Gr Y, p.W.cell? ⟨b1, o1, none⟩ = some (.int .i64 x) := Gr.cell (a0 ⟨Y, hbY⟩)
          have HN2 : Hid ((List.range (0 + 1)).all pr = true ∧ Below W.heap.size W Y) := Lib.hid ⟨HN.out.1, HN.out.2.trans (hbY.mono HN.out.2.size)⟩
          clear HN
          go_upto_region 6 with fail
          refine wp_region_gr (by kernel_rfl) (by kernel_rfl) ?_
          repeat (go_big_quiet_step (fail))
          refine wpQuiet_nil ?_
          rintro Z ⟨⟨_, hbZ⟩, rfl⟩
          have HN := Lib.hid (And.intro HN2.out.1 (HN2.out.2.trans (hbZ.mono HN2.out.2.size)))
          clear HN2 hbZ hbY
          go_wp2_with fail
          go_roundw
          case rel => first | exact ⟨0 + 1, by omega, by go_num, HN⟩ | ((repeat apply Exists.intro); (first | exact ⟨⟨0 + 1, by omega, by go_num, HN⟩, rfl⟩ | exact ⟨by omega, by go_num, HN⟩))
          case measure => simp [intOf]; omega
        | succ m =>
          have hm : m < xp.length := by omega
          obtain ⟨b2, o2, hA2, _, a9⟩ := (HS.out.on HBV.out).int hm
          injection hA2 with hA2
          injection hA2 with z1 z2
          subst z1 z2
          rw [Nat.add_sub_cancel] at HP2
          have s1 : IntKind.i64.wrap (((m + 1 : Nat) : Int) - 1) = (m : Int) := by rw [IntWalk.i64_in _ (by omega)]; omega
          have s2 : ((m : Int) + 1 - 1) = (m : Int) := by omega
          have i2 : (0 : Int) ≤ (m : Int) := by omega
          have i3 : (m : Int) < (xp.length : Int) := by omega
          have d0 : decide (0 < m + 1) = true := decide_eq_true (by omega)
          have d0' : decide ((0 : Int) < (m : Int) + 1) = true := decide_eq_true (by omega)
          have hpx : xp.getD (m + 1) 0 ≤ xp.getD m 0 ∨ ¬ xp.getD (m + 1) 0 ≤ xp.getD m 0 := Classical.em _
          generalize xp.getD (m + 1) 0 = x at *
          generalize xp.getD m 0 = y at *
          go_upto_region 4 with fail
          have e8 : ∀ p : Gr V, p.W.cell? ⟨w.heap.size, 8, none⟩ = some (.slice (some ⟨b1, o1, none⟩) xp.length q) := Gr.cell e8
          have e3 : ∀ p : Gr V, p.W.cell? ⟨w.heap.size, 3, none⟩ = some (.int .i64 xt) := Gr.cell e3
          have a0 : ∀ p : Gr V, p.W.cell? ⟨b1, o1 + (m + 1), none⟩ = some (.int .i64 x) := Gr.cell a0
          have a9 : ∀ p : Gr V, p.W.cell? ⟨b1, o1 + m, none⟩ = some (.int .i64 y) := Gr.cell a9
          refine wp_region_gr (by kernel_rfl) (by kernel_rfl) ?_
          repeat (go_big_quiet_step (fail))
          refine wpQuiet_nil ?_
          rintro Y ⟨⟨_, hbY⟩, rfl⟩
          have e8 : ∀ p : Gr Y, p.W.cell? ⟨w.heap.size, 8, none⟩ = some (.slice (some ⟨b1, o1, none⟩) xp.length q) := Gr.cell (e8 ⟨Y, hbY⟩)
          have e3 : ∀ p : Gr Y, p.W.cell? ⟨w.heap.size, 3, none⟩ = some (.int .i64 xt) := Gr.cell (e3 ⟨Y, hbY⟩)
          have a0 : ∀ p : Gr Y, p.W.cell? ⟨b1, o1 + (m + 1), none⟩ = some (.int .i64 x) := Gr.cell (a0 ⟨Y, hbY⟩)
          have a9 : ∀ p : Gr Y, p.W.cell? ⟨b1, o1 + m, none⟩ = some (.int .i64 y) := Gr.cell (a9 ⟨Y, hbY⟩)
          replace HBV := Lib.hid (HBV.out.trans (hbY.mono HBV.out.size))
          clear hbY
          rcases hpx with g | g
          · have d3 : decide (x ≤ y) = true := decide_eq_true g
            have HY : Hid (R = false) := Lib.hid (by rw [HV.out, HRFK.out (by rw [HP2.out, d0, d3]; rfl)]; rfl)
            clear g HP2 HRFK HRSK HA
            go_upto_region 6 with fail
            refine wp_region_gr (by kernel_rfl) (by kernel_rfl) ?_
            repeat (go_big_quiet_step (fail))
            refine wpQuiet_nil ?_
            rintro Z ⟨⟨_, hbZ⟩, rfl⟩
            have HE := Lib.hid (HB0.out.trans ((HBV.out.trans (hbZ.mono HBV.out.size)).mono HB0.out.size))
            clear hbZ
            go_wp2_with fail
            go_ret
            exact ⟨by rw [HY.out]; rfl, HE.out⟩
          · have d3 : decide (x ≤ y) = false := decide_eq_false g
            have HN1 : Hid ((List.range (m + 1 + 1)).all pr = true) := Lib.hid (by rw [HRSK.out, HA.out, HP2.out, d0, d3]; rfl)
            clear g HP2 HRFK HRSK HA
            go_upto_region 6 with fail
            refine wp_region_gr (by kernel_rfl) (by kernel_rfl) ?_
            repeat (go_big_quiet_step (fail))
            refine wpQuiet_nil ?_
            rintro Z ⟨⟨_, hbZ⟩, rfl⟩
            have HN := Lib.hid (And.intro HN1.out (HBV.out.trans (hbZ.mono HBV.out.size)))
            clear hbZ HN1
            go_wp2_with fail
            go_roundw
            case rel => first | exact ⟨m + 1 + 1, by omega, by go_num, HN⟩ | ((repeat apply Exists.intro); (first | exact ⟨⟨m + 1 + 1, by omega, by go_num, HN⟩, rfl⟩ | exact ⟨by omega, by go_num, HN⟩))
            case measure => simp [intOf]; omega
    · obtain rfl : k = xp.length := by omega
      have HRL : Hid (R = lim) := Lib.hid (by rw [HV.out, HB.out.1]; rfl)
      have HBV := Lib.hid HB.out.2
      have HE := Lib.hid (HB0.out.trans (HB.out.2.mono HB0.out.size))
      clear HB HV HPR HRS HRF
      have KV := KE.out.below HBV.out KE.out.lt
      have c0 : V.cell? ⟨w.heap.size, 0, none⟩ = some (.int .i64 xb) := KV.cell 0
      have c1 : V.cell? ⟨w.heap.size, 1, none⟩ = some (.int .i64 xr) := KV.cell 1
      have c2 : V.cell? ⟨w.heap.size, 2, none⟩ = some (.bool xd) := KV.cell 2
      have c3 : V.cell? ⟨w.heap.size, 3, none⟩ = some (.int .i64 xt) := KV.cell 3
      have c4 : V.cell? ⟨w.heap.size, 4, none⟩ = some (.int .i64 xh) := KV.cell 4
      have c5 : V.cell? ⟨w.heap.size, 5, none⟩ = some (.int .i64 x2) := KV.cell 5
      have c6 : V.cell? ⟨w.heap.size, 6, none⟩ = some (.int .i64 x4) := KV.cell 6
      have c7 : V.cell? ⟨w.heap.size, 7, none⟩ = some (.int .i64 xl) := KV.cell 7
      have c9 : V.cell? ⟨w.heap.size, 9, none⟩ = some (.int .i64 xx) := KV.cell 9
      have c10 : V.cell? ⟨w.heap.size, 10, none⟩ = some (.int .i64 xy) := KV.cell 10
      have c11 : V.cell? ⟨w.heap.size, 11, none⟩ = some (.int .i64 xz) := KV.cell 11
      clear KV KE HBV HS
      rw [HLM.out] at HRL
      clear HLM
      generalize hw1 : withinB xb 0 39 = w1 at *
      generalize hw2 : withinB xr 0 30 = w2 at *
      generalize hw3 : withinB xt 1 10 = w3 at *
      generalize hw4 : withinB xh 0 40000 = w4 at *
      generalize hw5 : withinB x2 0 500000000 = w5 at *
      generalize hw6 : withinB x4 0 500000000 = w6 at *
      generalize hw7 : withinB xl 0 1000000000000 = w7 at *
      generalize hw8 : withinB xx (-500000) 500000 = w8 at *
      generalize hw9 : withinB xy (-500000) 500000 = w9 at *
      generalize hw10 : withinB xz (-500000) 500000 = w10 at *
      go_upto_region 8 with fail
      go_cut [4] (fun v wx => v = .bool (w8 && (w9 && w10)) ∧ wx = V)
      case first =>
        clear hw1 hw2 hw3 hw4 hw5 hw6 hw7
        cases w8 with
        | false =>
          go_wp2_with (go_at_call 72; refine (within_any _ _ _ _).mono ?_; rintro e w' ⟨rfl, rfl⟩; simp only [hw8])
          go_meet
          exact ⟨by simp, rfl⟩
        | true =>
          cases w9 with
          | false =>
            go_wp2_with (go_at_call 72; refine (within_any _ _ _ _).mono ?_; rintro e w' ⟨rfl, rfl⟩; simp only [hw8, hw9])
            go_meet
            exact ⟨by simp, rfl⟩
          | true =>
            cases w10 with
            | false =>
              go_wp2_with (go_at_call 72; refine (within_any _ _ _ _).mono ?_; rintro e w' ⟨rfl, rfl⟩; simp only [hw8, hw9, hw10])
              go_meet
              exact ⟨by simp, rfl⟩
            | true =>
              go_wp2_with (go_at_call 72; refine (within_any _ _ _ _).mono ?_; rintro e w' ⟨rfl, rfl⟩; simp only [hw8, hw9, hw10])
              go_meet
              exact ⟨by simp, rfl⟩
      case rest =>
      obtain ⟨rfl, hwx⟩ := hcut
      have hwx' := hwx.symm
      clear hwx
      subst hwx'
      clear hw8 hw9 hw10
      generalize hp1 : (w8 && (w9 && w10)) = place at *
      clear hp1
      go_upto_region 9 with fail
      go_cut [5] (fun v wx => v = .bool (w5 && (w6 && w7)) ∧ wx = V)
      case first =>
        clear hw1 hw2 hw3 hw4
        cases w5 with
        | false =>
          go_wp2_with (go_at_call 72; refine (within_any _ _ _ _).mono ?_; rintro e w' ⟨rfl, rfl⟩; simp only [hw5])
          go_meet
          exact ⟨by simp, rfl⟩
        | true =>
          cases w6 with
          | false =>
            go_wp2_with (go_at_call 72; refine (within_any _ _ _ _).mono ?_; rintro e w' ⟨rfl, rfl⟩; simp only [hw5, hw6])
            go_meet
            exact ⟨by simp, rfl⟩
          | true =>
            cases w7 with
            | false =>
              go_wp2_with (go_at_call 72; refine (within_any _ _ _ _).mono ?_; rintro e w' ⟨rfl, rfl⟩; simp only [hw5, hw6, hw7])
              go_meet
              exact ⟨by simp, rfl⟩
            | true =>
              go_wp2_with (go_at_call 72; refine (within_any _ _ _ _).mono ?_; rintro e w' ⟨rfl, rfl⟩; simp only [hw5, hw6, hw7])
              go_meet
              exact ⟨by simp, rfl⟩
      case rest =>
      obtain ⟨rfl, hwx⟩ := hcut
      have hwx' := hwx.symm
      clear hwx
      subst hwx'
      clear hw5 hw6 hw7
      generalize hp2 : (w5 && (w6 && w7)) = load at *
      clear hp2
      cases w1 with
      | false =>
        have HQ : Hid (R = false) := Lib.hid (by rw [HRL.out]; simp)
        clear HRL
        go_wp2_with (go_at_call 72; refine (within_any _ _ _ _).mono ?_; rintro e w' ⟨rfl, rfl⟩; simp only [hw1])
        go_ret
        exact ⟨by rw [HQ.out]; first | rfl | simp, HE.out⟩
      | true =>
        cases w2 with
        | false =>
          have HQ : Hid (R = false) := Lib.hid (by rw [HRL.out]; simp)
          clear HRL
          go_wp2_with (go_at_call 72; refine (within_any _ _ _ _).mono ?_; rintro e w' ⟨rfl, rfl⟩; simp only [hw1, hw2])
          go_ret
          exact ⟨by rw [HQ.out]; first | rfl | simp, HE.out⟩
        | true =>
          cases w3 with
          | false =>
            have HQ : Hid (R = false) := Lib.hid (by rw [HRL.out]; simp)
            clear HRL
            go_wp2_with (go_at_call 72; refine (within_any _ _ _ _).mono ?_; rintro e w' ⟨rfl, rfl⟩; simp only [hw1, hw2, hw3])
            go_ret
            exact ⟨by rw [HQ.out]; first | rfl | simp, HE.out⟩
          | true =>
            cases w4 with
            | false =>
              have HQ : Hid (R = false) := Lib.hid (by rw [HRL.out]; simp)
              clear HRL
              go_wp2_with (go_at_call 72; refine (within_any _ _ _ _).mono ?_; rintro e w' ⟨rfl, rfl⟩; simp only [hw1, hw2, hw3, hw4])
              go_ret
              exact ⟨by rw [HQ.out]; first | rfl | simp, HE.out⟩
            | true =>
              cases load with
              | false =>
                have HQ : Hid (R = false) := Lib.hid (by rw [HRL.out]; simp)
                clear HRL
                go_wp2_with (go_at_call 72; refine (within_any _ _ _ _).mono ?_; rintro e w' ⟨rfl, rfl⟩; simp only [hw1, hw2, hw3, hw4])
                go_ret
                exact ⟨by rw [HQ.out]; first | rfl | simp, HE.out⟩
              | true =>
                have HQ : Hid (R = place) := Lib.hid (by rw [HRL.out]; simp)
                clear HRL
                go_wp2_with (go_at_call 72; refine (within_any _ _ _ _).mono ?_; rintro e w' ⟨rfl, rfl⟩; simp only [hw1, hw2, hw3, hw4])
                go_ret
                exact ⟨by rw [HQ.out]; first | rfl | simp, HE.out⟩
end Go.Proofs.YtmhikcleekfbpaaDoor
namespace Go.Proofs.YtmhikcleekfbpaaDoor
open Go.RowKit

theorem key_eq (x y : Col) : keyC x = keyC y ↔ (x.bay == y.bay && (x.row == y.row && x.deck == y.deck)) = true := by
  obtain ⟨xb, xr, xd, _, _, _, _, _, _, _, _, _⟩ := x
  obtain ⟨yb, yr, yd, _, _, _, _, _, _, _, _, _⟩ := y
  unfold keyC
  simp only [Prod.mk.injEq, Bool.and_eq_true, beq_iff_eq]
  cases xd <;> cases yd <;> simp
theorem in_pick (l : List Int) (r : Int) : decide (0 < (pick (· == r) l).length) = true ↔ r ∈ l := by
  have := pickFrom_pos (· == r) l 0
  unfold pick
  rw [this, List.any_eq_true]
  constructor
  · rintro ⟨x, hx, e⟩
    have : x = r := by simpa using e
    rw [← this]; exact hx
  · intro h
    exact ⟨r, h, by simp⟩
theorem within_ret (n lo hi : Int) (w : World) : Calls Tryd.prog 72 #[.int .i64 n, .int .i64 lo, .int .i64 hi] w (Ret w (.bool (withinB n lo hi))) :=
  (within_any n lo hi w).mono fun e w' ⟨h1, h2⟩ => ⟨h1, by rw [← h2]; exact Below.refl _ _⟩
theorem covOK_no {x : Cov} (h : withinB x.bay 0 39 = false ∨ x.rows.length = 0) : covOK x = false := by
  unfold covOK
  rcases h with h | h
  · have : decide (x.bay < 0) = true ∨ decide (40 ≤ x.bay) = true := by
      unfold withinB at h
      simp only [Bool.and_eq_false_iff, decide_eq_false_iff_not, decide_eq_true_eq] at *
      omega
    rcases this with h | h <;> rw [h] <;> simp
  · rw [decide_eq_true h]; simp
theorem covOK_row {x : Cov} {j : Nat} (hj : j < x.rows.length) (h : rowOK x j = false) : covOK x = false := by
  unfold covOK
  rw [range_all_false hj h]; simp
theorem covOK_yes {x : Cov} (h1 : withinB x.bay 0 39 = true) (h2 : ¬ x.rows.length = 0) (h : ∀ a, a < x.rows.length → rowOK x a = true) : covOK x = true := by
  unfold covOK
  unfold withinB at h1
  simp only [Bool.and_eq_true, decide_eq_true_eq] at h1
  rw [decide_eq_false (show ¬ x.bay < 0 by omega), decide_eq_false (show ¬ 40 ≤ x.bay by omega), decide_eq_false h2]
  simp only [Bool.or_self, Bool.not_false, Bool.true_and, List.all_eq_true, List.mem_range]
  exact h
theorem rowOK_eq (x : Cov) (j : Nat) : rowOK x j = (withinB (x.rows.getD j 0) 0 30 && !(decide (0 < j) && decide (x.rows.getD j 0 ≤ x.rows.getD (j - 1) 0))) := by
  unfold rowOK withinB
  have h1 : decide (x.rows.getD j 0 < 0) = !decide (0 ≤ x.rows.getD j 0) := by
    generalize x.rows.getD j 0 = a
    rw [Bool.eq_iff_iff]
    simp only [decide_eq_true_eq, Bool.not_eq_true', decide_eq_false_iff_not]
    omega
  have h2 : decide (30 < x.rows.getD j 0) = !decide (x.rows.getD j 0 ≤ 30) := by
    generalize x.rows.getD j 0 = a
    rw [Bool.eq_iff_iff]
    simp only [decide_eq_true_eq, Bool.not_eq_true', decide_eq_false_iff_not]
    omega
  rw [h1, h2]
  cases decide (0 ≤ x.rows.getD j 0) <;> cases decide (x.rows.getD j 0 ≤ 30) <;> simp
set_option maxRecDepth 100000 in
set_option maxHeartbeats 8000000 in
theorem refRight_any (s : Shp) (h : Hd) (w : World) (hs : ShpR w (Lt w.heap.size) s h) (hf : Few s) :
    Calls Tryd.prog 60 #[.agg (shpA s h)] w (Ret w (.bool (rightF s))) := by
  have hb0 := ba1 w (.cells (shpA s h) 32)
  have KE := Lib.hid (Bk.new w 32 (shpA s h))
  have HS := Lib.hid (hs.on hb0)
  have HB0 := Lib.hid hb0
  have hcl := hf.cols
  have hvl := hf.covs
  have HF := Lib.hid hf
  clear hs hb0 hf
  have HIFF := Lib.hid (right_iff s)
  have HNC := Lib.hid (fun (a : Nat) ha hh => right_no_cols (s := s) (a := a) ha hh)
  have HNK := Lib.hid (fun (a b : Nat) ha hb hh => right_no_keys (s := s) (a := a) (b := b) ha hb hh)
  have HNV := Lib.hid (fun (a : Nat) ha hh => right_no_covs (s := s) (a := a) ha hh)
  have HNR := Lib.hid (fun (a b : Nat) ha hb (r : Int) hr h1 h2 => right_no_rows (s := s) (a := a) (b := b) ha hb (r := r) hr h1 h2)
  generalize rightF s = R at *
  unfold shpA at *
  have hcase : ¬ (1 ≤ s.cols.length ∧ s.cols.length ≤ 200) ∨ ((1 ≤ s.cols.length ∧ s.cols.length ≤ 200) ∧ 40 < s.covs.length) ∨ ((1 ≤ s.cols.length ∧ s.cols.length ≤ 200) ∧ s.covs.length ≤ 40) := by omega
  rcases hcase with g | ⟨g, g2⟩ | ⟨g, g2⟩
  · have HY : Hid (R = false) := Lib.hid (Bool.eq_false_iff.2 fun hh => g ⟨(HIFF.out.1 hh).1.1, (HIFF.out.1 hh).1.2.1⟩)
    have hw : withinB (s.cols.length : Int) 1 200 = false := by unfold withinB; simp only [Bool.and_eq_false_iff, decide_eq_false_iff_not]; omega
    clear g
    go_enter Tryd.func60, Tryd.ntmps60
    go_wp2_with (go_at_call 72; refine (within_any _ _ _ _).mono ?_; rintro e w' ⟨rfl, rfl⟩; simp only [hw])
    go_ret
    exact ⟨by rw [HY.out]; rfl, HB0.out⟩
  · have HY : Hid (R = false) := Lib.hid (Bool.eq_false_iff.2 fun hh => by have := (HIFF.out.1 hh).1.2.2; omega)
    have hw : withinB (s.cols.length : Int) 1 200 = true := by unfold withinB; simp only [Bool.and_eq_true, decide_eq_true_eq]; omega
    have d1 : decide (40 < s.covs.length) = true := decide_eq_true g2
    have d2 : decide ((40 : Int) < (s.covs.length : Int)) = true := decide_eq_true (by omega)
    clear g g2
    go_enter Tryd.func60, Tryd.ntmps60
    go_wp2_with (go_at_call 72; refine (within_any _ _ _ _).mono ?_; rintro e w' ⟨rfl, rfl⟩; simp only [hw])
    go_ret
    exact ⟨by rw [HY.out]; rfl, HB0.out⟩
  · have hw : withinB (s.cols.length : Int) 1 200 = true := by unfold withinB; simp only [Bool.and_eq_true, decide_eq_true_eq]; omega
    have d1 : decide (40 < s.covs.length) = false := decide_eq_false (by omega)
    have d2 : decide ((40 : Int) < (s.covs.length : Int)) = false := decide_eq_false (by omega)
    have HG : Hid (1 ≤ s.cols.length ∧ s.cols.length ≤ 200 ∧ s.covs.length ≤ 40) := Lib.hid ⟨g.1, g.2, g2⟩
    clear g g2
    go_enter Tryd.func60, Tryd.ntmps60
    go_upto_region 3 with (go_at_call 72; refine (within_any _ _ _ _).mono ?_; rintro e w' ⟨rfl, rfl⟩; simp only [hw])
    clear hw d1 d2
    generalize hW : (w.alloc _) = W at *
    clear hW
    go_wp2_with fail
    go_loopw [3] (fun i wr => ∃ k : Nat, k ≤ s.cols.length ∧ i = .int .i64 k ∧ Hid (okTo s k ∧ Below W.heap.size W wr)) (fun i _ => s.cols.length - (intOf i).toNat)
    case atStart => exact ⟨0, Nat.zero_le _, rfl, Lib.hid (And.intro (fun a ha => absurd ha (by omega)) (Below.refl _ _))⟩
    case round =>
      obtain ⟨i, hi, rfl, HB⟩ := hrel
      obtain ⟨V, rfl⟩ : ∃ V, V = wr := ⟨_, rfl⟩
      have e0 : V.cell? ⟨w.heap.size, 0, none⟩ = some (.slice h.A1 s.cols.length h.c1) := (KE.out.below HB.out.2 KE.out.lt).cell 0
      by_cases hlt : i < s.cols.length
      · obtain ⟨b1, o1, Ap1, p1, hA1, _, _, hs1, d0, d1, d2, d3, d4, d5, d6, d7, d8, d9, d10, d11⟩ := (HS.out.on HB.out.2).cols.col hlt
        rw [hA1] at e0
        have HA1 := Lib.hid hA1
        have i0 : (0 : Int) ≤ (i : Int) := by omega
        have i1 : (i : Int) < (s.cols.length : Int) := by omega
        have hpb := HF.out.plugs _ (getD_memD hlt default)
        have KC := Lib.hid (refColumn_any (s.cols.getD i default) Ap1 p1 V hs1 (by omega))
        rw [colR_eq] at KC
        have HOK : Hid (∀ q, colOK (s.cols.getD i default) = q → colOK (s.cols.getD i default) = q) := Lib.hid fun _ h => h
        have HBV := Lib.hid HB.out.2
        have HTO := Lib.hid HB.out.1
        clear hA1 hs1 hpb HB
        cases hcq : colOK (s.cols.getD i default) with
        | false =>
          have HY := Lib.hid (HNC.out i hlt hcq)
          rw [hcq] at KC
          clear hcq HOK
          generalize s.cols.getD i default = x at *
          obtain ⟨xb, xr, xd, xt, xh, x2, x4, xl, xp, xx, xy, xz⟩ := x
          unfold colL at KC
          simp only at KC d0 d1 d2 d3 d4 d5 d6 d7 d8 d9 d10 d11
          go_wp2_with fail
          refine KC.out.mono ?_
          rintro e V1 ⟨rfl, hb⟩
          simp only
          have HE := Lib.hid (HB0.out.trans ((HBV.out.trans (hb.mono HBV.out.size)).mono HB0.out.size))
          clear KC hb e0 d0 d1 d2 d3 d4 d5 d6 d7 d8 d9 d10 d11
          go_wp2_with fail
          go_ret
          exact ⟨by rw [HY.out]; rfl, HE.out⟩
        | true =>
          have HCQ := Lib.hid hcq
          rw [hcq] at KC
          clear hcq HOK
          have HXI : Hid (∀ b, keyC (s.cols.getD b default) ≠ keyC (s.cols.getD i default) → keyC (s.cols.getD b default) ≠ keyC (s.cols.getD i default)) := Lib.hid fun _ h => h
          generalize hx : s.cols.getD i default = x at KC d0 d1 d2 d3 d4 d5 d6 d7 d8 d9 d10 d11
          clear hx
          obtain ⟨xb, xr, xd, xt, xh, x2, x4, xl, xp, xx, xy, xz⟩ := x
          unfold colL at KC
          simp only at KC d0 d1 d2 d3 d4 d5 d6 d7 d8 d9 d10 d11
          go_wp2_with fail
          refine KC.out.mono ?_
          rintro e V1 ⟨rfl, hb⟩
          simp only
          replace HBV := Lib.hid (HBV.out.trans (hb.mono HBV.out.size))
          clear KC hb e0 d0 d1 d2 d3 d4 d5 d6 d7 d8 d9 d10 d11 HXI
          try clear V
          go_wp2_with fail
          go_loopw [4] (fun k wr => ∃ m : Nat, m ≤ i ∧ k = .int .i64 m ∧ Hid ((∀ b, b < m → keyC (s.cols.getD b default) ≠ keyC (s.cols.getD i default)) ∧ Below W.heap.size W wr)) (fun k _ => i - (intOf k).toNat)
          case atStart => exact ⟨0, Nat.zero_le _, rfl, Lib.hid (And.intro (fun b hb => absurd hb (by omega)) HBV.out)⟩
          case round =>
            clear HBV
            try clear V1
            obtain ⟨m, hm, rfl, HM⟩ := hrel
            obtain ⟨V2, rfl⟩ : ∃ V, V = wr := ⟨_, rfl⟩
            obtain ⟨V, hVV⟩ : ∃ V, V = V2 := ⟨_, rfl⟩
            subst hVV
            by_cases hml : m < i
            · have hmc : m < s.cols.length := by omega
              have e0 : V.cell? ⟨w.heap.size, 0, none⟩ = some (.slice (some ⟨b1, o1, none⟩) s.cols.length h.c1) := by
                have h0 : V.cell? ⟨w.heap.size, 0, none⟩ = some (.slice h.A1 s.cols.length h.c1) := (KE.out.below HM.out.2 KE.out.lt).cell 0
                rw [HA1.out] at h0
                exact h0
              obtain ⟨b2, o2, _, _, hA2, _, _, _, a0, a1, a2, _⟩ := (HS.out.on HM.out.2).cols.col hmc
              rw [HA1.out] at hA2
              injection hA2 with hA2
              injection hA2 with z1 z2
              subst z1 z2
              obtain ⟨b3, o3, _, _, hA3, _, _, _, d0, d1, d2, _⟩ := (HS.out.on HM.out.2).cols.col hlt
              rw [HA1.out] at hA3
              injection hA3 with hA3
              injection hA3 with z1 z2
              subst z1 z2
              have k0 : (0 : Int) ≤ (m : Int) := by omega
              have k1 : (m : Int) < (s.cols.length : Int) := by omega
              have HEQ : Hid ((((s.cols.getD m default).bay == (s.cols.getD i default).bay) && (((s.cols.getD m default).row == (s.cols.getD i default).row) && ((s.cols.getD m default).deck == (s.cols.getD i default).deck))) = true → R = false) := Lib.hid fun hh => HNK.out i m hlt hml ((key_eq _ _).2 hh)
              have HNE : Hid ((((s.cols.getD m default).bay == (s.cols.getD i default).bay) && (((s.cols.getD m default).row == (s.cols.getD i default).row) && ((s.cols.getD m default).deck == (s.cols.getD i default).deck))) = false → ∀ b, b < m + 1 → keyC (s.cols.getD b default) ≠ keyC (s.cols.getD i default)) := Lib.hid fun hh b hb => by
                rcases Nat.lt_succ_iff_lt_or_eq.1 hb with h1 | h1
                · exact HM.out.1 b h1
                · rw [h1]
                  intro hk
                  rw [(key_eq _ _).1 hk] at hh
                  cases hh
              generalize (s.cols.getD m default).bay = xb at *
              generalize (s.cols.getD m default).row = xr at *
              generalize (s.cols.getD m default).deck = xd at *
              generalize (s.cols.getD i default).bay = yb at *
              generalize (s.cols.getD i default).row = yr at *
              generalize (s.cols.getD i default).deck = yd at *
              cases p1 : (xb == yb) with
              | false =>
                have HNE1 := Lib.hid (HNE.out (by rw [p1]; rfl))
                clear HEQ HNE
                go_upto_region 11 with fail
                have e0 : ∀ p : Gr V, p.W.cell? ⟨w.heap.size, 0, none⟩ = some (.slice (some ⟨b1, o1, none⟩) s.cols.length h.c1) := Gr.cell e0
                have a0 : ∀ p : Gr V, p.W.cell? ⟨b1, o1 + m * 12, none⟩ = some (.int .i64 xb) := Gr.cell a0
                have a1 : ∀ p : Gr V, p.W.cell? ⟨b1, o1 + m * 12 + 1, none⟩ = some (.int .i64 xr) := Gr.cell a1
                have a2 : ∀ p : Gr V, p.W.cell? ⟨b1, o1 + m * 12 + 2, none⟩ = some (.bool xd) := Gr.cell a2
                have d0 : ∀ p : Gr V, p.W.cell? ⟨b1, o1 + i * 12, none⟩ = some (.int .i64 yb) := Gr.cell d0
                have d1 : ∀ p : Gr V, p.W.cell? ⟨b1, o1 + i * 12 + 1, none⟩ = some (.int .i64 yr) := Gr.cell d1
                have d2 : ∀ p : Gr V, p.W.cell? ⟨b1, o1 + i * 12 + 2, none⟩ = some (.bool yd) := Gr.cell d2
                refine wp_region_gr (by kernel_rfl) (by kernel_rfl) ?_
                repeat (go_big_quiet_step (fail))
                refine wpQuiet_nil ?_
                rintro Y ⟨⟨_, hbY⟩, rfl⟩
                have HN := Lib.hid (And.intro HNE1.out (HM.out.2.trans (hbY.mono HM.out.2.size)))
                clear hbY HNE1 HM e0 a0 a1 a2 d0 d1 d2
                go_wp2_with fail
                go_roundw
                case rel => first | exact ⟨m + 1, by omega, by go_num, HN⟩ | ((repeat apply Exists.intro); (first | exact ⟨⟨m + 1, by omega, by go_num, HN⟩, rfl⟩ | exact ⟨by omega, by go_num, HN⟩))
                case measure => simp [intOf]; omega
              | true =>
                cases p2 : (xr == yr) with
                | false =>
                  have HNE1 := Lib.hid (HNE.out (by rw [p1, p2]; simp))
                  clear HEQ HNE
                  go_upto_region 11 with fail
                  have e0 : ∀ p : Gr V, p.W.cell? ⟨w.heap.size, 0, none⟩ = some (.slice (some ⟨b1, o1, none⟩) s.cols.length h.c1) := Gr.cell e0
                  have a0 : ∀ p : Gr V, p.W.cell? ⟨b1, o1 + m * 12, none⟩ = some (.int .i64 xb) := Gr.cell a0
                  have a1 : ∀ p : Gr V, p.W.cell? ⟨b1, o1 + m * 12 + 1, none⟩ = some (.int .i64 xr) := Gr.cell a1
                  have a2 : ∀ p : Gr V, p.W.cell? ⟨b1, o1 + m * 12 + 2, none⟩ = some (.bool xd) := Gr.cell a2
                  have d0 : ∀ p : Gr V, p.W.cell? ⟨b1, o1 + i * 12, none⟩ = some (.int .i64 yb) := Gr.cell d0
                  have d1 : ∀ p : Gr V, p.W.cell? ⟨b1, o1 + i * 12 + 1, none⟩ = some (.int .i64 yr) := Gr.cell d1
                  have d2 : ∀ p : Gr V, p.W.cell? ⟨b1, o1 + i * 12 + 2, none⟩ = some (.bool yd) := Gr.cell d2
                  refine wp_region_gr (by kernel_rfl) (by kernel_rfl) ?_
                  repeat (go_big_quiet_step (fail))
                  refine wpQuiet_nil ?_
                  rintro Y ⟨⟨_, hbY⟩, rfl⟩
                  have HN := Lib.hid (And.intro HNE1.out (HM.out.2.trans (hbY.mono HM.out.2.size)))
                  clear hbY HNE1 HM e0 a0 a1 a2 d0 d1 d2
                  go_wp2_with fail
                  go_roundw
                  case rel => first | exact ⟨m + 1, by omega, by go_num, HN⟩ | ((repeat apply Exists.intro); (first | exact ⟨⟨m + 1, by omega, by go_num, HN⟩, rfl⟩ | exact ⟨by omega, by go_num, HN⟩))
                  case measure => simp [intOf]; omega
                | true =>
                  cases p3 : (xd == yd) with
                  | false =>
                    have HNE1 := Lib.hid (HNE.out (by rw [p1, p2, p3]; simp))
                    clear HEQ HNE
                    go_upto_region 11 with fail
                    have e0 : ∀ p : Gr V, p.W.cell? ⟨w.heap.size, 0, none⟩ = some (.slice (some ⟨b1, o1, none⟩) s.cols.length h.c1) := Gr.cell e0
                    have a0 : ∀ p : Gr V, p.W.cell? ⟨b1, o1 + m * 12, none⟩ = some (.int .i64 xb) := Gr.cell a0
                    have a1 : ∀ p : Gr V, p.W.cell? ⟨b1, o1 + m * 12 + 1, none⟩ = some (.int .i64 xr) := Gr.cell a1
                    have a2 : ∀ p : Gr V, p.W.cell? ⟨b1, o1 + m * 12 + 2, none⟩ = some (.bool xd) := Gr.cell a2
                    have d0 : ∀ p : Gr V, p.W.cell? ⟨b1, o1 + i * 12, none⟩ = some (.int .i64 yb) := Gr.cell d0
                    have d1 : ∀ p : Gr V, p.W.cell? ⟨b1, o1 + i * 12 + 1, none⟩ = some (.int .i64 yr) := Gr.cell d1
                    have d2 : ∀ p : Gr V, p.W.cell? ⟨b1, o1 + i * 12 + 2, none⟩ = some (.bool yd) := Gr.cell d2
                    refine wp_region_gr (by kernel_rfl) (by kernel_rfl) ?_
                    repeat (go_big_quiet_step (fail))
                    refine wpQuiet_nil ?_
                    rintro Y ⟨⟨_, hbY⟩, rfl⟩
                    have HN := Lib.hid (And.intro HNE1.out (HM.out.2.trans (hbY.mono HM.out.2.size)))
                    clear hbY HNE1 HM e0 a0 a1 a2 d0 d1 d2
                    go_wp2_with fail
                    go_roundw
                    case rel => first | exact ⟨m + 1, by omega, by go_num, HN⟩ | ((repeat apply Exists.intro); (first | exact ⟨⟨m + 1, by omega, by go_num, HN⟩, rfl⟩ | exact ⟨by omega, by go_num, HN⟩))
                    case measure => simp [intOf]; omega
                  | true =>
                    have HY := Lib.hid (HEQ.out (by rw [p1, p2, p3]; rfl))
                    clear HEQ HNE
                    go_upto_region 11 with fail
                    have e0 : ∀ p : Gr V, p.W.cell? ⟨w.heap.size, 0, none⟩ = some (.slice (some ⟨b1, o1, none⟩) s.cols.length h.c1) := Gr.cell e0
                    have a0 : ∀ p : Gr V, p.W.cell? ⟨b1, o1 + m * 12, none⟩ = some (.int .i64 xb) := Gr.cell a0
                    have a1 : ∀ p : Gr V, p.W.cell? ⟨b1, o1 + m * 12 + 1, none⟩ = some (.int .i64 xr) := Gr.cell a1
                    have a2 : ∀ p : Gr V, p.W.cell? ⟨b1, o1 + m * 12 + 2, none⟩ = some (.bool xd) := Gr.cell a2
                    have d0 : ∀ p : Gr V, p.W.cell? ⟨b1, o1 + i * 12, none⟩ = some (.int .i64 yb) := Gr.cell d0
                    have d1 : ∀ p : Gr V, p.W.cell? ⟨b1, o1 + i * 12 + 1, none⟩ = some (.int .i64 yr) := Gr.cell d1
                    have d2 : ∀ p : Gr V, p.W.cell? ⟨b1, o1 + i * 12 + 2, none⟩ = some (.bool yd) := Gr.cell d2
                    refine wp_region_gr (by kernel_rfl) (by kernel_rfl) ?_
                    repeat (go_big_quiet_step (fail))
                    refine wpQuiet_nil ?_
                    rintro Y ⟨⟨_, hbY⟩, rfl⟩
                    have HE := Lib.hid (HB0.out.trans ((HM.out.2.trans (hbY.mono HM.out.2.size)).mono HB0.out.size))
                    clear hbY
                    go_wp2_with fail
                    go_ret
                    exact ⟨by rw [HY.out]; rfl, HE.out⟩
            · obtain rfl : m = i := by omega
              have HN : Hid (okTo s (m + 1) ∧ Below W.heap.size W V) := Lib.hid ⟨fun a ha => by
                rcases Nat.lt_succ_iff_lt_or_eq.1 ha with h1 | h1
                · exact HTO.out a h1
                · rw [h1]
                  exact ⟨HCQ.out, HM.out.1⟩, HM.out.2⟩
              clear HM
              go_wp2_with fail
              go_roundw
              case rel => first | exact ⟨m + 1, by omega, by go_num, HN⟩ | ((repeat apply Exists.intro); (first | exact ⟨⟨m + 1, by omega, by go_num, HN⟩, rfl⟩ | exact ⟨by omega, by go_num, HN⟩))
              case measure => simp [intOf]; omega
      · obtain rfl : i = s.cols.length := by omega
        have HOK := Lib.hid HB.out.1
        have HBV := Lib.hid HB.out.2
        clear HB hi hlt HNC HNK
        go_upto_region 13 with fail
        clear e0
        go_wp2_with fail
        go_loopw [5] (fun i wr => ∃ k : Nat, k ≤ s.covs.length ∧ i = .int .i64 k ∧ Hid (covTo s k ∧ Below W.heap.size W wr)) (fun i _ => s.covs.length - (intOf i).toNat)
        case atStart => exact ⟨0, Nat.zero_le _, rfl, Lib.hid (And.intro (fun a ha => absurd ha (by omega)) HBV.out)⟩
        case round =>
          clear HBV
          try clear V
          obtain ⟨i, hi, rfl, HB⟩ := hrel
          obtain ⟨V, rfl⟩ : ∃ V, V = wr := ⟨_, rfl⟩
          have e1 : V.cell? ⟨w.heap.size, 1, none⟩ = some (.slice h.A2 s.covs.length h.c2) := (KE.out.below HB.out.2 KE.out.lt).cell 1
          by_cases hlt : i < s.covs.length
          · obtain ⟨b1, o1, Ap1, p1, hA1, _, _, hs1, d0, d1⟩ := (HS.out.on HB.out.2).covs.cov hlt
            rw [hA1] at e1
            have HA1 := Lib.hid hA1
            have i0 : (0 : Int) ≤ (i : Int) := by omega
            have i1 : (i : Int) < (s.covs.length : Int) := by omega
            have hrb := HF.out.rows _ (getD_memD hlt default)
            have HBV := Lib.hid HB.out.2
            have HTO := Lib.hid HB.out.1
            have HSR := Lib.hid hs1
            have HXV : Hid (covOK (s.covs.getD i default) = false → R = false) := Lib.hid (HNV.out i hlt)
            have HXR : Hid (∀ (r : Int) (b : Nat), b < i → r ∈ (s.covs.getD i default).rows → (s.covs.getD b default).bay = (s.covs.getD i default).bay → r ∈ (s.covs.getD b default).rows → R = false) := Lib.hid fun r b hb h1 h2 h3 => HNR.out i b hlt hb r h1 h2 h3
            have HTN : Hid (covOK (s.covs.getD i default) = true → (∀ r ∈ (s.covs.getD i default).rows, ∀ b, b < i → ¬ ((s.covs.getD b default).bay = (s.covs.getD i default).bay ∧ r ∈ (s.covs.getD b default).rows)) → covTo s (i + 1)) := Lib.hid fun h1 h2 a ha => by
              rcases Nat.lt_succ_iff_lt_or_eq.1 ha with h3 | h3
              · exact HTO.out a h3
              · rw [h3]
                exact ⟨h1, h2⟩
            clear hA1 hs1 HB
            generalize s.covs.getD i default = x at *
            obtain ⟨xb, xl⟩ := x
            simp only at d0 d1 hrb HXR HTN HSR
            have HKX := Lib.hid (Bk.new V 98 #[.int .i64 xb, .slice Ap1 xl.length p1])
            have hba := ba1 V (.cells #[.int .i64 xb, .slice Ap1 xl.length p1] 98)
            have HSR1 := Lib.hid (HSR.out.on hba)
            have HB1 := Lib.hid (HBV.out.trans (hba.mono HBV.out.size))
            clear hba HBV HSR
            go_upto_region 17 with fail
            clear d0 d1 e1
            generalize V.heap.size = gx at *
            generalize (V.alloc _) = V1 at *
            try clear V
            have x0 : V1.cell? ⟨gx, 0, none⟩ = some (.int .i64 xb) := HKX.out.cell 0
            have x1 : V1.cell? ⟨gx, 1, none⟩ = some (.slice Ap1 xl.length p1) := HKX.out.cell 1
            cases hwb : withinB xb 0 39 with
            | false =>
              have HY := Lib.hid (HXV.out (covOK_no (.inl hwb)))
              have HE := Lib.hid (HB0.out.trans (HB1.out.mono HB0.out.size))
              go_wp2_with (go_at_call 72; refine (within_any _ _ _ _).mono ?_; rintro e w' ⟨rfl, rfl⟩; simp only [hwb])
              go_ret
              exact ⟨by rw [HY.out]; rfl, HE.out⟩
            | true =>
              by_cases hz : xl.length = 0
              · have HY := Lib.hid (HXV.out (covOK_no (.inr hz)))
                have HE := Lib.hid (HB0.out.trans (HB1.out.mono HB0.out.size))
                have z1 : ((xl.length : Int) == 0) = true := beq_iff_eq.2 (by omega)
                have z2 : (xl.length == 0) = true := beq_iff_eq.2 hz
                clear hz
                go_wp2_with (go_at_call 72; refine (within_any _ _ _ _).mono ?_; rintro e w' ⟨rfl, rfl⟩; simp only [hwb])
                go_ret
                exact ⟨by rw [HY.out]; rfl, HE.out⟩
              · have z1 : ((xl.length : Int) == 0) = false := beq_eq_false_iff_ne.2 (by omega)
                have z2 : (xl.length == 0) = false := beq_eq_false_iff_ne.2 hz
                have HZ := Lib.hid hz
                have HWB := Lib.hid hwb
                clear hz
                go_upto_region 19 with (go_at_call 72; refine (within_any _ _ _ _).mono ?_; rintro e w' ⟨rfl, rfl⟩; simp only [hwb])
                clear hwb z1 z2 x0 x1
                have HS1 := Lib.hid (HS.out.on HB1.out)
                have KE1 := Lib.hid (KE.out.below HB1.out KE.out.lt)
                go_wp2_with fail
                go_loopw [7] (fun j wr => ∃ k : Nat, k ≤ xl.length ∧ j = .int .i64 k ∧ Hid ((∀ a, a < k → rowOK ⟨xb, xl⟩ a = true ∧ ∀ b, b < i → ¬ ((s.covs.getD b default).bay = xb ∧ xl.getD a 0 ∈ (s.covs.getD b default).rows)) ∧ Below V1.heap.size V1 wr)) (fun j _ => xl.length - (intOf j).toNat)
                case atStart => exact ⟨0, Nat.zero_le _, rfl, Lib.hid (And.intro (fun a ha => absurd ha (by omega)) (Below.refl _ _))⟩
                case round =>
                  obtain ⟨j, hj, rfl, HJ⟩ := hrel
                  obtain ⟨V2, rfl⟩ : ∃ V, V = wr := ⟨_, rfl⟩
                  have x1 : V2.cell? ⟨gx, 1, none⟩ = some (.slice Ap1 xl.length p1) := (HKX.out.below HJ.out.2 HKX.out.lt).cell 1
                  by_cases hjl : j < xl.length
                  · obtain ⟨b2, o2, hA2, _, r0⟩ := (HSR1.out.on HJ.out.2).int hjl
                    rw [hA2] at x1
                    have HA2 := Lib.hid hA2
                    clear hA2
                    have j0 : (0 : Int) ≤ (j : Int) := by omega
                    have j1 : (j : Int) < (xl.length : Int) := by omega
                    have HRO := Lib.hid (rowOK_eq ⟨xb, xl⟩ j)
                    have HCR : Hid (rowOK ⟨xb, xl⟩ j = false → R = false) := Lib.hid fun hh => HXV.out (covOK_row hjl hh)
                    have HMEM := Lib.hid (getD_memD hjl (0 : Int))
                    have HJ1 := Lib.hid HJ.out.1
                    have HBJ := Lib.hid HJ.out.2
                    clear HJ
                    simp only at HRO
                    cases hwr : withinB (xl.getD j 0) 0 30 with
                    | false =>
                      have HY := Lib.hid (HCR.out (by rw [HRO.out, hwr]; rfl))
                      have KW := Lib.hid (fun (V' : World) (hV : Below V2.heap.size V2 V') => within_ret (xl.getD j 0) 0 30 V')
                      rw [hwr] at KW
                      clear hwr HRO HMEM
                      generalize xl.getD j 0 = r at *
                      go_upto_region 22 with fail
                      have x1 : ∀ p : Gr V2, p.W.cell? ⟨gx, 1, none⟩ = some (.slice (some ⟨b2, o2, none⟩) xl.length p1) := Gr.cell x1
                      have r0 : ∀ p : Gr V2, p.W.cell? ⟨b2, o2 + j, none⟩ = some (.int .i64 r) := Gr.cell r0
                      refine wp_region_gr (by kernel_rfl) (by kernel_rfl) ?_
                      repeat (go_big_quiet_step ((with_reducible exact Gr.call _ (fun V hV => KW.out V hV))))
                      refine wpQuiet_nil ?_
                      rintro Y ⟨⟨_, hbY⟩, rfl⟩
                      have HE := Lib.hid (HB0.out.trans ((HB1.out.trans ((HBJ.out.trans (hbY.mono HBJ.out.size)).mono HB1.out.size)).mono HB0.out.size))
                      clear hbY
                      go_wp2_with fail
                      go_ret
                      exact ⟨by rw [HY.out]; rfl, HE.out⟩
                    | true =>
                      have KW := Lib.hid (fun (V' : World) (hV : Below V2.heap.size V2 V') => within_ret (xl.getD j 0) 0 30 V')
                      rw [hwr] at KW
                      have HR2 : Hid (rowOK ⟨xb, xl⟩ j = !(decide (0 < j) && decide (xl.getD j 0 ≤ xl.getD (j - 1) 0))) := Lib.hid (by rw [HRO.out, hwr]; rfl)
                      clear hwr HRO
                      obtain ⟨bad, hbad⟩ : ∃ bad, bad = (decide (0 < j) && decide (xl.getD j 0 ≤ xl.getD (j - 1) 0)) := ⟨_, rfl⟩
                      have HBAD := Lib.hid hbad
                      rw [← hbad] at HR2
                      clear hbad
                      go_upto_region 22 with fail
                      go_cut [135] (fun v wx => v = .bool bad ∧ Hid (Below V2.heap.size V2 wx))
                      case first =>
                        cases j with
                        | zero =>
                          have HQ : Hid (bad = false) := Lib.hid (by rw [HBAD.out]; rfl)
                          simp only [Nat.add_zero] at r0
                          generalize xl.getD 0 0 = r at *
                          have x1 : ∀ p : Gr V2, p.W.cell? ⟨gx, 1, none⟩ = some (.slice (some ⟨b2, o2, none⟩) xl.length p1) := Gr.cell x1
                          have r0 : ∀ p : Gr V2, p.W.cell? ⟨b2, o2, none⟩ = some (.int .i64 r) := Gr.cell r0
                          refine wp_region_gr (by kernel_rfl) (by kernel_rfl) ?_
                          repeat (go_big_quiet_step ((with_reducible exact Gr.call _ (fun V hV => KW.out V hV))))
                          refine wpQuiet_nil ?_
                          rintro Y ⟨⟨_, hbY⟩, rfl⟩
                          go_wp2_with fail
                          go_meet
                          exact ⟨by rw [HQ.out], Lib.hid hbY⟩
                        | succ n =>
                          have hn : n < xl.length := by omega
                          obtain ⟨b3, o3, hA3, _, r1⟩ := (HSR1.out.on HBJ.out).int hn
                          rw [HA2.out] at hA3
                          injection hA3 with hA3
                          injection hA3 with z1 z2
                          subst z1 z2
                          have s1 : IntKind.i64.wrap (((n + 1 : Nat) : Int) - 1) = (n : Int) := by rw [IntWalk.i64_in _ (by omega)]; omega
                          have s2 : ((n : Int) + 1 - 1) = (n : Int) := by omega
                          have i2 : (0 : Int) ≤ (n : Int) := by omega
                          have i3 : (n : Int) < (xl.length : Int) := by omega
                          have t0 : decide (0 < n + 1) = true := decide_eq_true (by omega)
                          have t1 : decide ((0 : Int) < (n : Int) + 1) = true := decide_eq_true (by omega)
                          have HQ : Hid (bad = decide (xl.getD (n + 1) 0 ≤ xl.getD n 0)) := Lib.hid (by rw [HBAD.out, t0, Nat.add_sub_cancel]; rfl)
                          generalize xl.getD (n + 1) 0 = r at *
                          generalize xl.getD n 0 = y at *
                          have x1 : ∀ p : Gr V2, p.W.cell? ⟨gx, 1, none⟩ = some (.slice (some ⟨b2, o2, none⟩) xl.length p1) := Gr.cell x1
                          have r0 : ∀ p : Gr V2, p.W.cell? ⟨b2, o2 + (n + 1), none⟩ = some (.int .i64 r) := Gr.cell r0
                          have r1 : ∀ p : Gr V2, p.W.cell? ⟨b2, o2 + n, none⟩ = some (.int .i64 y) := Gr.cell r1
                          refine wp_region_gr (by kernel_rfl) (by kernel_rfl) ?_
                          repeat (go_big_quiet_step ((with_reducible exact Gr.call _ (fun V hV => KW.out V hV))))
                          refine wpQuiet_nil ?_
                          rintro Y ⟨⟨_, hbY⟩, rfl⟩
                          go_wp2_with fail
                          go_meet
                          exact ⟨by rw [HQ.out], Lib.hid hbY⟩
                      case rest =>
                      obtain ⟨rfl, hbc⟩ := hcut
                      clear KW
                      replace HBJ := Lib.hid (HBJ.out.trans (hbc.out.mono HBJ.out.size))
                      clear hbc x1 r0
                      cases bad with
                      | true =>
                        have HY := Lib.hid (HCR.out (by rw [HR2.out]; rfl))
                        have HE := Lib.hid (HB0.out.trans ((HB1.out.trans (HBJ.out.mono HB1.out.size)).mono HB0.out.size))
                        go_wp2_with fail
                        go_ret
                        exact ⟨by rw [HY.out]; rfl, HE.out⟩
                      | false =>
                        have HRJ : Hid (rowOK ⟨xb, xl⟩ j = true) := Lib.hid (by rw [HR2.out]; rfl)
                        clear HR2 HCR HBAD
                        go_wp2_with fail
                        go_loopw [8] (fun k wr => ∃ m : Nat, m ≤ i ∧ k = .int .i64 m ∧ Hid ((∀ b, b < m → ¬ ((s.covs.getD b default).bay = xb ∧ xl.getD j 0 ∈ (s.covs.getD b default).rows)) ∧ Below V1.heap.size V1 wr)) (fun k _ => i - (intOf k).toNat)
                        case atStart => exact ⟨0, Nat.zero_le _, rfl, Lib.hid (And.intro (fun b hb => absurd hb (by omega)) HBJ.out)⟩
                        case round =>
                          clear HBJ
                          obtain ⟨m, hm, rfl, HM⟩ := hrel
                          obtain ⟨V3, rfl⟩ : ∃ V, V = wr := ⟨_, rfl⟩
                          by_cases hml : m < i
                          · have hmc : m < s.covs.length := by omega
                            have e1 : V3.cell? ⟨w.heap.size, 1, none⟩ = some (.slice (some ⟨b1, o1, none⟩) s.covs.length h.c2) := by
                              have h0 : V3.cell? ⟨w.heap.size, 1, none⟩ = some (.slice h.A2 s.covs.length h.c2) := (KE1.out.below HM.out.2 KE1.out.lt).cell 1
                              rw [HA1.out] at h0
                              exact h0
                            have x0 : V3.cell? ⟨gx, 0, none⟩ = some (.int .i64 xb) := (HKX.out.below HM.out.2 HKX.out.lt).cell 0
                            have x1 : V3.cell? ⟨gx, 1, none⟩ = some (.slice (some ⟨b2, o2, none⟩) xl.length p1) := by
                              have h0 : V3.cell? ⟨gx, 1, none⟩ = some (.slice Ap1 xl.length p1) := (HKX.out.below HM.out.2 HKX.out.lt).cell 1
                              rw [HA2.out] at h0
                              exact h0
                            obtain ⟨b3, o3, hA3, _, r0⟩ := (HSR1.out.on HM.out.2).int hjl
                            rw [HA2.out] at hA3
                            injection hA3 with hA3
                            injection hA3 with z1 z2
                            subst z1 z2
                            obtain ⟨b4, o4, Ap4, p4, hA4, _, _, hs4, c0, c1⟩ := (HS1.out.on HM.out.2).covs.cov hmc
                            rw [HA1.out] at hA4
                            injection hA4 with hA4
                            injection hA4 with z1 z2
                            subst z1 z2
                            have k0 : (0 : Int) ≤ (m : Int) := by omega
                            have k1 : (m : Int) < (s.covs.length : Int) := by omega
                            have hrb4 := HF.out.rows _ (getD_memD hmc default)
                            have KI := Lib.hid (fun (V' : World) (hV : Below V3.heap.size V3 V') => inside_any Ap4 p4 (s.covs.getD m default).rows (xl.getD j 0) V' (hs4.on hV) (by omega))
                            have HHIT : Hid ((s.covs.getD m default).bay = xb → decide (0 < (pick (· == xl.getD j 0) (s.covs.getD m default).rows).length) = true → R = false) := Lib.hid fun h1 h2 => HXR.out _ m hml HMEM.out h1 ((in_pick _ _).1 h2)
                            have HMIS : Hid (¬ ((s.covs.getD m default).bay = xb ∧ decide (0 < (pick (· == xl.getD j 0) (s.covs.getD m default).rows).length) = true) → ∀ b, b < m + 1 → ¬ ((s.covs.getD b default).bay = xb ∧ xl.getD j 0 ∈ (s.covs.getD b default).rows)) := Lib.hid fun hh b hb => by
                              rcases Nat.lt_succ_iff_lt_or_eq.1 hb with h1 | h1
                              · exact HM.out.1 b h1
                              · rw [h1]
                                exact fun hk => hh ⟨hk.1, (in_pick _ _).2 hk.2⟩
                            have HBM := Lib.hid HM.out.2
                            clear hs4 hrb4 HM
                            generalize decide (0 < (pick (· == xl.getD j 0) (s.covs.getD m default).rows).length) = q at *
                            generalize hyr : (s.covs.getD m default).rows = yl at c1 KI
                            clear hyr
                            generalize hyb : (s.covs.getD m default).bay = yb at c0 HHIT HMIS
                            clear hyb
                            generalize hrr : xl.getD j 0 = r at r0 KI HMIS
                            clear hrr
                            cases pp : (yb == xb) with
                            | false =>
                              have HN1 := Lib.hid (HMIS.out fun hk => by have := hk.1; rw [this] at pp; simp at pp)
                              clear HHIT HMIS
                              go_upto_region 27 with fail
                              have e1 : ∀ p : Gr V3, p.W.cell? ⟨w.heap.size, 1, none⟩ = some (.slice (some ⟨b1, o1, none⟩) s.covs.length h.c2) := Gr.cell e1
                              have x0 : ∀ p : Gr V3, p.W.cell? ⟨gx, 0, none⟩ = some (.int .i64 xb) := Gr.cell x0
                              have x1 : ∀ p : Gr V3, p.W.cell? ⟨gx, 1, none⟩ = some (.slice (some ⟨b2, o2, none⟩) xl.length p1) := Gr.cell x1
                              have r0 : ∀ p : Gr V3, p.W.cell? ⟨b2, o2 + j, none⟩ = some (.int .i64 r) := Gr.cell r0
                              have c0 : ∀ p : Gr V3, p.W.cell? ⟨b1, o1 + m * 2, none⟩ = some (.int .i64 yb) := Gr.cell c0
                              have c1 : ∀ p : Gr V3, p.W.cell? ⟨b1, o1 + m * 2 + 1, none⟩ = some (.slice Ap4 yl.length p4) := Gr.cell c1
                              refine wp_region_gr (by kernel_rfl) (by kernel_rfl) ?_
                              repeat (go_big_quiet_step ((with_reducible exact Gr.call _ (fun V hV => KI.out V hV))))
                              refine wpQuiet_nil ?_
                              rintro Y ⟨⟨_, hbY⟩, rfl⟩
                              have HN := Lib.hid (And.intro HN1.out (HBM.out.trans (hbY.mono HBM.out.size)))
                              clear hbY HN1 HBM KI e1 x0 x1 r0 c0 c1
                              go_wp2_with fail
                              go_roundw
                              case rel => first | exact ⟨m + 1, by omega, by go_num, HN⟩ | ((repeat apply Exists.intro); (first | exact ⟨⟨m + 1, by omega, by go_num, HN⟩, rfl⟩ | exact ⟨by omega, by go_num, HN⟩))
                              case measure => simp [intOf]; omega
                            | true =>
                              cases q with
                              | false =>
                                have HN1 := Lib.hid (HMIS.out fun hk => by cases hk.2)
                                clear HHIT HMIS
                                go_upto_region 27 with fail
                                have e1 : ∀ p : Gr V3, p.W.cell? ⟨w.heap.size, 1, none⟩ = some (.slice (some ⟨b1, o1, none⟩) s.covs.length h.c2) := Gr.cell e1
                                have x0 : ∀ p : Gr V3, p.W.cell? ⟨gx, 0, none⟩ = some (.int .i64 xb) := Gr.cell x0
                                have x1 : ∀ p : Gr V3, p.W.cell? ⟨gx, 1, none⟩ = some (.slice (some ⟨b2, o2, none⟩) xl.length p1) := Gr.cell x1
                                have r0 : ∀ p : Gr V3, p.W.cell? ⟨b2, o2 + j, none⟩ = some (.int .i64 r) := Gr.cell r0
                                have c0 : ∀ p : Gr V3, p.W.cell? ⟨b1, o1 + m * 2, none⟩ = some (.int .i64 yb) := Gr.cell c0
                                have c1 : ∀ p : Gr V3, p.W.cell? ⟨b1, o1 + m * 2 + 1, none⟩ = some (.slice Ap4 yl.length p4) := Gr.cell c1
                                refine wp_region_gr (by kernel_rfl) (by kernel_rfl) ?_
                                repeat (go_big_quiet_step ((with_reducible exact Gr.call _ (fun V hV => KI.out V hV))))
                                refine wpQuiet_nil ?_
                                rintro Y ⟨⟨_, hbY⟩, rfl⟩
                                have HN := Lib.hid (And.intro HN1.out (HBM.out.trans (hbY.mono HBM.out.size)))
                                clear hbY HN1 HBM KI e1 x0 x1 r0 c0 c1
                                go_wp2_with fail
                                go_roundw
                                case rel => first | exact ⟨m + 1, by omega, by go_num, HN⟩ | ((repeat apply Exists.intro); (first | exact ⟨⟨m + 1, by omega, by go_num, HN⟩, rfl⟩ | exact ⟨by omega, by go_num, HN⟩))
                                case measure => simp [intOf]; omega
                              | true =>
                                have HY := Lib.hid (HHIT.out (by simpa using pp) rfl)
                                clear HHIT HMIS
                                go_upto_region 27 with fail
                                have e1 : ∀ p : Gr V3, p.W.cell? ⟨w.heap.size, 1, none⟩ = some (.slice (some ⟨b1, o1, none⟩) s.covs.length h.c2) := Gr.cell e1
                                have x0 : ∀ p : Gr V3, p.W.cell? ⟨gx, 0, none⟩ = some (.int .i64 xb) := Gr.cell x0
                                have x1 : ∀ p : Gr V3, p.W.cell? ⟨gx, 1, none⟩ = some (.slice (some ⟨b2, o2, none⟩) xl.length p1) := Gr.cell x1
                                have r0 : ∀ p : Gr V3, p.W.cell? ⟨b2, o2 + j, none⟩ = some (.int .i64 r) := Gr.cell r0
                                have c0 : ∀ p : Gr V3, p.W.cell? ⟨b1, o1 + m * 2, none⟩ = some (.int .i64 yb) := Gr.cell c0
                                have c1 : ∀ p : Gr V3, p.W.cell? ⟨b1, o1 + m * 2 + 1, none⟩ = some (.slice Ap4 yl.length p4) := Gr.cell c1
                                refine wp_region_gr (by kernel_rfl) (by kernel_rfl) ?_
                                repeat (go_big_quiet_step ((with_reducible exact Gr.call _ (fun V hV => KI.out V hV))))
                                refine wpQuiet_nil ?_
                                rintro Y ⟨⟨_, hbY⟩, rfl⟩
                                have HE := Lib.hid (HB0.out.trans ((HB1.out.trans ((HBM.out.trans (hbY.mono HBM.out.size)).mono HB1.out.size)).mono HB0.out.size))
                                clear hbY KI e1 x0 x1 r0 c0 c1
                                go_wp2_with fail
                                go_ret
                                exact ⟨by rw [HY.out]; rfl, HE.out⟩
                          · obtain rfl : m = i := by omega
                            have HN : Hid ((∀ a, a < j + 1 → rowOK ⟨xb, xl⟩ a = true ∧ ∀ b, b < m → ¬ ((s.covs.getD b default).bay = xb ∧ xl.getD a 0 ∈ (s.covs.getD b default).rows)) ∧ Below V1.heap.size V1 V3) := Lib.hid ⟨fun a ha => by
                              rcases Nat.lt_succ_iff_lt_or_eq.1 ha with h1 | h1
                              · exact HJ1.out a h1
                              · rw [h1]
                                exact ⟨HRJ.out, HM.out.1⟩, HM.out.2⟩
                            clear HM
                            go_wp2_with fail
                            go_roundw
                            case rel => first | exact ⟨j + 1, by omega, by go_num, HN⟩ | ((repeat apply Exists.intro); (first | exact ⟨⟨j + 1, by omega, by go_num, HN⟩, rfl⟩ | exact ⟨by omega, by go_num, HN⟩))
                            case measure => simp [intOf]; omega
                  · obtain rfl : j = xl.length := by omega
                    have HN : Hid (covTo s (i + 1) ∧ Below W.heap.size W V2) := Lib.hid ⟨HTN.out (covOK_yes HWB.out HZ.out fun a ha => (HJ.out.1 a ha).1) (fun r hr b hb => by
                      obtain ⟨a, ha, rfl⟩ := List.getElem_of_mem hr
                      have := (HJ.out.1 a ha).2 b hb
                      simpa [ha] using this), HB1.out.trans (HJ.out.2.mono HB1.out.size)⟩
                    clear HJ
                    go_wp2_with fail
                    go_roundw
                    case rel => first | exact ⟨i + 1, by omega, by go_num, HN⟩ | ((repeat apply Exists.intro); (first | exact ⟨⟨i + 1, by omega, by go_num, HN⟩, rfl⟩ | exact ⟨by omega, by go_num, HN⟩))
                    case measure => simp [intOf]; omega
          · obtain rfl : i = s.covs.length := by omega
            have HY : Hid (R = true) := Lib.hid (HIFF.out.2 ⟨HG.out, HOK.out, HB.out.1⟩)
            have HE := Lib.hid (HB0.out.trans (HB.out.2.mono HB0.out.size))
            clear HB
            go_wp2_with fail
            go_ret
            exact ⟨by rw [HY.out]; rfl, HE.out⟩
end Go.Proofs.YtmhikcleekfbpaaDoor
