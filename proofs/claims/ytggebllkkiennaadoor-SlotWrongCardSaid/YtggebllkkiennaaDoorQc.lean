/-
  A region that draws its order, cut where all that stands before a place must come before all that stands behind it: piece by piece, each piece quiet, or one operation of any kind.
-/
import Derived.StillTail
import Derived.Test.YtggebllkkiennaaDoorQb
namespace Go.Proofs.YtggebllkkiennaaDoor
open Go.RowKit

section
variable {P : Program} {ops : Array Oper} {Q : Exit → Act → World → Prop} {C : World → Prop}

/-- The first n of s have come up. -/
def firstN (s n : Nat) : Array Bool := ((List.range s).map fun i => decide (i < n)).toArray
theorem firstN_size (s n : Nat) : (firstN s n).size = s := by simp [firstN]
theorem firstN_at (s n i : Nat) (d : Bool) : (firstN s n).getD i d = if i < s then decide (i < n) else d := by
  unfold firstN
  by_cases h : i < s <;> simp [h]
theorem array_getD_ext {a b : Array Bool} (hs : a.size = b.size) (h : ∀ i, i < a.size → a.getD i false = b.getD i false) : a = b := by
  apply Array.ext hs
  intro i h1 h2
  have := h i h1
  simpa [h1, h2] using this
theorem firstN_zero (s : Nat) : Array.replicate s false = firstN s 0 := by
  apply array_getD_ext (by simp [firstN_size])
  intro i hi
  rw [firstN_at]
  simp at hi
  simp [hi]
theorem getD_set_at {l : Array Bool} {n i : Nat} {d : Bool} (hn : n < l.size) : (l.setIfInBounds n true).getD i d = if n = i then true else l.getD i d := by
  by_cases h : n = i
  · subst h; simp [hn]
  · rw [if_neg h, getD_set_ne d h]
theorem firstN_succ (s n : Nat) : (firstN s n).setIfInBounds n true = firstN s (n + 1) := by
  apply array_getD_ext (by simp [firstN_size])
  intro i hi
  simp [firstN_size] at hi
  by_cases hn : n < s
  · rw [getD_set_at (by rw [firstN_size]; exact hn), firstN_at, firstN_at, if_pos hi, if_pos hi]
    by_cases h : n = i
    · subst h; simp
    · rw [if_neg h]
      have : (i < n) ↔ (i < n + 1) := by omega
      simp [this]
  · rw [getD_set_ne false (by omega), firstN_at, firstN_at, if_pos hi, if_pos hi]
    have : (i < n) ↔ (i < n + 1) := by omega
    simp [this]
theorem both_false {l : Array Bool} {i : Nat} (hi : i < l.size) : l.getD i true = l.getD i false := by simp [hi]

theorem any_more : ∀ (g : Nat) (listed : Array Bool) (a : Act) (w : World), wpAny P .any ops Q g listed a w → wpAny P .any ops Q (g + 1) listed a w
  | 0, listed, a, w, h => ⟨fun _ => h.2, fun i hi => by rw [h.1] at hi; cases hi⟩
  | g + 1, listed, a, w, h => ⟨h.1, fun i hi => wpOp_mono (fun a' w' h' => any_more g _ a' w' h') (h.2 i hi)⟩
theorem any_more' (d : Nat) {g : Nat} {listed : Array Bool} {a : Act} {w : World} (h : wpAny P .any ops Q g listed a w) : wpAny P .any ops Q (d + g) listed a w := by
  induction d with
  | zero => rw [Nat.zero_add]; exact h
  | succ d ih => rw [show d + 1 + g = (d + g) + 1 by omega]; exact any_more _ _ _ _ ih

/-- What waits, waits for what stands before it. -/
def backB (ops : Array Oper) : Bool := (List.range ops.size).all fun i => match ops[i]? with
  | some o => o.after.all fun e => !Region.binds .any e || decide (e.on < i)
  | none => true
/-- All that stands before m must come before all that stands from m on. -/
def wallB (ops : Array Oper) (m : Nat) : Bool :=
  ((List.range m).all fun i => decide (ops.size ≤ m) || (List.range (m + 1)).any fun j => decide (i < j) && Region.waitsFor .any ops j i) &&
  ((List.range ops.size).all fun t => decide (t ≤ m) || (List.range t).any fun s => decide (m ≤ s) && Region.waitsFor .any ops t s)
theorem back_spec (h : backB ops = true) {i : Nat} {o : Oper} (ho : ops[i]? = some o) {e : Edge} (he : e ∈ o.after) (hb : Region.binds .any e = true) : e.on < i := by
  have hlt : i < ops.size := (Array.getElem?_eq_some_iff.1 ho).1
  have h1 := List.all_eq_true.1 h i (List.mem_range.2 hlt)
  simp only [ho] at h1
  have h2 := Array.all_eq_true_iff_forall_mem.1 h1 e he
  simpa [hb] using h2

structure HeadI (ops : Array Oper) (m : Nat) (listed : Array Bool) : Prop where
  size : listed.size = ops.size
  closed : ∀ j o, ops[j]? = some o → listed.getD j false = true → ∀ e ∈ o.after, Region.binds .any e = true → listed.getD e.on false = true
  tail : ∀ t, m ≤ t → listed.getD t false = false
theorem HeadI.set {m i : Nat} {listed : Array Bool} (inv : HeadI ops m listed) (hi : i ∈ Region.ready .any ops listed) (him : i < m) : HeadI ops m (listed.setIfInBounds i true) := by
  obtain ⟨_, oi, hoi, hall⟩ := mem_ready.1 hi
  refine ⟨by simp [inv.size], fun j o ho hl e he hb => ?_, fun t ht => by rw [getD_set_ne false (by omega)]; exact inv.tail t ht⟩
  by_cases hij : i = j
  · subst hij
    obtain rfl : o = oi := Option.some.inj (ho.symm.trans hoi)
    exact getD_set_true (hall e he hb)
  · rw [getD_set_ne false hij] at hl
    exact getD_set_true (inv.closed j o ho hl e he hb)
theorem wall_stops {m : Nat} (hw : wallB ops m = true) {listed : Array Bool} (inv : HeadI ops m listed) {i : Nat} (him : i < m) (hun : listed.getD i false = false) : ∀ t ∈ Region.ready .any ops listed, t < m := by
  unfold wallB at hw
  rw [Bool.and_eq_true] at hw
  obtain ⟨h1, h2⟩ := hw
  have key : ∀ (d i : Nat), m - i = d → i < m → listed.getD i false = false → m < ops.size → ∃ o, ops[m]? = some o ∧ ∃ e ∈ o.after, Region.binds .any e = true ∧ listed.getD e.on false = false := by
    intro d
    induction d using Nat.strongRecOn with
    | _ d ih =>
      intro i hd hi hun hms
      have hx := List.all_eq_true.1 h1 i (List.mem_range.2 hi)
      rw [Bool.or_eq_true, decide_eq_true_eq] at hx
      rcases hx with hx | hx
      · omega
      · obtain ⟨j, hj, hj2⟩ := List.any_eq_true.1 hx
        rw [Bool.and_eq_true, decide_eq_true_eq] at hj2
        obtain ⟨oj, hoj, e, he, hb, hon⟩ := Region.waitsFor_spec hj2.2
        have hjm : j ≤ m := by have := List.mem_range.1 hj; omega
        by_cases hjt : j = m
        · subst hjt; exact ⟨oj, hoj, e, he, hb, by rw [hon]; exact hun⟩
        · cases hl : listed.getD j false with
          | true =>
            have := inv.closed j oj hoj hl e he hb
            rw [hon, hun] at this; cases this
          | false => exact ih (m - j) (by omega) j rfl (by omega) hl hms
  intro t ht
  obtain ⟨_, ot, hot, hall⟩ := mem_ready.1 ht
  have hts : t < ops.size := (Array.getElem?_eq_some_iff.1 hot).1
  rcases Nat.lt_or_ge t m with h | h
  · exact h
  · exfalso
    by_cases htm : t = m
    · subst htm
      obtain ⟨o, ho, e, he, hb, hf⟩ := key _ i rfl him hun hts
      obtain rfl : o = ot := Option.some.inj (ho.symm.trans hot)
      rw [hall e he hb] at hf; cases hf
    · have hx := List.all_eq_true.1 h2 t (List.mem_range.2 hts)
      rw [Bool.or_eq_true, decide_eq_true_eq] at hx
      rcases hx with hx | hx
      · omega
      · obtain ⟨s, hs, hs2⟩ := List.any_eq_true.1 hx
        rw [Bool.and_eq_true, decide_eq_true_eq] at hs2
        obtain ⟨o, ho, e, he, hb, hon⟩ := Region.waitsFor_spec hs2.2
        obtain rfl : o = ot := Option.some.inj (ho.symm.trans hot)
        have := hall e he hb
        rw [hon, inv.tail s hs2.1] at this; cases this
theorem some_ready (hbk : backB ops = true) {listed : Array Bool} (hsz : listed.size = ops.size) : ∀ (i : Nat), i < ops.size → listed.getD i false = false → ∃ j, j ≤ i ∧ j ∈ Region.ready .any ops listed := by
  intro i
  induction i using Nat.strongRecOn with
  | _ i ih =>
    intro hi hun
    have ho : ops[i]? = some ops[i] := Array.getElem?_eq_getElem hi
    by_cases hall : ∀ e ∈ ops[i].after, Region.binds .any e = true → listed.getD e.on false = true
    · exact ⟨i, Nat.le_refl _, mem_ready.2 ⟨by rw [both_false (by omega)]; exact hun, _, ho, hall⟩⟩
    · have ⟨e, hx⟩ := Classical.not_forall.1 hall
      have ⟨he, hx⟩ := Classical.not_forall.1 hx
      have ⟨hb, hx⟩ := Classical.not_forall.1 hx
      have hlt := back_spec hbk ho he hb
      obtain ⟨j, h1, h2⟩ := ih e.on hlt (by omega) (by simpa using hx)
      exact ⟨j, by omega, h2⟩

/-- Listed, and the same with all from m on taken for listed. -/
structure Masked (ops : Array Oper) (m : Nat) (listed listed' : Array Bool) : Prop where
  size : listed'.size = ops.size
  head : ∀ i d, i < m → listed'.getD i d = listed.getD i d
  tail : ∀ t, m ≤ t → t < ops.size → listed'.getD t true = true
theorem Masked.set {m i : Nat} {listed listed' : Array Bool} (h : Masked ops m listed listed') (hsz : listed.size = ops.size) (him : i < m) : Masked ops m (listed.setIfInBounds i true) (listed'.setIfInBounds i true) := by
  refine ⟨by simp [h.size], fun j d hj => ?_, fun t ht hts => by rw [getD_set_ne true (by omega)]; exact h.tail t ht hts⟩
  by_cases hi : i < ops.size
  · rw [getD_set_at (by rw [h.size]; exact hi), getD_set_at (by rw [hsz]; exact hi), h.head j d hj]
  · by_cases hij : i = j
    · subst hij
      simp only [Array.getD_eq_getD_getElem?]
      rw [Array.getElem?_eq_none (by simp [h.size]; omega), Array.getElem?_eq_none (by simp [hsz]; omega)]
    · rw [getD_set_ne d hij, getD_set_ne d hij, h.head j d hj]
theorem Masked.ready {m j : Nat} {listed listed' : Array Bool} (h : Masked ops m listed listed') (hbk : backB ops = true) (hj : j ∈ Region.ready .any ops listed) (hjm : j < m) : j ∈ Region.ready .any ops listed' := by
  obtain ⟨h0, o, ho, hall⟩ := mem_ready.1 hj
  refine mem_ready.2 ⟨by rw [h.head j true hjm]; exact h0, o, ho, fun e he hb => ?_⟩
  have := back_spec hbk ho he hb
  rw [h.head e.on false (by omega)]
  exact hall e he hb

theorem any_head {m g : Nat} {L : Act → Prop} (hbk : backB ops = true) (hw : wallB ops m = true) (hm : m ≤ ops.size) (hL : ∀ a w, C w → L a → wpAny P .any ops Q g (firstN ops.size m) a w) :
    ∀ (f : Nat) (listed listed' : Array Bool) (a : Act) (w : World), HeadI ops m listed → Masked ops m listed listed' → C w → wpAnyQ P .any ops C L f listed' a → wpAny P .any ops Q (f + g) listed a w := by
  have full : ∀ (listed : Array Bool), HeadI ops m listed → (∀ i, i < m → listed.getD i false = true) → listed = firstN ops.size m := by
    intro listed inv hall
    apply array_getD_ext (by rw [inv.size, firstN_size])
    intro i hi
    rw [firstN_at, if_pos (by rw [← inv.size]; exact hi)]
    by_cases him : i < m
    · rw [hall i him]; simp [him]
    · rw [inv.tail i (by omega)]; simp [him]
  have none' : ∀ (listed listed' : Array Bool), HeadI ops m listed → Masked ops m listed listed' → (∀ i, i < m → listed.getD i false = true) → Region.ready .any ops listed' = [] := by
    intro listed listed' inv hmk hall
    apply List.eq_nil_iff_forall_not_mem.2
    intro j hj
    obtain ⟨h0, o, ho, _⟩ := mem_ready.1 hj
    have hjs : j < ops.size := (Array.getElem?_eq_some_iff.1 ho).1
    by_cases hjm : j < m
    · rw [hmk.head j true hjm, both_false (by rw [inv.size]; exact hjs), hall j hjm] at h0; cases h0
    · rw [hmk.tail j (by omega) hjs] at h0; cases h0
  have ex : ∀ (listed : Array Bool), ¬ (∀ i, i < m → listed.getD i false = true) → ∃ i, i < m ∧ listed.getD i false = false := by
    intro listed h
    have ⟨i, hx⟩ := Classical.not_forall.1 h
    have ⟨hi, hx⟩ := Classical.not_forall.1 hx
    exact ⟨i, hi, by simpa using hx⟩
  intro f
  induction f with
  | zero =>
    intro listed listed' a w inv hmk hC h
    by_cases hall : ∀ i, i < m → listed.getD i false = true
    · rw [full listed inv hall, Nat.zero_add]; exact hL a w hC h.2
    · obtain ⟨i, him, hun⟩ := ex listed hall
      obtain ⟨j, hji, hj⟩ := some_ready hbk inv.size i (by omega) hun
      have := hmk.ready hbk hj (by omega)
      rw [h.1] at this; cases this
  | succ f ih =>
    intro listed listed' a w inv hmk hC h
    by_cases hall : ∀ i, i < m → listed.getD i false = true
    · rw [full listed inv hall]
      exact any_more' (f + 1) (hL a w hC (h.1 (none' listed listed' inv hmk hall)))
    · obtain ⟨i, him, hun⟩ := ex listed hall
      rw [show f + 1 + g = (f + g) + 1 by omega]
      refine ⟨fun h0 => ?_, fun j hj => ?_⟩
      · obtain ⟨j, _, hj⟩ := some_ready hbk inv.size i (by omega) hun
        rw [h0] at hj; cases hj
      · have hjm := wall_stops hw inv him hun j hj
        exact wpOp_of_qOp hC (fun a' w' hw' h' => ih _ _ a' w' (inv.set hj hjm) (hmk.set inv.size hjm) hw' h') (h.2 j (hmk.ready hbk hj hjm))

theorem anyQ_lex {L : Act → Prop} (hs : Region.noSelect ops = true) : ∀ (l : List Oper) (k : Nat) (listed : Array Bool) (a : Act), (∀ j, j < l.length → l[j]? = ops[k + j]?) →
    Region.lexFrom .any ops l.length k listed = true → wpQuiet P ops C L l a → wpAnyQ P .any ops C L l.length listed a
  | [], _, _, _, _, hB, h => ⟨by simpa [Region.lexFrom] using hB, h⟩
  | o :: l, k, listed, a, hl, hB, h => by
    have h0 : ops[k]? = some o := by simpa using (hl 0 (by simp)).symm
    simp only [List.length_cons, Region.lexFrom, Bool.and_eq_true] at hB
    obtain ⟨⟨hr, hf⟩, hB'⟩ := hB
    have hst : qOp P ops C k (wpQuiet P ops C L l) a := by unfold qOp; simp only [h0]; exact h
    obtain ⟨v, hy, hK⟩ := yieldsIn_of_qOp h0 hst
    exact wpAnyQ_first h0 (Region.noSelect_spec hs) l.length listed a (Region.free_spec h0 hf) (by simpa using hr) hy
      (anyQ_lex hs l (k + 1) _ _ (fun j hj => by have := hl (j + 1) (by simp; omega); simpa [Nat.add_assoc, Nat.add_comm 1 j] using this) hB' hK)

/-- The first n operations have come up; the others in whatever order. -/
def AnyAt (P : Program) (ops : Array Oper) (Q : Exit → Act → World → Prop) (n : Nat) (a : Act) (w : World) : Prop := wpAny P .any ops Q (ops.size - n) (firstN ops.size n) a w
def maskN (s n m : Nat) : Array Bool := ((List.range s).map fun i => decide (i < n) || decide (m ≤ i)).toArray
def pieceB (ops : Array Oper) (n m : Nat) : Bool := Region.noSelect ops && (backB ops && (wallB ops m && (decide (n ≤ m) && (decide (m ≤ ops.size) && Region.lexFrom .any ops (m - n) n (maskN ops.size n m)))))
theorem closed_first (hbk : backB ops = true) (n : Nat) : ∀ j o, ops[j]? = some o → (firstN ops.size n).getD j false = true → ∀ e ∈ o.after, Region.binds .any e = true → (firstN ops.size n).getD e.on false = true := by
  intro j o ho hl e he hb
  have := back_spec hbk ho he hb
  have hjs : j < ops.size := (Array.getElem?_eq_some_iff.1 ho).1
  rw [firstN_at, if_pos hjs, decide_eq_true_eq] at hl
  rw [firstN_at, if_pos (by omega)]
  simp; omega
theorem AnyAt.piece {l : List Oper} {n : Nat} {a : Act} {w : World} (m : Nat) (hC : C w) (hB : pieceB l.toArray n m = true)
    (h : wpQuiet P l.toArray C (fun a' => ∀ w', C w' → AnyAt P l.toArray Q m a' w') ((l.drop n).take (m - n)) a) : AnyAt P l.toArray Q n a w := by
  unfold pieceB at hB
  simp only [Bool.and_eq_true, decide_eq_true_eq] at hB
  obtain ⟨hs, hbk, hw, hnm, hms, hlex⟩ := hB
  have hms' : m ≤ l.length := by simpa using hms
  have hlen : ((l.drop n).take (m - n)).length = m - n := by simp; omega
  have inv : HeadI l.toArray m (firstN l.toArray.size n) := ⟨firstN_size _ _, closed_first hbk n, fun t ht => by
    rw [firstN_at]
    split
    · simp; omega
    · rfl⟩
  have hmk : Masked l.toArray m (firstN l.toArray.size n) (maskN l.toArray.size n m) := by
    refine ⟨by simp [maskN], fun i d hi => ?_, fun t ht hts => ?_⟩
    · have hi2 : i < l.length := by omega
      rw [firstN_at, if_pos (by simpa using hi2)]
      have : ¬ m ≤ i := by omega
      simp [maskN, hi2, this]
    · have hts' : t < l.length := by simpa using hts
      simp [maskN, hts', ht]
  have hq := anyQ_lex (P := P) (C := C) hs ((l.drop n).take (m - n)) n (maskN l.toArray.size n m) a (fun j hj => by
    rw [hlen] at hj
    simp [hj, List.getElem?_drop]) (by rw [hlen]; exact hlex) h
  have := any_head (P := P) (Q := Q) (g := l.toArray.size - m) hbk hw hms (fun a w hw h => h w hw) _ _ _ a w inv hmk hC hq
  unfold AnyAt
  rw [hlen, show m - n + (l.toArray.size - m) = l.toArray.size - n by simp; omega] at this
  exact this
theorem AnyAt.one {l : List Oper} {n : Nat} {a : Act} {w : World} {o : Oper} (hB : (Region.ready .any l.toArray (firstN l.toArray.size n) == [n]) = true) (ho : l[n]? = some o)
    (h : ∀ K : Act → World → Prop, (∀ a w, AnyAt P l.toArray Q (n + 1) a w → K a w) → if Region.wanted o (yielded l.toArray a.tmps) then o.wp P a w K Q else K (a.put o.dst undef) w) : AnyAt P l.toArray Q n a w := by
  have hr : Region.ready .any l.toArray (firstN l.toArray.size n) = [n] := by simpa using hB
  have hn : n < l.length := (List.getElem?_eq_some_iff.1 ho).1
  unfold AnyAt
  rw [show l.toArray.size - n = (l.toArray.size - (n + 1)) + 1 by simp; omega]
  refine ⟨fun h0 => (by rw [hr] at h0; cases h0), fun i hi => ?_⟩
  rw [hr] at hi
  obtain rfl : i = n := by simpa using hi
  unfold wpOp
  have ho' : l.toArray[i]? = some o := by simpa using ho
  simp only [ho']
  rw [firstN_succ]
  have := h _ (fun _ _ h => h)
  split
  · rename_i hwt
    rw [if_pos hwt] at this
    exact .inl this
  · rename_i hwt
    rw [if_neg hwt] at this
    exact this
theorem AnyAt.done {l : List Oper} {a : Act} {w : World} {n : Nat} (hn : n = l.length) (h : Q .normal a w) : AnyAt P l.toArray Q n a w := by
  unfold AnyAt
  subst hn
  rw [show l.toArray.size - l.length = 0 by simp]
  refine ⟨List.eq_nil_iff_forall_not_mem.2 fun j hj => ?_, h⟩
  obtain ⟨h0, o, ho, _⟩ := mem_ready.1 hj
  have hjs : j < l.length := by simpa using (Array.getElem?_eq_some_iff.1 ho).1
  rw [firstN_at, if_pos (by simpa using hjs)] at h0
  simp at h0
  omega
theorem wp_region_at {id : Nat} {l : List Oper} {a : Act} {w : World} (hm : P.follows .mixedOrders = true) (h : AnyAt P l.toArray Q 0 a (w.drewN 1)) : (Code.region id l.toArray true).wp P Q a w := by
  refine wp_region_any hm ?_
  unfold AnyAt at h
  rw [← firstN_zero, Nat.sub_zero] at h
  exact h
theorem AnyAt.gr {l : List Oper} {n : Nat} {a : Act} {w : World} (m : Nat) (hB : pieceB l.toArray n m = true)
    (h : wpQuiet P l.toArray (fun w' => ∃ p : Gr w, w' = p.W) (fun a' => ∀ w', (∃ p : Gr w, w' = p.W) → AnyAt P l.toArray Q m a' w') ((l.drop n).take (m - n)) a) : AnyAt P l.toArray Q n a w :=
  AnyAt.piece (C := fun w' => ∃ p : Gr w, w' = p.W) m ⟨⟨w, Below.refl _ _⟩, rfl⟩ hB h
end
end Go.Proofs.YtggebllkkiennaaDoor
