/-
  The same inside a fence: a region that draws its order, piece by piece.
-/
import Derived.Sort.BigQuietIn
import Derived.Test.YtnbpecnddjpfbaaDoorB4
namespace Go.Proofs.YtnbpecnddjpfbaaDoor
open Go.RowKit

section
variable {F : Fence} {r : Nat} {P : Program} {ops : Array Oper} {Q : Exit → Act → World → Prop} {C : World → Prop}
theorem wpIn_region_gr {id : Nat} {a : Act} {w : World} {l : List Oper} (hro : F.round = none) (hm : P.follows .mixedOrders = true) (hB : Region.lexB .any l.toArray = true)
    (h : wpQuietIn F r P l.toArray (fun w' => ∃ p : Gr w, w' = p.W) (fun a' => ∀ w', (∃ p : Gr w, w' = p.W) → Q .normal a' w') l a) : (Code.region id l.toArray true).wpIn F r P Q a w :=
  wpIn_region_quiet (C := fun w' => ∃ p : Gr w, w' = p.W) hro hm hB ⟨⟨w.drewN 1, below_drewN (Below.refl _ _) 1⟩, rfl⟩ (by simpa using h)
theorem Gr.callIn {n : Nat} {f : FuncId} {args : Array Value} {w : World} {v : Value} (p : Gr w) (h : ∀ V : World, Below w.heap.size w V → Calls P f args V (Ret V v)) :
    CallsIn Fence.wide n P f args p.W fun e w'' => e = .returned v ∧ ∃ q : Gr w, w'' = q.W :=
  callsIn_wide.2 (Gr.call p h)
theorem anyIn_more : ∀ (g : Nat) (listed : Array Bool) (a : Act) (w : World), wpAnyIn F r P .any ops Q g listed a w → wpAnyIn F r P .any ops Q (g + 1) listed a w
  | 0, listed, a, w, h => ⟨fun _ => h.2, fun i hi => by rw [h.1] at hi; cases hi⟩
  | g + 1, listed, a, w, h => ⟨h.1, fun i hi => wpOpIn_mono (fun a' w' h' => anyIn_more g _ a' w' h') (h.2 i hi)⟩
theorem anyIn_more' (d : Nat) {g : Nat} {listed : Array Bool} {a : Act} {w : World} (h : wpAnyIn F r P .any ops Q g listed a w) : wpAnyIn F r P .any ops Q (d + g) listed a w := by
  induction d with
  | zero => rw [Nat.zero_add]; exact h
  | succ d ih => rw [show d + 1 + g = (d + g) + 1 by omega]; exact anyIn_more _ _ _ _ ih
theorem anyIn_head {m g : Nat} {L : Act → Prop} (hro : F.round = none) (hbk : backB ops = true) (hw : wallB ops m = true) (hm : m ≤ ops.size) (hL : ∀ a w, C w → L a → wpAnyIn F r P .any ops Q g (firstN ops.size m) a w) :
    ∀ (f : Nat) (listed listed' : Array Bool) (a : Act) (w : World), HeadI ops m listed → Masked ops m listed listed' → C w → wpAnyQIn F r P .any ops C L f listed' a → wpAnyIn F r P .any ops Q (f + g) listed a w := by
  have full : ∀ (listed : Array Bool), HeadI ops m listed → (∀ i, i < m → listed.getD i false = true) → listed = firstN ops.size m := by
    intro listed inv hall
    apply array_getD_ext (by rw [inv.size, firstN_size])
    intro i hi
    rw [firstN_at, if_pos (by rw [← inv.size]; exact hi)]
    by_cases him : i < m
    · rw [hall i him]; simp [him]
    · rw [inv.tail i (by omega)]; simp [him]
  have none' : ∀ (listed listed' : Array Bool), HeadI ops m listed → Masked ops m listed listed' → (∀ i, i < m → listed.getD i false = true) → Region.ready .any ops listed' = [] := by
    intro listed listed' inv hmk hall
    apply List.eq_nil_iff_forall_not_mem.2
    intro j hj
    obtain ⟨h0, o, ho, _⟩ := mem_ready.1 hj
    have hjs : j < ops.size := (Array.getElem?_eq_some_iff.1 ho).1
    by_cases hjm : j < m
    · rw [hmk.head j true hjm, both_false (by rw [inv.size]; exact hjs), hall j hjm] at h0; cases h0
    · rw [hmk.tail j (by omega) hjs] at h0; cases h0
  have ex : ∀ (listed : Array Bool), ¬ (∀ i, i < m → listed.getD i false = true) → ∃ i, i < m ∧ listed.getD i false = false := by
    intro listed h
    have ⟨i, hx⟩ := Classical.not_forall.1 h
    have ⟨hi, hx⟩ := Classical.not_forall.1 hx
    exact ⟨i, hi, by simpa using hx⟩
  intro f
  induction f with
  | zero =>
    intro listed listed' a w inv hmk hC h
    by_cases hall : ∀ i, i < m → listed.getD i false = true
    · rw [full listed inv hall, Nat.zero_add]; exact hL a w hC h.2
    · obtain ⟨i, him, hun⟩ := ex listed hall
      obtain ⟨j, hji, hj⟩ := some_ready hbk inv.size i (by omega) hun
      have := hmk.ready hbk hj (by omega)
      rw [h.1] at this; cases this
  | succ f ih =>
    intro listed listed' a w inv hmk hC h
    by_cases hall : ∀ i, i < m → listed.getD i false = true
    · rw [full listed inv hall]
      exact anyIn_more' (f + 1) (hL a w hC (h.1 (none' listed listed' inv hmk hall)))
    · obtain ⟨i, him, hun⟩ := ex listed hall
      rw [show f + 1 + g = (f + g) + 1 by omega]
      refine ⟨fun h0 => ?_, fun j hj => ?_⟩
      · obtain ⟨j, _, hj⟩ := some_ready hbk inv.size i (by omega) hun
        rw [h0] at hj; cases hj
      · have hjm := wall_stops hw inv him hun j hj
        exact wpOpIn_of_qOpIn hro hC (fun a' w' hw' h' => ih _ _ a' w' (inv.set hj hjm) (hmk.set inv.size hjm) hw' h') (h.2 j (hmk.ready hbk hj hjm))
theorem anyQIn_lex {L : Act → Prop} (hs : Region.noSelect ops = true) : ∀ (l : List Oper) (k : Nat) (listed : Array Bool) (a : Act), (∀ j, j < l.length → l[j]? = ops[k + j]?) →
    Region.lexFrom .any ops l.length k listed = true → wpQuietIn F r P ops C L l a → wpAnyQIn F r P .any ops C L l.length listed a
  | [], _, _, _, _, hB, h => ⟨by simpa [Region.lexFrom] using hB, h⟩
  | o :: l, k, listed, a, hl, hB, h => by
    have h0 : ops[k]? = some o := by simpa using (hl 0 (by simp)).symm
    simp only [List.length_cons, Region.lexFrom, Bool.and_eq_true] at hB
    obtain ⟨⟨hr, hf⟩, hB'⟩ := hB
    have hst : qOpIn F r P ops C k (wpQuietIn F r P ops C L l) a := by unfold qOpIn; simp only [h0]; exact h
    obtain ⟨v, hy, hK⟩ := yieldsQuiet_of_qOpIn h0 hst
    exact wpAnyQIn_first h0 (Region.noSelect_spec hs) l.length listed a (Region.free_spec h0 hf) (by simpa using hr) hy
      (anyQIn_lex hs l (k + 1) _ _ (fun j hj => by have := hl (j + 1) (by simp; omega); simpa [Nat.add_assoc, Nat.add_comm 1 j] using this) hB' hK)
/-- The first n operations have come up; the others in whatever order. -/
def AnyIn (F : Fence) (r : Nat) (P : Program) (ops : Array Oper) (Q : Exit → Act → World → Prop) (n : Nat) (a : Act) (w : World) : Prop := wpAnyIn F r P .any ops Q (ops.size - n) (firstN ops.size n) a w
theorem AnyIn.piece {l : List Oper} {n : Nat} {a : Act} {w : World} (m : Nat) (hro : F.round = none) (hC : C w) (hB : pieceB l.toArray n m = true)
    (h : wpQuietIn F r P l.toArray C (fun a' => ∀ w', C w' → AnyIn F r P l.toArray Q m a' w') ((l.drop n).take (m - n)) a) : AnyIn F r P l.toArray Q n a w := by
  unfold pieceB at hB
  simp only [Bool.and_eq_true, decide_eq_true_eq] at hB
  obtain ⟨hs, hbk, hw, hnm, hms, hlex⟩ := hB
  have hms' : m ≤ l.length := by simpa using hms
  have hlen : ((l.drop n).take (m - n)).length = m - n := by simp; omega
  have inv : HeadI l.toArray m (firstN l.toArray.size n) := ⟨firstN_size _ _, closed_first hbk n, fun t ht => by
    rw [firstN_at]
    split
    · simp; omega
    · rfl⟩
  have hmk : Masked l.toArray m (firstN l.toArray.size n) (maskN l.toArray.size n m) := by
    refine ⟨by simp [maskN], fun i d hi => ?_, fun t ht hts => ?_⟩
    · have hi2 : i < l.length := by omega
      rw [firstN_at, if_pos (by simpa using hi2)]
      have : ¬ m ≤ i := by omega
      simp [maskN, hi2, this]
    · have hts' : t < l.length := by simpa using hts
      simp [maskN, hts', ht]
  have hq := anyQIn_lex (P := P) (C := C) hs ((l.drop n).take (m - n)) n (maskN l.toArray.size n m) a (fun j hj => by
    rw [hlen] at hj
    simp [hj, List.getElem?_drop]) (by rw [hlen]; exact hlex) h
  have := anyIn_head (P := P) (Q := Q) (g := l.toArray.size - m) hro hbk hw hms (fun a w hw h => h w hw) _ _ _ a w inv hmk hC hq
  unfold AnyIn
  rw [hlen, show m - n + (l.toArray.size - m) = l.toArray.size - n by simp; omega] at this
  exact this
theorem AnyIn.one {l : List Oper} {n : Nat} {a : Act} {w : World} {o : Oper} (hB : (Region.ready .any l.toArray (firstN l.toArray.size n) == [n]) = true) (ho : l[n]? = some o)
    (h : ∀ K : Act → World → Prop, (∀ a w, AnyIn F r P l.toArray Q (n + 1) a w → K a w) → if Region.wanted o (yielded l.toArray a.tmps) then o.wpIn F r P a w K Q else (∀ f, o.about P w a.eval = some f → F.fn f) ∧ K (a.put o.dst undef) w) : AnyIn F r P l.toArray Q n a w := by
  have hr : Region.ready .any l.toArray (firstN l.toArray.size n) = [n] := by simpa using hB
  have hn : n < l.length := (List.getElem?_eq_some_iff.1 ho).1
  unfold AnyIn
  rw [show l.toArray.size - n = (l.toArray.size - (n + 1)) + 1 by simp; omega]
  refine ⟨fun h0 => (by rw [hr] at h0; cases h0), fun i hi => ?_⟩
  rw [hr] at hi
  obtain rfl : i = n := by simpa using hi
  unfold wpOpIn
  have ho' : l.toArray[i]? = some o := by simpa using ho
  simp only [ho']
  rw [firstN_succ]
  exact h _ (fun _ _ h => h)
theorem AnyIn.done {l : List Oper} {a : Act} {w : World} {n : Nat} (hn : n = l.length) (h : Q .normal a w) : AnyIn F r P l.toArray Q n a w := by
  unfold AnyIn
  subst hn
  rw [show l.toArray.size - l.length = 0 by simp]
  refine ⟨List.eq_nil_iff_forall_not_mem.2 fun j hj => ?_, h⟩
  obtain ⟨h0, o, ho, _⟩ := mem_ready.1 hj
  have hjs : j < l.length := by simpa using (Array.getElem?_eq_some_iff.1 ho).1
  rw [firstN_at, if_pos (by simpa using hjs)] at h0
  simp at h0
  omega
theorem wpIn_region_at {id : Nat} {l : List Oper} {a : Act} {w : World} (hm : P.follows .mixedOrders = true) (h : AnyIn F r P l.toArray Q 0 a (w.drewN 1)) : (Code.region id l.toArray true).wpIn F r P Q a w := by
  refine wpIn_region_any hm ?_
  unfold AnyIn at h
  rw [← firstN_zero, Nat.sub_zero] at h
  exact h
theorem AnyIn.gr {l : List Oper} {n : Nat} {a : Act} {w : World} (m : Nat) (hro : F.round = none) (hB : pieceB l.toArray n m = true)
    (h : wpQuietIn F r P l.toArray (fun w' => ∃ p : Gr w, w' = p.W) (fun a' => ∀ w', (∃ p : Gr w, w' = p.W) → AnyIn F r P l.toArray Q m a' w') ((l.drop n).take (m - n)) a) : AnyIn F r P l.toArray Q n a w :=
  AnyIn.piece (C := fun w' => ∃ p : Gr w, w' = p.W) m hro ⟨⟨w, Below.refl _ _⟩, rfl⟩ hB h
end
end Go.Proofs.YtnbpecnddjpfbaaDoor
