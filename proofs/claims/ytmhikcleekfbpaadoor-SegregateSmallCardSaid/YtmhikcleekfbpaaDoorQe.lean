/-
  A region that draws its order and makes or writes memory: one assertion an operation, each shown once; no order is walked.
-/
import Derived.Test.YtmhikcleekfbpaaDoorB4
namespace Go.Proofs.YtmhikcleekfbpaaDoor
open Go.RowKit

/-- What holds once an operation has come up: of the results x (by the operations' numbers) and of memory. -/
structure As where
  sup : List Nat
  p : (Nat → Value) → World → Prop
  loc : ∀ {x y : Nat → Value} {w : World}, (∀ k ∈ sup, x k = y k) → p x w → p y w
  grow : ∀ {x : Nat → Value} {w w' : World}, Below w.heap.size w w' → p x w → p x w'
def As.no : As := ⟨[], fun _ _ => True, fun _ h => h, fun _ h => h⟩
def As.val (i : Nat) (v : Value) : As := ⟨[i], fun x _ => x i = v, fun h e => (h i (by simp)).symm.trans e, fun _ h => h⟩
def upd (x : Nat → Value) (i : Nat) (v : Value) : Nat → Value := fun k => if k = i then v else x k
theorem upd_same (x : Nat → Value) (i : Nat) (v : Value) : upd x i v i = v := if_pos rfl
theorem upd_ne {x : Nat → Value} {i k : Nat} (v : Value) (h : k ≠ i) : upd x i v k = x k := if_neg h
theorem upd_id (x : Nat → Value) (i : Nat) : upd x i (x i) = x := by funext k; unfold upd; split <;> simp_all
/-- i waits for k, at once or through others. -/
def anc (ops : Array Oper) : Nat → Nat → Nat → Bool
  | 0, i, k => Region.waitsFor .any ops i k
  | f + 1, i, k => Region.waitsFor .any ops i k || (List.range i).any fun m => Region.waitsFor .any ops i m && anc ops f m k
/-- What of the assertions must live on when operation i comes up. -/
def alive (ops : Array Oper) (uses : List (List Nat)) (keep : List Nat) (i : Nat) : List Nat :=
  (List.range ops.size).filter fun k => decide (k ≠ i) && !anc ops 3 k i && (keep.contains k || (List.range ops.size).any fun j => decide (j ≠ i) && !anc ops 3 i j && (uses.getD j []).contains k)
def dstOf (ops : Array Oper) (i : Nat) : Option Tmp := (ops[i]?).bind (·.dst)
def ogB (ops : Array Oper) (A : List As) (uses : List (List Nat)) (keep : List Nat) : Bool :=
  Region.noSelect ops && backB ops && (List.range ops.size).all (fun i => match ops[i]? with
    | some o => o.guard.isNone && (List.range ops.size).all (fun k => decide (k = i) || match dstOf ops k with
        | some d => decide (o.dst ≠ some d) && (!(o.looksAt ops).contains d || (if k < i then anc ops 3 i k else anc ops 3 k i))
        | none => true) && (uses.getD i []).all (fun k => anc ops 3 i k) && (alive ops uses keep i).all (fun k => !((A.getD k As.no).sup).contains i)
    | none => true)

section
variable {P : Program} {ops : Array Oper} {Q : Exit → Act → World → Prop} {C : World → Prop} {A : List As} {uses : List (List Nat)} {keep : List Nat}
def OgStep (P : Program) (C : World → Prop) (A : List As) (us al : List Nat) (o : Oper) (i : Nat) (f : (Nat → Value) → Act) : Prop :=
  (∀ k ∈ al, i ∉ (A.getD k As.no).sup) → ∀ (x : Nat → Value) (w : World), C w → (∀ k ∈ us, (A.getD k As.no).p x w) → ∀ (K : Act → World → Prop) (Q : Exit → Act → World → Prop),
    (∀ v w', C w' → (A.getD i As.no).p (upd x i v) w' → (∀ k ∈ al, (A.getD k As.no).p x w → (A.getD k As.no).p (upd x i v) w') → K ((f x).put o.dst v) w') → o.wp P (f x) w K Q
/-- One obligation for each operation, in the order of the text. -/
def OgSteps (P : Program) (C : World → Prop) (A : List As) (uses : List (List Nat)) (al : Nat → List Nat) : List Oper → Nat → ((Nat → Value) → Act) → Prop
  | [], _, _ => True
  | o :: l, i, f => OgStep P C A (uses.getD i []) (al i) o i f ∧ OgSteps P C A uses al l (i + 1) (fun x => (f x).put o.dst (x i))
def lay (x : Nat → Value) : List Oper → Nat → Act → Act
  | [], _, a => a
  | o :: l, i, a => lay x l (i + 1) (a.put o.dst (x i))
theorem OgSteps.at_ {al : Nat → List Nat} : ∀ {l : List Oper} {i : Nat} {f : (Nat → Value) → Act}, OgSteps P C A uses al l i f → ∀ {j : Nat} {o : Oper}, l[j]? = some o → OgStep P C A (uses.getD (i + j) []) (al (i + j)) o (i + j) (fun x => lay x (l.take j) i (f x))
  | [], _, _, _, _, _, h => by simp at h
  | o :: l, i, f, h, 0, o', hj => by
    simp at hj; subst hj
    exact h.1
  | o :: l, i, f, h, j + 1, o', hj => by
    have := OgSteps.at_ h.2 (j := j) (by simpa using hj)
    rw [show i + 1 + j = i + (j + 1) by omega] at this
    exact this

/-- The frame b holds the results of the operations in S, and else what a holds. -/
structure Agree (ops : Array Oper) (a : Act) (S : Nat → Prop) (b : Act) (x : Nat → Value) : Prop where
  size : b.tmps.size = a.tmps.size
  defs : b.defers = a.defers
  hit : ∀ k d, dstOf ops k = some d → S k → d < a.tmps.size → b.tmps[d]? = some (x k)
  miss : ∀ d, (∀ k, dstOf ops k = some d → ¬ S k) → b.tmps[d]? = a.tmps[d]?
theorem put_size (b : Act) (dst : Option Tmp) (v : Value) : (b.put dst v).tmps.size = b.tmps.size := by cases dst <;> simp [Act.put]
theorem put_defs (b : Act) (dst : Option Tmp) (v : Value) : (b.put dst v).defers = b.defers := by cases dst <;> rfl
theorem put_at (b : Act) (d : Tmp) (v : Value) (e : Nat) : (b.put (some d) v).tmps[e]? = if d = e ∧ d < b.tmps.size then some v else b.tmps[e]? := by
  simp only [Act.put, Array.getElem?_setIfInBounds]
  by_cases h : d = e <;> by_cases h' : d < b.tmps.size <;> simp [h, h']
  · subst h; simp [h']
  · subst h; simp at h'; simp [Nat.not_lt.2 h']
def Dist (ops : Array Oper) : Prop := ∀ i k d, i ≠ k → dstOf ops i = some d → dstOf ops k ≠ some d
theorem Agree.step {a b : Act} {S : Nat → Prop} {x : Nat → Value} {i : Nat} (hd : Dist ops) (h : Agree ops a S b x) (hi : ¬ S i) (v : Value) : Agree ops a (fun k => k = i ∨ S k) (b.put (dstOf ops i) v) (upd x i v) := by
  refine ⟨by rw [put_size]; exact h.size, by rw [put_defs]; exact h.defs, fun k d hk hS hl => ?_, fun d hm => ?_⟩
  · by_cases e : k = i
    · subst e
      rw [hk, put_at, if_pos ⟨rfl, by rw [h.size]; exact hl⟩, upd_same]
    · have hS' : S k := hS.resolve_left e
      rw [upd_ne v e]
      cases hq : dstOf ops i with
      | none => exact h.hit k d hk hS' hl
      | some d' =>
        have hne : d' ≠ d := fun e' => hd i k d' (Ne.symm e) hq (e' ▸ hk)
        rw [put_at, if_neg (fun hh => hne hh.1)]
        exact h.hit k d hk hS' hl
  · cases hq : dstOf ops i with
    | none => exact h.miss d fun k hk hS => hm k hk (.inr hS)
    | some d' =>
      have hne : d' ≠ d := fun e => hm i (e ▸ hq) (.inl rfl)
      rw [put_at, if_neg (fun hh => hne hh.1)]
      exact h.miss d fun k hk hS => hm k hk (.inr hS)
theorem Agree.congr {a b : Act} {S S' : Nat → Prop} {x : Nat → Value} (h : Agree ops a S b x) (hS : ∀ k, k < ops.size → (S k ↔ S' k)) : Agree ops a S' b x := by
  have lt : ∀ k d, dstOf ops k = some d → k < ops.size := fun k d hk => by
    unfold dstOf at hk
    rcases Nat.lt_or_ge k ops.size with hl | hl
    · exact hl
    · rw [Array.getElem?_eq_none hl] at hk; cases hk
  exact ⟨h.size, h.defs, fun k d hk hs hl => h.hit k d hk ((hS k (lt k d hk)).2 hs) hl, fun d hm => h.miss d fun k hk hs => hm k hk ((hS k (lt k d hk)).1 hs)⟩
theorem lay_snoc (x : Nat → Value) (o : Oper) : ∀ (l : List Oper) (i : Nat) (a : Act), lay x (l ++ [o]) i a = (lay x l i a).put o.dst (x (i + l.length))
  | [], i, a => rfl
  | o' :: l, i, a => by
    show lay x (l ++ [o]) (i + 1) _ = (lay x l (i + 1) _).put _ _
    rw [lay_snoc x o l (i + 1)]
    simp only [List.length_cons, show i + (l.length + 1) = i + 1 + l.length by omega]
theorem lay_agree (hd : Dist ops) (x : Nat → Value) (a : Act) : ∀ j, j ≤ ops.size → Agree ops a (· < j) (lay x (ops.toList.take j) 0 a) x
  | 0, _ => ⟨rfl, rfl, fun k d _ h => absurd h (Nat.not_lt_zero _), fun _ _ => by simp [lay]⟩
  | j + 1, hj => by
    have h := (lay_agree hd x a j (by omega)).step hd (i := j) (Nat.lt_irrefl _) (x j)
    rw [upd_id] at h
    have e : ops.toList.take (j + 1) = ops.toList.take j ++ [ops[j]'(by omega)] := by rw [List.take_succ_eq_append_getElem (by simp; omega)]; simp
    rw [e, lay_snoc]
    have e2 : dstOf ops j = (ops[j]'(by omega)).dst := by unfold dstOf; rw [Array.getElem?_eq_getElem (by omega)]; rfl
    rw [e2] at h
    have e3 : 0 + (ops.toList.take j).length = j := by simp; omega
    rw [e3]
    exact h.congr fun k _ => by omega
theorem agree_eq {a b b' : Act} {S : Nat → Prop} {x : Nat → Value} (h : Agree ops a S b x) (h' : Agree ops a S b' x) : b = b' := by
  obtain ⟨t, de⟩ := b
  obtain ⟨t', de'⟩ := b'
  have e1 : de = de' := h.defs.trans h'.defs.symm
  have e2 : t = t' := by
    apply Array.ext (h.size.trans h'.size.symm)
    intro d h1 h2
    have hl : d < a.tmps.size := by have h9 : t.size = a.tmps.size := h.size; have h8 : d < t.size := h1; omega
    have key : t[d]? = t'[d]? := by
      by_cases hx : ∃ k, dstOf ops k = some d ∧ S k
      · obtain ⟨k, hk, hS⟩ := hx
        exact (h.hit k d hk hS hl).trans (h'.hit k d hk hS hl).symm
      · have hm : ∀ k, dstOf ops k = some d → ¬ S k := fun k hk hS => hx ⟨k, hk, hS⟩
        exact (h.miss d hm).trans (h'.miss d hm).symm
    rw [Array.getElem?_eq_getElem h1, Array.getElem?_eq_getElem h2] at key
    exact Option.some.inj key
  rw [e1, e2]
theorem agree_eval {a b b' : Act} {S S' : Nat → Prop} {x : Nat → Value} (h : Agree ops a S b x) (h' : Agree ops a S' b' x) (d : Tmp) (hS : ∀ k, dstOf ops k = some d → (S k ↔ S' k)) : b.eval (.tmp d) = b'.eval (.tmp d) := by
  have key : b.tmps[d]? = b'.tmps[d]? := by
    rcases Nat.lt_or_ge d a.tmps.size with hl | hl
    · by_cases hx : ∃ k, dstOf ops k = some d ∧ S k
      · obtain ⟨k, hk, hs⟩ := hx
        exact (h.hit k d hk hs hl).trans (h'.hit k d hk ((hS k hk).1 hs) hl).symm
      · have hm : ∀ k, dstOf ops k = some d → ¬ S k := fun k hk hS => hx ⟨k, hk, hS⟩
        exact (h.miss d hm).trans (h'.miss d fun k hk hs => hm k hk ((hS k hk).2 hs)).symm
    · rw [Array.getElem?_eq_none (by have := h.size; omega), Array.getElem?_eq_none (by have := h'.size; omega)]
  simp only [Act.eval, Array.getD_eq_getD_getElem?, key]
theorem put_same {a b : Act} {dst : Option Tmp} {v v' : Value} (hs : b.tmps.size = a.tmps.size) (h : a.put dst v = a.put dst v') : b.put dst v = b.put dst v' := by
  cases dst with
  | none => rfl
  | some d =>
    rcases Nat.lt_or_ge d a.tmps.size with hl | hl
    · have h1 := congrArg (fun a : Act => a.tmps[d]?) h
      simp only [put_at] at h1
      simp only [hl, and_self, if_true, Option.some.injEq] at h1
      rw [h1]
    · simp only [Act.put]
      rw [Array.setIfInBounds_eq_of_size_le (by omega), Array.setIfInBounds_eq_of_size_le (by omega)]
theorem wp_transfer {o : Oper} {a b : Act} {w : World} {K : Act → World → Prop} {R : Value → World → Prop} (hs : b.tmps.size = a.tmps.size) (he : execOp b.eval o = execOp a.eval o)
    (h : o.wp P a w (fun a' w' => ∃ v, a' = a.put o.dst v ∧ R v w') (fun _ _ _ => False)) (hK : ∀ v w', R v w' → K (b.put o.dst v) w') : o.wp P b w K Q := by
  unfold Oper.wp at *
  rw [he]
  generalize (execOp a.eval o).run P w = r at *
  have val : ∀ u w', (∃ v, a.put o.dst u = a.put o.dst v ∧ R v w') → K (b.put o.dst u) w' := fun u w' ⟨v, e, hr⟩ => by
    rw [put_same hs e]; exact hK v w' hr
  cases r with
  | ok n w' =>
    cases n <;> simp only [Oper.upon] at h ⊢
    case value u => exact val u w' h
    case skip => exact val undef w' h
    case defer d =>
      obtain ⟨v, e, _⟩ := h
      have := congrArg (fun a : Act => a.defers.length) e
      rw [put_defs, put_defs] at this
      simp at this
    case enter f args =>
      refine Calls.mono h fun e w'' hh => ?_
      cases e with
      | returned v => exact val v w'' hh
      | panicked c => exact hh.elim
      | outgrown => obtain ⟨_, _, hh⟩ := hh; exact hh.elim
    case row row args => exact Rows.mono h fun v w'' hh => val v w'' hh
  | halt y w' =>
    cases y <;> simp only [Oper.upon] at h ⊢

def AliveL (uses : List (List Nat)) (keep : List Nat) (listed : Array Bool) (k : Nat) : Prop := keep.contains k = true ∨ ∃ j, j < listed.size ∧ listed.getD j false = false ∧ (uses.getD j []).contains k = true
structure OgInv (ops : Array Oper) (C : World → Prop) (A : List As) (uses : List (List Nat)) (keep : List Nat) (a : Act) (listed : Array Bool) (b : Act) (w : World) (x : Nat → Value) : Prop where
  size : listed.size = ops.size
  closed : ∀ j o, ops[j]? = some o → listed.getD j false = true → ∀ e ∈ o.after, Region.binds .any e = true → listed.getD e.on false = true
  frame : Agree ops a (fun k => listed.getD k false = true) b x
  base : C w
  holds : ∀ k, k < ops.size → listed.getD k false = true → AliveL uses keep listed k → (A.getD k As.no).p x w
theorem anc_listed {listed : Array Bool} (hc : ∀ j o, ops[j]? = some o → listed.getD j false = true → ∀ e ∈ o.after, Region.binds .any e = true → listed.getD e.on false = true) :
    ∀ (f i k : Nat), anc ops f i k = true → (∀ o, ops[i]? = some o → ∀ e ∈ o.after, Region.binds .any e = true → listed.getD e.on false = true) → listed.getD k false = true
  | 0, i, k, h, hi => by
    obtain ⟨o, ho, e, he, hb, rfl⟩ := Region.waitsFor_spec h
    exact hi o ho e he hb
  | f + 1, i, k, h, hi => by
    simp only [anc, Bool.or_eq_true, List.any_eq_true, Bool.and_eq_true] at h
    rcases h with h | ⟨m, _, h1, h2⟩
    · obtain ⟨o, ho, e, he, hb, rfl⟩ := Region.waitsFor_spec h
      exact hi o ho e he hb
    · obtain ⟨o, ho, e, he, hb, rfl⟩ := Region.waitsFor_spec h1
      have hl := hi o ho e he hb
      exact anc_listed hc f e.on k h2 fun o' ho' => hc e.on o' ho' hl
theorem og_any {a : Act} (hB : ogB ops A uses keep = true) (hs : OgSteps P C A uses (alive ops uses keep) ops.toList 0 (fun _ => a))
    (hQ : ∀ x w', C w' → (∀ k, keep.contains k = true → k < ops.size → (A.getD k As.no).p x w') → Q .normal (lay x ops.toList 0 a) w') :
    ∀ (f : Nat) (listed : Array Bool) (b : Act) (w : World) (x : Nat → Value), listed.count false = f → OgInv ops C A uses keep a listed b w x → wpAny P .any ops Q f listed b w := by
  unfold ogB at hB
  simp only [Bool.and_eq_true] at hB
  obtain ⟨⟨hsel, hbk⟩, hall⟩ := hB
  have spec : ∀ i o, ops[i]? = some o → o.guard = none ∧ (∀ k d, k ≠ i → dstOf ops k = some d → o.dst ≠ some d ∧ (d ∈ o.looksAt ops → (if k < i then anc ops 3 i k else anc ops 3 k i) = true)) ∧
      (∀ k, (uses.getD i []).contains k = true → anc ops 3 i k = true) ∧ (∀ k ∈ alive ops uses keep i, i ∉ (A.getD k As.no).sup) := by
    intro i o ho
    have hlt : i < ops.size := (Array.getElem?_eq_some_iff.1 ho).1
    have h1 := List.all_eq_true.1 hall i (List.mem_range.2 hlt)
    simp only [ho, Bool.and_eq_true, List.all_eq_true, Bool.or_eq_true, decide_eq_true_eq] at h1
    obtain ⟨⟨⟨hg, h2⟩, h3⟩, h4⟩ := h1
    refine ⟨by simpa using hg, fun k d hne hk => ?_, fun k hk => h3 k (by simpa using hk), fun k hk => by simpa using h4 k hk⟩
    have hkl : k < ops.size := by
      unfold dstOf at hk
      rcases Nat.lt_or_ge k ops.size with hl | hl
      · exact hl
      · rw [Array.getElem?_eq_none hl] at hk; cases hk
    have := (h2 k (List.mem_range.2 hkl)).resolve_left hne
    simp only [hk, Bool.and_eq_true, decide_eq_true_eq, Bool.or_eq_true, Bool.not_eq_true'] at this
    refine ⟨this.1, fun hm => this.2.resolve_left ?_⟩
    simp [hm]
  have hd : Dist ops := fun i k d hne hi hk => by
    unfold dstOf at hi
    cases ho : ops[i]? with
    | none => rw [ho] at hi; cases hi
    | some o =>
      rw [ho] at hi
      exact ((spec i o ho).2.1 k d (Ne.symm hne) hk).1 hi
  have final : ∀ (listed : Array Bool) (b : Act) (w : World) (x : Nat → Value), OgInv ops C A uses keep a listed b w x → (∀ i, i < ops.size → listed.getD i false = true) → Q .normal b w := by
    intro listed b w x inv hl
    have h1 := lay_agree hd x a ops.size (Nat.le_refl _)
    rw [← Array.length_toList, List.take_length, Array.length_toList] at h1
    have h2 := inv.frame.congr (S' := (· < ops.size)) fun k hk => ⟨fun _ => hk, fun _ => hl k hk⟩
    rw [agree_eq h2 h1]
    exact hQ x w inv.base fun k hk hlt => inv.holds k hlt (hl k hlt) (.inl hk)
  have done : ∀ (listed : Array Bool), listed.size = ops.size → Region.ready .any ops listed = [] → ∀ i, i < ops.size → listed.getD i false = true := by
    intro listed hsz h0 i hi
    cases hq : listed.getD i false with
    | true => rfl
    | false =>
      obtain ⟨j, _, hj⟩ := some_ready hbk hsz i hi hq
      rw [h0] at hj; cases hj
  intro f
  induction f with
  | zero =>
    intro listed b w x hcnt inv
    have hl : ∀ i, i < ops.size → listed.getD i false = true := fun i hi => by
      have h1 : false ∉ listed := fun hm => by
        have := Array.count_pos_iff.2 hm
        omega
      have hi' : i < listed.size := by rw [inv.size]; exact hi
      simp only [hi', Array.getD_eq_getD_getElem?, Array.getElem?_eq_getElem, Option.getD_some]
      cases hq : listed[i] with
      | true => rfl
      | false => exact absurd (hq ▸ Array.getElem_mem hi') h1
    refine ⟨List.eq_nil_iff_forall_not_mem.2 fun j hj => ?_, final listed b w x inv hl⟩
    obtain ⟨h0, o, ho, _⟩ := mem_ready.1 hj
    have hjs : j < ops.size := (Array.getElem?_eq_some_iff.1 ho).1
    rw [both_false (by rw [inv.size]; exact hjs), hl j hjs] at h0
    cases h0
  | succ f ih =>
    intro listed b w x hcnt inv
    refine ⟨fun h0 => final listed b w x inv (done listed inv.size h0), fun i hi => ?_⟩
    obtain ⟨h0, o, ho, hall'⟩ := mem_ready.1 hi
    have hlt : i < ops.size := (Array.getElem?_eq_some_iff.1 ho).1
    have hun : listed.getD i false = false := by rw [← both_false (by rw [inv.size]; exact hlt)]; exact h0
    have hready : ∀ o', ops[i]? = some o' → ∀ e ∈ o'.after, Region.binds .any e = true → listed.getD e.on false = true := fun o' ho' => by
      rw [ho] at ho'; injection ho' with e; subst e; exact hall'
    obtain ⟨hg, hdst, hus, hsup⟩ := spec i o ho
    have hno : ∀ k, anc ops 3 k i = true → listed.getD k false = false := fun k hk => by
      cases hq : listed.getD k false with
      | false => rfl
      | true =>
        have := anc_listed inv.closed 3 k i hk fun o' ho' => inv.closed k o' ho' hq
        rw [hun] at this; cases this
    have hstep := hs.at_ (j := i) (o := o) (by simpa using ho)
    simp only [Nat.zero_add] at hstep
    have hla := lay_agree hd x a i (Nat.le_of_lt hlt)
    have hex : execOp b.eval o = execOp (lay x (ops.toList.take i) 0 a).eval o := by
      refine execOp_congr o (fun cs b => Region.noSelect_spec hsel i o cs b ho) fun y hy => ?_
      cases y with
      | tmp d =>
        refine agree_eval inv.frame hla d fun k hk => ?_
        by_cases hki : k = i
        · subst hki; simp [hun]
        · have hlook : d ∈ o.looksAt ops := List.mem_append_left _ (List.mem_filterMap.2 ⟨.tmp d, by simpa using hy, rfl⟩)
          have := (hdst k d hki hk).2 hlook
          by_cases hlt' : k < i
          · rw [if_pos hlt'] at this
            have := anc_listed inv.closed 3 i k this hready
            simp [this, hlt']
          · rw [if_neg hlt'] at this
            simp [hno k this, hlt']
      | _ => rfl
    have hw : Region.wanted o (yielded ops b.tmps) = true := by simp [Region.wanted, hg]
    unfold wpOp
    simp only [ho, hw, if_true]
    refine .inl (wp_transfer (R := fun v w' => C w' ∧ (A.getD i As.no).p (upd x i v) w' ∧ ∀ k ∈ alive ops uses keep i, (A.getD k As.no).p x w → (A.getD k As.no).p (upd x i v) w') (inv.frame.size.trans hla.size.symm) hex
      (hstep hsup x w inv.base (fun k hk => ?_) _ _ fun v w' h1 h2 h3 => ⟨v, rfl, h1, h2, h3⟩) fun v w' ⟨h1, h2, h3⟩ => ?_)
    · have hk' : (uses.getD i []).contains k = true := by simpa using hk
      have hlk := anc_listed inv.closed 3 i k (hus k hk') hready
      have hks : k < ops.size := by
        rcases Nat.lt_or_ge k ops.size with hl | hl
        · exact hl
        · rw [← inv.size] at hl
          simp [Array.getElem?_eq_none hl] at hlk
      exact inv.holds k hks hlk (.inr ⟨i, by rw [inv.size]; exact hlt, hun, hk'⟩)
    · have hil : i < listed.size := by rw [inv.size]; exact hlt
      have hcnt' : (listed.setIfInBounds i true).count false = f := by
        rw [Array.setIfInBounds_def, dif_pos hil, Array.count_set hil]
        have hq : listed[i] = false := by simpa [hil] using hun
        simp [hq, hcnt]
      refine ih _ _ w' (upd x i v) hcnt' ⟨by simp [inv.size], fun j o' ho' hl e he hb => ?_, ?_, h1, fun k hks hl hal => ?_⟩
      · by_cases hij : i = j
        · subst hij
          exact getD_set_true (hready o' ho' e he hb)
        · rw [getD_set_ne false hij] at hl
          exact getD_set_true (inv.closed j o' ho' hl e he hb)
      · have e2 : o.dst = dstOf ops i := by unfold dstOf; rw [ho]; rfl
        rw [e2]
        refine (inv.frame.step hd (i := i) (by simp [hun]) v).congr fun k hk => ?_
        rw [getD_set_at hil]
        by_cases hki : i = k
        · subst hki; simp
        · simp [hki, Ne.symm hki]
      · by_cases hki : i = k
        · subst hki; exact h2
        · rw [getD_set_ne false hki] at hl
          refine h3 k ?_ (inv.holds k hks hl ?_)
          · unfold alive
            refine List.mem_filter.2 ⟨List.mem_range.2 hks, ?_⟩
            simp only [Bool.and_eq_true, decide_eq_true_eq, Bool.not_eq_true', Bool.or_eq_true, List.any_eq_true]
            refine ⟨⟨Ne.symm hki, ?_⟩, ?_⟩
            · cases hq : anc ops 3 k i with
              | false => rfl
              | true => rw [hno k hq] at hl; cases hl
            · rcases hal with hal | ⟨j, hj, hjl, hju⟩
              · exact .inl hal
              · have hij : i ≠ j := fun e => by
                  subst e
                  rw [getD_set_at hil, if_pos rfl] at hjl
                  cases hjl
                rw [getD_set_ne false hij] at hjl
                refine .inr ⟨j, List.mem_range.2 (by rw [← inv.size]; simpa using hj), ⟨Ne.symm hij, ?_⟩, hju⟩
                cases hq : anc ops 3 i j with
                | false => rfl
                | true => rw [anc_listed inv.closed 3 i j hq hready] at hjl; cases hjl
          · rcases hal with hal | ⟨j, hj, hjl, hju⟩
            · exact .inl hal
            · have hij : i ≠ j := fun e => by
                subst e
                rw [getD_set_at hil, if_pos rfl] at hjl
                cases hjl
              rw [getD_set_ne false hij] at hjl
              exact .inr ⟨j, by simpa using hj, hjl, hju⟩
/-- The same over frames written as lists. -/
def putL (d : Option Tmp) (v : Value) (l : List Value) : List Value := match d with
  | some d => l.set d v
  | none => l
theorem put_list (l : List Value) (ds : List Deferred) (d : Option Tmp) (v : Value) : Act.put ⟨l.toArray, ds⟩ d v = ⟨(putL d v l).toArray, ds⟩ := by
  cases d with
  | none => rfl
  | some d => simp [Act.put, putL]
/-- One operation, hidden (Lean's own evaluation would run it). -/
def owp (P : Program) (o : Oper) (a : Act) (w : World) (K : Act → World → Prop) (Q : Exit → Act → World → Prop) : Prop := o.wp P a w K Q
theorem owp_eq (P : Program) (o : Oper) (a : Act) (w : World) (K : Act → World → Prop) (Q : Exit → Act → World → Prop) : owp P o a w K Q = o.wp P a w K Q := rfl
attribute [irreducible] owp
def StepL (P : Program) (C : World → Prop) (A : List As) (us al : List Nat) (ds : List Deferred) (o : Oper) (i : Nat) (f : (Nat → Value) → List Value) : Prop :=
  (∀ k ∈ al, i ∉ (A.getD k As.no).sup) → ∀ (x : Nat → Value) (w : World), C w → (∀ k ∈ us, (A.getD k As.no).p x w) → ∀ (K : Act → World → Prop) (Q : Exit → Act → World → Prop),
    (∀ v w', C w' → (A.getD i As.no).p (upd x i v) w' → (∀ k ∈ al, (A.getD k As.no).p x w → (A.getD k As.no).p (upd x i v) w') → K ⟨(putL o.dst v (f x)).toArray, ds⟩ w') → owp P o ⟨(f x).toArray, ds⟩ w K Q
def StepsL (P : Program) (C : World → Prop) (A : List As) (uses : List (List Nat)) (al : Nat → List Nat) (ds : List Deferred) : List Oper → Nat → ((Nat → Value) → List Value) → Prop
  | [], _, _ => True
  | o :: l, i, f => StepL P C A (uses.getD i []) (al i) ds o i f ∧ StepsL P C A uses al ds l (i + 1) (fun x => putL o.dst (x i) (f x))
theorem StepsL.to {al : Nat → List Nat} {ds : List Deferred} : ∀ {l : List Oper} {i : Nat} {f : (Nat → Value) → List Value}, StepsL P C A uses al ds l i f → OgSteps P C A uses al l i (fun x => ⟨(f x).toArray, ds⟩)
  | [], _, _, _ => trivial
  | o :: l, i, f, h => by
    refine ⟨fun hs x w hw hu K Q hK => (owp_eq ..) ▸ h.1 hs x w hw hu K Q fun v w' h1 h2 h3 => ?_, ?_⟩
    · rw [← put_list]; exact hK v w' h1 h2 h3
    · have := StepsL.to h.2
      simp only [← put_list] at this
      exact this
def layL (x : Nat → Value) : List Oper → Nat → List Value → List Value
  | [], _, t => t
  | o :: l, i, t => layL x l (i + 1) (putL o.dst (x i) t)
theorem lay_list (x : Nat → Value) (ds : List Deferred) : ∀ (l : List Oper) (i : Nat) (t : List Value), lay x l i ⟨t.toArray, ds⟩ = ⟨(layL x l i t).toArray, ds⟩
  | [], _, _ => rfl
  | o :: l, i, t => by
    show lay x l (i + 1) (Act.put _ _ _) = _
    rw [put_list, lay_list x ds l (i + 1)]; rfl
/-- The law: an assertion for each operation (A), what each uses (uses), and what is wanted behind the region (keep). -/
theorem wp_region_og {id : Nat} {t : List Value} {ds : List Deferred} {w : World} {l : List Oper} (A : List As) (uses : List (List Nat)) (keep : List Nat) (C : World → Prop) (hm : P.follows .mixedOrders = true) (hB : ogB l.toArray A uses keep = true) (hC : C (w.drewN 1))
    (hs : StepsL P C A uses (alive l.toArray uses keep) ds l 0 (fun _ => t))
    (hQ : ∀ x w', C w' → (∀ k, keep.contains k = true → k < l.toArray.size → (A.getD k As.no).p x w') → Q .normal ⟨(layL x l 0 t).toArray, ds⟩ w') : (Code.region id l.toArray true).wp P Q ⟨t.toArray, ds⟩ w := by
  refine wp_region_any hm (og_any (C := C) (A := A) (uses := uses) (keep := keep) (a := ⟨t.toArray, ds⟩) hB (by simpa using hs.to) (by simp only [lay_list]; simpa using hQ) _ _ _ _ (fun _ => undef) (by simp) ⟨by simp, fun j o _ hl => ?_, ⟨rfl, rfl, fun k d _ hl => ?_, fun _ _ => rfl⟩, hC, fun k _ hl => ?_⟩)
  · rw [getD_replicate_false] at hl; cases hl
  · rw [getD_replicate_false] at hl; cases hl
  · rw [getD_replicate_false] at hl; cases hl
/-- An operation that leaves all that there was as it is. -/
theorem StepL.grow {us al : List Nat} {ds : List Deferred} {o : Oper} {i : Nat} {f : (Nat → Value) → List Value} (hC : ∀ {w w' : World}, C w → Below w.heap.size w w' → C w')
    (h : ∀ (x : Nat → Value) (w : World), C w → (∀ k ∈ us, (A.getD k As.no).p x w) → ∀ (K : Act → World → Prop) (Q : Exit → Act → World → Prop),
      (∀ v w', Below w.heap.size w w' → (A.getD i As.no).p (upd x i v) w' → K ⟨(putL o.dst v (f x)).toArray, ds⟩ w') → owp P o ⟨(f x).toArray, ds⟩ w K Q) : StepL P C A us al ds o i f :=
  fun hsup x w hw hu K Q hK => h x w hw hu K Q fun v w' hb hp => hK v w' (hC hw hb) hp fun k hk hkp => (A.getD k As.no).grow hb ((A.getD k As.no).loc (fun j hj => (upd_ne v (by rintro rfl; exact hsup k hk hj)).symm) hkp)
/-- The class of worlds in which nothing older than W has turned. -/
def Cb (W : World) (V : World) : Prop := Below W.heap.size W V
theorem Cb.drew (W : World) : Cb W (W.drewN 1) := below_drewN (Below.refl _ _) 1
theorem Cb.on {W V V' : World} (h : Cb W V) (hb : Below V.heap.size V V') : Cb W V' := Below.trans h (hb.mono (Below.size h))
theorem Cb.cell {W V : World} (h : Cb W V) {a : Addr} {v : Value} (hc : W.cell? a = some v) : V.cell? a = some v := (Below.cell h (block_lt_of_cell hc)).trans hc
theorem Cb.store {W V V' : World} {g : Nat} (h : Cb W V) (hg : V.grownBy V' (some g)) (hl : W.heap.size ≤ g) : Cb W V' := Below.trans h (below_of_grown hg hl (Below.size h))
theorem StepL.up {W : World} {us al : List Nat} {ds : List Deferred} {o : Oper} {i : Nat} {f : (Nat → Value) → List Value}
    (h : ∀ (x : Nat → Value) (w : World), Cb W w → (∀ k ∈ us, (A.getD k As.no).p x w) → ∀ (K : Act → World → Prop) (Q : Exit → Act → World → Prop),
      (∀ v w', Below w.heap.size w w' → (A.getD i As.no).p (upd x i v) w' → K ⟨(putL o.dst v (f x)).toArray, ds⟩ w') → owp P o ⟨(f x).toArray, ds⟩ w K Q) : StepL P (Cb W) A us al ds o i f := StepL.grow (fun h hb => h.on hb) h
/-- The pointer that operation i has laid: its block. -/
def As.blk (i : Nat) (t : TypeId) (cs : Array Value) (B : Nat) : As := ⟨[i], fun x w => ∃ g, x i = .pointer (some ⟨g, 0, none⟩) ∧ B ≤ g ∧ Bk w g t cs,
  fun h ⟨g, e, r⟩ => ⟨g, (h i (by simp)).symm.trans e, r⟩, fun hb ⟨g, e, l, k⟩ => ⟨g, e, l, k.below hb k.lt⟩⟩
/-- The slice that operation i has laid: its block, of m elements. -/
def As.sl (i m : Nat) (t : TypeId) (cs : Array Value) (B : Nat) : As := ⟨[i], fun x w => ∃ g, x i = .slice (some ⟨g, 0, none⟩) m m ∧ B ≤ g ∧ Bk w g t cs,
  fun h ⟨g, e, r⟩ => ⟨g, (h i (by simp)).symm.trans e, r⟩, fun hb ⟨g, e, l, k⟩ => ⟨g, e, l, k.below hb k.lt⟩⟩
/-- The slice of the call's own that operation i has laid. -/
def As.own {α : Type} (T : Ty α) (e : TypeId) (B : Nat) (S : Nat → Prop) (i : Nat) (l : List α) : As := ⟨[i], fun x w => OwnS T e w B S (x i) l,
  fun h r => (h i (by simp)) ▸ r, fun hb r => r.below hb⟩
theorem wp_store_og {o : Oper} {a : Act} {w : World} {K : Act → World → Prop} {Q : Exit → Act → World → Prop} (ty : TypeId) (X Y : Operand) (ho : o.op = .store ty X Y)
    (g : Nat) (cells : Array Value) (hx : a.eval X = .pointer (some ⟨g, 0, none⟩)) (hy : a.eval Y = .agg cells) (t : TypeId) (old : Array Value) (hg : Bk w g t old) (hi : (P.info? ty).map (·.size) = some cells.size)
    (hold : old.size = cells.size) (h1 : cells.all (·.oneCell') = true) (h : ∀ w', Bk w' g t cells → w.grownBy w' (some g) → K (a.put o.dst undef) w') : owp P o a w K Q := by
  rw [owp_eq]
  exact wp_store_row ty X Y ho g cells hx hy t old hg hi hold h1 (h _ (hg.row cells) ⟨rfl, rfl, rfl, by simp, fun k _ hne => setRow_other w g k cells (by rintro rfl; exact hne rfl)⟩)
/-- An operation of any kind; al': what must live on. -/
theorem StepL.wr {us al : List Nat} {ds : List Deferred} {o : Oper} {i : Nat} {f : (Nat → Value) → List Value} (al' : List Nat) (hal : (al == al') = true)
    (h : ∀ (x : Nat → Value) (w : World), C w → (∀ k ∈ us, (A.getD k As.no).p x w) → ∀ (K : Act → World → Prop) (Q : Exit → Act → World → Prop),
      (∀ v w', C w' → (A.getD i As.no).p (upd x i v) w' → (∀ k ∈ al', (A.getD k As.no).p x w → (A.getD k As.no).p (upd x i v) w') → K ⟨(putL o.dst v (f x)).toArray, ds⟩ w') → owp P o ⟨(f x).toArray, ds⟩ w K Q) : StepL P C A us al ds o i f := by
  obtain rfl := eq_of_beq hal
  exact fun _ => h
theorem mem_as {al al' : List Nat} (h : al = al') {k : Nat} (hk : k ∈ al) : k ∈ al' := h ▸ hk
end
end Go.Proofs.YtmhikcleekfbpaaDoor
