/-
  A region that draws its order, makes or writes memory, and has guards: one assertion an operation, each shown once.
-/
import Derived.Test.YtmhikcleekfbpaaDoorQf
namespace Go.Proofs.YtmhikcleekfbpaaDoor
open Go.RowKit

def ogBG (ops : Array Oper) (A : List As) (uses : List (List Nat)) (keep : List Nat) : Bool :=
  Region.noSelect ops && backB ops && (List.range ops.size).all (fun i => match ops[i]? with
    | some o => (List.range ops.size).all (fun k => decide (k = i) || match dstOf ops k with
        | some d => decide (o.dst ≠ some d) && (!(o.looksAt ops).contains d || (if k < i then anc ops 3 i k else anc ops 3 k i))
        | none => true) && (uses.getD i []).all (fun k => anc ops 3 i k) && (alive ops uses keep i).all (fun k => !((A.getD k As.no).sup).contains i)
    | none => true)
/-- An operation, or nothing where its guard says so. -/
def gwp (P : Program) (ops : Array Oper) (o : Oper) (a : Act) (w : World) (K : Act → World → Prop) (Q : Exit → Act → World → Prop) : Prop :=
  if Region.wanted o (yielded ops a.tmps) = true then o.wp P a w K Q else K (a.put o.dst undef) w
section
variable {P : Program} {ops : Array Oper} {Q : Exit → Act → World → Prop} {C : World → Prop} {A : List As} {uses : List (List Nat)} {keep : List Nat}
def OgStepG (P : Program) (ops : Array Oper) (C : World → Prop) (A : List As) (us al : List Nat) (o : Oper) (i : Nat) (f : (Nat → Value) → Act) : Prop :=
  (∀ k ∈ al, i ∉ (A.getD k As.no).sup) → ∀ (x : Nat → Value) (w : World), C w → (∀ k ∈ us, (A.getD k As.no).p x w) → ∀ (K : Act → World → Prop) (Q : Exit → Act → World → Prop),
    (∀ v w', C w' → (A.getD i As.no).p (upd x i v) w' → (∀ k ∈ al, (A.getD k As.no).p x w → (A.getD k As.no).p (upd x i v) w') → K ((f x).put o.dst v) w') → gwp P ops o (f x) w K Q
def OgStepsG (P : Program) (ops : Array Oper) (C : World → Prop) (A : List As) (uses : List (List Nat)) (al : Nat → List Nat) : List Oper → Nat → ((Nat → Value) → Act) → Prop
  | [], _, _ => True
  | o :: l, i, f => OgStepG P ops C A (uses.getD i []) (al i) o i f ∧ OgStepsG P ops C A uses al l (i + 1) (fun x => (f x).put o.dst (x i))
theorem OgStepsG.at_ {al : Nat → List Nat} : ∀ {l : List Oper} {i : Nat} {f : (Nat → Value) → Act}, OgStepsG P ops C A uses al l i f → ∀ {j : Nat} {o : Oper}, l[j]? = some o → OgStepG P ops C A (uses.getD (i + j) []) (al (i + j)) o (i + j) (fun x => lay x (l.take j) i (f x))
  | [], _, _, _, _, _, h => by simp at h
  | o :: l, i, f, h, 0, o', hj => by
    simp at hj; subst hj
    exact h.1
  | o :: l, i, f, h, j + 1, o', hj => by
    have := OgStepsG.at_ h.2 (j := j) (by simpa using hj)
    rw [show i + 1 + j = i + (j + 1) by omega] at this
    exact this
theorem agree_tmp {a b b' : Act} {S S' : Nat → Prop} {x : Nat → Value} (h : Agree ops a S b x) (h' : Agree ops a S' b' x) (d : Tmp) (hS : ∀ k, dstOf ops k = some d → (S k ↔ S' k)) : b.tmps[d]? = b'.tmps[d]? := by
  rcases Nat.lt_or_ge d a.tmps.size with hl | hl
  · by_cases hx : ∃ k, dstOf ops k = some d ∧ S k
    · obtain ⟨k, hk, hs⟩ := hx
      exact (h.hit k d hk hs hl).trans (h'.hit k d hk ((hS k hk).1 hs) hl).symm
    · have hm : ∀ k, dstOf ops k = some d → ¬ S k := fun k hk hS => hx ⟨k, hk, hS⟩
      exact (h.miss d hm).trans (h'.miss d fun k hk hs => hm k hk ((hS k hk).2 hs)).symm
  · rw [Array.getElem?_eq_none (by have := h.size; omega), Array.getElem?_eq_none (by have := h'.size; omega)]
theorem ogG_any {a : Act} (hB : ogBG ops A uses keep = true) (hs : OgStepsG P ops C A uses (alive ops uses keep) ops.toList 0 (fun _ => a))
    (hQ : ∀ x w', C w' → (∀ k, keep.contains k = true → k < ops.size → (A.getD k As.no).p x w') → Q .normal (lay x ops.toList 0 a) w') :
    ∀ (f : Nat) (listed : Array Bool) (b : Act) (w : World) (x : Nat → Value), listed.count false = f → OgInv ops C A uses keep a listed b w x → wpAny P .any ops Q f listed b w := by
  unfold ogBG at hB
  simp only [Bool.and_eq_true] at hB
  obtain ⟨⟨hsel, hbk⟩, hall⟩ := hB
  have spec : ∀ i o, ops[i]? = some o → (∀ k d, k ≠ i → dstOf ops k = some d → o.dst ≠ some d ∧ (d ∈ o.looksAt ops → (if k < i then anc ops 3 i k else anc ops 3 k i) = true)) ∧
      (∀ k, (uses.getD i []).contains k = true → anc ops 3 i k = true) ∧ (∀ k ∈ alive ops uses keep i, i ∉ (A.getD k As.no).sup) := by
    intro i o ho
    have hlt : i < ops.size := (Array.getElem?_eq_some_iff.1 ho).1
    have h1 := List.all_eq_true.1 hall i (List.mem_range.2 hlt)
    simp only [ho, Bool.and_eq_true, List.all_eq_true, Bool.or_eq_true, decide_eq_true_eq] at h1
    obtain ⟨⟨h2, h3⟩, h4⟩ := h1
    refine ⟨fun k d hne hk => ?_, fun k hk => h3 k (by simpa using hk), fun k hk => by simpa using h4 k hk⟩
    have hkl : k < ops.size := by
      unfold dstOf at hk
      rcases Nat.lt_or_ge k ops.size with hl | hl
      · exact hl
      · rw [Array.getElem?_eq_none hl] at hk; cases hk
    have := (h2 k (List.mem_range.2 hkl)).resolve_left hne
    simp only [hk, Bool.and_eq_true, decide_eq_true_eq, Bool.or_eq_true, Bool.not_eq_true'] at this
    refine ⟨this.1, fun hm => this.2.resolve_left ?_⟩
    simp [hm]
  have hd : Dist ops := fun i k d hne hi hk => by
    unfold dstOf at hi
    cases ho : ops[i]? with
    | none => rw [ho] at hi; cases hi
    | some o =>
      rw [ho] at hi
      exact ((spec i o ho).1 k d (Ne.symm hne) hk).1 hi
  have final : ∀ (listed : Array Bool) (b : Act) (w : World) (x : Nat → Value), OgInv ops C A uses keep a listed b w x → (∀ i, i < ops.size → listed.getD i false = true) → Q .normal b w := by
    intro listed b w x inv hl
    have h1 := lay_agree hd x a ops.size (Nat.le_refl _)
    rw [← Array.length_toList, List.take_length, Array.length_toList] at h1
    have h2 := inv.frame.congr (S' := (· < ops.size)) fun k hk => ⟨fun _ => hk, fun _ => hl k hk⟩
    rw [agree_eq h2 h1]
    exact hQ x w inv.base fun k hk hlt => inv.holds k hlt (hl k hlt) (.inl hk)
  have done : ∀ (listed : Array Bool), listed.size = ops.size → Region.ready .any ops listed = [] → ∀ i, i < ops.size → listed.getD i false = true := by
    intro listed hsz h0 i hi
    cases hq : listed.getD i false with
    | true => rfl
    | false =>
      obtain ⟨j, _, hj⟩ := some_ready hbk hsz i hi hq
      rw [h0] at hj; cases hj
  intro f
  induction f with
  | zero =>
    intro listed b w x hcnt inv
    have hl : ∀ i, i < ops.size → listed.getD i false = true := fun i hi => by
      have h1 : false ∉ listed := fun hm => by
        have := Array.count_pos_iff.2 hm
        omega
      have hi' : i < listed.size := by rw [inv.size]; exact hi
      simp only [hi', Array.getD_eq_getD_getElem?, Array.getElem?_eq_getElem, Option.getD_some]
      cases hq : listed[i] with
      | true => rfl
      | false => exact absurd (hq ▸ Array.getElem_mem hi') h1
    refine ⟨List.eq_nil_iff_forall_not_mem.2 fun j hj => ?_, final listed b w x inv hl⟩
    obtain ⟨h0, o, ho, _⟩ := mem_ready.1 hj
    have hjs : j < ops.size := (Array.getElem?_eq_some_iff.1 ho).1
    rw [both_false (by rw [inv.size]; exact hjs), hl j hjs] at h0
    cases h0
  | succ f ih =>
    intro listed b w x hcnt inv
    refine ⟨fun h0 => final listed b w x inv (done listed inv.size h0), fun i hi => ?_⟩
    obtain ⟨h0, o, ho, hall'⟩ := mem_ready.1 hi
    have hlt : i < ops.size := (Array.getElem?_eq_some_iff.1 ho).1
    have hun : listed.getD i false = false := by rw [← both_false (by rw [inv.size]; exact hlt)]; exact h0
    have hready : ∀ o', ops[i]? = some o' → ∀ e ∈ o'.after, Region.binds .any e = true → listed.getD e.on false = true := fun o' ho' => by
      rw [ho] at ho'; injection ho' with e; subst e; exact hall'
    obtain ⟨hdst, hus, hsup⟩ := spec i o ho
    have hno : ∀ k, anc ops 3 k i = true → listed.getD k false = false := fun k hk => by
      cases hq : listed.getD k false with
      | false => rfl
      | true =>
        have := anc_listed inv.closed 3 k i hk fun o' ho' => inv.closed k o' ho' hq
        rw [hun] at this; cases this
    have hstep := hs.at_ (j := i) (o := o) (by simpa using ho)
    simp only [Nat.zero_add] at hstep
    have hla := lay_agree hd x a i (Nat.le_of_lt hlt)
    have hex : execOp b.eval o = execOp (lay x (ops.toList.take i) 0 a).eval o := by
      refine execOp_congr o (fun cs b => Region.noSelect_spec hsel i o cs b ho) fun y hy => ?_
      cases y with
      | tmp d =>
        refine agree_eval inv.frame hla d fun k hk => ?_
        by_cases hki : k = i
        · subst hki; simp [hun]
        · have hlook : d ∈ o.looksAt ops := List.mem_append_left _ (List.mem_filterMap.2 ⟨.tmp d, by simpa using hy, rfl⟩)
          have := (hdst k d hki hk).2 hlook
          by_cases hlt' : k < i
          · rw [if_pos hlt'] at this
            have := anc_listed inv.closed 3 i k this hready
            simp [this, hlt']
          · rw [if_neg hlt'] at this
            simp [hno k this, hlt']
      | _ => rfl
    have huse : ∀ k ∈ uses.getD i [], (A.getD k As.no).p x w := fun k hk => by
      have hk' : (uses.getD i []).contains k = true := by simpa using hk
      have hlk := anc_listed inv.closed 3 i k (hus k hk') hready
      have hks : k < ops.size := by
        rcases Nat.lt_or_ge k ops.size with hl | hl
        · exact hl
        · rw [← inv.size] at hl
          simp [Array.getElem?_eq_none hl] at hlk
      exact inv.holds k hks hlk (.inr ⟨i, by rw [inv.size]; exact hlt, hun, hk'⟩)
    have hnext : ∀ v w', (C w' ∧ (A.getD i As.no).p (upd x i v) w' ∧ ∀ k ∈ alive ops uses keep i, (A.getD k As.no).p x w → (A.getD k As.no).p (upd x i v) w') → wpAny P .any ops Q f (listed.setIfInBounds i true) (b.put o.dst v) w' := fun v w' ⟨h1, h2, h3⟩ => by
      have hil : i < listed.size := by rw [inv.size]; exact hlt
      have hcnt' : (listed.setIfInBounds i true).count false = f := by
        rw [Array.setIfInBounds_def, dif_pos hil, Array.count_set hil]
        have hq : listed[i] = false := by simpa [hil] using hun
        simp [hq, hcnt]
      refine ih _ _ w' (upd x i v) hcnt' ⟨by simp [inv.size], fun j o' ho' hl e he hb => ?_, ?_, h1, fun k hks hl hal => ?_⟩
      · by_cases hij : i = j
        · subst hij
          exact getD_set_true (hready o' ho' e he hb)
        · rw [getD_set_ne false hij] at hl
          exact getD_set_true (inv.closed j o' ho' hl e he hb)
      · have e2 : o.dst = dstOf ops i := by unfold dstOf; rw [ho]; rfl
        rw [e2]
        refine (inv.frame.step hd (i := i) (by simp [hun]) v).congr fun k hk => ?_
        rw [getD_set_at hil]
        by_cases hki : i = k
        · subst hki; simp
        · simp [hki, Ne.symm hki]
      · by_cases hki : i = k
        · subst hki; exact h2
        · rw [getD_set_ne false hki] at hl
          refine h3 k ?_ (inv.holds k hks hl ?_)
          · unfold alive
            refine List.mem_filter.2 ⟨List.mem_range.2 hks, ?_⟩
            simp only [Bool.and_eq_true, decide_eq_true_eq, Bool.not_eq_true', Bool.or_eq_true, List.any_eq_true]
            refine ⟨⟨Ne.symm hki, ?_⟩, ?_⟩
            · cases hq : anc ops 3 k i with
              | false => rfl
              | true => rw [hno k hq] at hl; cases hl
            · rcases hal with hal | ⟨j, hj, hjl, hju⟩
              · exact .inl hal
              · have hij : i ≠ j := fun e => by
                  subst e
                  rw [getD_set_at hil, if_pos rfl] at hjl
                  cases hjl
                rw [getD_set_ne false hij] at hjl
                refine .inr ⟨j, List.mem_range.2 (by rw [← inv.size]; simpa using hj), ⟨Ne.symm hij, ?_⟩, hju⟩
                cases hq : anc ops 3 i j with
                | false => rfl
                | true => rw [anc_listed inv.closed 3 i j hq hready] at hjl; cases hjl
          · rcases hal with hal | ⟨j, hj, hjl, hju⟩
            · exact .inl hal
            · have hij : i ≠ j := fun e => by
                subst e
                rw [getD_set_at hil, if_pos rfl] at hjl
                cases hjl
              rw [getD_set_ne false hij] at hjl
              exact .inr ⟨j, by simpa using hj, hjl, hju⟩
    have hwe : Region.wanted o (yielded ops b.tmps) = Region.wanted o (yielded ops (lay x (ops.toList.take i) 0 a).tmps) := by
      unfold Region.wanted
      cases hg : o.guard with
      | none => rfl
      | some gw =>
        obtain ⟨g, want⟩ := gw
        have hy : yielded ops b.tmps g = yielded ops (lay x (ops.toList.take i) 0 a).tmps g := by
          unfold yielded
          cases ht : (ops[g]?).bind (·.dst) with
          | none => rfl
          | some d =>
            have key := agree_tmp inv.frame hla d fun k hk => by
              by_cases hki : k = i
              · subst hki; simp [hun]
              · have hlook : d ∈ o.looksAt ops := by
                  unfold Oper.looksAt
                  refine List.mem_append_right _ ?_
                  rw [hg]
                  simp only [ht, Option.toList, List.mem_singleton]
                have := (hdst k d hki hk).2 hlook
                by_cases hlt' : k < i
                · rw [if_pos hlt'] at this
                  have := anc_listed inv.closed 3 i k this hready
                  simp [this, hlt']
                · rw [if_neg hlt'] at this
                  simp [hno k this, hlt']
            simp only [Option.bind_some, key]
        simp only [hy]
    have hgw := hstep hsup x w inv.base huse (fun a' w' => ∃ v, a' = (lay x (ops.toList.take i) 0 a).put o.dst v ∧ C w' ∧ (A.getD i As.no).p (upd x i v) w' ∧ ∀ k ∈ alive ops uses keep i, (A.getD k As.no).p x w → (A.getD k As.no).p (upd x i v) w') (fun _ _ _ => False) fun v w' h1 h2 h3 => ⟨v, rfl, h1, h2, h3⟩
    unfold wpOp
    simp only [ho]
    unfold gwp at hgw
    rw [← hwe] at hgw
    by_cases hw : Region.wanted o (yielded ops b.tmps) = true
    · rw [if_pos hw] at hgw ⊢
      exact .inl (wp_transfer (R := fun v w' => C w' ∧ (A.getD i As.no).p (upd x i v) w' ∧ ∀ k ∈ alive ops uses keep i, (A.getD k As.no).p x w → (A.getD k As.no).p (upd x i v) w') (inv.frame.size.trans hla.size.symm) hex hgw hnext)
    · rw [if_neg hw] at hgw ⊢
      obtain ⟨v, e, hv⟩ := hgw
      rw [put_same (inv.frame.size.trans hla.size.symm) e]
      exact hnext v w hv

/-- The same, hidden, over frames written as lists. -/
def gowp (P : Program) (ops : Array Oper) (o : Oper) (a : Act) (w : World) (K : Act → World → Prop) (Q : Exit → Act → World → Prop) : Prop := gwp P ops o a w K Q
theorem gowp_eq (P : Program) (ops : Array Oper) (o : Oper) (a : Act) (w : World) (K : Act → World → Prop) (Q : Exit → Act → World → Prop) : gowp P ops o a w K Q = gwp P ops o a w K Q := rfl
attribute [irreducible] gowp
def StepG (P : Program) (ops : Array Oper) (C : World → Prop) (A : List As) (us al : List Nat) (ds : List Deferred) (o : Oper) (i : Nat) (f : (Nat → Value) → List Value) : Prop :=
  (∀ k ∈ al, i ∉ (A.getD k As.no).sup) → ∀ (x : Nat → Value) (w : World), C w → (∀ k ∈ us, (A.getD k As.no).p x w) → ∀ (K : Act → World → Prop) (Q : Exit → Act → World → Prop),
    (∀ v w', C w' → (A.getD i As.no).p (upd x i v) w' → (∀ k ∈ al, (A.getD k As.no).p x w → (A.getD k As.no).p (upd x i v) w') → K ⟨(putL o.dst v (f x)).toArray, ds⟩ w') → gowp P ops o ⟨(f x).toArray, ds⟩ w K Q
def StepsG (P : Program) (ops : Array Oper) (C : World → Prop) (A : List As) (uses : List (List Nat)) (al : Nat → List Nat) (ds : List Deferred) : List Oper → Nat → ((Nat → Value) → List Value) → Prop
  | [], _, _ => True
  | o :: l, i, f => StepG P ops C A (uses.getD i []) (al i) ds o i f ∧ StepsG P ops C A uses al ds l (i + 1) (fun x => putL o.dst (x i) (f x))
theorem StepsG.to {al : Nat → List Nat} {ds : List Deferred} : ∀ {l : List Oper} {i : Nat} {f : (Nat → Value) → List Value}, StepsG P ops C A uses al ds l i f → OgStepsG P ops C A uses al l i (fun x => ⟨(f x).toArray, ds⟩)
  | [], _, _, _ => trivial
  | o :: l, i, f, h => by
    refine ⟨fun hs x w hw hu K Q hK => (gowp_eq ..) ▸ h.1 hs x w hw hu K Q fun v w' h1 h2 h3 => ?_, ?_⟩
    · rw [← put_list]; exact hK v w' h1 h2 h3
    · have := StepsG.to h.2
      simp only [← put_list] at this
      exact this
theorem wp_region_ogG {id : Nat} {t : List Value} {ds : List Deferred} {w : World} {l : List Oper} (A : List As) (uses : List (List Nat)) (keep : List Nat) (C : World → Prop) (hm : P.follows .mixedOrders = true) (hB : ogBG l.toArray A uses keep = true) (hC : C (w.drewN 1))
    (hs : StepsG P l.toArray C A uses (alive l.toArray uses keep) ds l 0 (fun _ => t))
    (hQ : ∀ x w', C w' → (∀ k, keep.contains k = true → k < l.toArray.size → (A.getD k As.no).p x w') → Q .normal ⟨(layL x l 0 t).toArray, ds⟩ w') : (Code.region id l.toArray true).wp P Q ⟨t.toArray, ds⟩ w := by
  refine wp_region_any hm (ogG_any (C := C) (A := A) (uses := uses) (keep := keep) (a := ⟨t.toArray, ds⟩) hB (by simpa using hs.to) (by simp only [lay_list]; simpa using hQ) _ _ _ _ (fun _ => undef) (by simp) ⟨by simp, fun j o _ hl => ?_, ⟨rfl, rfl, fun k d _ hl => ?_, fun _ _ => rfl⟩, hC, fun k _ hl => ?_⟩)
  · rw [getD_replicate_false] at hl; cases hl
  · rw [getD_replicate_false] at hl; cases hl
  · rw [getD_replicate_false] at hl; cases hl
/-- An operation without a guard. -/
theorem StepG.of {us al : List Nat} {ds : List Deferred} {o : Oper} {i : Nat} {f : (Nat → Value) → List Value} (hg : o.guard = none) (h : StepL P C A us al ds o i f) : StepG P ops C A us al ds o i f := fun hs x w hw hu K Q hK => by
  have := h hs x w hw hu K Q hK
  rw [owp_eq] at this
  rw [gowp_eq]
  unfold gwp
  rw [if_pos (by simp [Region.wanted, hg])]
  exact this
/-- The truth value that a value is. -/
def asB : Value → Option Bool
  | .bool b => some b
  | _ => none
theorem yield_at {f : List Value} {ds : List Deferred} {j : Nat} {d : Tmp} {v : Value} (hd : dstOf ops j = some d) (hx : f[d]? = some v) : yielded ops (⟨f.toArray, ds⟩ : Act).tmps j = asB v := by
  unfold yielded
  rw [show (ops[j]?).bind (·.dst) = some d from hd]
  simp only [Option.bind_some, List.getElem?_toArray, hx]
  cases v <;> rfl
/-- An operation whose guard lets it go. -/
theorem StepG.yes {us al : List Nat} {ds : List Deferred} {o : Oper} {i : Nat} {f : (Nat → Value) → List Value} (j : Nat) (b : Bool) (d : Tmp) (hg : o.guard = some (j, b)) (hd : dstOf ops j = some d) (hx : ∀ x : Nat → Value, (f x)[d]? = some (x j)) (hu : us.contains j = true)
    (hA : ∀ x w, (A.getD j As.no).p x w → x j = .bool b) (h : StepL P C A us al ds o i f) : StepG P ops C A us al ds o i f := fun hs x w hw hu' K Q hK => by
  have := h hs x w hw hu' K Q hK
  rw [owp_eq] at this
  rw [gowp_eq]
  unfold gwp
  have hj := hA x w (hu' j (by simpa using hu))
  have hy := yield_at (ds := ds) hd (hx x)
  rw [hj] at hy
  rw [if_pos (by unfold Region.wanted; rw [hg]; simp only [hy]; simp [asB])]
  exact this
/-- An operation that its guard holds back. -/
theorem StepG.no {us al : List Nat} {ds : List Deferred} {o : Oper} {i : Nat} {f : (Nat → Value) → List Value} (j : Nat) (b : Bool) (d : Tmp) (v0 : Value) (hg : o.guard = some (j, b)) (hd : dstOf ops j = some d) (hx : ∀ x : Nat → Value, (f x)[d]? = some (x j)) (hu : us.contains j = true)
    (hA : ∀ x w, (A.getD j As.no).p x w → x j = v0) (hv : v0 ≠ .bool b) (hR : ∀ x w, (A.getD i As.no).p (upd x i undef) w) : StepG P ops C A us al ds o i f := fun hs x w hw hu' K Q hK => by
  rw [gowp_eq]
  unfold gwp
  have hj := hA x w (hu' j (by simpa using hu))
  have hy := yield_at (ds := ds) hd (hx x)
  rw [hj] at hy
  rw [if_neg (by
    unfold Region.wanted
    rw [hg]
    simp only [hy]
    cases v0 <;> simp [asB]
    intro e; exact hv (by rw [e]))]
  rw [put_list]
  exact hK undef w hw (hR x w) fun k hk hp => (A.getD k As.no).loc (fun j' hj' => (upd_ne undef (by rintro rfl; exact hs k hk hj')).symm) hp
end
end Go.Proofs.YtmhikcleekfbpaaDoor
