/-
  As Qg; the region's last operation stands behind all others and may leave the class of worlds (a store into older memory).
-/
import Derived.Test.YthijgmkflfaccaaQg
namespace Go.Proofs.Ythijgmkflfaccaa
open Go.RowKit

def ogBZ (ops : Array Oper) (A : List As) (uses : List (List Nat)) (keep : List Nat) (z : Nat) : Bool :=
  ogBG ops A uses keep && (List.range ops.size).all fun k => decide (k = z) || anc ops 3 z k
section
variable {P : Program} {ops : Array Oper} {Q : Exit → Act → World → Prop} {C C1 : World → Prop} {A : List As} {uses : List (List Nat)} {keep : List Nat}
def OgStepG2 (P : Program) (ops : Array Oper) (C C' : World → Prop) (A : List As) (us al : List Nat) (o : Oper) (i : Nat) (f : (Nat → Value) → Act) : Prop :=
  (∀ k ∈ al, i ∉ (A.getD k As.no).sup) → ∀ (x : Nat → Value) (w : World), C w → (∀ k ∈ us, (A.getD k As.no).p x w) → ∀ (K : Act → World → Prop) (Q : Exit → Act → World → Prop),
    (∀ v w', C' w' → (A.getD i As.no).p (upd x i v) w' → (∀ k ∈ al, (A.getD k As.no).p x w → (A.getD k As.no).p (upd x i v) w') → K ((f x).put o.dst v) w') → gwp P ops o (f x) w K Q
theorem OgStepG.two {us al : List Nat} {o : Oper} {i : Nat} {f : (Nat → Value) → Act} (h : OgStepG P ops C A us al o i f) : OgStepG2 P ops C C A us al o i f := h
structure OgInvZ (ops : Array Oper) (C C1 : World → Prop) (A : List As) (uses : List (List Nat)) (keep : List Nat) (z : Nat) (a : Act) (listed : Array Bool) (b : Act) (w : World) (x : Nat → Value) : Prop where
  size : listed.size = ops.size
  closed : ∀ j o, ops[j]? = some o → listed.getD j false = true → ∀ e ∈ o.after, Region.binds .any e = true → listed.getD e.on false = true
  frame : Agree ops a (fun k => listed.getD k false = true) b x
  base0 : listed.getD z false = false → C w
  base1 : listed.getD z false = true → C1 w
  holds : ∀ k, k < ops.size → listed.getD k false = true → AliveL uses keep listed k → (A.getD k As.no).p x w
theorem anc_lt (hbk : backB ops = true) : ∀ (f i k : Nat), anc ops f i k = true → k < i
  | 0, i, k, h => by
    obtain ⟨o, ho, e, he, hb, rfl⟩ := Region.waitsFor_spec h
    exact back_spec hbk ho he hb
  | f + 1, i, k, h => by
    simp only [anc, Bool.or_eq_true, List.any_eq_true, Bool.and_eq_true] at h
    rcases h with h | ⟨m, _, h1, h2⟩
    · obtain ⟨o, ho, e, he, hb, rfl⟩ := Region.waitsFor_spec h
      exact back_spec hbk ho he hb
    · obtain ⟨o, ho, e, he, hb, rfl⟩ := Region.waitsFor_spec h1
      exact Nat.lt_trans (anc_lt hbk f e.on k h2) (back_spec hbk ho he hb)
theorem ogZ_any {a : Act} {z : Nat} {oz : Oper} (hB : ogBZ ops A uses keep z = true) (hoz : ops[z]? = some oz) (hs : OgStepsG P ops C A uses (alive ops uses keep) (ops.toList.take z) 0 (fun _ => a))
    (hz : OgStepG2 P ops C C1 A (uses.getD z []) (alive ops uses keep z) oz z (fun x => lay x (ops.toList.take z) 0 a)) (hQ : ∀ x w', C1 w' → (∀ k, keep.contains k = true → k < ops.size → (A.getD k As.no).p x w') → Q .normal (lay x ops.toList 0 a) w') :
    ∀ (f : Nat) (listed : Array Bool) (b : Act) (w : World) (x : Nat → Value), listed.count false = f → OgInvZ ops C C1 A uses keep z a listed b w x → wpAny P .any ops Q f listed b w := by
  unfold ogBZ at hB
  rw [Bool.and_eq_true] at hB
  obtain ⟨hB, hzz⟩ := hB
  have hza : ∀ k, k < ops.size → k ≠ z → anc ops 3 z k = true := fun k hk hne => by
    have := List.all_eq_true.1 hzz k (List.mem_range.2 hk)
    simp only [Bool.or_eq_true, decide_eq_true_eq] at this
    exact this.resolve_left hne
  have hzl : z < ops.size := (Array.getElem?_eq_some_iff.1 hoz).1
  unfold ogBG at hB
  simp only [Bool.and_eq_true] at hB
  obtain ⟨⟨hsel, hbk⟩, hall⟩ := hB
  have spec : ∀ i o, ops[i]? = some o → (∀ k d, k ≠ i → dstOf ops k = some d → o.dst ≠ some d ∧ (d ∈ o.looksAt ops → (if k < i then anc ops 3 i k else anc ops 3 k i) = true)) ∧
      (∀ k, (uses.getD i []).contains k = true → anc ops 3 i k = true) ∧ (∀ k ∈ alive ops uses keep i, i ∉ (A.getD k As.no).sup) := by
    intro i o ho
    have hlt : i < ops.size := (Array.getElem?_eq_some_iff.1 ho).1
    have h1 := List.all_eq_true.1 hall i (List.mem_range.2 hlt)
    simp only [ho, Bool.and_eq_true, List.all_eq_true, Bool.or_eq_true, decide_eq_true_eq] at h1
    obtain ⟨⟨h2, h3⟩, h4⟩ := h1
    refine ⟨fun k d hne hk => ?_, fun k hk => h3 k (by simpa using hk), fun k hk => by simpa using h4 k hk⟩
    have hkl : k < ops.size := by
      unfold dstOf at hk
      rcases Nat.lt_or_ge k ops.size with hl | hl
      · exact hl
      · rw [Array.getElem?_eq_none hl] at hk; cases hk
    have := (h2 k (List.mem_range.2 hkl)).resolve_left hne
    simp only [hk, Bool.and_eq_true, decide_eq_true_eq, Bool.or_eq_true, Bool.not_eq_true'] at this
    refine ⟨this.1, fun hm => this.2.resolve_left ?_⟩
    simp [hm]
  have hd : Dist ops := fun i k d hne hi hk => by
    unfold dstOf at hi
    cases ho : ops[i]? with
    | none => rw [ho] at hi; cases hi
    | some o =>
      rw [ho] at hi
      exact ((spec i o ho).1 k d (Ne.symm hne) hk).1 hi
  have final : ∀ (listed : Array Bool) (b : Act) (w : World) (x : Nat → Value), OgInvZ ops C C1 A uses keep z a listed b w x → (∀ i, i < ops.size → listed.getD i false = true) → Q .normal b w := by
    intro listed b w x inv hl
    have h1 := lay_agree hd x a ops.size (Nat.le_refl _)
    rw [← Array.length_toList, List.take_length, Array.length_toList] at h1
    have h2 := inv.frame.congr (S' := (· < ops.size)) fun k hk => ⟨fun _ => hk, fun _ => hl k hk⟩
    rw [agree_eq h2 h1]
    exact hQ x w (inv.base1 (hl z hzl)) fun k hk hlt => inv.holds k hlt (hl k hlt) (.inl hk)
  have done : ∀ (listed : Array Bool), listed.size = ops.size → Region.ready .any ops listed = [] → ∀ i, i < ops.size → listed.getD i false = true := by
    intro listed hsz h0 i hi
    cases hq : listed.getD i false with
    | true => rfl
    | false =>
      obtain ⟨j, _, hj⟩ := some_ready hbk hsz i hi hq
      rw [h0] at hj; cases hj
  intro f
  induction f with
  | zero =>
    intro listed b w x hcnt inv
    have hl : ∀ i, i < ops.size → listed.getD i false = true := fun i hi => by
      have h1 : false ∉ listed := fun hm => by
        have := Array.count_pos_iff.2 hm
        omega
      have hi' : i < listed.size := by rw [inv.size]; exact hi
      simp only [hi', Array.getD_eq_getD_getElem?, Array.getElem?_eq_getElem, Option.getD_some]
      cases hq : listed[i] with
      | true => rfl
      | false => exact absurd (hq ▸ Array.getElem_mem hi') h1
    refine ⟨List.eq_nil_iff_forall_not_mem.2 fun j hj => ?_, final listed b w x inv hl⟩
    obtain ⟨h0, o, ho, _⟩ := mem_ready.1 hj
    have hjs : j < ops.size := (Array.getElem?_eq_some_iff.1 ho).1
    rw [both_false (by rw [inv.size]; exact hjs), hl j hjs] at h0
    cases h0
  | succ f ih =>
    intro listed b w x hcnt inv
    refine ⟨fun h0 => final listed b w x inv (done listed inv.size h0), fun i hi => ?_⟩
    obtain ⟨h0, o, ho, hall'⟩ := mem_ready.1 hi
    have hlt : i < ops.size := (Array.getElem?_eq_some_iff.1 ho).1
    have hun : listed.getD i false = false := by rw [← both_false (by rw [inv.size]; exact hlt)]; exact h0
    have hready : ∀ o', ops[i]? = some o' → ∀ e ∈ o'.after, Region.binds .any e = true → listed.getD e.on false = true := fun o' ho' => by
      rw [ho] at ho'; injection ho' with e; subst e; exact hall'
    obtain ⟨hdst, hus, hsup⟩ := spec i o ho
    have hno : ∀ k, anc ops 3 k i = true → listed.getD k false = false := fun k hk => by
      cases hq : listed.getD k false with
      | false => rfl
      | true =>
        have := anc_listed inv.closed 3 k i hk fun o' ho' => inv.closed k o' ho' hq
        rw [hun] at this; cases this
    have hzu : listed.getD z false = false := by
      by_cases e : i = z
      · rw [← e]; exact hun
      · exact hno z (hza i hlt e)
    have hstep : OgStepG2 P ops C (if i = z then C1 else C) A (uses.getD i []) (alive ops uses keep i) o i (fun x => lay x (ops.toList.take i) 0 a) := by
      by_cases e : i = z
      · subst e
        rw [if_pos rfl]
        rw [hoz] at ho
        injection ho with ho
        subst ho
        exact hz
      · rw [if_neg e]
        have hiz : i < z := by
          have h0 := hza i hlt e
          rcases Nat.lt_or_ge i z with h | h
          · exact h
          · exact absurd (anc_lt hbk 3 z i h0) (by omega)
        have hst := hs.at_ (j := i) (o := o) (by rw [List.getElem?_take, if_pos hiz]; simpa using ho)
        simp only [Nat.zero_add] at hst
        rw [List.take_take, Nat.min_eq_left (Nat.le_of_lt hiz)] at hst
        exact hst.two
    have hla := lay_agree hd x a i (Nat.le_of_lt hlt)
    have hex : execOp b.eval o = execOp (lay x (ops.toList.take i) 0 a).eval o := by
      refine execOp_congr o (fun cs b => Region.noSelect_spec hsel i o cs b ho) fun y hy => ?_
      cases y with
      | tmp d =>
        refine agree_eval inv.frame hla d fun k hk => ?_
        by_cases hki : k = i
        · subst hki; simp [hun]
        · have hlook : d ∈ o.looksAt ops := List.mem_append_left _ (List.mem_filterMap.2 ⟨.tmp d, by simpa using hy, rfl⟩)
          have := (hdst k d hki hk).2 hlook
          by_cases hlt' : k < i
          · rw [if_pos hlt'] at this
            have := anc_listed inv.closed 3 i k this hready
            simp [this, hlt']
          · rw [if_neg hlt'] at this
            simp [hno k this, hlt']
      | _ => rfl
    have huse : ∀ k ∈ uses.getD i [], (A.getD k As.no).p x w := fun k hk => by
      have hk' : (uses.getD i []).contains k = true := by simpa using hk
      have hlk := anc_listed inv.closed 3 i k (hus k hk') hready
      have hks : k < ops.size := by
        rcases Nat.lt_or_ge k ops.size with hl | hl
        · exact hl
        · rw [← inv.size] at hl
          simp [Array.getElem?_eq_none hl] at hlk
      exact inv.holds k hks hlk (.inr ⟨i, by rw [inv.size]; exact hlt, hun, hk'⟩)
    have hnext : ∀ v w', ((if i = z then C1 else C) w' ∧ (A.getD i As.no).p (upd x i v) w' ∧ ∀ k ∈ alive ops uses keep i, (A.getD k As.no).p x w → (A.getD k As.no).p (upd x i v) w') → wpAny P .any ops Q f (listed.setIfInBounds i true) (b.put o.dst v) w' := fun v w' ⟨h1, h2, h3⟩ => by
      have hil : i < listed.size := by rw [inv.size]; exact hlt
      have hcnt' : (listed.setIfInBounds i true).count false = f := by
        rw [Array.setIfInBounds_def, dif_pos hil, Array.count_set hil]
        have hq : listed[i] = false := by simpa [hil] using hun
        simp [hq, hcnt]
      refine ih _ _ w' (upd x i v) hcnt' ⟨by simp [inv.size], fun j o' ho' hl e he hb => ?_, ?_, fun hl => ?_, fun hl => ?_, fun k hks hl hal => ?_⟩
      · by_cases hij : i = j
        · subst hij
          exact getD_set_true (hready o' ho' e he hb)
        · rw [getD_set_ne false hij] at hl
          exact getD_set_true (inv.closed j o' ho' hl e he hb)
      · have e2 : o.dst = dstOf ops i := by unfold dstOf; rw [ho]; rfl
        rw [e2]
        refine (inv.frame.step hd (i := i) (by simp [hun]) v).congr fun k hk => ?_
        rw [getD_set_at hil]
        by_cases hki : i = k
        · subst hki; simp
        · simp [hki, Ne.symm hki]
      · have e : i ≠ z := by
          rintro rfl
          rw [getD_set_at hil, if_pos rfl] at hl
          cases hl
        rw [if_neg e] at h1
        exact h1
      · have e : i = z := by
          rcases Nat.decEq i z with e | e
          · rw [getD_set_ne false e] at hl
            rw [hzu] at hl; cases hl
          · exact e
        rw [if_pos e] at h1
        exact h1
      · by_cases hki : i = k
        · subst hki; exact h2
        · rw [getD_set_ne false hki] at hl
          refine h3 k ?_ (inv.holds k hks hl ?_)
          · unfold alive
            refine List.mem_filter.2 ⟨List.mem_range.2 hks, ?_⟩
            simp only [Bool.and_eq_true, decide_eq_true_eq, Bool.not_eq_true', Bool.or_eq_true, List.any_eq_true]
            refine ⟨⟨Ne.symm hki, ?_⟩, ?_⟩
            · cases hq : anc ops 3 k i with
              | false => rfl
              | true => rw [hno k hq] at hl; cases hl
            · rcases hal with hal | ⟨j, hj, hjl, hju⟩
              · exact .inl hal
              · have hij : i ≠ j := fun e => by
                  subst e
                  rw [getD_set_at hil, if_pos rfl] at hjl
                  cases hjl
                rw [getD_set_ne false hij] at hjl
                refine .inr ⟨j, List.mem_range.2 (by rw [← inv.size]; simpa using hj), ⟨Ne.symm hij, ?_⟩, hju⟩
                cases hq : anc ops 3 i j with
                | false => rfl
                | true => rw [anc_listed inv.closed 3 i j hq hready] at hjl; cases hjl
          · rcases hal with hal | ⟨j, hj, hjl, hju⟩
            · exact .inl hal
            · have hij : i ≠ j := fun e => by
                subst e
                rw [getD_set_at hil, if_pos rfl] at hjl
                cases hjl
              rw [getD_set_ne false hij] at hjl
              exact .inr ⟨j, by simpa using hj, hjl, hju⟩
    have hwe : Region.wanted o (yielded ops b.tmps) = Region.wanted o (yielded ops (lay x (ops.toList.take i) 0 a).tmps) := by
      unfold Region.wanted
      cases hg : o.guard with
      | none => rfl
      | some gw =>
        obtain ⟨g, want⟩ := gw
        have hy : yielded ops b.tmps g = yielded ops (lay x (ops.toList.take i) 0 a).tmps g := by
          unfold yielded
          cases ht : (ops[g]?).bind (·.dst) with
          | none => rfl
          | some d =>
            have key := agree_tmp inv.frame hla d fun k hk => by
              by_cases hki : k = i
              · subst hki; simp [hun]
              · have hlook : d ∈ o.looksAt ops := by
                  unfold Oper.looksAt
                  refine List.mem_append_right _ ?_
                  rw [hg]
                  simp only [ht, Option.toList, List.mem_singleton]
                have := (hdst k d hki hk).2 hlook
                by_cases hlt' : k < i
                · rw [if_pos hlt'] at this
                  have := anc_listed inv.closed 3 i k this hready
                  simp [this, hlt']
                · rw [if_neg hlt'] at this
                  simp [hno k this, hlt']
            simp only [Option.bind_some, key]
        simp only [hy]
    have hgw := hstep hsup x w (inv.base0 hzu) huse (fun a' w' => ∃ v, a' = (lay x (ops.toList.take i) 0 a).put o.dst v ∧ (if i = z then C1 else C) w' ∧ (A.getD i As.no).p (upd x i v) w' ∧ ∀ k ∈ alive ops uses keep i, (A.getD k As.no).p x w → (A.getD k As.no).p (upd x i v) w') (fun _ _ _ => False) fun v w' h1 h2 h3 => ⟨v, rfl, h1, h2, h3⟩
    unfold wpOp
    simp only [ho]
    unfold gwp at hgw
    rw [← hwe] at hgw
    by_cases hw : Region.wanted o (yielded ops b.tmps) = true
    · rw [if_pos hw] at hgw ⊢
      exact .inl (wp_transfer (R := fun v w' => (if i = z then C1 else C) w' ∧ (A.getD i As.no).p (upd x i v) w' ∧ ∀ k ∈ alive ops uses keep i, (A.getD k As.no).p x w → (A.getD k As.no).p (upd x i v) w') (inv.frame.size.trans hla.size.symm) hex hgw hnext)
    · rw [if_neg hw] at hgw ⊢
      obtain ⟨v, e, hv⟩ := hgw
      rw [put_same (inv.frame.size.trans hla.size.symm) e]
      exact hnext v w hv


def StepG2 (P : Program) (ops : Array Oper) (C C' : World → Prop) (A : List As) (us al : List Nat) (ds : List Deferred) (o : Oper) (i : Nat) (f : (Nat → Value) → List Value) : Prop :=
  (∀ k ∈ al, i ∉ (A.getD k As.no).sup) → ∀ (x : Nat → Value) (w : World), C w → (∀ k ∈ us, (A.getD k As.no).p x w) → ∀ (K : Act → World → Prop) (Q : Exit → Act → World → Prop),
    (∀ v w', C' w' → (A.getD i As.no).p (upd x i v) w' → (∀ k ∈ al, (A.getD k As.no).p x w → (A.getD k As.no).p (upd x i v) w') → K ⟨(putL o.dst v (f x)).toArray, ds⟩ w') → owp P o ⟨(f x).toArray, ds⟩ w K Q
/-- The law; z: the last operation; C: the worlds ahead of it, C1: the worlds behind it. -/
theorem wp_region_ogZ {id : Nat} {t : List Value} {ds : List Deferred} {w : World} {l : List Oper} (A : List As) (uses : List (List Nat)) (keep : List Nat) (z : Nat) (oz : Oper) (C C1 : World → Prop) (hm : P.follows .mixedOrders = true) (hB : ogBZ l.toArray A uses keep z = true) (hoz : l[z]? = some oz) (hgz : oz.guard = none) (hC : C (w.drewN 1))
    (hs : StepsG P l.toArray C A uses (alive l.toArray uses keep) ds (l.take z) 0 (fun _ => t))
    (hz : StepG2 P l.toArray C C1 A (uses.getD z []) (alive l.toArray uses keep z) ds oz z (fun x => layL x (l.take z) 0 t))
    (hQ : ∀ x w', C1 w' → (∀ k, keep.contains k = true → k < l.toArray.size → (A.getD k As.no).p x w') → Q .normal ⟨(layL x l 0 t).toArray, ds⟩ w') : (Code.region id l.toArray true).wp P Q ⟨t.toArray, ds⟩ w := by
  have hzl : z < l.length := (List.getElem?_eq_some_iff.1 hoz).1
  refine wp_region_any hm (ogZ_any (C := C) (C1 := C1) (A := A) (uses := uses) (keep := keep) (a := ⟨t.toArray, ds⟩) (z := z) (oz := oz) hB (by simpa using hoz) (by simpa using hs.to) (fun hsup x w hw hu K Q hK => ?_) (by simp only [lay_list]; simpa using hQ) _ _ _ _ (fun _ => undef) (by simp) ⟨by simp, fun j o _ hl => ?_, ⟨rfl, rfl, fun k d _ hl => ?_, fun _ _ => rfl⟩, fun _ => hC, fun hl => ?_, fun k _ hl => ?_⟩)
  · simp only [lay_list] at hK ⊢
    have := hz hsup x w hw hu K Q fun v w' h1 h2 h3 => by
      have := hK v w' h1 h2 h3
      rw [put_list] at this
      exact this
    rw [owp_eq] at this
    unfold gwp
    rw [if_pos (by simp [Region.wanted, hgz])]
    exact this
  · rw [getD_replicate_false] at hl; cases hl
  · rw [getD_replicate_false] at hl; cases hl
  · rw [getD_replicate_false] at hl; cases hl
  · rw [getD_replicate_false] at hl; cases hl
end
end Go.Proofs.Ythijgmkflfaccaa
