/-
  Ships with a defect are not right. No walk.
-/
import Derived.Test.YtbkinjpaigmghaaShV
namespace Go.Proofs.Ytbkinjpaigmghaa
open Go.RowKit

structure WrongS (s : Shp) : Prop where
  right : rightF s = false
  few : Few s
  ints : Ints s
  covs : s.covs.length ≤ 100
theorem right_col {s : Shp} {c : Col} (hc : c ∈ s.cols) (h : colOK c = false) : rightF s = false := by
  unfold rightF
  have : s.cols.all colOK = false := by rw [List.all_eq_false]; exact ⟨c, hc, by simp [h]⟩
  rw [this]; simp
theorem bu_covs {s : Shp} (h : Bu s) : s.covs.length ≤ 10 := by
  have := h.sub.length_le
  have h2 : (allTo 5).length = 10 := by decide
  omega
theorem bu_i64 {s : Shp} (h : Bu s) : ∀ c ∈ s.cols, I64 c.bay ∧ I64 c.row ∧ I64 c.tiers := h.ints.cols
theorem wrong_col {s : Shp} (h : Bu s) {k : Nat} (hk : k < s.cols.length) (x : Col) (hx : colOK x = false) (hp : x.plugs.length ≤ 1000000) (hi : I64 x.bay ∧ I64 x.row ∧ I64 x.tiers) : WrongS { s with cols := s.cols.set k x } := by
  have hf := h.Few
  have hc := bu_covs h
  refine ⟨right_col (c := x) (List.mem_set hk x) hx, ⟨by simpa using hf.cols, hf.covs, hf.rows, fun y hy => ?_⟩, ⟨fun y hy => ?_⟩, by show s.covs.length ≤ 100; omega⟩
  · rcases List.mem_or_eq_of_mem_set hy with hy | rfl
    · exact hf.plugs y hy
    · exact hp
  · rcases List.mem_or_eq_of_mem_set hy with hy | rfl
    · exact bu_i64 h y hy
    · exact hi
theorem once_false {L : List (Int × Int × Int)} {k : Int × Int × Int} (h : 2 ≤ L.count k) : once L = false := by
  unfold once
  rw [List.all_eq_false]
  refine ⟨k, List.count_pos_iff.1 (by omega), ?_⟩
  simp; omega
theorem wrong_dup {s : Shp} (h : Bu s) {k : Nat} (hk : k < s.cols.length) : WrongS { s with cols := s.cols ++ [s.cols.getD k default] } := by
  have hf := h.Few
  have hc := bu_covs h
  have h12 := h.few
  have hm := getD_memD hk (default : Col)
  refine ⟨?_, ⟨by simp; omega, hf.covs, hf.rows, fun y hy => ?_⟩, ⟨fun y hy => ?_⟩, by show s.covs.length ≤ 100; omega⟩
  · unfold rightF
    have : once (keysOf { s with cols := s.cols ++ [s.cols.getD k default] }) = false := by
      refine once_false (k := keyC (s.cols.getD k default)) ?_
      unfold keysOf
      simp only [List.map_append, List.count_append, List.map_cons, List.map_nil]
      have h1 : 0 < (s.cols.map keyC).count (keyC (s.cols.getD k default)) := List.count_pos_iff.2 (List.mem_map_of_mem hm)
      have h2 : List.count (keyC (s.cols.getD k default)) [keyC (s.cols.getD k default)] = 1 := by simp
      omega
    rw [this]; simp
  · rcases List.mem_append.1 hy with hy | hy
    · exact hf.plugs y hy
    · rw [List.mem_singleton.1 hy]; exact hf.plugs _ hm
  · rcases List.mem_append.1 hy with hy | hy
    · exact bu_i64 h y hy
    · rw [List.mem_singleton.1 hy]; exact bu_i64 h _ hm
theorem wrong_covs {s : Shp} (h : Bu s) (l : List Cov) (hl : l.length ≤ 2) (hr : ∀ x ∈ l, x.rows.length ≤ 2) (hw : (∃ x ∈ l, covOK x = false) ∨ ∃ key, 2 ≤ (l.flatMap keysX).count key) : WrongS { s with covs := s.covs ++ l } := by
  have hf := h.Few
  have hc := bu_covs h
  refine ⟨?_, ⟨hf.cols, by simp; omega, fun y hy => ?_, hf.plugs⟩, ⟨h.ints.cols⟩, by simp; omega⟩
  · unfold rightF
    rcases hw with ⟨x, hx, hx2⟩ | ⟨key, hk⟩
    · have : (s.covs ++ l).all covOK = false := by rw [List.all_eq_false]; exact ⟨x, by simp [hx], by simp [hx2]⟩
      rw [this]; simp
    · have : once (keysOf { s with covs := s.covs ++ l }) = false := by
        refine once_false (k := key) ?_
        unfold keysOf
        simp only [List.flatMap_append, List.count_append]
        omega
      rw [this]; simp
  · rcases List.mem_append.1 hy with hy | hy
    · exact hf.rows y hy
    · have := hr y hy; omega
theorem wrong_covs1 {s : Shp} (h : Bu s) : WrongS { s with covs := s.covs ++ [⟨3, [5]⟩, ⟨3, [4, 5]⟩] } :=
  wrong_covs h _ (by simp) (by simp) (.inr ⟨(3, 5, 2), by decide⟩)
theorem wrong_covs2 {s : Shp} (h : Bu s) : WrongS { s with covs := s.covs ++ [⟨4, []⟩] } :=
  wrong_covs h _ (by simp) (by simp) (.inl ⟨⟨4, []⟩, by simp, by decide⟩)
theorem wrong_nil {s : Shp} (h : Bu s) : WrongS { s with cols := [] } := by
  have hf := h.Few
  have hc := bu_covs h
  exact ⟨by unfold rightF; simp, ⟨by simp, hf.covs, hf.rows, by simp⟩, ⟨by simp⟩, by show s.covs.length ≤ 100; omega⟩
section
variable {c : Col}
theorem bad_bay (v : Int) (h : 39 < v) : colOK { c with bay := v } = false := by unfold colOK spans; simp [inB]; omega
theorem bad_row (v : Int) (h : v < 0) : colOK { c with row := v } = false := by unfold colOK spans; simp [inB]; omega
theorem bad_tiers (v : Int) (h : 10 < v) : colOK { c with tiers := v } = false := by unfold colOK spans; simp [inB]; omega
theorem bad_height (v : Int) (h : 40000 < v) : colOK { c with height := v } = false := by unfold colOK spans; simp [inB]; omega
theorem bad_k20 (v : Int) (h : v < 0) : colOK { c with k20 := v } = false := by unfold colOK spans; simp [inB]; omega
theorem bad_k40 (v : Int) (h : 500000000 < v) : colOK { c with k40 := v } = false := by unfold colOK spans; simp [inB]; omega
theorem bad_lash (v : Int) (h : 1000000000000 < v) : colOK { c with lash := v } = false := by unfold colOK spans; simp [inB]; omega
theorem bad_x (v : Int) (h : v < -500000) : colOK { c with x := v } = false := by unfold colOK spans; simp [inB]; omega
theorem bad_plugs1 (h : 1 ≤ c.tiers ∧ c.tiers ≤ 10) : colOK { c with plugs := [0, c.tiers] } = false := by
  unfold colOK
  have : (List.range [0, c.tiers].length).all (plugOK { c with plugs := [0, c.tiers] }) = false := by
    refine range_all_false (k := 1) (by simp) ?_
    have e : wrap64 (c.tiers - 1) = c.tiers - 1 := IntWalk.wrap64_in _ (by omega)
    unfold plugOK
    simp [inB, e]; omega
  rw [this]; simp
theorem bad_plugs2 : colOK { c with plugs := [1, 1] } = false := by
  unfold colOK
  have : (List.range [(1 : Int), 1].length).all (plugOK { c with plugs := [1, 1] }) = false := by
    refine range_all_false (k := 1) (by simp) ?_
    unfold plugOK
    simp [inB]
  rw [this]; simp
end
/-- Flat under one cell changed. -/
theorem Flat.set {α : Type} {T : Ty α} {w : World} {S : Nat → Prop} : ∀ {xs : List Value} {l : List α} {i : Nat} {x x' : α} {j : Nat} {u : Value}, Flat T w S xs l → l[i]? = some x → j < T.k → (∀ cs, T.rd w S cs x → T.rd w S (cs.set j u) x') → Flat T w S (xs.set (i * T.k + j) u) (l.set i x')
  | xs, [], i, x, x', j, u, _, hx, _, _ => by simp at hx
  | xs, y :: l, 0, x, x', j, u, ⟨cs, ys, e, h1, h2⟩, hx, hj, hr => by
    simp at hx; subst hx
    refine ⟨cs.set j u, ys, ?_, hr cs h1, h2⟩
    rw [e, Nat.zero_mul, Nat.zero_add, List.set_append_left _ _ (by rw [T.len h1]; exact hj)]
  | xs, y :: l, i + 1, x, x', j, u, ⟨cs, ys, e, h1, h2⟩, hx, hj, hr => by
    have ih := h2.set (i := i) (x' := x') (u := u) (by simpa using hx) hj hr
    refine ⟨cs, ys.set (i * T.k + j) u, ?_, h1, ih⟩
    have hl := T.len h1
    rw [e, List.set_append_right _ _ (by rw [hl, Nat.add_mul]; omega), hl, show (i + 1) * T.k + j - T.k = i * T.k + j by rw [Nat.add_mul]; omega]
theorem OwnS.more {α : Type} {T : Ty α} {e : TypeId} {w : World} {base : Nat} {S S' : Nat → Prop} {v : Value} {l : List α} (h : OwnS T e w base S v l) (hS : ∀ b, S b → S' b) (hB : ∀ b, S' b → But w v b) : OwnS T e w base S' v l := by
  obtain ⟨xs, h1, h2, h3⟩ := h
  exact ⟨xs, h1, h2.more hS, hB⟩
theorem OwnS.set {α : Type} {T : Ty α} {e : TypeId} {w : World} {base b c : Nat} {S : Nat → Prop} {l : List α} (h : OwnS T e w base S (.slice (some ⟨b, 0, none⟩) l.length c) l) {i : Nat} {x x' : α} {j : Nat} {u : Value} (hx : l[i]? = some x) (hj : j < T.k) (hr : ∀ cs, T.rd w S cs x → T.rd w S (cs.set j u) x') :
    OwnS T e (w.setCell ⟨b, i * T.k + j, none⟩ u) base S (.slice (some ⟨b, 0, none⟩) (l.set i x').length c) (l.set i x') := by
  obtain ⟨xs, h1, h2, h3⟩ := h
  obtain ⟨k1, k2⟩ := h1.stored (i * T.k + j) u
  have hk : ∀ b' o, S b' → (w.setCell ⟨b, i * T.k + j, none⟩ u).cell? ⟨b', o, none⟩ = w.cell? ⟨b', o, none⟩ := fun b' o hb => cell_far (by have := (h3 b' hb).2; simpa [Value.ownBlock] using this)
  refine ⟨xs.set (i * T.k + j) u, by rw [List.length_set]; exact k1, (h2.set hx hj hr).keep hk, fun b' hb => ⟨Nat.lt_of_lt_of_le (h3 b' hb).1 k2.size, ?_⟩⟩
  rw [List.length_set]
  exact (h3 b' hb).2
end Go.Proofs.Ytbkinjpaigmghaa
