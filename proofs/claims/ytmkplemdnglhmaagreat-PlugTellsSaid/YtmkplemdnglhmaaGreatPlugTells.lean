/-
  PlugTells returns true for every input and leaves its arguments as they were.
-/
import Derived.Test.YtmkplemdnglhmaaGreatOpX
import Derived.Test.YtmkplemdnglhmaaGreatTmW12
import Derived.Test.YtmkplemdnglhmaaGreatRows
namespace Go.Proofs.YtmkplemdnglhmaaGreat.PlugTells
open Go.ChangeShapes Go.WideShapes Go.ChangeAt Go.RowKit

set_option maxRecDepth 100000 in
theorem lifted (os : Os) (started : os.Started) (H : Type) (enc : TypeId × Value → H) :
    ReturnsInHanded {} Tryz.checked os 4 .any (Rows.plugTellsSpec.pre6 enc Tryz.prog Tryz.f4 Rows.plugTellsRow.domain false) (Rows.plugTellsSpec.post enc Tryz.prog Tryz.f4 false true false false) := by
  refine returnsInHanded_of_change_sized (C := Tryz.checked) own started (by kernel_rfl) Tryz.func4
    (ChangeSpec.witness6 (enc := enc) (C := Tryz.checked) false ⟨#[], #[.agg #[.slice none 0 0, .slice none 0 0, .int .i64 0, .int .i64 0, .int .i64 0, .int .i64 0, .slice none 0 0, .slice none 0 0, .slice none 0 0, .int .i64 0, .int .i64 0, .int .i64 0, .int .i64 0], .slice none 0 0, .slice none 0 0, .agg #[.int .i64 0, .int .i64 0, .int .u8 0], .int .u8 0], []⟩ 8 (by kernel_rfl) (by kernel_rfl) (by kernel_rfl) (by kernel_rfl)) ?_
  intro W base args ds gs before hval0 hW hcnd hsz0 _
  have hval : ∀ (j : Nat) t v, Tryz.f4.params[j]? = some t → args[j]? = some v → Value.okWide Tryz.prog W .any base t v := hval0
  have hW' := hW
  obtain ⟨p, q, hA0, hV, rfl, hfz, hnd⟩ := hW
  have hA : DataW.TrodAll enc Tryz.prog W 0 (fun _ => true) true Tryz.f4.params.toList args.toList ds p := hA0
  have hsz : (DataW.weightsEach Tryz.prog (Tryz.f4.params.toList ++ Rows.plugTellsSpec.plain.varTypes Tryz.prog) (ds ++ gs)).all (· ≤ reachBytes) = true := hsz0
  rw [Tryz.params4] at hA hval hsz
  obtain ⟨v0, vs0, d0, ds0, p0, q0, hargs, rfl, rfl, h0, r0⟩ := trodAll_cons hA
  obtain ⟨v1, vs1, d1, ds1, p1, q1, rfl, rfl, rfl, h1, r1⟩ := trodAll_cons r0
  obtain ⟨v2, vs2, d2, ds2, p2, q2, rfl, rfl, rfl, h2, r2⟩ := trodAll_cons r1
  obtain ⟨v3, vs3, d3, ds3, p3, q3, rfl, rfl, rfl, h3, r3⟩ := trodAll_cons r2
  obtain ⟨v4, vs4, d4, ds4, p4, q4, rfl, rfl, rfl, h4, r4⟩ := trodAll_cons r3
  obtain ⟨rfl, rfl, rfl⟩ := trodAll_nil r4
  obtain rfl : args = #[v0, v1, v2, v3, v4] := by cases args; simp_all
  obtain ⟨rfl, rfl⟩ := trodVars_none hV
  have hsm0 : Sm d0 32 := fun n hn => by simpa using List.all_eq_true.1 hsz n (DataW.weights_mem_each (j := 0) rfl rfl n hn)
  obtain ⟨s0, g0, rfl, hs0, hi0⟩ := open_ship (hval 0 32 v0 rfl rfl) h0 hsm0
  obtain ⟨A1, c1, l1, rfl, hc1, hm1, hs1, hl1⟩ := open_boxes (hval 1 33 v1 rfl rfl) h1
  obtain ⟨A2, c2, l2, rfl, hc2, hm2, hs2, hl2⟩ := open_stws (hval 2 34 v2 rfl rfl) h2
  obtain ⟨s3, rfl, hi3⟩ := open_slot (hval 3 36 v3 rfl rfl) h3
  obtain ⟨x4, rfl, rfl, rfl, wx4⟩ := open_int Tryz.underlying5 (hval 4 5 v4 rfl rfl) h4
  obtain ⟨a4, rfl⟩ := Int.eq_ofNat_of_zero_le (bounds_u8 wx4).1
  clear hA0 hval0 hsz0
  simp only [List.append_nil] at hW'
  refine (plugTells_any s0 g0 A1 c1 l1 A2 c2 l2 s3 W hs0 hi0 hs1 hc1 hm1 hs2 hc2 hm2 (fun b hb => (hl1 b hb).1) (fun y hy => ⟨(hl2 y hy).2.1, (hl2 y hy).2.2.1⟩) ⟨hi3.1, hi3.2.1⟩ a4 (by have := (bounds_u8 wx4).2; omega)).mono fun e W' ⟨he, hg⟩ => ?_
  subst he
  exact ⟨_, rfl, post_true hW' laidOut (by kernel_rfl) rfl Tryz.underlying4 rfl rfl hg⟩

theorem said : Rows.PlugTellsSaid :=
  OpenClaim.holds_of_wide 4 Tryz.f4 rfl rfl rfl rfl rfl rfl rfl ⟨rfl, rfl, rfl, rfl, rfl⟩ rfl rfl rfl rfl rfl (by kernel_rfl) Tryz.func4 (by kernel_rfl)
    (of_decide_eq_true (by kernel_rfl)) (by unfold Func.isWrapper; first | (rw [if_pos (by decide +kernel)]; kernel_rfl) | (rw [if_neg (by decide +kernel)]; exact ⟨rfl, rfl⟩))
    (fun os started H enc _ => lifted os started H enc)
end Go.Proofs.YtmkplemdnglhmaaGreat.PlugTells
namespace Go.Proofs.YtmkplemdnglhmaaGreat
theorem plugTells_holds : Rows.PlugTellsSaid := PlugTells.said
end Go.Proofs.YtmkplemdnglhmaaGreat
