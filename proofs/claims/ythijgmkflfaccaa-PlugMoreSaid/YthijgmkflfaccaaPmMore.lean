/-
  PlugMore returns true for every input and leaves its arguments as they were.
-/
import Derived.Test.YthijgmkflfaccaaLimO
import Derived.Test.YthijgmkflfaccaaPmW
import Derived.Test.YthijgmkflfaccaaRows
namespace Go.Proofs.Ythijgmkflfaccaa.PlugMore
open Go.ChangeShapes Go.WideShapes Go.ChangeAt Go.RowKit

set_option maxRecDepth 100000 in
theorem lifted (os : Os) (started : os.Started) (H : Type) (enc : TypeId × Value → H) :
    ReturnsInHanded {} Try.checked os 5 .any (Rows.plugMoreSpec.pre6 enc Try.prog Try.f5 Rows.plugMoreRow.domain false) (Rows.plugMoreSpec.post enc Try.prog Try.f5 false true false false) := by
  refine returnsInHanded_of_change (C := Try.checked) own started (by kernel_rfl) Try.func5
    (ChangeSpec.witness6 (enc := enc) (C := Try.checked) false ⟨#[], #[.slice none 0 0, .int .u32 0, .int .u64 0, .int .u16 0, .slice none 0 0, .int .u8 0], []⟩ 8 (by kernel_rfl) (by kernel_rfl) (by kernel_rfl) (by kernel_rfl)) ?_
  intro W base args ds gs before hval0 hW hcnd _
  have hval : ∀ (j : Nat) t v, Try.f5.params[j]? = some t → args[j]? = some v → Value.okWide Try.prog W .any base t v := hval0
  have hW' := hW
  obtain ⟨p, q, hA0, hV, rfl, hfz, hnd⟩ := hW
  have hA : DataW.TrodAll enc Try.prog W 0 (fun _ => true) true Try.f5.params.toList args.toList ds p := hA0
  rw [Try.params5] at hA hval
  obtain ⟨v0, vs0, d0, ds0, p0, q0, hargs, rfl, rfl, h0, r0⟩ := trodAll_cons hA
  obtain ⟨v1, vs1, d1, ds1, p1, q1, rfl, rfl, rfl, h1, r1⟩ := trodAll_cons r0
  obtain ⟨v2, vs2, d2, ds2, p2, q2, rfl, rfl, rfl, h2, r2⟩ := trodAll_cons r1
  obtain ⟨v3, vs3, d3, ds3, p3, q3, rfl, rfl, rfl, h3, r3⟩ := trodAll_cons r2
  obtain ⟨v4, vs4, d4, ds4, p4, q4, rfl, rfl, rfl, h4, r4⟩ := trodAll_cons r3
  obtain ⟨v5, vs5, d5, ds5, p5, q5, rfl, rfl, rfl, h5, r5⟩ := trodAll_cons r4
  obtain ⟨rfl, rfl, rfl⟩ := trodAll_nil r5
  obtain rfl : args = #[v0, v1, v2, v3, v4, v5] := by cases args; simp_all
  obtain ⟨rfl, rfl⟩ := trodVars_none hV
  obtain ⟨A0, c0, l0, rfl, hc0, hm0, hs0, hl0⟩ := open_places (hval 0 22 v0 rfl rfl) h0
  obtain ⟨x1, rfl, rfl, rfl, wx1⟩ := open_int Try.underlying23 (hval 1 23 v1 rfl rfl) h1
  obtain ⟨a1, rfl⟩ := Int.eq_ofNat_of_zero_le (bounds_u32 wx1).1
  obtain ⟨x2, rfl, rfl, rfl, wx2⟩ := open_int Try.underlying24 (hval 2 24 v2 rfl rfl) h2
  obtain ⟨a2, rfl⟩ := Int.eq_ofNat_of_zero_le (bounds_u64 wx2).1
  obtain ⟨x3, rfl, rfl, rfl, wx3⟩ := open_int Try.underlying25 (hval 3 25 v3 rfl rfl) h3
  obtain ⟨a3, rfl⟩ := Int.eq_ofNat_of_zero_le (bounds_u16 wx3).1
  obtain ⟨A4, c4, l4, rfl, hc4, hm4, hs4, hl4⟩ := open_drops (hval 4 26 v4 rfl rfl) h4
  obtain ⟨x5, rfl, rfl, rfl, wx5⟩ := open_int Try.underlying5 (hval 5 5 v5 rfl rfl) h5
  obtain ⟨a5, rfl⟩ := Int.eq_ofNat_of_zero_le (bounds_u8 wx5).1
  clear hA0 hval0
  simp only [List.append_nil] at hW'
  refine (plugMore_any A0 c0 l0 a1 a2 (by have := (bounds_u64 wx2).2; omega) a3 (by have := (bounds_u16 wx3).2; omega) A4 c4 l4 a5 (by have := (bounds_u8 wx5).2; omega) W hs0 hl0 hc0 hm0 hs4 hl4 hc4 hm4).mono fun e W' ⟨he, hg⟩ => ?_
  subst he
  exact ⟨_, rfl, post_true hW' laidOut (by kernel_rfl) rfl Try.underlying4 rfl rfl hg⟩

theorem said : Rows.PlugMoreSaid :=
  OpenClaim.holds_of_wide 5 Try.f5 rfl rfl rfl rfl rfl rfl rfl ⟨rfl, rfl, rfl, rfl, rfl⟩ rfl rfl rfl rfl rfl (by kernel_rfl) Try.func5 (by kernel_rfl)
    (of_decide_eq_true (by kernel_rfl)) (by unfold Func.isWrapper; first | (rw [if_pos (by decide +kernel)]; kernel_rfl) | (rw [if_neg (by decide +kernel)]; exact ⟨rfl, rfl⟩))
    (fun os started H enc _ => lifted os started H enc)
end Go.Proofs.Ythijgmkflfaccaa.PlugMore
namespace Go.Proofs.Ythijgmkflfaccaa
theorem plugMore_holds : Rows.PlugMoreSaid := PlugMore.said
end Go.Proofs.Ythijgmkflfaccaa
