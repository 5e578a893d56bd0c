/-
  The walk of ship.Right.
-/
import Derived.Test.YtbkinjpaigmghaaShH
import Derived.Test.YtbkinjpaigmghaaMapC
import Derived.BigRegion
import Derived.DeepKeys4
namespace Go.Proofs.Ytbkinjpaigmghaa
open Go.RowKit

theorem laidOutP : laidOutB Try.prog = true := by kernel_rfl
theorem key3_law : WideMaps.KeyLaw Try.prog 70 := deep_law_laid laidOutP (m := 2) (by omega) (of_decide_eq_true (by kernel_rfl)) (by kernel_rfl) (by rw [Try.underlying70])
theorem key3_type : Try.prog.keyType 70 = true := by kernel_rfl
theorem cells3 : Try.prog.cellsOf 70 = 3 := by kernel_rfl
theorem cellsInt : Try.prog.cellsOf 3 = 1 := by kernel_rfl
theorem zeroInt (u : World) : (zeroValue 3).run Try.prog u = .ok (.int .i64 0) u := by kernel_rfl
theorem typesSz : ∃ m, Try.prog.types.size = m + 1 := ⟨Try.prog.types.size - 1, by have : 0 < Try.prog.types.size := of_decide_eq_true (by kernel_rfl); omega⟩
theorem key3 (k : Int × Int × Int) (h1 : I64 k.1) (h2 : I64 k.2.1) (h3 : I64 k.2.2) : ∃ kl, keyOf Try.prog 70 (mkKey k) = some kl := by
  obtain ⟨m, hm⟩ := typesSz
  have w1 := wf_i64 h1.1 h1.2
  have w2 := wf_i64 h2.1 h2.2
  have w3 := wf_i64 h3.1 h3.2
  unfold keyOf mkKey
  rw [Try.underlying70]
  have hlit : Try.prog.keyLits (Try.prog.types.size + 1) 70 (Value.agg #[.int .i64 k.1, .int .i64 k.2.1, .int .i64 k.2.2]).cells.toList = some [.int .i64 k.1, .int .i64 k.2.1, .int .i64 k.2.2] := by
    rw [hm]
    simp [Program.keyLits, Try.underlying70, Try.underlying3, cells3, cellsInt, Value.cells, List.range_succ, w1, w2, w3]
  have hform : (Value.agg #[.int .i64 k.1, .int .i64 k.2.1, .int .i64 k.2.2]).formed Try.prog 70 = true := by simp [Value.formed, Try.underlying70, cells3]
  simp only [key3_type, hform, Bool.and_self, if_true, hlit, Option.map_some]
  exact ⟨_, rfl⟩
end Go.Proofs.Ytbkinjpaigmghaa
