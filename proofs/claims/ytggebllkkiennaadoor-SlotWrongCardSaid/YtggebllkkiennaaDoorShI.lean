/-
  The walk of ship.Right.
-/
import Derived.Test.YtggebllkkiennaaDoorShH
import Derived.Test.YtggebllkkiennaaDoorMapC
import Derived.BigRegion
import Derived.DeepKeys4
namespace Go.Proofs.YtggebllkkiennaaDoor
open Go.RowKit

theorem laidOutP : laidOutB Tryd.prog = true := by kernel_rfl
theorem key3_law : WideMaps.KeyLaw Tryd.prog 89 := deep_law_laid laidOutP (m := 2) (by omega) (of_decide_eq_true (by kernel_rfl)) (by kernel_rfl) (by rw [Tryd.underlying89])
theorem key3_type : Tryd.prog.keyType 89 = true := by kernel_rfl
theorem cells3 : Tryd.prog.cellsOf 89 = 3 := by kernel_rfl
theorem cellsInt : Tryd.prog.cellsOf 3 = 1 := by kernel_rfl
theorem zeroInt (u : World) : (zeroValue 3).run Tryd.prog u = .ok (.int .i64 0) u := by kernel_rfl
theorem typesSz : ∃ m, Tryd.prog.types.size = m + 1 := ⟨Tryd.prog.types.size - 1, by have : 0 < Tryd.prog.types.size := of_decide_eq_true (by kernel_rfl); omega⟩
theorem key3 (k : Int × Int × Int) (h1 : I64 k.1) (h2 : I64 k.2.1) (h3 : I64 k.2.2) : ∃ kl, keyOf Tryd.prog 89 (mkKey k) = some kl := by
  obtain ⟨m, hm⟩ := typesSz
  have w1 := wf_i64 h1.1 h1.2
  have w2 := wf_i64 h2.1 h2.2
  have w3 := wf_i64 h3.1 h3.2
  unfold keyOf mkKey
  rw [Tryd.underlying89]
  have hlit : Tryd.prog.keyLits (Tryd.prog.types.size + 1) 89 (Value.agg #[.int .i64 k.1, .int .i64 k.2.1, .int .i64 k.2.2]).cells.toList = some [.int .i64 k.1, .int .i64 k.2.1, .int .i64 k.2.2] := by
    rw [hm]
    simp [Program.keyLits, Tryd.underlying89, Tryd.underlying3, cells3, cellsInt, Value.cells, List.range_succ, w1, w2, w3]
  have hform : (Value.agg #[.int .i64 k.1, .int .i64 k.2.1, .int .i64 k.2.2]).formed Tryd.prog 89 = true := by simp [Value.formed, Tryd.underlying89, cells3]
  simp only [key3_type, hform, Bool.and_self, if_true, hlit, Option.map_some]
  exact ⟨_, rfl⟩
end Go.Proofs.YtggebllkkiennaaDoor
