/-
  Bytes that came in (the arguments of the laws of chapter 14).
-/
import Derived.Test.YtnbpecnddjpfbaaDoorLimO
import Derived.Test.YtnbpecnddjpfbaaDoorB3
namespace Go.Proofs.YtnbpecnddjpfbaaDoor
open Go.ChangeShapes Go.WideShapes Go.ChangeAt Go.RowKit Go.Deep

section
variable {H : Type} {enc : TypeId × Value → H} {W : World}
theorem opens_u8 : Opens enc W tU8 5 (fun x => x < 256) := fun fuel cs x h => by
  obtain ⟨n, rfl, _, hw⟩ := DataW.trod_int Tryd.underlying5 h
  have q := bounds_u8 hw
  obtain ⟨a, rfl⟩ := Int.eq_ofNat_of_zero_le q.1
  exact ⟨a, rfl, by show a < 256; omega⟩
set_option maxRecDepth 100000 in
theorem open_bytes {base : Nat} {r : Reach} {v : Value} {d : DataW H} {p : List MemPlace} (hv : Value.okWide Tryd.prog W r base 38 v) (h : DataW.Trod enc Tryd.prog W 0 (fun _ => true) true 38 v d p) :
    ∃ A c l, v = .slice A l.length c ∧ l.length ≤ c ∧ c ≤ maxLen ∧ SlT tU8 W (Lt W.heap.size) A l ∧ ∀ x ∈ l, x < 256 := by
  obtain ⟨a0, len0, cap0, rfl⟩ := okWide_slice Tryd.underlying38 hv
  obtain ⟨fuel, hf⟩ := h
  obtain ⟨A, c, l, e, h1, h2, h3, h4⟩ := open_slT (T := tU8) Tryd.underlying38 cells8 opens_u8 hf
  simp [Value.cells] at e
  obtain ⟨rfl, rfl, rfl⟩ := e
  exact ⟨a0, cap0, l, rfl, h1, h2, h3, h4⟩
end
end Go.Proofs.YtnbpecnddjpfbaaDoor
