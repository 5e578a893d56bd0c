/-
  Opening a slice of bytes that came in; what all statements of chapter 13 share.
-/
import Derived.Test.YtcjnabbggmbfgaaDoorDgLaid
import Derived.Test.YtcjnabbggmbfgaaDoorPost
namespace Go.Proofs.YtcjnabbggmbfgaaDoor
open Go.ChangeShapes Go.WideShapes Go.ChangeAt Go.RowKit

theorem own : ownKnob Tryd.prog.godebug = none := by kernel_rfl
theorem laidOut : laidOutB Tryd.prog = true := by kernel_rfl
theorem open_u8s {H : Type} {enc : TypeId × Value → H} {W : World} {v : Value} {d : DataW H} {p : List MemPlace} {base : Nat} {r : Reach} (hv : Value.okWide Tryd.prog W r base 22 v) (h : DataW.Trod enc Tryd.prog W 0 (fun _ => true) true 22 v d p) :
    ∃ A n c l, v = .slice A n c ∧ Sl W W.heap.size 1 A n (u8s l) ∧ (∀ x ∈ l, x < 256) ∧ n ≤ maxLen := by
  obtain ⟨a0, len0, cap0, rfl⟩ := okWide_slice Tryd.underlying22 hv
  obtain ⟨fuel, hf⟩ := h
  rcases open_ints Tryd.underlying22 Tryd.underlying5 cellsU8 hf with ⟨hc, _⟩ | ⟨a, len, cap, zs, hc, _, hlc, hcm, hzl, _, hcell, hwf⟩
  · simp [Value.cells] at hc
    obtain ⟨rfl, rfl, rfl⟩ := hc
    exact ⟨none, 0, 0, [], rfl, Sl.nil rfl rfl, by simp, by simp [maxLen]⟩
  · simp [Value.cells] at hc
    obtain ⟨rfl, rfl, rfl⟩ := hc
    simp only [if_true] at hzl
    refine ⟨some a, len0, cap0, (zs.take len0).map Int.toNat, rfl, ⟨by simp [u8s]; omega, fun h0 => ?_⟩, ?_, by omega⟩
    · obtain ⟨b, off, spot⟩ := a
      have hspot : spot = none := by simpa [Addr.add] using World.cell?_spot (hcell 0 (by omega))
      subst hspot
      refine ⟨b, off, rfl, block_lt_of_cell (a := ⟨b, off, none⟩) (by have := hcell 0 (by omega); rw [add_mk, Nat.add_zero] at this; exact this), fun j u hu => ?_⟩
      have hj : j < len0 := by
        have := (List.getElem?_eq_some_iff.1 hu).1
        simp [u8s] at this; omega
      have hc := hcell j (by omega)
      rw [add_mk] at hc
      rw [hc, ← hu]
      have hjz : j < zs.length := by omega
      have hb := bounds_u8 (hwf zs[j] (List.getElem_mem _))
      simp [u8s, hj, hjz, List.getElem?_take_of_lt hj]
      omega
    · intro x hx
      simp only [List.mem_map] at hx
      obtain ⟨z, hz, rfl⟩ := hx
      have := bounds_u8 (hwf z (List.mem_of_mem_take hz))
      omega
end Go.Proofs.YtcjnabbggmbfgaaDoor
