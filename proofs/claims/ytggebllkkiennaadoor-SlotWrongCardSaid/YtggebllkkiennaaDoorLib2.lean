/-
  More words for memory: slices of byte slices; bytes turned into strings.
-/
import Derived.Test.YtggebllkkiennaaDoorLib
import Derived.Laws.BytesArg
import Derived.Lib.Bytes
namespace Go.Proofs.YtggebllkkiennaaDoor
open Go.RowKit

def strN (l : List Nat) : ByteArray := strOfNums (l.map fun (x : Nat) => (x : Int))
theorem strN_toList (l : List Nat) : (strN l).toList = l.map fun x => UInt8.ofNat x := by
  unfold strN
  rw [Lib.strOfNums_toList]
  simp [Lib.bytesOf, Function.comp_def]
theorem strN_eq (a b : List Nat) (ha : ∀ x ∈ a, x < 256) (hb : ∀ x ∈ b, x < 256) : ((strN a).toList == (strN b).toList) = decide (a = b) := by
  rw [strN_toList, strN_toList, Bool.eq_iff_iff]
  simp only [beq_iff_eq, decide_eq_true_eq]
  constructor
  · intro h
    have h2 := congrArg (List.map UInt8.toNat) h
    simp only [List.map_map] at h2
    have key : ∀ l : List Nat, (∀ x ∈ l, x < 256) → l.map (UInt8.toNat ∘ fun x => UInt8.ofNat x) = l := by
      intro l hl
      conv => rhs; rw [← List.map_id l]
      apply List.map_congr_left
      intro x hx
      simp [Nat.mod_eq_of_lt (hl x hx)]
    rwa [key a ha, key b hb] at h2
  · intro h; rw [h]

theorem conv_u8 {P : Program} {w : World} {B n c : Nat} {A : Option Addr} {l : List Nat} {src e dst : TypeId} (hs : P.underlying src = some (.slice e)) (he : P.underlying e = some (.int .u8)) (hd : P.underlying dst = some .string)
    (h : Sl w B 1 A n (u8s l)) : (convert src dst (.slice A n c)).run P w = .ok (.string (strN l)) w := by
  have hl : l.length = n := by have := h.len; rw [u8s_len] at this; omega
  rcases Nat.eq_zero_or_pos n with h0 | h0
  · subst h0
    have : l = [] := List.eq_nil_of_length_eq_zero hl
    subst this
    rw [run_convert_bytes_string w src dst e A 0 c hs he hd]
    cases A with
    | none => simp [Conv.bytesToString]; rfl
    | some a => simp [Conv.bytesToString, loadCells, loadCellsFrom]; rfl
  · obtain ⟨b, off, rfl, _, hc⟩ := h.mem h0
    refine run_convert_bytes_arg w src e hs he b off n c (l.map fun (x : Nat) => (x : Int)) (by simpa using hl) (fun i hi => ?_) dst hd
    obtain ⟨b', off', hA, _, hcell⟩ := h.u8 hi
    injection hA with hA
    injection hA with h1 h2
    subst h1 h2
    rw [hcell]
    simp [show i < l.length by omega]

/-- A slice of byte slices that reads as a list of lists. -/
def Sl2 (w : World) (B : Nat) (A : Option Addr) (n : Nat) (L : List (List Nat)) : Prop :=
  ∃ vs : List Value, Sl w B 1 A n vs ∧ L.length = n ∧ ∀ i, i < n → ∃ Ai ci, vs.getD i undef = .slice Ai (L.getD i []).length ci ∧ Sl w B 1 Ai (L.getD i []).length (u8s (L.getD i []))
theorem Sl2.below {w w' : World} {B n : Nat} {A : Option Addr} {L : List (List Nat)} (h : Sl2 w B A n L) (hb : Below B w w') : Sl2 w' B A n L := by
  obtain ⟨vs, h1, h2, h3⟩ := h
  exact ⟨vs, h1.below hb, h2, fun i hi => by obtain ⟨Ai, ci, e, s⟩ := h3 i hi; exact ⟨Ai, ci, e, s.below hb⟩⟩
theorem Sl2.more {w : World} {B B' n : Nat} {A : Option Addr} {L : List (List Nat)} (h : Sl2 w B A n L) (hb : B ≤ B') : Sl2 w B' A n L := by
  obtain ⟨vs, h1, h2, h3⟩ := h
  exact ⟨vs, h1.more hb, h2, fun i hi => by obtain ⟨Ai, ci, e, s⟩ := h3 i hi; exact ⟨Ai, ci, e, s.more hb⟩⟩
theorem Sl2.at_ {w : World} {B n : Nat} {A : Option Addr} {L : List (List Nat)} (h : Sl2 w B A n L) {i : Nat} (hi : i < n) :
    ∃ b off Ai ci, A = some ⟨b, off, none⟩ ∧ b < B ∧ w.cell? ⟨b, off + i, none⟩ = some (.slice Ai (L.getD i []).length ci) ∧ Sl w B 1 Ai (L.getD i []).length (u8s (L.getD i [])) := by
  obtain ⟨vs, h1, h2, h3⟩ := h
  obtain ⟨b, off, hA, hb, hc⟩ := h1.at_ hi
  obtain ⟨Ai, ci, e, s⟩ := h3 i hi
  exact ⟨b, off, Ai, ci, hA, hb, by rw [hc, e], s⟩
end Go.Proofs.YtggebllkkiennaaDoor
