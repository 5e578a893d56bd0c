/-
  Walks of package slot: Name.
-/
import Derived.Test.YtggebllkkiennaaDoorSlF
import Derived.Test.YtggebllkkiennaaDoorShJ
namespace Go.Proofs.YtggebllkkiennaaDoor
open Go.RowKit

theorem strN_nil : strN [] = ⟨#[]⟩ := rfl
theorem strN_append (a b : List Nat) : strN a ++ strN b = strN (a ++ b) := by
  apply ByteArray.ext
  apply Array.ext'
  simp [strN, strOfNums]
/-- What the places add. -/
def qOf (h : Nat) : Nat := if h = 0 then 2 else if h = 1 then 1 else 3
/-- The table of the places reads as its text lays it. -/
def QuarOK (w : World) : Prop := ∀ h, h < 3 → w.cell? ⟨0, h, none⟩ = some (.int .i64 (qOf h : Nat))
theorem QuarOK.below {w w' : World} (h : QuarOK w) (hb : Below w.heap.size w w') : QuarOK w' := fun k hk => by
  have h0 := h k hk
  rw [← h0]
  exact hb.cell (p := ⟨0, k, none⟩) (block_lt_of_cell h0)
def nameL (s : Shp) (x : Slt) : List Nat :=
  let c := s.cols.getD x.col.toNat default
  num3 (4 * c.bay.toNat + qOf x.half) ++ num2 c.row.toNat ++ num2 ((2 * (x.tier.toNat + 1) + if c.deck then 80 else 0) % 100)
def nameF (s : Shp) (x : Slt) : List Nat × Int :=
  if rightF s = false then ([], 2) else if slotRight s x 20 = false ∧ slotRight s x 40 = false then ([], 6) else (nameL s x, 0)
def NameRet (w : World) (r : List Nat × Int) (e : Ending) (w' : World) : Prop := Ret w (.tuple #[.string (strN r.1), .int .i64 r.2]) e w'
/-- What a right slot of a right ship is like. -/
theorem right_slot {s : Shp} {x : Slt} {size : Nat} (hr : rightF s = true) (hx : slotRight s x size = true) : ∃ k t : Nat, x.col = (k : Int) ∧ k < s.cols.length ∧ x.tier = (t : Int) ∧ t ≤ 9 ∧ (t : Int) < (s.cols.getD k default).tiers ∧ x.half < 3 ∧
    (∃ b r : Nat, (s.cols.getD k default).bay = (b : Int) ∧ b ≤ 39 ∧ (s.cols.getD k default).row = (r : Int) ∧ r ≤ 30) := by
  unfold slotRight at hx
  simp only [Bool.and_eq_true, decide_eq_true_eq] at hx
  obtain ⟨h1, h2, h3, h4, h5⟩ := hx
  obtain ⟨xc, xt, xh⟩ := x
  simp only at h1 h2 h3 h4 h5 ⊢
  obtain ⟨k, rfl⟩ := Int.eq_ofNat_of_zero_le h1
  obtain ⟨t, rfl⟩ := Int.eq_ofNat_of_zero_le h3
  rw [Int.toNat_natCast] at h4
  have hk : k < s.cols.length := by omega
  have hc : colOK (s.cols.getD k default) = true := by
    unfold rightF at hr
    simp only [Bool.and_eq_true] at hr
    exact List.all_eq_true.1 hr.2.1 _ (getD_memD hk default)
  have hsp : (spans (s.cols.getD k default)).all inB = true := by
    unfold colOK at hc; rw [Bool.and_eq_true] at hc; exact hc.2
  have hh : xh < 3 := by
    obtain ⟨y, hy, he⟩ := List.any_eq_true.1 h5
    have he : xh = y := by simpa using he
    unfold halvesL at hy
    split at hy
    · simp at hy; omega
    · split at hy
      · simp at hy; omega
      · simp at hy
  refine ⟨k, t, rfl, hk, rfl, ?_, h4, hh, (s.cols.getD k default).bay.toNat, (s.cols.getD k default).row.toNat, ?_⟩
  all_goals
    clear h5 hc
    generalize s.cols.getD k default = c at *
    unfold spans at hsp
    simp only [List.all_cons, inB, Bool.and_eq_true, Bool.not_eq_true', Bool.or_eq_false_iff, decide_eq_false_iff_not] at hsp
    omega
end Go.Proofs.YtggebllkkiennaaDoor
