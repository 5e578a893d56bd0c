/-
  The examples of the chapter of stacks: the ship and its boxes.
-/
import Derived.Test.YthijgmkflfaccaaStR
namespace Go.Proofs.Ythijgmkflfaccaa
open Go.RowKit

set_option maxHeartbeats 1000000 in
theorem ex_exact (w : World) : Calls Try.prog 59 #[] w (fun e w' => e = .returned (.agg (shpA exShp (exH w.heap.size))) ∧ w' = exW w) := by
  go_enter Try.func59, Try.ntmps59
  go_wp2
  exact bodyPost_ret (v := .agg (shpA exShp (exH w.heap.size))) (by simp [results, Try.results59, go_sem, shpA, exShp, exH]) rfl ⟨rfl, rfl⟩
theorem exW_size (w : World) : (exW w).heap.size = w.heap.size + 4 := by simp [exW]
theorem exW_cols (w : World) : Bk (exW w) (w.heap.size + 1) 66 exC := by
  have := ((Bk.new (w.alloc (.cells (shpA exShp (exH w.heap.size)) 37)) 66 exC).alloc (.cells #[.int .i64 0, .int .i64 1] 3)).alloc (.cells #[.int .i64 0, .slice (some ⟨w.heap.size + 1 + 1, 0, none⟩) 2 2] 109)
  rw [show (w.alloc (.cells (shpA exShp (exH w.heap.size)) 37)).heap.size = w.heap.size + 1 by simp] at this
  exact this
theorem exW_rows (w : World) : Bk (exW w) (w.heap.size + 1 + 1) 3 #[.int .i64 0, .int .i64 1] := by
  have := (Bk.new ((w.alloc (.cells (shpA exShp (exH w.heap.size)) 37)).alloc (.cells exC 66)) 3 #[.int .i64 0, .int .i64 1]).alloc (.cells #[.int .i64 0, .slice (some ⟨w.heap.size + 1 + 1, 0, none⟩) 2 2] 109)
  rw [show ((w.alloc (.cells (shpA exShp (exH w.heap.size)) 37)).alloc (.cells exC 66)).heap.size = w.heap.size + 1 + 1 by simp] at this
  exact this
theorem exW_covs (w : World) : Bk (exW w) (w.heap.size + 1 + 1 + 1) 109 #[.int .i64 0, .slice (some ⟨w.heap.size + 1 + 1, 0, none⟩) 2 2] := by
  have := Bk.new (((w.alloc (.cells (shpA exShp (exH w.heap.size)) 37)).alloc (.cells exC 66)).alloc (.cells #[.int .i64 0, .int .i64 1] 3)) 109 #[.int .i64 0, .slice (some ⟨w.heap.size + 1 + 1, 0, none⟩) 2 2]
  rw [show (((w.alloc (.cells (shpA exShp (exH w.heap.size)) 37)).alloc (.cells exC 66)).alloc (.cells #[.int .i64 0, .int .i64 1] 3)).heap.size = w.heap.size + 1 + 1 + 1 by simp] at this
  exact this
theorem own_blk {α : Type} {T : Ty α} {e : TypeId} {w : World} {g B n : Nat} {cs : Array Value} {l : List α} (h : Bk w g e cs) (hg : B ≤ g) (hn : l.length = n) (hf : Flat T w (fun _ => False) cs.toList l) (hm : n ≤ maxLen) : OwnP T e w B (.slice (some ⟨g, 0, none⟩) n n) l := by
  have hz : cs.toList.length = n * T.k := by rw [hf.len, hn]
  subst hn
  exact ⟨cs.toList, ⟨hz, .inr ⟨g, l.length, cs, rfl, hg, h, Nat.le_refl _, hm, by simpa using hz, by rw [← hz]; exact List.take_length⟩⟩, hf, fun _ h => h.elim⟩
theorem ex_lw {w w1 : World} (hbe : Below w.heap.size w w1) (f : Col → Int × Int × Int) : LW w ((exW w1).alloc (.cells (shpA exShp (exH w1.heap.size)) 37)) (exW w1).heap.size (w1.heap.size + 1) 5 [w1.heap.size + 1 + 1] exShp (exH w1.heap.size) (limTo f exShp.cols 0) := by
  have h0 : limTo f exShp.cols 0 = exShp.cols := by unfold limTo; simp
  have hsz := hbe.size
  have hs4 := exW_size w1
  rw [h0]
  refine ⟨Bk.new _ _ _, OwnP.on (own_blk (exW_cols w1) (by omega) rfl (flat_col0 _ (by decide)) (by decide)) (ba1 _ _), CovOwn.below ⟨?_, ?_⟩ (ba1 _ _), (hbe.trans ((exW_below w1).mono hsz)).trans ((ba1 _ _).mono (by omega)), by omega, by omega, by decide, by decide⟩
  · refine ⟨rfl, .inr ⟨w1.heap.size + 1 + 1 + 1, 1, _, rfl, by omega, exW_covs w1, Nat.le_refl _, by unfold maxLen; omega, rfl, rfl⟩⟩
  · exact ⟨exW_rows w1, by omega, by simp, trivial⟩
def fE (_ : Col) : Int × Int × Int := (30000, 50000, 0)
def s10 : Shp := limS fE 2000 exShp
def bx (id : Int) (size : Nat) (kilos : Int) : Bx := ⟨id, ⟨#[]⟩, size, false, kilos, 0, 0, 0, false⟩
def b10 (k3 : Int) : List Bx := [bx 1 20 15000, bx 2 20 9000, bx 3 40 k3, bx 4 20 12000]
@[reducible] def b10A (k3 : Int) : Array Value := #[.int .i64 1, .string ⟨#[]⟩, .int .u8 20, .bool false, .int .i64 15000, .int .i64 0, .int .i64 0, .int .u8 0, .bool false, .int .i64 2, .string ⟨#[]⟩, .int .u8 20, .bool false, .int .i64 9000, .int .i64 0, .int .i64 0, .int .u8 0, .bool false, .int .i64 3, .string ⟨#[]⟩, .int .u8 40, .bool false, .int .i64 k3, .int .i64 0, .int .i64 0, .int .u8 0, .bool false, .int .i64 4, .string ⟨#[]⟩, .int .u8 20, .bool false, .int .i64 12000, .int .i64 0, .int .i64 0, .int .u8 0, .bool false]
/-- What example returns. -/
def ExRet (w : World) (e : Ending) (w' : World) : Prop := ∃ (h : Hd) (gv gb : Nat), e = .returned (.tuple #[.agg (shpA s10 h), .slice (some ⟨gb, 0, none⟩) 4 4]) ∧ ShOwn w w' gv s10 h ∧ Bk w' gb 51 (b10A 26000) ∧ w.heap.size ≤ gb ∧ Below w.heap.size w w'
theorem ex_x {x : Col} (hx : x.lash = 0) : { x with k20 := 30000, k40 := 50000 } = limC fE x := by
  unfold limC fE
  simp only
  rw [← hx]
theorem ex_lash : ∀ x ∈ exShp.cols, x.lash = 0 := by decide
end Go.Proofs.Ythijgmkflfaccaa
