/-
  A lent ship reads as the ship.
-/
import Derived.Test.YtmhikcleekfbpaaGreatDoorLn
namespace Go.Proofs.YtmhikcleekfbpaaGreatDoor
open Go.RowKit

theorem colK_rd {w : World} {S : Nat → Prop} {cs : List Value} {c : Col} {ms : List Int} (h : tColK.rd w S cs (c, ms)) : tCol.rd w S cs c := by
  obtain ⟨A, p, rfl, h1, h2⟩ := h
  exact ⟨A, p, rfl, by simp only at h1; omega, h2.fst⟩
theorem covK_rd {w : World} {S : Nat → Prop} {cs : List Value} {c : Cov} {ms : List Int} (h : tCovK.rd w S cs (c, ms)) : tCov.rd w S cs c := by
  obtain ⟨A, p, rfl, h1, h2⟩ := h
  exact ⟨A, p, rfl, by simp only at h1; omega, h2.fst⟩
theorem tnkK_rd {w : World} {S : Nat → Prop} {cs : List Value} {c : Tnk} {ms : List Int} (h : tTnkK.rd w S cs (c, ms)) : tTnk.rd w S cs c := by
  obtain ⟨A, p, rfl, h1, h2⟩ := h
  exact ⟨A, p, rfl, by simp only at h1; omega, h2.fst⟩
theorem SlT.lent {α : Type} {T : Ty α} {U : Ty (α × List Int)} (hk : U.k = T.k) (hr : ∀ {w S cs c ms}, U.rd w S cs (c, ms) → T.rd w S cs c) {w : World} {S : Nat → Prop} {A : Option Addr} {l : List α} {ms : List Int} (h : SlT U w S A (l.map fun c => (c, ms))) : SlT T w S A l := fun hn => by
  obtain ⟨b, off, hA, hb, hc⟩ := h (by intro e; exact hn (List.map_eq_nil_iff.1 e))
  refine ⟨b, off, hA, hb, fun i x hx => ?_⟩
  obtain ⟨cs, h1, h2⟩ := hc i (x, ms) (by simp [hx])
  exact ⟨cs, hr h1, by rw [← hk]; exact h2⟩
theorem OwnF.sl2 {α : Type} {T : Ty α} {e : TypeId} {w : World} {base : Nat} {A : Option Addr} {n c : Nat} {l : List α} (h : OwnF T e w base (.slice A n c) l) : l.length ≤ c ∧ c ≤ maxLen ∧ SlT T w (Fr base w) A l := by
  obtain ⟨A', c', e, h1, h2, h3⟩ := h.sl
  injection e with e1 e2 e3
  subst e1 e3
  exact ⟨h1, h2, h3⟩
theorem fr_up {base B : Nat} {w : World} (h : base ≤ B) : ∀ b, Fr B w b → Fr base w b := fun _ hb => ⟨Nat.le_trans h hb.1, hb.2⟩
theorem LentR.rd {base B1 : Nat} {w : World} {s : Shp} {h : Hd} (r : LentR base B1 w s h) : ShpR w (Fr base w) s h := by
  obtain ⟨a1, a2, a3⟩ := r.cols.sl2
  obtain ⟨b1, b2, b3⟩ := r.covs.sl2
  obtain ⟨c1, c2, c3⟩ := r.tanks.sl2
  rw [List.length_append, lentC_len] at a1
  rw [List.length_append, lentCo_len] at b1
  rw [List.length_append, lentTn_len] at c1
  have hm := r.mid.1
  exact ⟨by omega, by omega, by have := r.rows.1; omega, by have := r.frames.1; omega, by omega, a2, b2, r.rows.2.1, r.frames.2.1, c2,
    SlT.lent rfl colK_rd a3.fst, (SlT.lent rfl covK_rd b3.fst).more (fr_up hm), r.rows.2.2.fst.more (fr_up hm), r.frames.2.2.fst.more (fr_up hm), (SlT.lent rfl tnkK_rd c3.fst).more (fr_up hm)⟩
theorem LentR.on {base B1 : Nat} {w w' : World} {s : Shp} {h : Hd} (r : LentR base B1 w s h) (hb : Below w.heap.size w w') : LentR base B1 w' s h :=
  ⟨⟨r.mid.1, Nat.le_trans r.mid.2 hb.size⟩, r.lt, r.cols.on hb, r.covs.on hb, ⟨r.rows.1, r.rows.2.1, r.rows.2.2.frOn hb⟩, ⟨r.frames.1, r.frames.2.1, r.frames.2.2.frOn hb⟩, r.tanks.on hb⟩
/-- The columns' block. -/
theorem LentR.block {base B1 : Nat} {w : World} {s : Shp} {h : Hd} (r : LentR base B1 w s h) : ∃ q, h.A1 = some ⟨q, 0, none⟩ ∧ base ≤ q ∧ q < B1 ∧ ∃ cs, Bk w q 50 cs := by
  obtain ⟨S, hS, xs, h1, h2, h3⟩ := r.cols
  have hlen : (lentC s.cols ++ marksC 12).length = s.cols.length + 12 := by rw [List.length_append, lentC_len, marksC_len]
  obtain ⟨_, h0 | ⟨q, cap, cur, hv, hb, hh, _⟩⟩ := h1
  · have := h0.2; omega
  · injection hv with e1 _ e3
    exact ⟨q, e1, hb, r.lt q (by rw [e1]; rfl), cur, hh⟩
end Go.Proofs.YtmhikcleekfbpaaGreatDoor
