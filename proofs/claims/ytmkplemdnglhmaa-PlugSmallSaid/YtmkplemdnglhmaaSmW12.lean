/-
  The walk of the statement PlugSmall.
-/
import Derived.Test.YtmkplemdnglhmaaSmB
import Derived.Test.YtmkplemdnglhmaaPlT
namespace Go.Proofs.Ytmkplemdnglhmaa
open Go.RowKit

@[reducible] def IA : Array Value := #[.int .i64 (-1), .int .i64 0, .int .i64 2, .int .i64 4, .int .i64 5, .int .i64 4611686018427387904]
theorem ia_at {j : Nat} (h : j < 6) : ∃ z : Int, IA[j]? = some (.int .i64 z) ∧ I64 z := by
  unfold I64
  match j, h with
  | 0, _ => exact ⟨-1, rfl, by decide⟩
  | 1, _ => exact ⟨0, rfl, by decide⟩
  | 2, _ => exact ⟨2, rfl, by decide⟩
  | 3, _ => exact ⟨4, rfl, by decide⟩
  | 4, _ => exact ⟨5, rfl, by decide⟩
  | 5, _ => exact ⟨4611686018427387904, rfl, by decide⟩
theorem i64_0 : I64 0 := by unfold I64; decide
theorem i64_1 : I64 1 := by unfold I64; decide
theorem i64_2 : I64 2 := by unfold I64; decide
/-- The same, and a state of the call's own. -/
structure SL12 (w V : World) (g gb b rr cc p q gp B b2 c2 : Nat) (m : List Stw) : Prop where
  sw : S12 w V g gb b rr cc p q gp
  ow : OwnP tStw 42 V B (.slice (some ⟨b2, 0, none⟩) m.length c2) m
theorem SL12.on {w V V' : World} {g gb b rr cc p q gp B b2 c2 : Nat} {m : List Stw} (r : SL12 w V g gb b rr cc p q gp B b2 c2 m) (hb : Below V.heap.size V V') : SL12 w V' g gb b rr cc p q gp B b2 c2 m := ⟨r.sw.on hb, r.ow.on hb⟩
theorem SL12.plug {w V : World} {g gb b rr cc p q gp B b2 c2 : Nat} {m : List Stw} (r : SL12 w V g gb b rr cc p q gp B b2 c2 m) {v : Value} (hv : Pl V v) : SL12 w (V.setCell ⟨b, 32, none⟩ v) g gb b rr cc p q gp B b2 c2 m := by
  obtain ⟨v0, h1, h2⟩ := r.sw.kb
  exact ⟨r.sw.plug hv, r.ow.grown (grown_setCell _ _ _) (.inr (r.ow.ne h2 (by decide)))⟩
theorem SL12.sts {w V : World} {g gb b rr cc p q gp B b2 c2 : Nat} {m : List Stw} (r : SL12 w V g gb b rr cc p q gp B b2 c2 m) : SlT tStw V (Lt V.heap.size) (some ⟨b2, 0, none⟩) m := by
  obtain ⟨A, c, e, _, _, hs⟩ := r.ow.sl'
  injection e with e1 _ e2
  subst e1 e2
  exact hs
theorem SL12.at_end {w V : World} {g gb b rr cc p q gp B : Nat} {m : List Stw} (sw : S12 w V g gb b rr cc p q gp) {v : Value} (ho : OwnT tStw 42 V B v m) (hm : 0 < m.length) : ∃ b2 c2, v = .slice (some ⟨b2, 0, none⟩) m.length c2 ∧ m.length ≤ c2 ∧ c2 ≤ maxLen ∧ SL12 w V g gb b rr cc p q gp B b2 c2 m := by
  obtain ⟨xs, h1, h2⟩ := ho
  have hP : OwnP tStw 42 V B v m := ⟨xs, h1, h2.plain plain_stw, fun _ h => h.elim⟩
  obtain ⟨b2, c2, rfl, _, hc, hcm⟩ := OwnS.form hP hm
  exact ⟨b2, c2, rfl, hc, hcm, sw, hP⟩
set_option maxHeartbeats 2000000 in
theorem s12_pl {w V : World} {g gb b rr cc p q : Nat} (kg : Bk V g 32 (X12 b cc)) (ex : Ex12 w V b rr cc p q) (kx : Bk V gb 37 b12A) (hg : w.heap.size ≤ gb) : S12 w ((((((((V.alloc (.cells #[.int .i64 0] 3)).alloc (.cells #[.int .i64 1] 3)).alloc (.cells #[.int .i64 2] 3)).alloc (.cells #[.int .i64 0, .int .i64 1] 3)).alloc (.cells #[.int .i64 1, .int .i64 0] 3)).alloc (.cells #[.int .i64 0, .int .i64 0] 3)).alloc (.cells #[.int .i64 (-1), .int .i64 3] 3)).alloc (.cells #[.slice none 0 0, .slice (some ⟨V.heap.size, 0, none⟩) 1 1, .slice (some ⟨V.heap.size + 1, 0, none⟩) 1 1, .slice (some ⟨V.heap.size + 1 + 1, 0, none⟩) 1 1, .slice (some ⟨V.heap.size + 1 + 1 + 1, 0, none⟩) 2 2, .slice (some ⟨V.heap.size + 1 + 1 + 1 + 1, 0, none⟩) 2 2, .slice (some ⟨V.heap.size + 1 + 1 + 1 + 1 + 1, 0, none⟩) 2 2, .slice (some ⟨V.heap.size + 1 + 1 + 1 + 1 + 1 + 1, 0, none⟩) 2 2] 44)) g gb b rr cc p q (V.heap.size + 1 + 1 + 1 + 1 + 1 + 1 + 1) := by
  have n1 : (V.alloc (.cells #[.int .i64 0] 3)).heap.size = V.heap.size + 1 := by simp
  have n2 : ((V.alloc (.cells #[.int .i64 0] 3)).alloc (.cells #[.int .i64 1] 3)).heap.size = V.heap.size + 1 + 1 := by simp
  have n3 : (((V.alloc (.cells #[.int .i64 0] 3)).alloc (.cells #[.int .i64 1] 3)).alloc (.cells #[.int .i64 2] 3)).heap.size = V.heap.size + 1 + 1 + 1 := by simp
  have n4 : ((((V.alloc (.cells #[.int .i64 0] 3)).alloc (.cells #[.int .i64 1] 3)).alloc (.cells #[.int .i64 2] 3)).alloc (.cells #[.int .i64 0, .int .i64 1] 3)).heap.size = V.heap.size + 1 + 1 + 1 + 1 := by simp
  have n5 : (((((V.alloc (.cells #[.int .i64 0] 3)).alloc (.cells #[.int .i64 1] 3)).alloc (.cells #[.int .i64 2] 3)).alloc (.cells #[.int .i64 0, .int .i64 1] 3)).alloc (.cells #[.int .i64 1, .int .i64 0] 3)).heap.size = V.heap.size + 1 + 1 + 1 + 1 + 1 := by simp
  have n6 : ((((((V.alloc (.cells #[.int .i64 0] 3)).alloc (.cells #[.int .i64 1] 3)).alloc (.cells #[.int .i64 2] 3)).alloc (.cells #[.int .i64 0, .int .i64 1] 3)).alloc (.cells #[.int .i64 1, .int .i64 0] 3)).alloc (.cells #[.int .i64 0, .int .i64 0] 3)).heap.size = V.heap.size + 1 + 1 + 1 + 1 + 1 + 1 := by simp
  have n7 : (((((((V.alloc (.cells #[.int .i64 0] 3)).alloc (.cells #[.int .i64 1] 3)).alloc (.cells #[.int .i64 2] 3)).alloc (.cells #[.int .i64 0, .int .i64 1] 3)).alloc (.cells #[.int .i64 1, .int .i64 0] 3)).alloc (.cells #[.int .i64 0, .int .i64 0] 3)).alloc (.cells #[.int .i64 (-1), .int .i64 3] 3)).heap.size = V.heap.size + 1 + 1 + 1 + 1 + 1 + 1 + 1 := by simp
  have k0 : Bk (V.alloc (.cells #[.int .i64 0] 3)) (V.heap.size) 3 #[.int .i64 0] := by have := Bk.new V 3 #[.int .i64 0]; first | exact this | (rw [n1] at this; exact this)
  have k1 : Bk ((V.alloc (.cells #[.int .i64 0] 3)).alloc (.cells #[.int .i64 1] 3)) (V.heap.size + 1) 3 #[.int .i64 1] := by have := Bk.new (V.alloc (.cells #[.int .i64 0] 3)) 3 #[.int .i64 1]; first | exact this | (rw [n1] at this; exact this)
  have k2 : Bk (((V.alloc (.cells #[.int .i64 0] 3)).alloc (.cells #[.int .i64 1] 3)).alloc (.cells #[.int .i64 2] 3)) (V.heap.size + 1 + 1) 3 #[.int .i64 2] := by have := Bk.new ((V.alloc (.cells #[.int .i64 0] 3)).alloc (.cells #[.int .i64 1] 3)) 3 #[.int .i64 2]; first | exact this | (rw [n2] at this; exact this)
  have k3 : Bk ((((V.alloc (.cells #[.int .i64 0] 3)).alloc (.cells #[.int .i64 1] 3)).alloc (.cells #[.int .i64 2] 3)).alloc (.cells #[.int .i64 0, .int .i64 1] 3)) (V.heap.size + 1 + 1 + 1) 3 #[.int .i64 0, .int .i64 1] := by have := Bk.new (((V.alloc (.cells #[.int .i64 0] 3)).alloc (.cells #[.int .i64 1] 3)).alloc (.cells #[.int .i64 2] 3)) 3 #[.int .i64 0, .int .i64 1]; first | exact this | (rw [n3] at this; exact this)
  have k4 : Bk (((((V.alloc (.cells #[.int .i64 0] 3)).alloc (.cells #[.int .i64 1] 3)).alloc (.cells #[.int .i64 2] 3)).alloc (.cells #[.int .i64 0, .int .i64 1] 3)).alloc (.cells #[.int .i64 1, .int .i64 0] 3)) (V.heap.size + 1 + 1 + 1 + 1) 3 #[.int .i64 1, .int .i64 0] := by have := Bk.new ((((V.alloc (.cells #[.int .i64 0] 3)).alloc (.cells #[.int .i64 1] 3)).alloc (.cells #[.int .i64 2] 3)).alloc (.cells #[.int .i64 0, .int .i64 1] 3)) 3 #[.int .i64 1, .int .i64 0]; first | exact this | (rw [n4] at this; exact this)
  have k5 : Bk ((((((V.alloc (.cells #[.int .i64 0] 3)).alloc (.cells #[.int .i64 1] 3)).alloc (.cells #[.int .i64 2] 3)).alloc (.cells #[.int .i64 0, .int .i64 1] 3)).alloc (.cells #[.int .i64 1, .int .i64 0] 3)).alloc (.cells #[.int .i64 0, .int .i64 0] 3)) (V.heap.size + 1 + 1 + 1 + 1 + 1) 3 #[.int .i64 0, .int .i64 0] := by have := Bk.new (((((V.alloc (.cells #[.int .i64 0] 3)).alloc (.cells #[.int .i64 1] 3)).alloc (.cells #[.int .i64 2] 3)).alloc (.cells #[.int .i64 0, .int .i64 1] 3)).alloc (.cells #[.int .i64 1, .int .i64 0] 3)) 3 #[.int .i64 0, .int .i64 0]; first | exact this | (rw [n5] at this; exact this)
  have k6 : Bk (((((((V.alloc (.cells #[.int .i64 0] 3)).alloc (.cells #[.int .i64 1] 3)).alloc (.cells #[.int .i64 2] 3)).alloc (.cells #[.int .i64 0, .int .i64 1] 3)).alloc (.cells #[.int .i64 1, .int .i64 0] 3)).alloc (.cells #[.int .i64 0, .int .i64 0] 3)).alloc (.cells #[.int .i64 (-1), .int .i64 3] 3)) (V.heap.size + 1 + 1 + 1 + 1 + 1 + 1) 3 #[.int .i64 (-1), .int .i64 3] := by have := Bk.new ((((((V.alloc (.cells #[.int .i64 0] 3)).alloc (.cells #[.int .i64 1] 3)).alloc (.cells #[.int .i64 2] 3)).alloc (.cells #[.int .i64 0, .int .i64 1] 3)).alloc (.cells #[.int .i64 1, .int .i64 0] 3)).alloc (.cells #[.int .i64 0, .int .i64 0] 3)) 3 #[.int .i64 (-1), .int .i64 3]; first | exact this | (rw [n6] at this; exact this)
  have k8 : Bk ((((((((V.alloc (.cells #[.int .i64 0] 3)).alloc (.cells #[.int .i64 1] 3)).alloc (.cells #[.int .i64 2] 3)).alloc (.cells #[.int .i64 0, .int .i64 1] 3)).alloc (.cells #[.int .i64 1, .int .i64 0] 3)).alloc (.cells #[.int .i64 0, .int .i64 0] 3)).alloc (.cells #[.int .i64 (-1), .int .i64 3] 3)).alloc (.cells #[.slice none 0 0, .slice (some ⟨V.heap.size, 0, none⟩) 1 1, .slice (some ⟨V.heap.size + 1, 0, none⟩) 1 1, .slice (some ⟨V.heap.size + 1 + 1, 0, none⟩) 1 1, .slice (some ⟨V.heap.size + 1 + 1 + 1, 0, none⟩) 2 2, .slice (some ⟨V.heap.size + 1 + 1 + 1 + 1, 0, none⟩) 2 2, .slice (some ⟨V.heap.size + 1 + 1 + 1 + 1 + 1, 0, none⟩) 2 2, .slice (some ⟨V.heap.size + 1 + 1 + 1 + 1 + 1 + 1, 0, none⟩) 2 2] 44)) (V.heap.size + 1 + 1 + 1 + 1 + 1 + 1 + 1) 44 #[.slice none 0 0, .slice (some ⟨V.heap.size, 0, none⟩) 1 1, .slice (some ⟨V.heap.size + 1, 0, none⟩) 1 1, .slice (some ⟨V.heap.size + 1 + 1, 0, none⟩) 1 1, .slice (some ⟨V.heap.size + 1 + 1 + 1, 0, none⟩) 2 2, .slice (some ⟨V.heap.size + 1 + 1 + 1 + 1, 0, none⟩) 2 2, .slice (some ⟨V.heap.size + 1 + 1 + 1 + 1 + 1, 0, none⟩) 2 2, .slice (some ⟨V.heap.size + 1 + 1 + 1 + 1 + 1 + 1, 0, none⟩) 2 2] := by have := Bk.new (((((((V.alloc (.cells #[.int .i64 0] 3)).alloc (.cells #[.int .i64 1] 3)).alloc (.cells #[.int .i64 2] 3)).alloc (.cells #[.int .i64 0, .int .i64 1] 3)).alloc (.cells #[.int .i64 1, .int .i64 0] 3)).alloc (.cells #[.int .i64 0, .int .i64 0] 3)).alloc (.cells #[.int .i64 (-1), .int .i64 3] 3)) 44 #[.slice none 0 0, .slice (some ⟨V.heap.size, 0, none⟩) 1 1, .slice (some ⟨V.heap.size + 1, 0, none⟩) 1 1, .slice (some ⟨V.heap.size + 1 + 1, 0, none⟩) 1 1, .slice (some ⟨V.heap.size + 1 + 1 + 1, 0, none⟩) 2 2, .slice (some ⟨V.heap.size + 1 + 1 + 1 + 1, 0, none⟩) 2 2, .slice (some ⟨V.heap.size + 1 + 1 + 1 + 1 + 1, 0, none⟩) 2 2, .slice (some ⟨V.heap.size + 1 + 1 + 1 + 1 + 1 + 1, 0, none⟩) 2 2]; rw [n7] at this; exact this
  have hb : Below V.heap.size V ((((((((V.alloc (.cells #[.int .i64 0] 3)).alloc (.cells #[.int .i64 1] 3)).alloc (.cells #[.int .i64 2] 3)).alloc (.cells #[.int .i64 0, .int .i64 1] 3)).alloc (.cells #[.int .i64 1, .int .i64 0] 3)).alloc (.cells #[.int .i64 0, .int .i64 0] 3)).alloc (.cells #[.int .i64 (-1), .int .i64 3] 3)).alloc (.cells #[.slice none 0 0, .slice (some ⟨V.heap.size, 0, none⟩) 1 1, .slice (some ⟨V.heap.size + 1, 0, none⟩) 1 1, .slice (some ⟨V.heap.size + 1 + 1, 0, none⟩) 1 1, .slice (some ⟨V.heap.size + 1 + 1 + 1, 0, none⟩) 2 2, .slice (some ⟨V.heap.size + 1 + 1 + 1 + 1, 0, none⟩) 2 2, .slice (some ⟨V.heap.size + 1 + 1 + 1 + 1 + 1, 0, none⟩) 2 2, .slice (some ⟨V.heap.size + 1 + 1 + 1 + 1 + 1 + 1, 0, none⟩) 2 2] 44)) := (((((((ba1 V _).trans ((ba1 _ _).mono (by simp only [n1]; omega))).trans ((ba1 _ _).mono (by simp only [n2]; omega))).trans ((ba1 _ _).mono (by simp only [n3]; omega))).trans ((ba1 _ _).mono (by simp only [n4]; omega))).trans ((ba1 _ _).mono (by simp only [n5]; omega))).trans ((ba1 _ _).mono (by simp only [n6]; omega))).trans ((ba1 _ _).mono (by simp only [n7]; omega))
  have ex' := ex.on hb
  have j0 : Bk ((((((((V.alloc (.cells #[.int .i64 0] 3)).alloc (.cells #[.int .i64 1] 3)).alloc (.cells #[.int .i64 2] 3)).alloc (.cells #[.int .i64 0, .int .i64 1] 3)).alloc (.cells #[.int .i64 1, .int .i64 0] 3)).alloc (.cells #[.int .i64 0, .int .i64 0] 3)).alloc (.cells #[.int .i64 (-1), .int .i64 3] 3)).alloc (.cells #[.slice none 0 0, .slice (some ⟨V.heap.size, 0, none⟩) 1 1, .slice (some ⟨V.heap.size + 1, 0, none⟩) 1 1, .slice (some ⟨V.heap.size + 1 + 1, 0, none⟩) 1 1, .slice (some ⟨V.heap.size + 1 + 1 + 1, 0, none⟩) 2 2, .slice (some ⟨V.heap.size + 1 + 1 + 1 + 1, 0, none⟩) 2 2, .slice (some ⟨V.heap.size + 1 + 1 + 1 + 1 + 1, 0, none⟩) 2 2, .slice (some ⟨V.heap.size + 1 + 1 + 1 + 1 + 1 + 1, 0, none⟩) 2 2] 44)) (V.heap.size) 3 #[.int .i64 0] := (((((((k0.alloc _).alloc _).alloc _).alloc _).alloc _).alloc _).alloc _)
  have j1 : Bk ((((((((V.alloc (.cells #[.int .i64 0] 3)).alloc (.cells #[.int .i64 1] 3)).alloc (.cells #[.int .i64 2] 3)).alloc (.cells #[.int .i64 0, .int .i64 1] 3)).alloc (.cells #[.int .i64 1, .int .i64 0] 3)).alloc (.cells #[.int .i64 0, .int .i64 0] 3)).alloc (.cells #[.int .i64 (-1), .int .i64 3] 3)).alloc (.cells #[.slice none 0 0, .slice (some ⟨V.heap.size, 0, none⟩) 1 1, .slice (some ⟨V.heap.size + 1, 0, none⟩) 1 1, .slice (some ⟨V.heap.size + 1 + 1, 0, none⟩) 1 1, .slice (some ⟨V.heap.size + 1 + 1 + 1, 0, none⟩) 2 2, .slice (some ⟨V.heap.size + 1 + 1 + 1 + 1, 0, none⟩) 2 2, .slice (some ⟨V.heap.size + 1 + 1 + 1 + 1 + 1, 0, none⟩) 2 2, .slice (some ⟨V.heap.size + 1 + 1 + 1 + 1 + 1 + 1, 0, none⟩) 2 2] 44)) (V.heap.size + 1) 3 #[.int .i64 1] := ((((((k1.alloc _).alloc _).alloc _).alloc _).alloc _).alloc _)
  have j2 : Bk ((((((((V.alloc (.cells #[.int .i64 0] 3)).alloc (.cells #[.int .i64 1] 3)).alloc (.cells #[.int .i64 2] 3)).alloc (.cells #[.int .i64 0, .int .i64 1] 3)).alloc (.cells #[.int .i64 1, .int .i64 0] 3)).alloc (.cells #[.int .i64 0, .int .i64 0] 3)).alloc (.cells #[.int .i64 (-1), .int .i64 3] 3)).alloc (.cells #[.slice none 0 0, .slice (some ⟨V.heap.size, 0, none⟩) 1 1, .slice (some ⟨V.heap.size + 1, 0, none⟩) 1 1, .slice (some ⟨V.heap.size + 1 + 1, 0, none⟩) 1 1, .slice (some ⟨V.heap.size + 1 + 1 + 1, 0, none⟩) 2 2, .slice (some ⟨V.heap.size + 1 + 1 + 1 + 1, 0, none⟩) 2 2, .slice (some ⟨V.heap.size + 1 + 1 + 1 + 1 + 1, 0, none⟩) 2 2, .slice (some ⟨V.heap.size + 1 + 1 + 1 + 1 + 1 + 1, 0, none⟩) 2 2] 44)) (V.heap.size + 1 + 1) 3 #[.int .i64 2] := (((((k2.alloc _).alloc _).alloc _).alloc _).alloc _)
  have j3 : Bk ((((((((V.alloc (.cells #[.int .i64 0] 3)).alloc (.cells #[.int .i64 1] 3)).alloc (.cells #[.int .i64 2] 3)).alloc (.cells #[.int .i64 0, .int .i64 1] 3)).alloc (.cells #[.int .i64 1, .int .i64 0] 3)).alloc (.cells #[.int .i64 0, .int .i64 0] 3)).alloc (.cells #[.int .i64 (-1), .int .i64 3] 3)).alloc (.cells #[.slice none 0 0, .slice (some ⟨V.heap.size, 0, none⟩) 1 1, .slice (some ⟨V.heap.size + 1, 0, none⟩) 1 1, .slice (some ⟨V.heap.size + 1 + 1, 0, none⟩) 1 1, .slice (some ⟨V.heap.size + 1 + 1 + 1, 0, none⟩) 2 2, .slice (some ⟨V.heap.size + 1 + 1 + 1 + 1, 0, none⟩) 2 2, .slice (some ⟨V.heap.size + 1 + 1 + 1 + 1 + 1, 0, none⟩) 2 2, .slice (some ⟨V.heap.size + 1 + 1 + 1 + 1 + 1 + 1, 0, none⟩) 2 2] 44)) (V.heap.size + 1 + 1 + 1) 3 #[.int .i64 0, .int .i64 1] := ((((k3.alloc _).alloc _).alloc _).alloc _)
  have j4 : Bk ((((((((V.alloc (.cells #[.int .i64 0] 3)).alloc (.cells #[.int .i64 1] 3)).alloc (.cells #[.int .i64 2] 3)).alloc (.cells #[.int .i64 0, .int .i64 1] 3)).alloc (.cells #[.int .i64 1, .int .i64 0] 3)).alloc (.cells #[.int .i64 0, .int .i64 0] 3)).alloc (.cells #[.int .i64 (-1), .int .i64 3] 3)).alloc (.cells #[.slice none 0 0, .slice (some ⟨V.heap.size, 0, none⟩) 1 1, .slice (some ⟨V.heap.size + 1, 0, none⟩) 1 1, .slice (some ⟨V.heap.size + 1 + 1, 0, none⟩) 1 1, .slice (some ⟨V.heap.size + 1 + 1 + 1, 0, none⟩) 2 2, .slice (some ⟨V.heap.size + 1 + 1 + 1 + 1, 0, none⟩) 2 2, .slice (some ⟨V.heap.size + 1 + 1 + 1 + 1 + 1, 0, none⟩) 2 2, .slice (some ⟨V.heap.size + 1 + 1 + 1 + 1 + 1 + 1, 0, none⟩) 2 2] 44)) (V.heap.size + 1 + 1 + 1 + 1) 3 #[.int .i64 1, .int .i64 0] := (((k4.alloc _).alloc _).alloc _)
  have j5 : Bk ((((((((V.alloc (.cells #[.int .i64 0] 3)).alloc (.cells #[.int .i64 1] 3)).alloc (.cells #[.int .i64 2] 3)).alloc (.cells #[.int .i64 0, .int .i64 1] 3)).alloc (.cells #[.int .i64 1, .int .i64 0] 3)).alloc (.cells #[.int .i64 0, .int .i64 0] 3)).alloc (.cells #[.int .i64 (-1), .int .i64 3] 3)).alloc (.cells #[.slice none 0 0, .slice (some ⟨V.heap.size, 0, none⟩) 1 1, .slice (some ⟨V.heap.size + 1, 0, none⟩) 1 1, .slice (some ⟨V.heap.size + 1 + 1, 0, none⟩) 1 1, .slice (some ⟨V.heap.size + 1 + 1 + 1, 0, none⟩) 2 2, .slice (some ⟨V.heap.size + 1 + 1 + 1 + 1, 0, none⟩) 2 2, .slice (some ⟨V.heap.size + 1 + 1 + 1 + 1 + 1, 0, none⟩) 2 2, .slice (some ⟨V.heap.size + 1 + 1 + 1 + 1 + 1 + 1, 0, none⟩) 2 2] 44)) (V.heap.size + 1 + 1 + 1 + 1 + 1) 3 #[.int .i64 0, .int .i64 0] := ((k5.alloc _).alloc _)
  have j6 : Bk ((((((((V.alloc (.cells #[.int .i64 0] 3)).alloc (.cells #[.int .i64 1] 3)).alloc (.cells #[.int .i64 2] 3)).alloc (.cells #[.int .i64 0, .int .i64 1] 3)).alloc (.cells #[.int .i64 1, .int .i64 0] 3)).alloc (.cells #[.int .i64 0, .int .i64 0] 3)).alloc (.cells #[.int .i64 (-1), .int .i64 3] 3)).alloc (.cells #[.slice none 0 0, .slice (some ⟨V.heap.size, 0, none⟩) 1 1, .slice (some ⟨V.heap.size + 1, 0, none⟩) 1 1, .slice (some ⟨V.heap.size + 1 + 1, 0, none⟩) 1 1, .slice (some ⟨V.heap.size + 1 + 1 + 1, 0, none⟩) 2 2, .slice (some ⟨V.heap.size + 1 + 1 + 1 + 1, 0, none⟩) 2 2, .slice (some ⟨V.heap.size + 1 + 1 + 1 + 1 + 1, 0, none⟩) 2 2, .slice (some ⟨V.heap.size + 1 + 1 + 1 + 1 + 1 + 1, 0, none⟩) 2 2] 44)) (V.heap.size + 1 + 1 + 1 + 1 + 1 + 1) 3 #[.int .i64 (-1), .int .i64 3] := (k6.alloc _)
  refine ⟨kg.below hb kg.lt, ⟨.slice (some ⟨q, 0, none⟩) 2 2, .inr ⟨q, [0, 1], rfl, by decide, ex'.kq⟩, ?_⟩, ex'.kr, ex'.kc, ex'.kp, ⟨b12.getD 0 default, b12.getD 1 default, b12.getD 2 default, b12.getD 3 default, by decide, kx.below hb kx.lt⟩, ⟨#[.slice none 0 0, .slice (some ⟨V.heap.size, 0, none⟩) 1 1, .slice (some ⟨V.heap.size + 1, 0, none⟩) 1 1, .slice (some ⟨V.heap.size + 1 + 1, 0, none⟩) 1 1, .slice (some ⟨V.heap.size + 1 + 1 + 1, 0, none⟩) 2 2, .slice (some ⟨V.heap.size + 1 + 1 + 1 + 1, 0, none⟩) 2 2, .slice (some ⟨V.heap.size + 1 + 1 + 1 + 1 + 1, 0, none⟩) 2 2, .slice (some ⟨V.heap.size + 1 + 1 + 1 + 1 + 1 + 1, 0, none⟩) 2 2], rfl, ?_, k8⟩, ex'.be, hg, Nat.le_of_lt ex'.lo.1⟩
  · have := ex'.kb
    rw [show (C12 p q).setIfInBounds 32 (.slice (some ⟨q, 0, none⟩) 2 2) = C12 p q by simp [C12]]
    exact this
  · intro v hv
    simp only [List.mem_toArray, List.mem_cons, List.not_mem_nil, or_false] at hv
    rcases hv with rfl | rfl | rfl | rfl | rfl | rfl | rfl | rfl
    · exact .inl rfl
    · exact .inr ⟨_, [0], rfl, by decide, j0⟩
    · exact .inr ⟨_, [1], rfl, by decide, j1⟩
    · exact .inr ⟨_, [2], rfl, by decide, j2⟩
    · exact .inr ⟨_, [0, 1], rfl, by decide, j3⟩
    · exact .inr ⟨_, [1, 0], rfl, by decide, j4⟩
    · exact .inr ⟨_, [0, 0], rfl, by decide, j5⟩
    · exact .inr ⟨_, [-1, 3], rfl, by decide, j6⟩
set_option maxRecDepth 100000 in
set_option maxHeartbeats 16000000 in
theorem plugSmall_any (w : World) : Calls Try.prog 4 #[] w (TrueRet w) := by
  go_enter Try.func4, Try.ntmps4
  go_wp2_with fail
  refine (example12_any w).mono ?_
  rintro e w1 ⟨b, rr, cc, p, q, gb, gl, rfl, hex, kx, kl, hlo⟩
  simp only
  rw [x12_s]
  have HEX := Lib.hid (hex.on (ba1 w1 (.cells (X12 b cc) 32)))
  have HKX := Lib.hid (kx.alloc (.cells (X12 b cc) 32))
  have HKG := Lib.hid (Bk.new w1 32 (X12 b cc))
  have HLO := Lib.hid hlo
  clear hex kx kl hlo
  unfold X12 at HEX HKX HKG ⊢
  go_upto_region 2 with fail
  generalize w1.heap.size = g at *
  generalize (w1.alloc _) = V at *
  clear w1
  go_upto_region 3 with fail
  have HS0 : Hid (S12 w ((((((((V.alloc (.cells #[.int .i64 0] 3)).alloc (.cells #[.int .i64 1] 3)).alloc (.cells #[.int .i64 2] 3)).alloc (.cells #[.int .i64 0, .int .i64 1] 3)).alloc (.cells #[.int .i64 1, .int .i64 0] 3)).alloc (.cells #[.int .i64 0, .int .i64 0] 3)).alloc (.cells #[.int .i64 (-1), .int .i64 3] 3)).alloc (.cells #[.slice none 0 0, .slice (some ⟨V.heap.size, 0, none⟩) 1 1, .slice (some ⟨V.heap.size + 1, 0, none⟩) 1 1, .slice (some ⟨V.heap.size + 1 + 1, 0, none⟩) 1 1, .slice (some ⟨V.heap.size + 1 + 1 + 1, 0, none⟩) 2 2, .slice (some ⟨V.heap.size + 1 + 1 + 1 + 1, 0, none⟩) 2 2, .slice (some ⟨V.heap.size + 1 + 1 + 1 + 1 + 1, 0, none⟩) 2 2, .slice (some ⟨V.heap.size + 1 + 1 + 1 + 1 + 1 + 1, 0, none⟩) 2 2] 44)) g gb b rr cc p q (V.heap.size + 1 + 1 + 1 + 1 + 1 + 1 + 1)) := Lib.hid (s12_pl HKG.out HEX.out HKX.out (Nat.le_of_lt HLO.out.1))
  clear HEX HKX HKG HLO
  generalize hU : (World.alloc _ _) = U at *
  generalize hgp : V.heap.size + 1 + 1 + 1 + 1 + 1 + 1 + 1 = gp at *
  have HS := Lib.hid HS0.out
  clear HS0 hU hgp
  try clear V
  try clear w1
  go_wp2_with fail
  go_loopw [25] (fun i wr => ∃ k : Nat, k ≤ 5832 ∧ i = .int .i64 k ∧ Hid (S12 w wr g gb b rr cc p q gp)) (fun i _ => 5832 - (intOf i).toNat)
  case atStart => exact ⟨0, Nat.zero_le _, rfl, HS⟩
  case round =>
    clear HS
    try clear U
    obtain ⟨k, hk, rfl, HS⟩ := hrel
    obtain ⟨V, rfl⟩ : ∃ V, V = wr := ⟨_, rfl⟩
    by_cases hlt : k < 5832
    · have hi1 : (k : Int) < 5832 := by omega
      go_step
      go_step
      go_wp2_with fail
      go_loopw [28] (fun iv wr => ∃ j : Nat, j ≤ 3 ∧ iv = .int .i64 j ∧ Hid (S12 w wr g gb b rr cc p q gp)) (fun iv _ => 3 - (intOf iv).toNat)
      case atStart => exact ⟨0, Nat.zero_le _, rfl, HS⟩
      case round =>
        clear HS
        try clear V
        obtain ⟨j, hj, rfl, HS⟩ := hrel
        obtain ⟨V, rfl⟩ : ∃ V, V = wr := ⟨_, rfl⟩
        by_cases hlt2 : j < 3
        · have hj0 : (0 : Int) ≤ (j : Int) := by omega
          have hj1 : (j : Int) < 3 := by omega
          have hj4 : (j : Int) < 4 := by omega
          obtain ⟨⟨_, k8⟩, f8⟩ := HS.out.bc (j * 9 + 8) (by omega)
          obtain ⟨⟨_, k2⟩, f2⟩ := HS.out.bc (j * 9 + 2) (by omega)
          obtain ⟨n3, e3, hn3⟩ : ∃ n : Nat, (k : Int) / 8 % 9 % 3 = (n : Int) ∧ n < 3 := ⟨((k : Int) / 8 % 9 % 3).toNat, by omega, by omega⟩
          go_step
          go_step
          go_upto_region 10 with fail
          have HX : ∀ d : Bool, Hid (S12 w ((V.setCell ⟨gb, j * 9 + 8, none⟩ (.bool d)).setCell ⟨gb, j * 9 + 2, none⟩ (.int .u8 (20 * (1 + (n3 : Int))))) g gb b rr cc p q gp) := fun d => Lib.hid (by
            have := (HS.out.reef hlt2 d).size hlt2 (20 * (1 + n3)) (by omega)
            rw [show ((20 * (1 + n3) : Nat) : Int) = 20 * (1 + (n3 : Int)) by push_cast; rfl] at this
            exact this)
          generalize hU : ((V.setCell _ _).setCell _ _) = U
          have H3 : Hid (S12 w U g gb b rr cc p q gp) := by rw [← hU]; exact HX _
          clear k8 k2 f8 f2 e3 HS HX hU
          try clear V
          go_wp2_with fail
          go_roundw
          case rel => first | exact ⟨j + 1, by omega, by go_num, H3⟩ | ((repeat apply Exists.intro); (first | exact ⟨⟨j + 1, by omega, by go_num, H3⟩, rfl⟩ | exact ⟨by omega, by go_num, H3⟩))
          case measure => simp [intOf]; omega
        · obtain rfl : j = 3 := by omega
          have hx0 : 0 ≤ (k : Int) / 8 ∧ (k : Int) / 8 ≤ 5832 := by omega
          have H3 := HS
          clear HS
          obtain ⟨U, rfl⟩ : ∃ U, U = V := ⟨_, rfl⟩
          go_wp2_with fail
          go_loopw [7, 8, 54] (fun xv lv iv wr => ∃ (j : Nat) (x : Int) (m : List Stw), j ≤ 3 ∧ xv = .int .i64 x ∧ iv = .int .i64 j ∧ (0 ≤ x ∧ x ≤ 5832) ∧ m.length = j ∧ Hid (∀ y ∈ m, I64 y.slot.col ∧ I64 y.slot.tier) ∧ OwnT tStw 42 wr U.heap.size lv m ∧ Below U.heap.size U wr) (fun _ _ iv _ => 3 - (intOf iv).toNat)
          case atStart => exact ⟨0, _, [], by omega, rfl, rfl, hx0, rfl, Lib.hid (fun y hy => by cases hy), OwnT.nil, Below.refl _ _⟩
          case round =>
            clear hx0
            obtain ⟨j, x, m, hj, rfl, rfl, hx, hm, HM, hown, hb⟩ := hrel
            obtain ⟨V, rfl⟩ : ∃ V, V = wr := ⟨_, rfl⟩
            by_cases hlt2 : j < 3
            · have hj1 : (j : Int) < 3 := by omega
              obtain ⟨n3, e3, hn3⟩ : ∃ n : Nat, x % 3 = (n : Int) ∧ n < 3 := ⟨(x % 3).toNat, by omega, by omega⟩
              obtain ⟨t6, e6, ht6⟩ : ∃ t : Int, x % 9 / 3 = t ∧ (0 ≤ t ∧ t ≤ 10) := ⟨_, rfl, by omega⟩
              have hK := Lib.hid (fun (U : World) => at12 ((j : Int) + 1) 2 t6 (n3 : Int) U)
              go_step
              go_step
              go_upto_region 16 with fail
              go_wp2_with fail
              refine (hK.out _).mono ?_
              rintro e V4 ⟨rfl, hb4⟩
              simp only
              have HO := Lib.hid (hown.below hb4)
              have HBV := Lib.hid (hb.trans (hb4.mono hb.size))
              clear hown hb hb4 hK e3 e6
              try clear V
              obtain ⟨xs, ho, hfl⟩ := HO.out
              have hz0 := HBV.out.size
              go_wp2_with (at_builtin; (refine wpList_append1 el_stw rfl (.tmp 57) (.tmp 67) rfl U.heap.size _ m.length xs rfl ho #[.int .i64 ((j : Int) + 1), .int .i64 2, .int .i64 t6, .int .u8 (n3 : Nat)] _ rfl rfl rfl ?c1 ?c2 ?c3 ?_))
              case c1 => unfold maxLen; omega
              case c2 => omega
              case c3 => exact hz0
              intro v' w3 hown' hgr hd3 hbel
              have HN := Lib.hid (OwnT.append1 (T := tStw) (x := ⟨(j : Int) + 1, ⟨2, t6, n3⟩⟩) hfl (cs := stwL ⟨(j : Int) + 1, ⟨2, t6, n3⟩⟩) rfl (by rw [hm]; exact hown') hgr hd3)
              have HB9 := Lib.hid (HBV.out.trans hbel)
              have HM2 : Hid (∀ y ∈ m ++ [(⟨(j : Int) + 1, ⟨2, t6, n3⟩⟩ : Stw)], I64 y.slot.col ∧ I64 y.slot.tier) := Lib.hid fun y hy => by
                rcases List.mem_append.1 hy with h | h
                · exact HM.out y h
                · obtain rfl := List.mem_singleton.1 h
                  unfold I64
                  simp only
                  omega
              clear hown' hgr hd3 hbel HO ho hfl HM HBV hz0
              go_wp2_with fail
              go_roundw
              case rel => first | exact ⟨j + 1, x / 9, _, by omega, rfl, by go_num, by omega, by simp [hm], HM2, HN.out, HB9.out⟩ | ((repeat apply Exists.intro); exact ⟨⟨j + 1, x / 9, _, by omega, rfl, by go_num, by omega, by simp [hm], HM2, HN.out, HB9.out⟩, rfl⟩)
              case measure => simp [intOf]; omega
            · obtain rfl : j = 3 := by omega
              obtain ⟨b2, c2, rfl, hc2, hcm2, hsl⟩ := SL12.at_end (H3.out.on hb) hown (by omega)
              have HS := Lib.hid hsl
              rw [hm] at hc2
              have HM3 := Lib.hid hm
              rw [hm]
              clear hown hb hsl H3 hm
              generalize U.heap.size = B at *
              try clear U
              obtain ⟨q8, e8, hq8⟩ : ∃ n : Nat, (k : Int) / 3 % 8 = (n : Int) ∧ n < 8 := ⟨k / 3 % 8, by omega, by omega⟩
              obtain ⟨pv, hpv, hPl⟩ := HS.out.sw.pl hq8
              have e0 : V.cell? ⟨g, 0, none⟩ = some (.slice (some ⟨b, 0, none⟩) 5 5) := HS.out.sw.kg.cell 0
              obtain ⟨⟨_, k32⟩, f32⟩ := HS.out.sw.c32
              have j1 : (0 : Int) ≤ (q8 : Int) := by omega
              have j2 : (q8 : Int) < 8 := by omega
              have HS1 : Hid (SL12 w (V.drewN 1) g gb b rr cc p q gp B b2 c2 m) := Lib.hid (HS.out.on (below_drewN (Below.refl _ _) 1))
              have HPL := Lib.hid hPl
              have HE8 := Lib.hid e8
              have HPV := Lib.hid hpv
              clear e8 hPl hpv
              go_upto_region 19 with fail
              refine wp_region_og [.val 0 (.pointer (some ⟨g, 0, none⟩)),
                  .val 1 (.slice (some ⟨b, 0, none⟩) 5 5),
                  .val 2 (.slice (some ⟨gp, 0, none⟩) 8 8),
                  .val 3 (.int .i64 (k : Nat)),
                  .val 4 (.int .i64 ((k : Int) / 3)),
                  .val 5 (.int .i64 (q8 : Nat)),
                  .val 6 (.pointer (some ⟨gp, q8, none⟩)),
                  (⟨[7], fun x V => ∃ v, x 7 = v ∧ Pl V v, fun h ⟨v, e, r⟩ => ⟨v, (h 7 (by simp)).symm.trans e, r⟩, fun hb ⟨v, e, r⟩ => ⟨v, e, r.on hb⟩⟩ : As),
                  .val 8 (.pointer (some ⟨b, 24, none⟩)),
                  .val 9 (.pointer (some ⟨b, 32, none⟩)),
                  (As.no)]
                [[], [0], [], [], [3], [4], [2, 5], [6], [1], [8], [7, 9]] [] (fun V => SL12 w V g gb b rr cc p q gp B b2 c2 m) (by kernel_rfl) (by kernel_rfl) (HS1.out) ⟨?_, ?_, ?_, ?_, ?_, ?_, ?_, ?_, ?_, ?_, ?_, trivial⟩ ?_
              case refine_1 =>
                refine StepL.grow SL12.on fun x V hV hu K Q hK => ?_
                clear hu
                rw [owp_eq]
                go_big_op
                exact hK _ _ (Below.refl _ _) (rfl)
              case refine_2 =>
                refine StepL.grow SL12.on fun x V hV hu K Q hK => ?_
                have u0 : x 0 = _ := hu 0 (by decide)
                have f0 : V.cell? ⟨g, 0, none⟩ = some (.slice (some ⟨b, 0, none⟩) 5 5) := hV.sw.kg.cell 0
                clear hu
                simp only [putL, List.set_cons_zero, List.set_cons_succ] at hK ⊢
                rw [owp_eq]
                go_big_op
                exact hK _ _ (Below.refl _ _) (rfl)
              case refine_3 =>
                refine StepL.grow SL12.on fun x V hV hu K Q hK => ?_
                clear hu
                simp only [putL, List.set_cons_zero, List.set_cons_succ] at hK ⊢
                rw [owp_eq]
                go_big_op
                exact hK _ _ (Below.refl _ _) (rfl)
              case refine_4 =>
                refine StepL.grow SL12.on fun x V hV hu K Q hK => ?_
                clear hu
                simp only [putL, List.set_cons_zero, List.set_cons_succ] at hK ⊢
                rw [owp_eq]
                go_big_op
                exact hK _ _ (Below.refl _ _) (rfl)
              case refine_5 =>
                refine StepL.grow SL12.on fun x V hV hu K Q hK => ?_
                have u3 : x 3 = _ := hu 3 (by decide)
                clear hu
                simp only [putL, List.set_cons_zero, List.set_cons_succ] at hK ⊢
                rw [owp_eq]
                go_big_op
                exact hK _ _ (Below.refl _ _) (rfl)
              case refine_6 =>
                refine StepL.grow SL12.on fun x V hV hu K Q hK => ?_
                have u4 : x 4 = _ := hu 4 (by decide)
                clear hu
                simp only [putL, List.set_cons_zero, List.set_cons_succ] at hK ⊢
                rw [owp_eq]
                go_big_op
                exact hK _ _ (Below.refl _ _) (congrArg (Value.int .i64) HE8.out)
              case refine_7 =>
                refine StepL.grow SL12.on fun x V hV hu K Q hK => ?_
                have u2 : x 2 = _ := hu 2 (by decide)
                have u5 : x 5 = _ := hu 5 (by decide)
                clear hu
                simp only [putL, List.set_cons_zero, List.set_cons_succ] at hK ⊢
                rw [owp_eq]
                go_big_op
                exact hK _ _ (Below.refl _ _) (rfl)
              case refine_8 =>
                refine StepL.grow SL12.on fun x V hV hu K Q hK => ?_
                have u6 : x 6 = _ := hu 6 (by decide)
                obtain ⟨v9, hc9, hp9⟩ := hV.sw.pl hq8
                have HP9 := Lib.hid hp9
                clear hp9
                clear hu
                simp only [putL, List.set_cons_zero, List.set_cons_succ] at hK ⊢
                rw [owp_eq]
                go_big_op
                exact hK _ _ (Below.refl _ _) (⟨_, rfl, HP9.out⟩)
              case refine_9 =>
                refine StepL.grow SL12.on fun x V hV hu K Q hK => ?_
                have u1 : x 1 = _ := hu 1 (by decide)
                clear hu
                simp only [putL, List.set_cons_zero, List.set_cons_succ] at hK ⊢
                rw [owp_eq]
                go_big_op
                exact hK _ _ (Below.refl _ _) (rfl)
              case refine_10 =>
                refine StepL.grow SL12.on fun x V hV hu K Q hK => ?_
                have u8 : x 8 = _ := hu 8 (by decide)
                clear hu
                simp only [putL, List.set_cons_zero, List.set_cons_succ] at hK ⊢
                rw [owp_eq]
                go_big_op
                exact hK _ _ (Below.refl _ _) (rfl)
              case refine_11 =>
                refine StepL.wr [] (by kernel_rfl) fun x V hV hu K Q hK => ?_
                have u9 : x 9 = _ := hu 9 (by decide)
                obtain ⟨v9, u7, hp9⟩ := hu 7 (by decide)
                obtain ⟨A9, n9, pl9, rfl, _⟩ := hp9.rd
                have HP9 := Lib.hid hp9
                clear hp9
                generalize pl9.length = m9 at *
                obtain ⟨⟨_, f1⟩, f2⟩ := hV.sw.c32
                clear hu
                simp only [putL, List.set_cons_zero, List.set_cons_succ] at hK ⊢
                rw [owp_eq]
                go_big_op
                refine hK undef _ (hV.plug HP9.out) trivial (fun k hk' => by cases hk')
              case refine_12 =>
                refine fun x w' hC hx => ?_
                clear hx
                have HS2 := Lib.hid hC
                clear hC HS HS1 HPL HE8 HPV hq8 j1 j2 e0 k32 f32
                try clear V
                simp only [layL, putL, List.set_cons_zero, List.set_cons_succ]
                obtain ⟨n4, eq4, hn4⟩ : ∃ n : Nat, (k : Int) / 5 % 4 = (n : Int) ∧ n < 4 := ⟨((k : Int) / 5 % 4).toNat, by omega, by omega⟩
                obtain ⟨n5, eq5, hn5⟩ : ∃ n : Nat, (k : Int) % 4 = (n : Int) ∧ n < 4 := ⟨((k : Int) % 4).toNat, by omega, by omega⟩
                have KT : Hid (Calls Try.prog 12 #[(.agg #[.slice (some ⟨b, 0, none⟩) 5 5, .slice (some ⟨cc, 0, none⟩) 1 1, .int .i64 0, .int .i64 0, .int .i64 0, .int .i64 0, .slice none 0 0, .slice none 0 0, .slice none 0 0, .int .i64 0, .int .i64 0, .int .i64 0, .int .i64 0]), .slice (some ⟨gb, 0, none⟩) 4 4, .slice (some ⟨b2, 0, none⟩) 3 c2, .agg #[.int .i64 2, .int .i64 ((k : Int) % 5 - 1), .int .u8 (n4 : Nat)], .int .u8 (20 * (n5 : Int))] w' (Ret w' (.bool true))) := Lib.hid (by
                  have := HS2.out.sw.tells (c2 := c2) ⟨2, (k : Int) % 5 - 1, n4⟩ (20 * n5) HS2.out.sts (by rw [HM3.out]; exact hc2) (by rw [HM3.out]; omega) HM.out (by unfold I64; simp only; omega) (by omega)
                  rw [HM3.out, show ((20 * n5 : Nat) : Int) = 20 * (n5 : Int) by push_cast; rfl] at this
                  exact this)
                have HBK := Lib.hid HS2.out.sw.kg
                unfold X12 at HBK
                have e0 : w'.cell? ⟨g, 0, none⟩ = some (.slice (some ⟨b, 0, none⟩) 5 5) := HBK.out.cell 0
                have e1 : w'.cell? ⟨g, 1, none⟩ = some (.slice (some ⟨cc, 0, none⟩) 1 1) := HBK.out.cell 1
                have e2 : w'.cell? ⟨g, 2, none⟩ = some (.int .i64 0) := HBK.out.cell 2
                have e3 : w'.cell? ⟨g, 3, none⟩ = some (.int .i64 0) := HBK.out.cell 3
                have e4 : w'.cell? ⟨g, 4, none⟩ = some (.int .i64 0) := HBK.out.cell 4
                have e5 : w'.cell? ⟨g, 5, none⟩ = some (.int .i64 0) := HBK.out.cell 5
                have e6 : w'.cell? ⟨g, 6, none⟩ = some (.slice none 0 0) := HBK.out.cell 6
                have e7 : w'.cell? ⟨g, 7, none⟩ = some (.slice none 0 0) := HBK.out.cell 7
                have e8 : w'.cell? ⟨g, 8, none⟩ = some (.slice none 0 0) := HBK.out.cell 8
                have e9 : w'.cell? ⟨g, 9, none⟩ = some (.int .i64 0) := HBK.out.cell 9
                have e10 : w'.cell? ⟨g, 10, none⟩ = some (.int .i64 0) := HBK.out.cell 10
                have e11 : w'.cell? ⟨g, 11, none⟩ = some (.int .i64 0) := HBK.out.cell 11
                have e12 : w'.cell? ⟨g, 12, none⟩ = some (.int .i64 0) := HBK.out.cell 12
                go_upto_region 20 with fail
                go_wp2_with fail
                refine KT.out.mono ?_
                rintro e X ⟨rfl, hb⟩
                simp only
                have HS3 := Lib.hid (HS2.out.on hb).sw
                clear hb e0 e1 e2 e3 e4 e5 e6 e7 e8 e9 e10 e11 e12 KT HBK HS2 eq4 eq5
                go_wp2_with fail
                go_roundw
                case rel => first | exact ⟨k + 1, by omega, by go_num, HS3⟩ | ((repeat apply Exists.intro); (first | exact ⟨⟨k + 1, by omega, by go_num, HS3⟩, rfl⟩ | exact ⟨by omega, by go_num, HS3⟩))
                case measure => simp [intOf]; omega
    · obtain rfl : k = 5832 := by omega
      go_wp2_with fail
      have HI := Lib.hid (Bk.new V 3 IA)
      have HS1 := Lib.hid (HS.out.on (ba1 V (.cells IA 3)))
      clear HS
      unfold IA at HI HS1
      generalize V.heap.size = gi at *
      generalize (V.alloc _) = U at *
      try clear V
      go_loopw [102] (fun iv wr => ∃ j : Nat, j ≤ 6 ∧ iv = .int .i64 j ∧ Hid (S12 w wr g gb b rr cc p q gp) ∧ Hid (Bk wr gi 3 IA)) (fun iv _ => 6 - (intOf iv).toNat)
      case atStart => exact ⟨0, by omega, rfl, HS1, HI⟩
      case round =>
        clear HS1 HI
        try clear U
        obtain ⟨j, hj, rfl, HS, HI⟩ := hrel
        obtain ⟨V, rfl⟩ : ∃ V, V = wr := ⟨_, rfl⟩
        by_cases hlt4 : j < 6
        · have hj1 : (j : Int) < 6 := by omega
          obtain ⟨z, hz, hzr⟩ := ia_at hlt4
          have ci : V.cell? ⟨gi, j, none⟩ = some (.int .i64 z) := (HI.out.cell j).trans hz
          have HZ := Lib.hid hzr
          clear hz hzr
          go_step
          go_step
          go_upto_region 26 with fail
          have KA := Lib.hid (fun (i a b h : Int) (X : World) => at12 i a b h X)
          have KT : Hid (∀ (X : World) (g5 : Nat), Below V.heap.size V X → Bk X g5 42 #[.int .i64 1, .int .i64 z, .int .i64 0, .int .u8 1, .int .i64 9, .int .i64 z, .int .i64 0, .int .u8 2, .int .i64 3, .int .i64 z, .int .i64 1, .int .u8 0] → Calls Try.prog 12 #[(.agg #[.slice (some ⟨b, 0, none⟩) 5 5, .slice (some ⟨cc, 0, none⟩) 1 1, .int .i64 0, .int .i64 0, .int .i64 0, .int .i64 0, .slice none 0 0, .slice none 0 0, .slice none 0 0, .int .i64 0, .int .i64 0, .int .i64 0, .int .i64 0]), .slice (some ⟨gb, 0, none⟩) 4 4, .slice (some ⟨g5, 0, none⟩) 3 3, .agg #[.int .i64 z, .int .i64 0, .int .u8 3], .int .u8 20] X (Ret X (.bool true))) := Lib.hid fun X g5 hX hk =>
            (HS.out.on hX).tells (A2 := some ⟨g5, 0, none⟩) (c2 := 3) (l := [⟨1, ⟨z, 0, 1⟩⟩, ⟨9, ⟨z, 0, 2⟩⟩, ⟨3, ⟨z, 1, 0⟩⟩]) ⟨z, 0, 3⟩ 20 (sl_flat hk (flat_stw [⟨1, ⟨z, 0, 1⟩⟩, ⟨9, ⟨z, 0, 2⟩⟩, ⟨3, ⟨z, 1, 0⟩⟩]) hk.lt) (Nat.le_refl 3) (show (3 : Nat) ≤ 3 by decide) (by
              intro y hy
              simp only [List.mem_cons, List.not_mem_nil, or_false] at hy
              rcases hy with rfl | rfl | rfl
              · exact ⟨HZ.out, i64_0⟩
              · exact ⟨HZ.out, i64_0⟩
              · exact ⟨HZ.out, i64_1⟩) ⟨HZ.out, i64_0⟩ (by decide)
          have HBK := Lib.hid HS.out.kg
          clear ci
          unfold X12 at HBK
          have e0 : V.cell? ⟨g, 0, none⟩ = some (.slice (some ⟨b, 0, none⟩) 5 5) := HBK.out.cell 0
          have e1 : V.cell? ⟨g, 1, none⟩ = some (.slice (some ⟨cc, 0, none⟩) 1 1) := HBK.out.cell 1
          have e2 : V.cell? ⟨g, 2, none⟩ = some (.int .i64 0) := HBK.out.cell 2
          have e3 : V.cell? ⟨g, 3, none⟩ = some (.int .i64 0) := HBK.out.cell 3
          have e4 : V.cell? ⟨g, 4, none⟩ = some (.int .i64 0) := HBK.out.cell 4
          have e5 : V.cell? ⟨g, 5, none⟩ = some (.int .i64 0) := HBK.out.cell 5
          have e6 : V.cell? ⟨g, 6, none⟩ = some (.slice none 0 0) := HBK.out.cell 6
          have e7 : V.cell? ⟨g, 7, none⟩ = some (.slice none 0 0) := HBK.out.cell 7
          have e8 : V.cell? ⟨g, 8, none⟩ = some (.slice none 0 0) := HBK.out.cell 8
          have e9 : V.cell? ⟨g, 9, none⟩ = some (.int .i64 0) := HBK.out.cell 9
          have e10 : V.cell? ⟨g, 10, none⟩ = some (.int .i64 0) := HBK.out.cell 10
          have e11 : V.cell? ⟨g, 11, none⟩ = some (.int .i64 0) := HBK.out.cell 11
          have e12 : V.cell? ⟨g, 12, none⟩ = some (.int .i64 0) := HBK.out.cell 12
          obtain ⟨V9, rfl⟩ : ∃ V9, V9 = V := ⟨_, rfl⟩
          refine wp_region_ogG [.val 0 (.agg #[.slice (some ⟨b, 0, none⟩) 5 5, .slice (some ⟨cc, 0, none⟩) 1 1, .int .i64 0, .int .i64 0, .int .i64 0, .int .i64 0, .slice none 0 0, .slice none 0 0, .slice none 0 0, .int .i64 0, .int .i64 0, .int .i64 0, .int .i64 0]),
    .val 1 (.slice (some ⟨gb, 0, none⟩) 4 4),
    .val 2 (.int .i64 z),
    .val 3 (.agg #[.int .i64 1, .int .i64 z, .int .i64 0, .int .u8 1]),
    .val 4 (.int .i64 z),
    .val 5 (.agg #[.int .i64 9, .int .i64 z, .int .i64 0, .int .u8 2]),
    .val 6 (.int .i64 z),
    .val 7 (.agg #[.int .i64 3, .int .i64 z, .int .i64 1, .int .u8 0]),
    .sl 8 3 42 #[.int .i64 1, .int .i64 z, .int .i64 0, .int .u8 1, .int .i64 9, .int .i64 z, .int .i64 0, .int .u8 2, .int .i64 3, .int .i64 z, .int .i64 1, .int .u8 0] V9.heap.size,
    .val 9 (.int .i64 z),
    .val 10 (.agg #[.int .i64 z, .int .i64 0, .int .u8 3]),
    .val 11 (.bool true),
    .val 12 (.bool false)]
            [[], [], [], [2], [], [4], [], [6], [3, 5, 7], [], [9], [0, 1, 8, 10], [11]] [12] (Cb V9) (by kernel_rfl) (by kernel_rfl) (Cb.drew V9) ⟨?_, ?_, ?_, ?_, ?_, ?_, ?_, ?_, ?_, ?_, ?_, ?_, ?_, trivial⟩ ?_
          case refine_1 =>
            refine StepG.of rfl ?_
            refine StepL.up fun x V hV hu K Q hK => ?_
            have fe0 := hV.cell e0
            have fe1 := hV.cell e1
            have fe2 := hV.cell e2
            have fe3 := hV.cell e3
            have fe4 := hV.cell e4
            have fe5 := hV.cell e5
            have fe6 := hV.cell e6
            have fe7 := hV.cell e7
            have fe8 := hV.cell e8
            have fe9 := hV.cell e9
            have fe10 := hV.cell e10
            have fe11 := hV.cell e11
            have fe12 := hV.cell e12
            clear hu
            rw [owp_eq]
            go_big_op
            exact hK _ _ (Below.refl _ _) rfl
          case refine_2 =>
            refine StepG.of rfl ?_
            refine StepL.up fun x V hV hu K Q hK => ?_
            clear hu
            simp only [putL, List.set_cons_zero, List.set_cons_succ] at hK ⊢
            rw [owp_eq]
            go_big_op
            exact hK _ _ (Below.refl _ _) rfl
          case refine_3 =>
            refine StepG.of rfl ?_
            refine StepL.up fun x V hV hu K Q hK => ?_
            clear hu
            simp only [putL, List.set_cons_zero, List.set_cons_succ] at hK ⊢
            rw [owp_eq]
            go_big_op
            exact hK _ _ (Below.refl _ _) rfl
          case refine_4 =>
            refine StepG.of rfl ?_
            refine StepL.up fun x V hV hu K Q hK => ?_
            have u2 : x 2 = _ := hu 2 (by decide)
            clear hu
            simp only [putL, List.set_cons_zero, List.set_cons_succ] at hK ⊢
            rw [owp_eq]
            go_big_op
            refine (KA.out 1 z 0 1 V).mono ?_
            rintro e V' ⟨rfl, hb⟩
            exact hK _ _ hb rfl
          case refine_5 =>
            refine StepG.of rfl ?_
            refine StepL.up fun x V hV hu K Q hK => ?_
            clear hu
            simp only [putL, List.set_cons_zero, List.set_cons_succ] at hK ⊢
            rw [owp_eq]
            go_big_op
            exact hK _ _ (Below.refl _ _) rfl
          case refine_6 =>
            refine StepG.of rfl ?_
            refine StepL.up fun x V hV hu K Q hK => ?_
            have u4 : x 4 = _ := hu 4 (by decide)
            clear hu
            simp only [putL, List.set_cons_zero, List.set_cons_succ] at hK ⊢
            rw [owp_eq]
            go_big_op
            refine (KA.out 9 z 0 2 V).mono ?_
            rintro e V' ⟨rfl, hb⟩
            exact hK _ _ hb rfl
          case refine_7 =>
            refine StepG.of rfl ?_
            refine StepL.up fun x V hV hu K Q hK => ?_
            clear hu
            simp only [putL, List.set_cons_zero, List.set_cons_succ] at hK ⊢
            rw [owp_eq]
            go_big_op
            exact hK _ _ (Below.refl _ _) rfl
          case refine_8 =>
            refine StepG.of rfl ?_
            refine StepL.up fun x V hV hu K Q hK => ?_
            have u6 : x 6 = _ := hu 6 (by decide)
            clear hu
            simp only [putL, List.set_cons_zero, List.set_cons_succ] at hK ⊢
            rw [owp_eq]
            go_big_op
            refine (KA.out 3 z 1 0 V).mono ?_
            rintro e V' ⟨rfl, hb⟩
            exact hK _ _ hb rfl
          case refine_9 =>
            refine StepG.of rfl ?_
            refine StepL.up fun x V hV hu K Q hK => ?_
            have u3 : x 3 = _ := hu 3 (by decide)
            have u5 : x 5 = _ := hu 5 (by decide)
            have u7 : x 7 = _ := hu 7 (by decide)
            clear hu
            simp only [putL, List.set_cons_zero, List.set_cons_succ] at hK ⊢
            rw [owp_eq]
            go_big_op
            exact hK _ _ (ba1 V _) ⟨_, rfl, Below.size hV, Bk.new V _ _⟩
          case refine_10 =>
            refine StepG.of rfl ?_
            refine StepL.up fun x V hV hu K Q hK => ?_
            clear hu
            simp only [putL, List.set_cons_zero, List.set_cons_succ] at hK ⊢
            rw [owp_eq]
            go_big_op
            exact hK _ _ (Below.refl _ _) rfl
          case refine_11 =>
            refine StepG.of rfl ?_
            refine StepL.up fun x V hV hu K Q hK => ?_
            have u9 : x 9 = _ := hu 9 (by decide)
            clear hu
            simp only [putL, List.set_cons_zero, List.set_cons_succ] at hK ⊢
            rw [owp_eq]
            go_big_op
            exact hK _ _ (Below.refl _ _) rfl
          case refine_12 =>
            refine StepG.of rfl ?_
            refine StepL.up fun x V hV hu K Q hK => ?_
            have u0 : x 0 = _ := hu 0 (by decide)
            have u1 : x 1 = _ := hu 1 (by decide)
            obtain ⟨gu8, u8, hg8, hk8⟩ := hu 8 (by decide)
            have u10 : x 10 = _ := hu 10 (by decide)
            clear hu
            simp only [putL, List.set_cons_zero, List.set_cons_succ] at hK ⊢
            rw [owp_eq]
            go_big_op
            refine (KT.out V gu8 hV hk8).mono ?_
            rintro e V' ⟨rfl, hb⟩
            exact hK _ _ hb rfl
          case refine_13 =>
            refine StepG.of rfl ?_
            refine StepL.up fun x V hV hu K Q hK => ?_
            have u11 : x 11 = _ := hu 11 (by decide)
            clear hu
            simp only [putL, List.set_cons_zero, List.set_cons_succ] at hK ⊢
            rw [owp_eq]
            go_big_op
            exact hK _ _ (Below.refl _ _) rfl
          case refine_14 =>
          refine fun x w' hC hx => ?_
          have hx9 : x 12 = _ := hx 12 (by decide) (by decide)
          clear hx
          simp only [layL, putL, List.set_cons_zero, List.set_cons_succ, hx9]
          have HS3 := Lib.hid (HS.out.on hC)
          have HI3 := Lib.hid (HI.out.below hC HI.out.lt)
          clear hC hx9 e0 e1 e2 e3 e4 e5 e6 e7 e8 e9 e10 e11 e12 KT KA HBK HS HI
          go_wp2_with fail
          go_roundw
          case rel => first | exact ⟨j + 1, by omega, by go_num, HS3, HI3⟩ | ((repeat apply Exists.intro); (first | exact ⟨⟨j + 1, by omega, by go_num, HS3, HI3⟩, rfl⟩ | exact ⟨by omega, by go_num, HS3, HI3⟩))
          case measure => simp [intOf]; omega
        · obtain rfl : j = 6 := by omega
          have HE := Lib.hid HS.out.be
          clear HS HI
          go_wp2_with fail
          refine (awake12_true _).mono ?_
          rintro e Z ⟨rfl, hz⟩
          simp only
          go_wp2_with fail
          go_ret
          exact ⟨rfl, HE.out.trans (hz.mono HE.out.size)⟩
end Go.Proofs.Ytmkplemdnglhmaa
