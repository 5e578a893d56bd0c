/-
  twistlocklaw10.has; plain facts for StackTops.
-/
import Derived.Test.YtncfakkajknhaaaStU
import Derived.Test.YtncfakkajknhaaaStV
namespace Go.Proofs.Ytncfakkajknhaaa
open Go.RowKit

def fltEq (x y : Flt) : Bool := x.col == y.col && (x.kind == y.kind && x.box == y.box)
theorem run_eql_flt2 (a c a' c' : Int) (b b' : Nat) (W : World) : (binOp .eql 65 (.agg #[.int .i64 a, .int .u8 (b : Nat), .int .i64 c]) (.agg #[.int .i64 a', .int .u8 (b' : Nat), .int .i64 c'])).run Try.prog W = .ok (.bool (fltEq ⟨a, b, c⟩ ⟨a', b', c'⟩)) W := by
  unfold fltEq
  simp only
  rw [← int_beq]
  cases e1 : (a == a') <;> cases e2 : ((b : Int) == (b' : Int)) <;> cases e3 : (c == c') <;> simp [go_sem, e1, e2, e3]
theorem fltEq_iff (x y : Flt) : fltEq x y = true ↔ x = y := by
  obtain ⟨a, b, c⟩ := x
  obtain ⟨a', b', c'⟩ := y
  simp [fltEq]
def hasF (m : List Flt) (f : Flt) : Bool := m.any fun x => fltEq x f
theorem hasF_iff (m : List Flt) (f : Flt) : hasF m f = true ↔ f ∈ m := by
  unfold hasF
  rw [List.any_eq_true]
  constructor
  · rintro ⟨x, hx, h⟩
    rw [fltEq_iff] at h
    exact h ▸ hx
  · exact fun h => ⟨f, h, (fltEq_iff _ _).2 rfl⟩
set_option maxRecDepth 100000 in
set_option maxHeartbeats 4000000 in
theorem has_any (A : Option Addr) (c : Nat) (m : List Flt) (f : Flt) (w : World) (hs : SlT tFlt w (Lt w.heap.size) A m) (hl : m.length ≤ 1000000) :
    Calls Try.prog 25 #[.slice A m.length c, .agg (fltL f).toArray] w (Ret w (.bool (hasF m f))) := by
  have HS := Lib.hid (hs.on (ba1 w (.cells (fltL f).toArray 65)))
  have HF0 := Lib.hid (Bk.new w 65 (fltL f).toArray)
  have HB0 := Lib.hid (ba1 w (.cells (fltL f).toArray 65))
  have HV : Hid (hasF m f = m.any fun x => fltEq x f) := Lib.hid rfl
  clear hs
  obtain ⟨fc, fk, fb⟩ := f
  unfold fltL at HS HF0 HB0 ⊢
  simp only at HS HF0 HB0 HV ⊢
  go_enter Try.func25, Try.ntmps25
  go_upto_region 1 with fail
  generalize (w.alloc _) = W at *
  go_wp2_with fail
  go_loopw [9] (fun i wr => ∃ k : Nat, k ≤ m.length ∧ i = .int .i64 k ∧ Hid (Before (fun x => fltEq x ⟨fc, fk, fb⟩) m default k) ∧ Hid (Below W.heap.size W wr)) (fun i _ => m.length - (intOf i).toNat)
  case atStart => exact ⟨0, Nat.zero_le _, rfl, Lib.hid (fun j h => absurd h (Nat.not_lt_zero _)), Lib.hid (Below.refl _ _)⟩
  case round =>
    obtain ⟨k, hk, rfl, HQ, HB⟩ := hrel
    obtain ⟨V, rfl⟩ : ∃ V, V = wr := ⟨_, rfl⟩
    by_cases hlt : k < m.length
    · obtain ⟨b, off, rfl, hbB, c0, c1, c2'⟩ := (HS.out.on HB.out).flt hlt
      have i0 : (0 : Int) ≤ (k : Int) := by omega
      have i1 : (k : Int) < (m.length : Int) := by omega
      have HD : Hid (fltEq (m.getD k default) ⟨fc, fk, fb⟩ = true → (m.any fun x => fltEq x ⟨fc, fk, fb⟩) = true) := Lib.hid fun h => List.any_eq_true.2 ⟨_, getD_memD hlt default, h⟩
      have HQ2 : Hid (fltEq (m.getD k default) ⟨fc, fk, fb⟩ = false → Before (fun x => fltEq x ⟨fc, fk, fb⟩) m default (k + 1)) := Lib.hid fun h j hj => by
        rcases Nat.lt_succ_iff_lt_or_eq.1 hj with h' | h'
        · exact HQ.out j h'
        · rw [h']; exact h
      have HKX := Lib.hid (Bk.new V 65 #[.int .i64 (m.getD k default).col, .int .u8 ((m.getD k default).kind : Nat), .int .i64 (m.getD k default).box])
      have HBX := Lib.hid (HB.out.trans ((ba1 V (.cells #[.int .i64 (m.getD k default).col, .int .u8 ((m.getD k default).kind : Nat), .int .i64 (m.getD k default).box] 65)).mono HB.out.size))
      have HF1 := Lib.hid ((HF0.out.below HB.out HF0.out.lt).below (ba1 V (.cells #[.int .i64 (m.getD k default).col, .int .u8 ((m.getD k default).kind : Nat), .int .i64 (m.getD k default).box] 65)) (HF0.out.below HB.out HF0.out.lt).lt)
      clear HQ HB
      generalize m.getD k default = x at *
      obtain ⟨xc, xk, xb⟩ := x
      simp only at c0 c1 c2' HKX HBX HF1
      go_upto_region 4 with fail
      clear c0 c1 c2'
      generalize V.heap.size = gx at *
      generalize (V.alloc _) = Y at *
      try clear V
      have f0 : ∀ p : Gr Y, p.W.cell? ⟨w.heap.size, 0, none⟩ = some (.int .i64 fc) := Gr.cell (HF1.out.cell 0)
      have f1 : ∀ p : Gr Y, p.W.cell? ⟨w.heap.size, 1, none⟩ = some (.int .u8 (fk : Nat)) := Gr.cell (HF1.out.cell 1)
      have f2 : ∀ p : Gr Y, p.W.cell? ⟨w.heap.size, 2, none⟩ = some (.int .i64 fb) := Gr.cell (HF1.out.cell 2)
      have x0 : ∀ p : Gr Y, p.W.cell? ⟨gx, 0, none⟩ = some (.int .i64 xc) := Gr.cell (HKX.out.cell 0)
      have x1 : ∀ p : Gr Y, p.W.cell? ⟨gx, 1, none⟩ = some (.int .u8 (xk : Nat)) := Gr.cell (HKX.out.cell 1)
      have x2 : ∀ p : Gr Y, p.W.cell? ⟨gx, 2, none⟩ = some (.int .i64 xb) := Gr.cell (HKX.out.cell 2)
      have hrun := run_eql_flt2 xc xb fc fb xk fk
      generalize fltEq ⟨xc, xk, xb⟩ ⟨fc, fk, fb⟩ = q at *
      refine wp_region_grs ?_
      repeat (go_big_quiet_step (fail))
      refine wpQuiet_nil ?_
      rintro Y2 ⟨⟨_, hbY⟩, rfl⟩
      clear f0 f1 f2 x0 x1 x2 hrun
      have HB2 := Lib.hid (HBX.out.trans (hbY.mono HBX.out.size))
      clear hbY HBX
      cases q with
      | true =>
        have HT : Hid (hasF m ⟨fc, fk, fb⟩ = true) := Lib.hid (by rw [HV.out]; first | exact HD.out rfl | exact HD.out trivial)
        clear HQ2 HD
        have HB9 := Lib.hid (HB0.out.trans (HB2.out.mono HB0.out.size))
        go_wp2_with fail
        go_ret
        exact ⟨by rw [HT.out]; rfl, HB9.out⟩
      | false =>
        have HQ3 : Hid (Before (fun x => fltEq x ⟨fc, fk, fb⟩) m default (k + 1)) := Lib.hid (by first | exact HQ2.out rfl | exact HQ2.out trivial)
        clear HQ2 HD
        go_wp2_with fail
        go_roundw
        case rel => (repeat apply Exists.intro); (first | exact ⟨⟨k + 1, hlt, by go_num, HQ3, HB2⟩, rfl⟩ | exact ⟨hlt, by go_num, HQ3, HB2⟩)
        case measure => simp [intOf]; omega
    · obtain rfl : k = m.length := by omega
      have HT : Hid (hasF m ⟨fc, fk, fb⟩ = false) := Lib.hid (by
        rw [HV.out, List.any_eq_false]
        intro x hx
        obtain ⟨j, hj, rfl⟩ := List.getElem_of_mem hx
        have := HQ.out j hj
        simpa [List.getD_eq_getElem?_getD, hj] using this)
      have HB9 := Lib.hid (HB0.out.trans (HB.out.mono HB0.out.size))
      go_wp2_with fail
      go_ret
      exact ⟨by rw [HT.out]; rfl, HB9.out⟩
end Go.Proofs.Ytncfakkajknhaaa
