/-
  Walks of package slot: Compare, Held; slices.Contains over slots.
-/
import Derived.Test.YtggebllkkiennaaDoorSlC
namespace Go.Proofs.YtggebllkkiennaaDoor
open Go.RowKit

def cmpF (a b : Slt) : Int := orF [cmpZ a.col b.col, cmpZ a.tier b.tier, cmpZ a.half b.half]
set_option maxRecDepth 100000 in
set_option maxHeartbeats 2000000 in
theorem compare_any (a b : Slt) (w : World) : Calls Tryd.prog 22 #[.agg (sltL a).toArray, .agg (sltL b).toArray] w (Ret w (.int .i64 (cmpF a b))) := by
  obtain ⟨ac, at_, ah⟩ := a
  obtain ⟨bc, bt, bh⟩ := b
  have HV : Hid (cmpF ⟨ac, at_, ah⟩ ⟨bc, bt, bh⟩ = orF [cmpZ ac bc, cmpZ at_ bt, cmpZ ah bh]) := Lib.hid rfl
  have H1 := Lib.hid (fun W => cmpInt_any ac bc W)
  have H2 := Lib.hid (fun W => cmpInt_any at_ bt W)
  have H3 := Lib.hid (fun W => cmpU8_any ah bh W)
  generalize cmpZ ac bc = z1 at *
  generalize cmpZ at_ bt = z2 at *
  generalize cmpZ (ah : Int) (bh : Int) = z3 at *
  have HO : Hid (∀ (W : World) (g : Nat), W.heap.size = g → Calls Tryd.prog 58 #[.slice (some ⟨g, 0, none⟩) 3 3] (W.alloc (.cells #[.int .i64 z1, .int .i64 z2, .int .i64 z3] 3)).drew fun e w' => e = .returned (.int .i64 (orF [z1, z2, z3])) ∧ (W.alloc (.cells #[.int .i64 z1, .int .i64 z2, .int .i64 z3] 3)).drew = w') :=
    Lib.hid fun W g hg => or_any (some ⟨g, 0, none⟩) 3 [z1, z2, z3] _ (W.alloc (.cells #[.int .i64 z1, .int .i64 z2, .int .i64 z3] 3)).drew (SlT.drew (sl_ints (l := [z1, z2, z3]) (hg ▸ Bk.new W 3 _))) (by simp)
  generalize orF [z1, z2, z3] = r at *
  unfold sltL
  simp only
  go_enter Tryd.func22, Tryd.ntmps22
  go_wp2_with fail
  have n1 : w.heap.size < w.heap.size + 1 := by omega
  go_region_held3 (fun w' => w'.cell? ⟨w.heap.size, 0, none⟩ = some (.int .i64 ac) ∧ w'.cell? ⟨w.heap.size, 1, none⟩ = some (.int .i64 at_) ∧ w'.cell? ⟨w.heap.size, 2, none⟩ = some (.int .u8 (ah : Nat)) ∧ w'.cell? ⟨w.heap.size + 1, 0, none⟩ = some (.int .i64 bc) ∧ w'.cell? ⟨w.heap.size + 1, 1, none⟩ = some (.int .i64 bt) ∧ w'.cell? ⟨w.heap.size + 1, 2, none⟩ = some (.int .u8 (bh : Nat))) (go_keep)
    (first
      | (go_at_call 59; refine (H1.out _).mono ?_; clear H1; rintro e w1 ⟨rfl, rfl⟩)
      | (go_at_call 59; refine (H2.out _).mono ?_; clear H2; rintro e w1 ⟨rfl, rfl⟩)
      | (go_at_call 60; refine (H3.out _).mono ?_; rintro e w1 ⟨rfl, rfl⟩)
      | (go_at_call 58; refine (HO.out _ _ ?_).mono ?_; (simp); rintro e w1 ⟨rfl, rfl⟩))
  all_goals
    go_wp2
    go_ret
    exact ⟨by rw [HV.out]; rfl, ((ba2 w _ _).alloc (by simp; omega) _).drew⟩
/-- An equality of slots, as slices.Index asks it. -/
def sltEq (x y : Slt) : Bool := x.col == y.col && (x.tier == y.tier && x.half == y.half)
theorem sltEq_iff (x y : Slt) : sltEq x y = true ↔ x = y := by
  obtain ⟨a, b, c⟩ := x
  obtain ⟨d, e, f⟩ := y
  simp [sltEq]
set_option maxRecDepth 100000 in
set_option maxHeartbeats 2000000 in
theorem indexSlt_any (A : Option Addr) (c : Nat) (l : List Slt) (x : Slt) (w : World) (hs : SlT tSlt w (Lt w.heap.size) A l) (hl : l.length ≤ 2000000) :
    Calls Tryd.prog 97 #[.slice A l.length c, .agg (sltL x).toArray] w (Ret w (.int .i64 (idxF (fun y => sltEq x y) l))) := by
  have HS := Lib.hid hs; clear hs
  obtain ⟨xc, xt, xh⟩ := x
  unfold sltL
  simp only
  go_enter Tryd.func97, Tryd.ntmps97
  go_wp2
  have hb0 := ba1 w (.cells #[.int .i64 xc, .int .i64 xt, .int .u8 (xh : Nat)] 34)
  have hx := Bk.new w 34 #[.int .i64 xc, .int .i64 xt, .int .u8 (xh : Nat)]
  have HSW := Lib.hid (HS.out.on hb0)
  have HB0 := Lib.hid hb0
  clear HS hb0
  generalize (w.alloc _) = W at *
  have x0 : W.cell? ⟨w.heap.size, 0, none⟩ = some (.int .i64 xc) := hx.cell 0
  have x1 : W.cell? ⟨w.heap.size, 1, none⟩ = some (.int .i64 xt) := hx.cell 1
  have x2 : W.cell? ⟨w.heap.size, 2, none⟩ = some (.int .u8 (xh : Nat)) := hx.cell 2
  clear hx
  go_loopw [8] (fun i wr => ∃ k m : Nat, k ≤ l.length ∧ i = .int .i64 k ∧ wr = W.drewN m ∧ Hid (Before (fun y => sltEq ⟨xc, xt, xh⟩ y) l default k)) (fun i _ => l.length - (intOf i).toNat)
  case atStart => exact ⟨0, 0, Nat.zero_le _, rfl, rfl, Lib.hid .zero⟩
  case round =>
    obtain ⟨k, m, hk, rfl, rfl, HB⟩ := hrel
    by_cases hlt : k < l.length
    · obtain ⟨b, off, rfl, _, c0, c1, c2⟩ := HSW.out.slt hlt
      have hk0 : (0 : Int) ≤ (k : Int) := by omega
      have hk1 : (k : Int) < (l.length : Int) := by omega
      cases hp : sltEq ⟨xc, xt, xh⟩ (l.getD k default) with
      | true =>
        have HV := Lib.hid (idx_some (p := fun y => sltEq ⟨xc, xt, xh⟩ y) default hlt hp HB.out)
        clear HB
        have hx := (sltEq_iff _ _).1 hp
        rw [← hx] at c0 c1 c2
        simp only at c0 c1 c2
        clear hp hx
        go_wp2
        go_quiet (fail)
        go_wp2
        go_ret
        exact ⟨by rw [HV.out]; rfl, HB0.out.trans (below_drewN (below_drewN (Below.refl _ _) _) _)⟩
      | false =>
        have HN := Lib.hid (HB.out.succ hp)
        clear HB
        generalize l.getD k default = y at *
        obtain ⟨yc, yt, yh⟩ := y
        simp only at c0 c1 c2
        have hne : (xc == yc && (xt == yt && ((xh : Int) == (yh : Int)))) = false := by rw [int_beq]; exact hp
        clear hp
        cases e1 : (xc == yc) with
        | false =>
          clear hne
          go_wp2
          go_quiet (fail)
          go_wp2
          go_roundw
          case rel => exact ⟨k + 1, m + nq, by omega, by go_num, by simp, HN⟩
          case measure => simp [intOf]; omega
        | true =>
          obtain rfl : xc = yc := by simpa using e1
          cases e2 : (xt == yt) with
          | false =>
            clear hne e1
            go_wp2
            go_quiet (fail)
            go_wp2
            go_roundw
            case rel => exact ⟨k + 1, m + nq, by omega, by go_num, by simp, HN⟩
            case measure => simp [intOf]; omega
          | true =>
            obtain rfl : xt = yt := by simpa using e2
            have e3 : ((xh : Int) == (yh : Int)) = false := by simpa using hne
            clear hne e1 e2
            go_wp2
            go_quiet (fail)
            go_wp2
            go_roundw
            case rel => exact ⟨k + 1, m + nq, by omega, by go_num, by simp, HN⟩
            case measure => simp [intOf]; omega
    · obtain rfl : k = l.length := by omega
      have HV := Lib.hid (idx_none (p := fun y => sltEq ⟨xc, xt, xh⟩ y) default HB.out)
      go_wp2
      go_ret
      exact ⟨by rw [HV.out]; rfl, HB0.out.trans (below_drewN (Below.refl _ _) _)⟩
end Go.Proofs.YtggebllkkiennaaDoor
