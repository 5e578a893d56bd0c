/-
  Walks of package segregate: rules, Near.
-/
import Derived.Test.YtmhikcleekfbpaaDoorSgA
import Derived.Test.YtmhikcleekfbpaaDoorQg
import Derived.Test.YtmhikcleekfbpaaDoorSlTs
namespace Go.Proofs.YtmhikcleekfbpaaDoor
open Go.RowKit

theorem Bk.nxt14 {w : World} (o : Obj) (t : TypeId) (cs : Array Value) : Bk ((w.alloc o).alloc (.cells cs t)) (w.heap.size + 1) t cs := by
  have := Bk.new (w.alloc o) t cs
  rwa [show (w.alloc o).heap.size = w.heap.size + 1 by simp] at this
theorem bk14a {W : World} {cs : Array Value} {t : TypeId} {o : Obj} : Bk ((W.alloc (.cells cs t)).alloc o).drew W.heap.size t cs := by
  have h := (Bk.new W t cs).alloc o
  exact h.below (drew_below _ 1) h.lt
theorem bk14b {W : World} {cs : Array Value} {t : TypeId} {o : Obj} : Bk ((W.alloc o).alloc (.cells cs t)).drew (W.heap.size + 1) t cs := by
  have h : Bk ((W.alloc o).alloc (.cells cs t)) (W.heap.size + 1) t cs := Bk.nxt14 o t cs
  exact h.below (drew_below _ 1) h.lt
set_option maxHeartbeats 1000000 in
theorem indexInt_any (A : Option Addr) (c : Nat) (l : List Int) (x : Int) (S : Nat → Prop) (w : World) (hs : SlT tInt w S A l) (hl : l.length ≤ 1000000) :
    Calls Tryd.prog 49 #[.slice A l.length c, .int .i64 x] w fun e w' => e = .returned (.int .i64 (idxF (fun y => x == y) l)) ∧ w = w' := by
  have HS := Lib.hid hs; clear hs
  go_enter Tryd.func49, Tryd.ntmps49
  go_wp2
  go_loop [8] (fun i => ∃ k : Nat, k ≤ l.length ∧ i = .int .i64 k ∧ Hid (Before (fun y => x == y) l 0 k)) (fun i => l.length - (intOf i).toNat)
  case atStart => exact ⟨0, Nat.zero_le _, rfl, Lib.hid .zero⟩
  case round =>
    obtain ⟨k, hk, rfl, HB⟩ := hrel
    by_cases hlt : k < l.length
    · obtain ⟨b, off, rfl, _, c0⟩ := HS.out.int hlt
      have hk0 : (0 : Int) ≤ (k : Int) := by omega
      have hk1 : (k : Int) < (l.length : Int) := by omega
      cases hp : (x == l.getD k 0) with
      | true =>
        have HV := Lib.hid (idx_some (p := fun y => x == y) 0 hlt hp HB.out)
        clear HB
        have hx : x = l.getD k 0 := by simpa using hp
        rw [← hx] at c0
        clear hp hx
        go_wp2
        go_ret
        exact ⟨by rw [HV.out]; rfl, rfl⟩
      | false =>
        have HN := Lib.hid (HB.out.succ hp)
        clear HB
        generalize l.getD k 0 = y at *
        go_wp2
        go_round
        case rel => exact ⟨k + 1, by omega, by go_num, HN⟩
        case measure => simp [intOf]; omega
    · obtain rfl : k = l.length := by omega
      have HV := Lib.hid (idx_none (p := fun y => x == y) 0 HB.out)
      go_wp2
      go_ret
      exact ⟨by rw [HV.out]; rfl, rfl⟩
set_option maxHeartbeats 400000 in
theorem containsInt_any (A : Option Addr) (c : Nat) (l : List Int) (x : Int) (S : Nat → Prop) (w : World) (hs : SlT tInt w S A l) (hl : l.length ≤ 1000000) :
    Calls Tryd.prog 38 #[.slice A l.length c, .int .i64 x] w fun e w' => e = .returned (.bool (l.any fun y => x == y)) ∧ w = w' := by
  have HC := Lib.hid (indexInt_any A c l x S w hs hl)
  have HV := Lib.hid (idx_ge (fun y => x == y) l)
  clear hs
  go_enter Tryd.func38, Tryd.ntmps38
  go_wp2_with fail
  refine HC.out.mono ?_
  rintro e w' ⟨rfl, rfl⟩
  generalize idxF (fun y => x == y) l = v at *
  go_wp2
  go_ret
  exact ⟨by rw [← HV.out]; rfl, rfl⟩
set_option maxHeartbeats 1000000 in
theorem rules1_any (a b : Slt) (w : World) : Calls Tryd.prog 34 #[.agg (sltL a).toArray, .agg (sltL b).toArray] w (Ret w (.bool false)) := by
  obtain ⟨ac, at_, ah⟩ := a
  obtain ⟨bc, bt, bh⟩ := b
  unfold sltL
  go_enter Tryd.func34, Tryd.ntmps34
  go_wp2
  go_ret
  exact ⟨rfl, by first | exact Below.refl _ _ | exact ba2 w _ _⟩
def rule2 (a b : Slt) : Bool := overB a b || overB b a
set_option maxHeartbeats 1000000 in
theorem rules2_any (a b : Slt) (w : World) : Calls Tryd.prog 35 #[.agg (sltL a).toArray, .agg (sltL b).toArray] w (Ret w (.bool (rule2 a b))) := by
  have HV : Hid (rule2 a b = (overB a b || overB b a)) := Lib.hid rfl
  have HO := Lib.hid (fun (V : World) => over_any a b V)
  have HP := Lib.hid (fun (V : World) => over_any b a V)
  generalize rule2 a b = R at *
  generalize hA : overB a b = A at *
  generalize hB : overB b a = B at *
  clear hA hB
  obtain ⟨ac, at_, ah⟩ := a
  obtain ⟨bc, bt, bh⟩ := b
  have hb0 := ba2 w (.cells #[.int .i64 ac, .int .i64 at_, .int .u8 (ah : Nat)] 37) (.cells #[.int .i64 bc, .int .i64 bt, .int .u8 (bh : Nat)] 37)
  have KX := Lib.hid ((Bk.new w 37 #[.int .i64 ac, .int .i64 at_, .int .u8 (ah : Nat)]).alloc (.cells #[.int .i64 bc, .int .i64 bt, .int .u8 (bh : Nat)] 37))
  have KY := Lib.hid (Bk.nxt14 (w := w) (.cells #[.int .i64 ac, .int .i64 at_, .int .u8 (ah : Nat)] 37) 37 #[.int .i64 bc, .int .i64 bt, .int .u8 (bh : Nat)])
  have HB0 := Lib.hid hb0
  clear hb0
  unfold sltL at HO HP ⊢
  simp only at HO HP
  go_enter Tryd.func35, Tryd.ntmps35
  go_upto_region 1 with fail
  generalize (w.alloc _).alloc _ = W at *
  have x0 : W.cell? ⟨w.heap.size, 0, none⟩ = some (.int .i64 ac) := KX.out.cell 0
  have x1 : W.cell? ⟨w.heap.size, 1, none⟩ = some (.int .i64 at_) := KX.out.cell 1
  have x2 : W.cell? ⟨w.heap.size, 2, none⟩ = some (.int .u8 (ah : Nat)) := KX.out.cell 2
  have y0 : W.cell? ⟨w.heap.size + 1, 0, none⟩ = some (.int .i64 bc) := KY.out.cell 0
  have y1 : W.cell? ⟨w.heap.size + 1, 1, none⟩ = some (.int .i64 bt) := KY.out.cell 1
  have y2 : W.cell? ⟨w.heap.size + 1, 2, none⟩ = some (.int .u8 (bh : Nat)) := KY.out.cell 2
  go_wp2_with fail
  refine (HO.out _).mono ?_
  rintro e V ⟨rfl, hb⟩
  simp only
  have KX1 := Lib.hid (KX.out.below hb KX.out.lt)
  have KY1 := Lib.hid (KY.out.below hb KY.out.lt)
  have HBV := Lib.hid (HB0.out.trans (hb.mono HB0.out.size))
  clear hb x0 x1 x2 y0 y1 y2
  cases A with
  | true =>
    go_wp2_with fail
    go_ret
    exact ⟨by rw [HV.out]; rfl, HBV.out⟩
  | false =>
    have x0 : V.cell? ⟨w.heap.size, 0, none⟩ = some (.int .i64 ac) := KX1.out.cell 0
    have x1 : V.cell? ⟨w.heap.size, 1, none⟩ = some (.int .i64 at_) := KX1.out.cell 1
    have x2 : V.cell? ⟨w.heap.size, 2, none⟩ = some (.int .u8 (ah : Nat)) := KX1.out.cell 2
    have y0 : V.cell? ⟨w.heap.size + 1, 0, none⟩ = some (.int .i64 bc) := KY1.out.cell 0
    have y1 : V.cell? ⟨w.heap.size + 1, 1, none⟩ = some (.int .i64 bt) := KY1.out.cell 1
    have y2 : V.cell? ⟨w.heap.size + 1, 2, none⟩ = some (.int .u8 (bh : Nat)) := KY1.out.cell 2
    go_wp2_with fail
    refine (HP.out _).mono ?_
    rintro e V2 ⟨rfl, hb⟩
    simp only
    have HBV2 := Lib.hid (HBV.out.trans (hb.mono HBV.out.size))
    clear hb x0 x1 x2 y0 y1 y2
    go_wp2_with fail
    go_ret
    exact ⟨by rw [HV.out]; rfl, HBV2.out⟩
def rule4 (s : Shp) (a b : Slt) : Bool := decide ((apartF s a.col b.col).1 < 2)
set_option maxHeartbeats 1000000 in
theorem rules4_any (s : Shp) (h : Hd) (a b : Slt) (g : Nat) (w : World) (hk : Bk w g 32 (shpA s h)) (hs : ShpR w (Lt w.heap.size) s h) :
    Calls Tryd.prog 40 #[.agg (sltL a).toArray, .agg (sltL b).toArray, .pointer (some ⟨g, 0, none⟩)] w (Ret w (.bool (rule4 s a b))) := by
  obtain ⟨ac, at_, ah⟩ := a
  obtain ⟨bc, bt, bh⟩ := b
  have HV : Hid (rule4 s ⟨ac, at_, ah⟩ ⟨bc, bt, bh⟩ = decide ((apartF s ac bc).1 < 2)) := Lib.hid rfl
  generalize rule4 s ⟨ac, at_, ah⟩ ⟨bc, bt, bh⟩ = R at *
  have hb0 := ba2 w (.cells #[.int .i64 ac, .int .i64 at_, .int .u8 (ah : Nat)] 37) (.cells #[.int .i64 bc, .int .i64 bt, .int .u8 (bh : Nat)] 37)
  have KX := Lib.hid ((Bk.new w 37 #[.int .i64 ac, .int .i64 at_, .int .u8 (ah : Nat)]).alloc (.cells #[.int .i64 bc, .int .i64 bt, .int .u8 (bh : Nat)] 37))
  have KY := Lib.hid (Bk.nxt14 (w := w) (.cells #[.int .i64 ac, .int .i64 at_, .int .u8 (ah : Nat)] 37) 37 #[.int .i64 bc, .int .i64 bt, .int .u8 (bh : Nat)])
  have KG := Lib.hid (hk.below hb0 hk.lt)
  have HA := Lib.hid (apart_any s h ac bc _ (hs.on hb0))
  have HB0 := Lib.hid hb0
  clear hb0 hk hs
  unfold shpA at KG HA
  unfold sltL
  simp only
  go_enter Tryd.func40, Tryd.ntmps40
  go_upto_region 1 with fail
  generalize (w.alloc _).alloc _ = W at *
  have x0 : W.cell? ⟨w.heap.size, 0, none⟩ = some (.int .i64 ac) := KX.out.cell 0
  have y0 : W.cell? ⟨w.heap.size + 1, 0, none⟩ = some (.int .i64 bc) := KY.out.cell 0
  have e0 : W.cell? ⟨g, 0, none⟩ = some (Value.slice h.A1 s.cols.length h.c1) := KG.out.cell 0
  have e1 : W.cell? ⟨g, 1, none⟩ = some (Value.slice h.A2 s.covs.length h.c2) := KG.out.cell 1
  have e2 : W.cell? ⟨g, 2, none⟩ = some (.int .i64 s.l0) := KG.out.cell 2
  have e3 : W.cell? ⟨g, 3, none⟩ = some (.int .i64 s.l1) := KG.out.cell 3
  have e4 : W.cell? ⟨g, 4, none⟩ = some (.int .i64 s.l2) := KG.out.cell 4
  have e5 : W.cell? ⟨g, 5, none⟩ = some (.int .i64 s.l3) := KG.out.cell 5
  have e6 : W.cell? ⟨g, 6, none⟩ = some (Value.slice h.A3 s.rows.length h.c3) := KG.out.cell 6
  have e7 : W.cell? ⟨g, 7, none⟩ = some (Value.slice h.A4 s.frames.length h.c4) := KG.out.cell 7
  have e8 : W.cell? ⟨g, 8, none⟩ = some (Value.slice h.A5 s.tanks.length h.c5) := KG.out.cell 8
  have e9 : W.cell? ⟨g, 9, none⟩ = some (.int .i64 s.m0) := KG.out.cell 9
  have e10 : W.cell? ⟨g, 10, none⟩ = some (.int .i64 s.m1) := KG.out.cell 10
  have e11 : W.cell? ⟨g, 11, none⟩ = some (.int .i64 s.m2) := KG.out.cell 11
  have e12 : W.cell? ⟨g, 12, none⟩ = some (.int .i64 s.m3) := KG.out.cell 12
  generalize apartF s ac bc = r at *
  obtain ⟨r1, r2⟩ := r
  go_wp2_with fail
  refine HA.out.mono ?_
  rintro e V ⟨rfl, hb⟩
  simp only
  have HBV := Lib.hid (HB0.out.trans (hb.mono HB0.out.size))
  clear hb HA x0 y0 e0 e1 e2 e3 e4 e5 e6 e7 e8 e9 e10 e11 e12
  go_wp2_with fail
  go_ret
  exact ⟨by rw [HV.out]; rfl, HBV.out⟩
end Go.Proofs.YtmhikcleekfbpaaDoor
