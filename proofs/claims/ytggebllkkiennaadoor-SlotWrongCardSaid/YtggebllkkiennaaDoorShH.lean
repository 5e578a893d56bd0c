/-
  Walks of package ship: right and its closure.
-/
import Derived.Test.YtggebllkkiennaaDoorShG
namespace Go.Proofs.YtggebllkkiennaaDoor
open Go.RowKit

def spL (t : Int × Int × Int) : List Value := [.int .i64 t.1, .int .i64 t.2.1, .int .i64 t.2.2]
def tSpan : Ty (Int × Int × Int) where
  k := 3
  pos := by decide
  rd := fun _ _ cs t => cs = spL t
  len := by rintro _ _ _ _ rfl; rfl
  one := by rintro _ _ _ _ rfl; rfl
  keep := fun h _ => h
  more := fun h _ => h
def inB (t : Int × Int × Int) : Bool := !(decide (t.1 < t.2.1) || decide (t.2.2 < t.1))
theorem SlT.span {w : World} {S : Nat → Prop} {A : Option Addr} {l : List (Int × Int × Int)} (h : SlT tSpan w S A l) {i : Nat} (hi : i < l.length) :
    ∃ b off, A = some ⟨b, off, none⟩ ∧ S b ∧ w.cell? ⟨b, off + i * 3, none⟩ = some (.int .i64 (l.getD i default).1) ∧ w.cell? ⟨b, off + i * 3 + 1, none⟩ = some (.int .i64 (l.getD i default).2.1) ∧ w.cell? ⟨b, off + i * 3 + 2, none⟩ = some (.int .i64 (l.getD i default).2.2) := by
  obtain ⟨b, off, cs, e, hb, h1, hc⟩ := h.at_ hi default
  rw [show cs = _ from h1] at hc
  exact ⟨b, off, e, hb, hc 0 _ rfl, hc 1 _ rfl, hc 2 _ rfl⟩
theorem all_take {α : Type} (p : α → Bool) {l : List α} {k : Nat} (h : k < l.length) (d : α) : (l.take (k + 1)).all p = ((l.take k).all p && p (l.getD k d)) := by
  rw [List.take_succ_eq_append_getElem h, List.all_append]; simp [h]
theorem all_getD_false {α : Type} (p : α → Bool) {l : List α} {k : Nat} (h : k < l.length) (d : α) (hf : p (l.getD k d) = false) : l.all p = false := by
  rw [List.all_eq_false]; exact ⟨_, getD_memD h d, by simp only [hf]; simp⟩

set_option maxRecDepth 100000 in
set_option maxHeartbeats 1000000 in
theorem right1 (A : Option Addr) (c : Nat) (l : List (Int × Int × Int)) (w : World) (hs : SlT tSpan w (Lt w.heap.size) A l) (hl : l.length ≤ 1000000) :
    Calls Tryd.prog 100 #[.slice A l.length c] w (Ret w (.bool (l.all inB))) := by
  have HS := Lib.hid hs; clear hs
  go_enter Tryd.func100, Tryd.ntmps100
  go_wp2
  go_loopw [7] (fun i wr => ∃ k : Nat, k ≤ l.length ∧ i = .int .i64 k ∧ Hid ((l.take k).all inB = true) ∧ Below w.heap.size w wr) (fun i _ => l.length - (intOf i).toNat)
  case atStart => exact ⟨0, Nat.zero_le _, rfl, Lib.hid rfl, Below.refl _ _⟩
  case round =>
    obtain ⟨k, hk, rfl, HA, hb⟩ := hrel
    by_cases hlt : k < l.length
    · obtain ⟨b, off, rfl, hbB, c0, c1, c2⟩ := (HS.out.below hb).span hlt
      have HT := Lib.hid (all_take inB hlt default)
      have HN := Lib.hid (all_getD_false inB hlt default)
      have HI : Hid (inB (l.getD k default) = !(decide ((l.getD k default).1 < (l.getD k default).2.1) || decide ((l.getD k default).2.2 < (l.getD k default).1))) := Lib.hid rfl
      generalize l.getD k default = x at *
      obtain ⟨n, lo, hi⟩ := x
      simp only at c0 c1 c2 HI
      cases d1 : decide (n < lo) with
      | true =>
        have HV : Hid (l.all inB = false) := Lib.hid (HN.out (by rw [HI.out, d1]; rfl))
        go_wp2
        go_ret
        exact ⟨by rw [HV.out]; rfl, hb.alloc hb.size _⟩
      | false =>
        cases d2 : decide (hi < n) with
        | true =>
          have HV : Hid (l.all inB = false) := Lib.hid (HN.out (by rw [HI.out, d1, d2]; rfl))
          go_wp2
          go_ret
          exact ⟨by rw [HV.out]; rfl, hb.alloc hb.size _⟩
        | false =>
          have HV : Hid ((l.take (k + 1)).all inB = true) := Lib.hid (by rw [HT.out, HA.out, HI.out, d1, d2]; rfl)
          go_wp2
          go_roundw
          case rel => exact ⟨k + 1, by omega, by go_num, HV, hb.alloc hb.size _⟩
          case measure => simp [intOf]; omega
    · have hkn : l.take k = l := List.take_of_length_le (by omega)
      rw [hkn] at HA
      clear hkn
      go_wp2
      go_ret
      exact ⟨by rw [HA.out]; rfl, hb⟩

def plugOK (c : Col) (i : Nat) : Bool := inB (c.plugs.getD i 0, 0, wrap64 (c.tiers - 1)) && !(decide (0 < i) && decide (c.plugs.getD i 0 ≤ c.plugs.getD (i - 1) 0))
def spans (c : Col) : List (Int × Int × Int) := [(c.bay, 0, 39), (c.row, 0, 30), (c.tiers, 1, 10), (c.height, 0, 40000), (c.k20, 0, 500000000), (c.k40, 0, 500000000), (c.lash, 0, 1000000000000), (c.x, -500000, 500000), (c.y, -500000, 500000), (c.z, -500000, 500000)]
def colOK (c : Col) : Bool := (List.range c.plugs.length).all (plugOK c) && (spans c).all inB
theorem range_all_succ {p : Nat → Bool} {k : Nat} : (List.range (k + 1)).all p = ((List.range k).all p && p k) := by
  rw [List.range_succ, List.all_append]; simp
theorem range_all_false {p : Nat → Bool} {n k : Nat} (h : k < n) (hf : p k = false) : (List.range n).all p = false := by
  rw [List.all_eq_false]; exact ⟨k, by simpa using h, by simp [hf]⟩
/-- Spans just laid in a block of their own. -/
theorem sl_spans (w : World) (e : TypeId) (l : List (Int × Int × Int)) (cs : Array Value) (h : cs.toList = l.flatMap spL) : SlT tSpan (w.alloc (.cells cs e)) (Lt (w.alloc (.cells cs e)).heap.size) (some ⟨w.heap.size, 0, none⟩) l := by
  intro _
  refine ⟨w.heap.size, 0, rfl, by simp [Lt], fun i x hx => ⟨spL x, rfl, fun j u hu => ?_⟩⟩
  have key : ∀ (l : List (Int × Int × Int)) (i : Nat), l[i]? = some x → (l.flatMap spL)[i * 3 + j]? = some u := by
    intro l
    induction l with
    | nil => intro i hi; simp at hi
    | cons t l ih =>
      intro i hi
      have hj : j < 3 := by have := (List.getElem?_eq_some_iff.1 hu).1; simpa [spL] using this
      rw [List.flatMap_cons]
      cases i with
      | zero =>
        simp at hi; subst hi
        rw [List.getElem?_append_left (by simp [spL]; omega)]
        simpa using hu
      | succ i =>
        rw [List.getElem?_append_right (by simp [spL]; omega)]
        have := ih i (by simpa using hi)
        rw [show (i + 1) * 3 + j - (spL t).length = i * 3 + j by simp [spL]; omega]
        exact this
  have hk := key l i hx
  rw [← h] at hk
  rw [show (0 + i * tSpan.k + j) = i * 3 + j by simp [tSpan], (Bk.new w e cs).cell]
  simpa using hk

set_option maxRecDepth 100000 in
set_option maxHeartbeats 4000000 in
theorem right_any (c : Col) (A : Option Addr) (q : Nat) (w : World) (hp : SlT tInt w (Lt w.heap.size) A c.plugs) (hl : c.plugs.length ≤ 1000000) :
    Calls Tryd.prog 76 #[.agg (colL c A q).toArray] w (Ret w (.bool (colOK c))) := by
  have HV : Hid (colOK c = ((List.range c.plugs.length).all (plugOK c) && (spans c).all inB)) := Lib.hid rfl
  have HO : Hid (∀ i, plugOK c i = (inB (c.plugs.getD i 0, 0, wrap64 (c.tiers - 1)) && !(decide (0 < i) && decide (c.plugs.getD i 0 ≤ c.plugs.getD (i - 1) 0)))) := Lib.hid fun _ => rfl
  have HSP : Hid (spans c = [(c.bay, 0, 39), (c.row, 0, 30), (c.tiers, 1, 10), (c.height, 0, 40000), (c.k20, 0, 500000000), (c.k40, 0, 500000000), (c.lash, 0, 1000000000000), (c.x, -500000, 500000), (c.y, -500000, 500000), (c.z, -500000, 500000)]) := Lib.hid rfl
  generalize colOK c = r at *
  generalize plugOK c = pk at *
  generalize spans c = sp at *
  obtain ⟨cb, cr, cd, ct, ch, c2, c4, cl, cp, cx, cy, cz⟩ := c
  unfold colL
  simp only at *
  have hb0 := ba1 w (.cells #[.int .i64 cb, .int .i64 cr, .bool cd, .int .i64 ct, .int .i64 ch, .int .i64 c2, .int .i64 c4, .int .i64 cl, .slice A cp.length q, .int .i64 cx, .int .i64 cy, .int .i64 cz] 54)
  have k0 := Bk.new w 54 #[.int .i64 cb, .int .i64 cr, .bool cd, .int .i64 ct, .int .i64 ch, .int .i64 c2, .int .i64 c4, .int .i64 cl, .slice A cp.length q, .int .i64 cx, .int .i64 cy, .int .i64 cz]
  have HP := Lib.hid (hp.below hb0); clear hp
  go_enter Tryd.func76, Tryd.ntmps76
  go_wp2
  have HB0 := Lib.hid hb0; clear hb0
  have HK0 := Lib.hid k0; clear k0
  generalize (w.alloc _) = w0 at *
  have hz0 := HB0.out.size
  go_loopw [9] (fun i wr => ∃ k : Nat, k ≤ cp.length ∧ i = .int .i64 k ∧ Hid ((List.range k).all pk = true) ∧ Below w0.heap.size w0 wr) (fun i _ => cp.length - (intOf i).toNat)
  case atStart => exact ⟨0, Nat.zero_le _, rfl, Lib.hid rfl, Below.refl _ _⟩
  case round =>
    obtain ⟨k, hk, rfl, HA, hb⟩ := hrel
    have kk := HK0.out.below hb HK0.out.lt
    have e0 := kk.cell 0; have e1 := kk.cell 1; have e3 := kk.cell 3; have e4 := kk.cell 4; have e5 := kk.cell 5; have e6 := kk.cell 6; have e7 := kk.cell 7; have e8 := kk.cell 8; have e9 := kk.cell 9; have e10 := kk.cell 10; have e11 := kk.cell 11
    simp at e0 e1 e3 e4 e5 e6 e7 e8 e9 e10 e11
    have hkl := kk.lt
    have hbw := HB0.out.trans (hb.mono hz0)
    have hzr := hb.size
    clear kk
    by_cases hlt : k < cp.length
    · obtain ⟨b, off, hA, hbB, hc⟩ := (HP.out.below (hb.mono hz0)).int hlt
      have HPR : Hid (0 < k → wr.cell? ⟨b, off + (k - 1), none⟩ = some (.int .i64 (cp.getD (k - 1) 0))) := Lib.hid fun h0 => by
        obtain ⟨b', off', hA', _, hc'⟩ := (HP.out.below (hb.mono hz0)).int (j := k - 1) (by omega)
        rw [hA] at hA'; injection hA' with hA'; injection hA' with q1 q2; subst q1 q2; exact hc'
      have hbl : b < w.heap.size := hbB
      have HOk := Lib.hid (HO.out k)
      generalize cp.getD k 0 = p at *
      generalize cp.getD (k - 1) 0 = p' at *
      rw [hA] at e8
      rw [hA]
      have HAA := Lib.hid hA; clear hA
      have HR1 := right1 (some ⟨wr.heap.size, 0, none⟩) 1 [(p, 0, wrap64 (ct - 1))] (wr.alloc (.cells #[.int .i64 p, .int .i64 0, .int .i64 (wrap64 (ct - 1))] 143)) (sl_spans wr _ _ _ rfl) (by simp)
      rw [show [(p, 0, wrap64 (ct - 1))].all inB = inB (p, 0, wrap64 (ct - 1)) by simp] at HR1
      have HRR := Lib.hid HR1; clear HR1
      generalize inB (p, 0, wrap64 (ct - 1)) = ib at *
      go_wp2_with fail
      refine HRR.out.mono ?_
      rintro e w1 ⟨rfl, hb1⟩
      have hb1' := below_of_alloc hb1
      clear HRR hb1
      have f8 := (hb1'.cell (p := ⟨w.heap.size, 8, none⟩) hkl).trans e8
      have hz1 := hb1'.size
      cases ib with
      | false =>
        have HVV : Hid (r = false) := Lib.hid (by rw [HV.out, range_all_false hlt (by rw [HOk.out]; rfl)]; rfl)
        go_wp2
        go_ret
        exact ⟨by rw [HVV.out]; rfl, hbw.trans (hb1'.mono hbw.size)⟩
      | true =>
        by_cases hk0 : 0 < k
        · have d0 : decide ((0 : Int) < (k : Int)) = true := by simp; omega
          have d0' : decide (0 < k) = true := by simp; omega
          have hpr := (hb1'.cell (p := ⟨b, off + (k - 1), none⟩) (by simp; omega)).trans (HPR.out hk0)
          have i1 : (0 : Int) ≤ (k : Int) - 1 := by omega
          have i2 : (k : Int) - 1 < (cp.length : Int) := by omega
          have i5 : ((k : Int) - 1).toNat = k - 1 := by omega
          cases d1 : decide (p ≤ p') with
          | true =>
            have HVV : Hid (r = false) := Lib.hid (by rw [HV.out, range_all_false hlt (by rw [HOk.out, d0', d1]; rfl)]; rfl)
            clear HPR
            go_wp2
            go_ret
            exact ⟨by rw [HVV.out]; rfl, hbw.trans (hb1'.mono hbw.size)⟩
          | false =>
            have HVV : Hid ((List.range (k + 1)).all pk = true) := Lib.hid (by rw [range_all_succ, HA.out, HOk.out, d0', d1]; rfl)
            clear HPR
            go_wp2
            go_roundw
            case rel => exact ⟨k + 1, by omega, by go_num, HVV, hb.trans (hb1'.mono hzr)⟩
            case measure => simp [intOf]; omega
        · have d0 : decide ((0 : Int) < (k : Int)) = false := by simp; omega
          have d0' : decide (0 < k) = false := by simp; omega
          have HVV : Hid ((List.range (k + 1)).all pk = true) := Lib.hid (by rw [range_all_succ, HA.out, HOk.out, d0']; rfl)
          clear HPR
          go_wp2
          go_roundw
          case rel => exact ⟨k + 1, by omega, by go_num, HVV, hb.trans (hb1'.mono hzr)⟩
          case measure => simp [intOf]; omega
    · obtain rfl : k = cp.length := by omega
      have HRR := Lib.hid (right1 (some ⟨wr.heap.size, 0, none⟩) 10 sp (wr.alloc (.cells (sp.flatMap spL).toArray 143)) (sl_spans wr _ _ _ rfl) (by rw [HSP.out]; simp))
      have HVV : Hid (r = sp.all inB) := Lib.hid (by rw [HV.out, HA.out]; rfl)
      rw [HSP.out] at HRR
      have HSL : Hid (sp.all inB = [(cb, 0, 39), (cr, 0, 30), (ct, 1, 10), (ch, 0, 40000), (c2, 0, 500000000), (c4, 0, 500000000), (cl, 0, 1000000000000), (cx, -500000, 500000), (cy, -500000, 500000), (cz, -500000, 500000)].all inB) := Lib.hid (by rw [HSP.out])
      go_wp2_with fail
      refine HRR.out.mono ?_
      rintro e w1 ⟨rfl, hb1⟩
      have hb1' := below_of_alloc hb1
      clear HRR hb1
      rw [← HSL.out]
      go_wp2
      go_ret
      exact ⟨by rw [HVV.out]; rfl, hbw.trans (hb1'.mono hbw.size)⟩
end Go.Proofs.YtggebllkkiennaaDoor
