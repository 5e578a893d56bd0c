/-
  Walk of the reference of chapter 08: Name.
-/
import Derived.Test.YtpmhchbkhohmjaaDoorRgB
import Derived.Test.YtpmhchbkhohmjaaDoorRfF
import Derived.Test.YtpmhchbkhohmjaaDoorB5
namespace Go.Proofs.YtpmhchbkhohmjaaDoor
open Go.RowKit

theorem str7 (V : World) (N r T : Nat) (hN : N ≤ 159) (hr : r ≤ 30) (hT : T ≤ 99) : (convert 74 9 (.slice (some ⟨V.heap.size, 0, none⟩) 7 7)).run Tryd.prog (V.alloc (.cells #[.int .u8 (48 + (N : Int) / 100), .int .u8 (48 + (N : Int) / 10 % 10), .int .u8 (48 + (N : Int) % 10), .int .u8 (48 + (r : Int) / 10), .int .u8 (48 + (r : Int) % 10), .int .u8 (48 + (T : Int) / 10), .int .u8 (48 + (T : Int) % 10)] 5)) = .ok (.string (strN (num3 N ++ num2 r ++ num2 T))) (V.alloc (.cells #[.int .u8 (48 + (N : Int) / 100), .int .u8 (48 + (N : Int) / 10 % 10), .int .u8 (48 + (N : Int) % 10), .int .u8 (48 + (r : Int) / 10), .int .u8 (48 + (r : Int) % 10), .int .u8 (48 + (T : Int) / 10), .int .u8 (48 + (T : Int) % 10)] 5)) := by
  have h := str_of_bk (c := 7) (l := num3 N ++ num2 r ++ num2 T) (w := V.alloc (.cells #[.int .u8 (48 + (N : Int) / 100), .int .u8 (48 + (N : Int) / 10 % 10), .int .u8 (48 + (N : Int) % 10), .int .u8 (48 + (r : Int) / 10), .int .u8 (48 + (r : Int) % 10), .int .u8 (48 + (T : Int) / 10), .int .u8 (48 + (T : Int) % 10)] 5)) (g := V.heap.size) (t := 5) (by
    have e : (u8s (num3 N ++ num2 r ++ num2 T)).toArray = #[.int .u8 (48 + (N : Int) / 100), .int .u8 (48 + (N : Int) / 10 % 10), .int .u8 (48 + (N : Int) % 10), .int .u8 (48 + (r : Int) / 10), .int .u8 (48 + (r : Int) % 10), .int .u8 (48 + (T : Int) / 10), .int .u8 (48 + (T : Int) % 10)] := by
      unfold num3 num2 dg u8s
      simp only [List.cons_append, List.nil_append, List.map_cons, List.map_nil]
      congr 1
      have e1 : ((48 + N / 10 ^ 2 % 10 : Nat) : Int) = 48 + (N : Int) / 100 := by omega
      have e2 : ((48 + N / 10 ^ 1 % 10 : Nat) : Int) = 48 + (N : Int) / 10 % 10 := by omega
      have e3 : ((48 + N / 10 ^ 0 % 10 : Nat) : Int) = 48 + (N : Int) % 10 := by omega
      have e4 : ((48 + r / 10 ^ 1 % 10 : Nat) : Int) = 48 + (r : Int) / 10 := by omega
      have e5 : ((48 + r / 10 ^ 0 % 10 : Nat) : Int) = 48 + (r : Int) % 10 := by omega
      have e6 : ((48 + T / 10 ^ 1 % 10 : Nat) : Int) = 48 + (T : Int) / 10 := by omega
      have e7 : ((48 + T / 10 ^ 0 % 10 : Nat) : Int) = 48 + (T : Int) % 10 := by omega
      rw [e1, e2, e3, e4, e5, e6, e7]
    rw [e]
    exact Bk.new V _ _)
  exact h
set_option maxRecDepth 100000 in
set_option maxHeartbeats 8000000 in
theorem refName_any (s : Shp) (h : Hd) (x : Slt) (w : World) (hs : ShpR w (Lt w.heap.size) s h) (hf : Few s) :
    Calls Tryd.prog 9 #[.agg (shpA s h), .agg (sltL x).toArray] w (NameRet w (nameF s x)) := by
  obtain ⟨xc, xt, xh⟩ := x
  have hb0 := ba2 w (.cells (shpA s h) 32) (.cells #[.int .i64 xc, .int .i64 xt, .int .u8 (xh : Nat)] 34)
  have KE := Lib.hid ((Bk.new w 32 (shpA s h)).alloc (.cells #[.int .i64 xc, .int .i64 xt, .int .u8 (xh : Nat)] 34))
  have KX := Lib.hid (Bk.nxt8 (w := w) (.cells (shpA s h) 32) 34 #[.int .i64 xc, .int .i64 xt, .int .u8 (xh : Nat)])
  have HS := Lib.hid (hs.on hb0)
  have HB0 := Lib.hid hb0
  have KR : Hid (∀ V, Below ((w.alloc (.cells (shpA s h) 32)).alloc (.cells #[.int .i64 xc, .int .i64 xt, .int .u8 (xh : Nat)] 34)).heap.size ((w.alloc (.cells (shpA s h) 32)).alloc (.cells #[.int .i64 xc, .int .i64 xt, .int .u8 (xh : Nat)] 34)) V → Calls Tryd.prog 37 #[.agg (shpA s h)] V (Ret V (.bool (rightF s)))) := Lib.hid fun V hV => refRight_any s h V (HS.out.on hV) hf
  have K2 : Hid (∀ V, Below ((w.alloc (.cells (shpA s h) 32)).alloc (.cells #[.int .i64 xc, .int .i64 xt, .int .u8 (xh : Nat)] 34)).heap.size ((w.alloc (.cells (shpA s h) 32)).alloc (.cells #[.int .i64 xc, .int .i64 xt, .int .u8 (xh : Nat)] 34)) V → Calls Tryd.prog 15 #[.agg (shpA s h), .agg #[.int .i64 xc, .int .i64 xt, .int .u8 (xh : Nat)], .int .i64 20] V (Ret V (.bool (slotRight s ⟨xc, xt, xh⟩ 20)))) := Lib.hid fun V hV => refRightS_any s h ⟨xc, xt, xh⟩ 20 V (HS.out.on hV) (by decide)
  have K4 : Hid (∀ V, Below ((w.alloc (.cells (shpA s h) 32)).alloc (.cells #[.int .i64 xc, .int .i64 xt, .int .u8 (xh : Nat)] 34)).heap.size ((w.alloc (.cells (shpA s h) 32)).alloc (.cells #[.int .i64 xc, .int .i64 xt, .int .u8 (xh : Nat)] 34)) V → Calls Tryd.prog 15 #[.agg (shpA s h), .agg #[.int .i64 xc, .int .i64 xt, .int .u8 (xh : Nat)], .int .i64 40] V (Ret V (.bool (slotRight s ⟨xc, xt, xh⟩ 40)))) := Lib.hid fun V hV => refRightS_any s h ⟨xc, xt, xh⟩ 40 V (HS.out.on hV) (by decide)
  clear hs hb0 hf
  unfold shpA at *
  unfold sltL
  simp only
  go_enter Tryd.func9, Tryd.ntmps9
  go_upto_region 1 with fail
  generalize ((w.alloc _).alloc _) = W at *
  have HB := Lib.hid (Below.refl W.heap.size W)
  have HRQ : Hid (∀ q, rightF s = q → rightF s = q) := Lib.hid fun _ h => h
  have e0 : W.cell? ⟨w.heap.size, 0, none⟩ = some (Value.slice h.A1 s.cols.length h.c1) := (KE.out.below HB.out KE.out.lt).cell 0
  have e1 : W.cell? ⟨w.heap.size, 1, none⟩ = some (Value.slice h.A2 s.covs.length h.c2) := (KE.out.below HB.out KE.out.lt).cell 1
  have e2 : W.cell? ⟨w.heap.size, 2, none⟩ = some (.int .i64 s.l0) := (KE.out.below HB.out KE.out.lt).cell 2
  have e3 : W.cell? ⟨w.heap.size, 3, none⟩ = some (.int .i64 s.l1) := (KE.out.below HB.out KE.out.lt).cell 3
  have e4 : W.cell? ⟨w.heap.size, 4, none⟩ = some (.int .i64 s.l2) := (KE.out.below HB.out KE.out.lt).cell 4
  have e5 : W.cell? ⟨w.heap.size, 5, none⟩ = some (.int .i64 s.l3) := (KE.out.below HB.out KE.out.lt).cell 5
  have e6 : W.cell? ⟨w.heap.size, 6, none⟩ = some (.slice h.A3 s.rows.length h.c3) := (KE.out.below HB.out KE.out.lt).cell 6
  have e7 : W.cell? ⟨w.heap.size, 7, none⟩ = some (.slice h.A4 s.frames.length h.c4) := (KE.out.below HB.out KE.out.lt).cell 7
  have e8 : W.cell? ⟨w.heap.size, 8, none⟩ = some (.slice h.A5 s.tanks.length h.c5) := (KE.out.below HB.out KE.out.lt).cell 8
  have e9 : W.cell? ⟨w.heap.size, 9, none⟩ = some (.int .i64 s.m0) := (KE.out.below HB.out KE.out.lt).cell 9
  have e10 : W.cell? ⟨w.heap.size, 10, none⟩ = some (.int .i64 s.m1) := (KE.out.below HB.out KE.out.lt).cell 10
  have e11 : W.cell? ⟨w.heap.size, 11, none⟩ = some (.int .i64 s.m2) := (KE.out.below HB.out KE.out.lt).cell 11
  have e12 : W.cell? ⟨w.heap.size, 12, none⟩ = some (.int .i64 s.m3) := (KE.out.below HB.out KE.out.lt).cell 12
  have x0 : W.cell? ⟨w.heap.size + 1, 0, none⟩ = some (.int .i64 xc) := (KX.out.below HB.out KX.out.lt).cell 0
  have x1 : W.cell? ⟨w.heap.size + 1, 1, none⟩ = some (.int .i64 xt) := (KX.out.below HB.out KX.out.lt).cell 1
  have x2 : W.cell? ⟨w.heap.size + 1, 2, none⟩ = some (.int .u8 (xh : Nat)) := (KX.out.below HB.out KX.out.lt).cell 2
  go_wp2_with fail
  refine (KR.out W HB.out).mono ?_
  rintro e V1 ⟨rfl, hb⟩
  simp only
  clear e0 e1 e2 e3 e4 e5 e6 e7 e8 e9 e10 e11 e12 x0 x1 x2
  replace HB := Lib.hid (HB.out.trans (hb.mono HB.out.size))
  clear hb
  clear KR
  cases hr1 : rightF s with
  | false =>
    have HV : Hid (nameF s ⟨xc, xt, xh⟩ = ([], 2)) := Lib.hid (by unfold nameF; rw [if_pos hr1])
    clear K2 K4
    go_wp2_with fail
    go_ret2
    exact ⟨by rw [HV.out]; rfl, HB0.out.trans (HB.out.mono HB0.out.size)⟩
  | true =>
    have e0 : V1.cell? ⟨w.heap.size, 0, none⟩ = some (Value.slice h.A1 s.cols.length h.c1) := (KE.out.below HB.out KE.out.lt).cell 0
    have e1 : V1.cell? ⟨w.heap.size, 1, none⟩ = some (Value.slice h.A2 s.covs.length h.c2) := (KE.out.below HB.out KE.out.lt).cell 1
    have e2 : V1.cell? ⟨w.heap.size, 2, none⟩ = some (.int .i64 s.l0) := (KE.out.below HB.out KE.out.lt).cell 2
    have e3 : V1.cell? ⟨w.heap.size, 3, none⟩ = some (.int .i64 s.l1) := (KE.out.below HB.out KE.out.lt).cell 3
    have e4 : V1.cell? ⟨w.heap.size, 4, none⟩ = some (.int .i64 s.l2) := (KE.out.below HB.out KE.out.lt).cell 4
    have e5 : V1.cell? ⟨w.heap.size, 5, none⟩ = some (.int .i64 s.l3) := (KE.out.below HB.out KE.out.lt).cell 5
    have e6 : V1.cell? ⟨w.heap.size, 6, none⟩ = some (.slice h.A3 s.rows.length h.c3) := (KE.out.below HB.out KE.out.lt).cell 6
    have e7 : V1.cell? ⟨w.heap.size, 7, none⟩ = some (.slice h.A4 s.frames.length h.c4) := (KE.out.below HB.out KE.out.lt).cell 7
    have e8 : V1.cell? ⟨w.heap.size, 8, none⟩ = some (.slice h.A5 s.tanks.length h.c5) := (KE.out.below HB.out KE.out.lt).cell 8
    have e9 : V1.cell? ⟨w.heap.size, 9, none⟩ = some (.int .i64 s.m0) := (KE.out.below HB.out KE.out.lt).cell 9
    have e10 : V1.cell? ⟨w.heap.size, 10, none⟩ = some (.int .i64 s.m1) := (KE.out.below HB.out KE.out.lt).cell 10
    have e11 : V1.cell? ⟨w.heap.size, 11, none⟩ = some (.int .i64 s.m2) := (KE.out.below HB.out KE.out.lt).cell 11
    have e12 : V1.cell? ⟨w.heap.size, 12, none⟩ = some (.int .i64 s.m3) := (KE.out.below HB.out KE.out.lt).cell 12
    have x0 : V1.cell? ⟨w.heap.size + 1, 0, none⟩ = some (.int .i64 xc) := (KX.out.below HB.out KX.out.lt).cell 0
    have x1 : V1.cell? ⟨w.heap.size + 1, 1, none⟩ = some (.int .i64 xt) := (KX.out.below HB.out KX.out.lt).cell 1
    have x2 : V1.cell? ⟨w.heap.size + 1, 2, none⟩ = some (.int .u8 (xh : Nat)) := (KX.out.below HB.out KX.out.lt).cell 2
    go_wp2_with fail
    refine (K2.out V1 HB.out).mono ?_
    rintro e V2 ⟨rfl, hb⟩
    simp only
    clear e0 e1 e2 e3 e4 e5 e6 e7 e8 e9 e10 e11 e12 x0 x1 x2
    replace HB := Lib.hid (HB.out.trans (hb.mono HB.out.size))
    clear hb
    try clear V1
    clear K2
    have hmain : ∀ (V2 : World), Hid (Below W.heap.size W V2) → ¬ (slotRight s ⟨xc, xt, xh⟩ 20 = false ∧ slotRight s ⟨xc, xt, xh⟩ 40 = false) → True := fun _ _ _ => trivial
    clear hmain
    cases h20 : slotRight s ⟨xc, xt, xh⟩ 20 with
    | false =>
      have e0 : V2.cell? ⟨w.heap.size, 0, none⟩ = some (Value.slice h.A1 s.cols.length h.c1) := (KE.out.below HB.out KE.out.lt).cell 0
      have e1 : V2.cell? ⟨w.heap.size, 1, none⟩ = some (Value.slice h.A2 s.covs.length h.c2) := (KE.out.below HB.out KE.out.lt).cell 1
      have e2 : V2.cell? ⟨w.heap.size, 2, none⟩ = some (.int .i64 s.l0) := (KE.out.below HB.out KE.out.lt).cell 2
      have e3 : V2.cell? ⟨w.heap.size, 3, none⟩ = some (.int .i64 s.l1) := (KE.out.below HB.out KE.out.lt).cell 3
      have e4 : V2.cell? ⟨w.heap.size, 4, none⟩ = some (.int .i64 s.l2) := (KE.out.below HB.out KE.out.lt).cell 4
      have e5 : V2.cell? ⟨w.heap.size, 5, none⟩ = some (.int .i64 s.l3) := (KE.out.below HB.out KE.out.lt).cell 5
      have e6 : V2.cell? ⟨w.heap.size, 6, none⟩ = some (.slice h.A3 s.rows.length h.c3) := (KE.out.below HB.out KE.out.lt).cell 6
      have e7 : V2.cell? ⟨w.heap.size, 7, none⟩ = some (.slice h.A4 s.frames.length h.c4) := (KE.out.below HB.out KE.out.lt).cell 7
      have e8 : V2.cell? ⟨w.heap.size, 8, none⟩ = some (.slice h.A5 s.tanks.length h.c5) := (KE.out.below HB.out KE.out.lt).cell 8
      have e9 : V2.cell? ⟨w.heap.size, 9, none⟩ = some (.int .i64 s.m0) := (KE.out.below HB.out KE.out.lt).cell 9
      have e10 : V2.cell? ⟨w.heap.size, 10, none⟩ = some (.int .i64 s.m1) := (KE.out.below HB.out KE.out.lt).cell 10
      have e11 : V2.cell? ⟨w.heap.size, 11, none⟩ = some (.int .i64 s.m2) := (KE.out.below HB.out KE.out.lt).cell 11
      have e12 : V2.cell? ⟨w.heap.size, 12, none⟩ = some (.int .i64 s.m3) := (KE.out.below HB.out KE.out.lt).cell 12
      have x0 : V2.cell? ⟨w.heap.size + 1, 0, none⟩ = some (.int .i64 xc) := (KX.out.below HB.out KX.out.lt).cell 0
      have x1 : V2.cell? ⟨w.heap.size + 1, 1, none⟩ = some (.int .i64 xt) := (KX.out.below HB.out KX.out.lt).cell 1
      have x2 : V2.cell? ⟨w.heap.size + 1, 2, none⟩ = some (.int .u8 (xh : Nat)) := (KX.out.below HB.out KX.out.lt).cell 2
      go_wp2_with fail
      refine (K4.out V2 HB.out).mono ?_
      rintro e V3 ⟨rfl, hb⟩
      simp only
      clear e0 e1 e2 e3 e4 e5 e6 e7 e8 e9 e10 e11 e12 x0 x1 x2
      replace HB := Lib.hid (HB.out.trans (hb.mono HB.out.size))
      clear hb
      try clear V2
      clear K4
      cases h40 : slotRight s ⟨xc, xt, xh⟩ 40 with
      | false =>
        have HV : Hid (nameF s ⟨xc, xt, xh⟩ = ([], 6)) := Lib.hid (by unfold nameF; rw [if_neg (by rw [hr1]; decide), if_pos ⟨h20, h40⟩])
        clear h20 h40
        go_wp2_with fail
        go_ret2
        exact ⟨by rw [HV.out]; rfl, HB0.out.trans (HB.out.mono HB0.out.size)⟩
      | true =>
        have hno : ¬ (slotRight s ⟨xc, xt, xh⟩ 20 = false ∧ slotRight s ⟨xc, xt, xh⟩ 40 = false) := fun hh => by rw [hh.2] at h40; cases h40
        clear h20 h40
        obtain ⟨V2, hV2⟩ : ∃ V, V = V3 := ⟨_, rfl⟩
        subst hV2
        have HV : Hid (nameF s ⟨xc, xt, xh⟩ = (nameL s ⟨xc, xt, xh⟩, 0)) := Lib.hid (by unfold nameF; rw [if_neg (by rw [hr1]; decide), if_neg hno])
        obtain ⟨size, hsl⟩ : ∃ size, slotRight s ⟨xc, xt, xh⟩ size = true := by
          by_cases h20 : slotRight s ⟨xc, xt, xh⟩ 20 = true
          · exact ⟨20, h20⟩
          · by_cases h40 : slotRight s ⟨xc, xt, xh⟩ 40 = true
            · exact ⟨40, h40⟩
            · exact absurd ⟨by simpa using h20, by simpa using h40⟩ hno
        obtain ⟨k, t, hk1, hk, ht1, ht9, htl, hh3, b, r, hb1, hb39, hr1', hr30⟩ := right_slot hr1 hsl
        subst hk1 ht1
        have hh3' : xh < 3 := hh3
        have hh : xh = 0 ∨ xh = 1 ∨ xh = 2 := by omega
        clear hh3 hh3'
        have e0 : V2.cell? ⟨w.heap.size, 0, none⟩ = some (.slice h.A1 s.cols.length h.c1) := (KE.out.below HB.out KE.out.lt).cell 0
        have x0 : V2.cell? ⟨w.heap.size + 1, 0, none⟩ = some (.int .i64 (k : Nat)) := (KX.out.below HB.out KX.out.lt).cell 0
        obtain ⟨b1, o1, Ap1, p1, hA1, _, _, _, d0, d1, d2, d3, d4, d5, d6, d7, d8, d9, d10, d11⟩ := (HS.out.on HB.out).cols.col hk
        rw [hA1] at e0
        clear hA1 htl hno hsl HRQ
        have i0 : (0 : Int) ≤ (k : Int) := by omega
        have i1 : (k : Int) < (s.cols.length : Int) := by omega
        have HNL0 : Hid (nameL s ⟨(k : Int), (t : Int), xh⟩ = num3 (4 * (s.cols.getD k default).bay.toNat + qOf xh) ++ num2 (s.cols.getD k default).row.toNat ++ num2 ((2 * (t + 1) + if (s.cols.getD k default).deck then 80 else 0) % 100)) := Lib.hid rfl
        generalize s.cols.getD k default = c at *
        obtain ⟨cb, cr, cd, ct, ch, c2, c4, cl, cp, cx, cy, cz⟩ := c
        simp only at hb1 hr1' HNL0 d0 d1 d2 d3 d4 d5 d6 d7 d8 d9 d10 d11
        subst hb1 hr1'
        obtain ⟨N, hNE⟩ : ∃ N, N = 4 * b + qOf xh := ⟨_, rfl⟩
        obtain ⟨T, hTE⟩ : ∃ T, T = (2 * (t + 1) + if cd then 80 else 0) % 100 := ⟨_, rfl⟩
        have HNE := Lib.hid hNE
        have HTE := Lib.hid hTE
        have hba := ba1 V2 (.cells #[.int .i64 (b : Nat), .int .i64 (r : Nat), .bool cd, .int .i64 ct, .int .i64 ch, .int .i64 c2, .int .i64 c4, .int .i64 cl, .slice Ap1 cp.length p1, .int .i64 cx, .int .i64 cy, .int .i64 cz] 62)
        have HKC := Lib.hid (Bk.new V2 62 #[.int .i64 (b : Nat), .int .i64 (r : Nat), .bool cd, .int .i64 ct, .int .i64 ch, .int .i64 c2, .int .i64 c4, .int .i64 cl, .slice Ap1 cp.length p1, .int .i64 cx, .int .i64 cy, .int .i64 cz])
        have HBX := Lib.hid (HB.out.trans (hba.mono HB.out.size))
        clear hba
        go_upto_region 6 with fail
        clear e0 x0 d0 d1 d2 d3 d4 d5 d6 d7 d8 d9 d10 d11
        generalize V2.heap.size = gc at *
        generalize (V2.alloc _) = V4 at *
        try clear V2
        obtain ⟨V2, hV4⟩ : ∃ V, V = V4 := ⟨_, rfl⟩
        subst hV4
        have y0 : V2.cell? ⟨gc, 0, none⟩ = some (.int .i64 (b : Nat)) := HKC.out.cell 0
        have y1 : V2.cell? ⟨gc, 1, none⟩ = some (.int .i64 (r : Nat)) := HKC.out.cell 1
        have y2 : V2.cell? ⟨gc, 2, none⟩ = some (.bool cd) := HKC.out.cell 2
        have x1 : V2.cell? ⟨w.heap.size + 1, 1, none⟩ = some (.int .i64 (t : Nat)) := (KX.out.below HBX.out KX.out.lt).cell 1
        have x2 : V2.cell? ⟨w.heap.size + 1, 2, none⟩ = some (.int .u8 (xh : Nat)) := (KX.out.below HBX.out KX.out.lt).cell 2
        have HNL : Hid (nameL s ⟨(k : Int), (t : Int), xh⟩ = num3 N ++ num2 r ++ num2 T) := Lib.hid (by rw [HNL0.out, HNE.out, HTE.out]; rfl)
        clear HNL0 HNE HTE
        have hq0 : qOf 0 = 2 := rfl
        have hq1 : qOf 1 = 1 := rfl
        have hq2 : qOf 2 = 3 := rfl
        rcases hh with rfl | rfl | rfl
        · rw [hq0] at hNE
          clear hq0 hq1 hq2
          have n7 : 4 * (b : Int) + 2 = (N : Int) := by omega
          have hN : N ≤ 159 := by omega
          clear hNE
          obtain ⟨U, hU⟩ : ∃ U : Nat, (t : Int) + (t : Int) + 2 = (U : Int) := ⟨2 * t + 2, by omega⟩
          cases cd with
          | false =>
            simp only [Bool.false_eq_true, if_false, Nat.add_zero] at hTE
            have hUT : U = T := by omega
            subst hUT
            have n9 : ((U : Int) == 100) = false := beq_eq_false_iff_ne.2 (by omega)
            have n9' : (U == 100) = false := beq_eq_false_iff_ne.2 (by omega)
            have hT : U ≤ 99 := by omega
            have hU20 : U ≤ 20 := by omega
            clear hTE
            have hcv := str7 V2 N r U hN hr30 hT
            go_wp2_with fail
            go_ret2
            exact ⟨by rw [HV.out, HNL.out]; rfl, HB0.out.trans ((HBX.out.trans ((ba1 V2 _).mono HBX.out.size)).mono HB0.out.size)⟩
          | true =>
            simp only [if_true] at hTE
            obtain ⟨Q, hQ⟩ : ∃ Q : Nat, (U : Int) + 80 = (Q : Int) := ⟨U + 80, by omega⟩
            have hU20 : U ≤ 20 := by omega
            by_cases h9 : t = 9
            · have hT0 : T = 0 := by omega
              have hQ1 : Q = 100 := by omega
              have n9 : ((Q : Int) == 100) = true := beq_iff_eq.2 (by omega)
              have n9' : (Q == 100) = true := beq_iff_eq.2 (by omega)
              subst hT0
              have hcv : (convert 74 9 (.slice (some ⟨V2.heap.size, 0, none⟩) 7 7)).run Tryd.prog (V2.alloc (.cells #[.int .u8 (48 + (N : Int) / 100), .int .u8 (48 + (N : Int) / 10 % 10), .int .u8 (48 + (N : Int) % 10), .int .u8 (48 + (r : Int) / 10), .int .u8 (48 + (r : Int) % 10), .int .u8 (48), .int .u8 (48)] 5)) = .ok (.string (strN (num3 N ++ num2 r ++ num2 0))) (V2.alloc (.cells #[.int .u8 (48 + (N : Int) / 100), .int .u8 (48 + (N : Int) / 10 % 10), .int .u8 (48 + (N : Int) % 10), .int .u8 (48 + (r : Int) / 10), .int .u8 (48 + (r : Int) % 10), .int .u8 (48), .int .u8 (48)] 5)) := str7 V2 N r 0 hN hr30 (by omega)
              clear hTE hQ1 h9
              go_wp2_with fail
              go_ret2
              exact ⟨by rw [HV.out, HNL.out]; rfl, HB0.out.trans ((HBX.out.trans ((ba1 V2 _).mono HBX.out.size)).mono HB0.out.size)⟩
            · have hQT : Q = T := by omega
              subst hQT
              have n9 : ((Q : Int) == 100) = false := beq_eq_false_iff_ne.2 (by omega)
              have n9' : (Q == 100) = false := beq_eq_false_iff_ne.2 (by omega)
              have hT : Q ≤ 99 := by omega
              clear hTE h9
              have hcv := str7 V2 N r Q hN hr30 hT
              go_wp2_with fail
              go_ret2
              exact ⟨by rw [HV.out, HNL.out]; rfl, HB0.out.trans ((HBX.out.trans ((ba1 V2 _).mono HBX.out.size)).mono HB0.out.size)⟩
        · rw [hq1] at hNE
          clear hq0 hq1 hq2
          have n7 : 4 * (b : Int) + 1 = (N : Int) := by omega
          have hN : N ≤ 159 := by omega
          clear hNE
          obtain ⟨U, hU⟩ : ∃ U : Nat, (t : Int) + (t : Int) + 2 = (U : Int) := ⟨2 * t + 2, by omega⟩
          cases cd with
          | false =>
            simp only [Bool.false_eq_true, if_false, Nat.add_zero] at hTE
            have hUT : U = T := by omega
            subst hUT
            have n9 : ((U : Int) == 100) = false := beq_eq_false_iff_ne.2 (by omega)
            have n9' : (U == 100) = false := beq_eq_false_iff_ne.2 (by omega)
            have hT : U ≤ 99 := by omega
            have hU20 : U ≤ 20 := by omega
            clear hTE
            have hcv := str7 V2 N r U hN hr30 hT
            go_wp2_with fail
            go_ret2
            exact ⟨by rw [HV.out, HNL.out]; rfl, HB0.out.trans ((HBX.out.trans ((ba1 V2 _).mono HBX.out.size)).mono HB0.out.size)⟩
          | true =>
            simp only [if_true] at hTE
            obtain ⟨Q, hQ⟩ : ∃ Q : Nat, (U : Int) + 80 = (Q : Int) := ⟨U + 80, by omega⟩
            have hU20 : U ≤ 20 := by omega
            by_cases h9 : t = 9
            · have hT0 : T = 0 := by omega
              have hQ1 : Q = 100 := by omega
              have n9 : ((Q : Int) == 100) = true := beq_iff_eq.2 (by omega)
              have n9' : (Q == 100) = true := beq_iff_eq.2 (by omega)
              subst hT0
              have hcv : (convert 74 9 (.slice (some ⟨V2.heap.size, 0, none⟩) 7 7)).run Tryd.prog (V2.alloc (.cells #[.int .u8 (48 + (N : Int) / 100), .int .u8 (48 + (N : Int) / 10 % 10), .int .u8 (48 + (N : Int) % 10), .int .u8 (48 + (r : Int) / 10), .int .u8 (48 + (r : Int) % 10), .int .u8 (48), .int .u8 (48)] 5)) = .ok (.string (strN (num3 N ++ num2 r ++ num2 0))) (V2.alloc (.cells #[.int .u8 (48 + (N : Int) / 100), .int .u8 (48 + (N : Int) / 10 % 10), .int .u8 (48 + (N : Int) % 10), .int .u8 (48 + (r : Int) / 10), .int .u8 (48 + (r : Int) % 10), .int .u8 (48), .int .u8 (48)] 5)) := str7 V2 N r 0 hN hr30 (by omega)
              clear hTE hQ1 h9
              go_wp2_with fail
              go_ret2
              exact ⟨by rw [HV.out, HNL.out]; rfl, HB0.out.trans ((HBX.out.trans ((ba1 V2 _).mono HBX.out.size)).mono HB0.out.size)⟩
            · have hQT : Q = T := by omega
              subst hQT
              have n9 : ((Q : Int) == 100) = false := beq_eq_false_iff_ne.2 (by omega)
              have n9' : (Q == 100) = false := beq_eq_false_iff_ne.2 (by omega)
              have hT : Q ≤ 99 := by omega
              clear hTE h9
              have hcv := str7 V2 N r Q hN hr30 hT
              go_wp2_with fail
              go_ret2
              exact ⟨by rw [HV.out, HNL.out]; rfl, HB0.out.trans ((HBX.out.trans ((ba1 V2 _).mono HBX.out.size)).mono HB0.out.size)⟩
        · rw [hq2] at hNE
          clear hq0 hq1 hq2
          have n7 : 4 * (b : Int) + 3 = (N : Int) := by omega
          have hN : N ≤ 159 := by omega
          clear hNE
          obtain ⟨U, hU⟩ : ∃ U : Nat, (t : Int) + (t : Int) + 2 = (U : Int) := ⟨2 * t + 2, by omega⟩
          cases cd with
          | false =>
            simp only [Bool.false_eq_true, if_false, Nat.add_zero] at hTE
            have hUT : U = T := by omega
            subst hUT
            have n9 : ((U : Int) == 100) = false := beq_eq_false_iff_ne.2 (by omega)
            have n9' : (U == 100) = false := beq_eq_false_iff_ne.2 (by omega)
            have hT : U ≤ 99 := by omega
            have hU20 : U ≤ 20 := by omega
            clear hTE
            have hcv := str7 V2 N r U hN hr30 hT
            go_wp2_with fail
            go_ret2
            exact ⟨by rw [HV.out, HNL.out]; rfl, HB0.out.trans ((HBX.out.trans ((ba1 V2 _).mono HBX.out.size)).mono HB0.out.size)⟩
          | true =>
            simp only [if_true] at hTE
            obtain ⟨Q, hQ⟩ : ∃ Q : Nat, (U : Int) + 80 = (Q : Int) := ⟨U + 80, by omega⟩
            have hU20 : U ≤ 20 := by omega
            by_cases h9 : t = 9
            · have hT0 : T = 0 := by omega
              have hQ1 : Q = 100 := by omega
              have n9 : ((Q : Int) == 100) = true := beq_iff_eq.2 (by omega)
              have n9' : (Q == 100) = true := beq_iff_eq.2 (by omega)
              subst hT0
              have hcv : (convert 74 9 (.slice (some ⟨V2.heap.size, 0, none⟩) 7 7)).run Tryd.prog (V2.alloc (.cells #[.int .u8 (48 + (N : Int) / 100), .int .u8 (48 + (N : Int) / 10 % 10), .int .u8 (48 + (N : Int) % 10), .int .u8 (48 + (r : Int) / 10), .int .u8 (48 + (r : Int) % 10), .int .u8 (48), .int .u8 (48)] 5)) = .ok (.string (strN (num3 N ++ num2 r ++ num2 0))) (V2.alloc (.cells #[.int .u8 (48 + (N : Int) / 100), .int .u8 (48 + (N : Int) / 10 % 10), .int .u8 (48 + (N : Int) % 10), .int .u8 (48 + (r : Int) / 10), .int .u8 (48 + (r : Int) % 10), .int .u8 (48), .int .u8 (48)] 5)) := str7 V2 N r 0 hN hr30 (by omega)
              clear hTE hQ1 h9
              go_wp2_with fail
              go_ret2
              exact ⟨by rw [HV.out, HNL.out]; rfl, HB0.out.trans ((HBX.out.trans ((ba1 V2 _).mono HBX.out.size)).mono HB0.out.size)⟩
            · have hQT : Q = T := by omega
              subst hQT
              have n9 : ((Q : Int) == 100) = false := beq_eq_false_iff_ne.2 (by omega)
              have n9' : (Q == 100) = false := beq_eq_false_iff_ne.2 (by omega)
              have hT : Q ≤ 99 := by omega
              clear hTE h9
              have hcv := str7 V2 N r Q hN hr30 hT
              go_wp2_with fail
              go_ret2
              exact ⟨by rw [HV.out, HNL.out]; rfl, HB0.out.trans ((HBX.out.trans ((ba1 V2 _).mono HBX.out.size)).mono HB0.out.size)⟩
    | true =>
      have hno : ¬ (slotRight s ⟨xc, xt, xh⟩ 20 = false ∧ slotRight s ⟨xc, xt, xh⟩ 40 = false) := fun hh => by rw [hh.1] at h20; cases h20
      clear h20 K4
      have HV : Hid (nameF s ⟨xc, xt, xh⟩ = (nameL s ⟨xc, xt, xh⟩, 0)) := Lib.hid (by unfold nameF; rw [if_neg (by rw [hr1]; decide), if_neg hno])
      obtain ⟨size, hsl⟩ : ∃ size, slotRight s ⟨xc, xt, xh⟩ size = true := by
        by_cases h20 : slotRight s ⟨xc, xt, xh⟩ 20 = true
        · exact ⟨20, h20⟩
        · by_cases h40 : slotRight s ⟨xc, xt, xh⟩ 40 = true
          · exact ⟨40, h40⟩
          · exact absurd ⟨by simpa using h20, by simpa using h40⟩ hno
      obtain ⟨k, t, hk1, hk, ht1, ht9, htl, hh3, b, r, hb1, hb39, hr1', hr30⟩ := right_slot hr1 hsl
      subst hk1 ht1
      have hh3' : xh < 3 := hh3
      have hh : xh = 0 ∨ xh = 1 ∨ xh = 2 := by omega
      clear hh3 hh3'
      have e0 : V2.cell? ⟨w.heap.size, 0, none⟩ = some (.slice h.A1 s.cols.length h.c1) := (KE.out.below HB.out KE.out.lt).cell 0
      have x0 : V2.cell? ⟨w.heap.size + 1, 0, none⟩ = some (.int .i64 (k : Nat)) := (KX.out.below HB.out KX.out.lt).cell 0
      obtain ⟨b1, o1, Ap1, p1, hA1, _, _, _, d0, d1, d2, d3, d4, d5, d6, d7, d8, d9, d10, d11⟩ := (HS.out.on HB.out).cols.col hk
      rw [hA1] at e0
      clear hA1 htl hno hsl HRQ
      have i0 : (0 : Int) ≤ (k : Int) := by omega
      have i1 : (k : Int) < (s.cols.length : Int) := by omega
      have HNL0 : Hid (nameL s ⟨(k : Int), (t : Int), xh⟩ = num3 (4 * (s.cols.getD k default).bay.toNat + qOf xh) ++ num2 (s.cols.getD k default).row.toNat ++ num2 ((2 * (t + 1) + if (s.cols.getD k default).deck then 80 else 0) % 100)) := Lib.hid rfl
      generalize s.cols.getD k default = c at *
      obtain ⟨cb, cr, cd, ct, ch, c2, c4, cl, cp, cx, cy, cz⟩ := c
      simp only at hb1 hr1' HNL0 d0 d1 d2 d3 d4 d5 d6 d7 d8 d9 d10 d11
      subst hb1 hr1'
      obtain ⟨N, hNE⟩ : ∃ N, N = 4 * b + qOf xh := ⟨_, rfl⟩
      obtain ⟨T, hTE⟩ : ∃ T, T = (2 * (t + 1) + if cd then 80 else 0) % 100 := ⟨_, rfl⟩
      have HNE := Lib.hid hNE
      have HTE := Lib.hid hTE
      have hba := ba1 V2 (.cells #[.int .i64 (b : Nat), .int .i64 (r : Nat), .bool cd, .int .i64 ct, .int .i64 ch, .int .i64 c2, .int .i64 c4, .int .i64 cl, .slice Ap1 cp.length p1, .int .i64 cx, .int .i64 cy, .int .i64 cz] 62)
      have HKC := Lib.hid (Bk.new V2 62 #[.int .i64 (b : Nat), .int .i64 (r : Nat), .bool cd, .int .i64 ct, .int .i64 ch, .int .i64 c2, .int .i64 c4, .int .i64 cl, .slice Ap1 cp.length p1, .int .i64 cx, .int .i64 cy, .int .i64 cz])
      have HBX := Lib.hid (HB.out.trans (hba.mono HB.out.size))
      clear hba
      go_upto_region 6 with fail
      clear e0 x0 d0 d1 d2 d3 d4 d5 d6 d7 d8 d9 d10 d11
      generalize V2.heap.size = gc at *
      generalize (V2.alloc _) = V4 at *
      try clear V2
      obtain ⟨V2, hV4⟩ : ∃ V, V = V4 := ⟨_, rfl⟩
      subst hV4
      have y0 : V2.cell? ⟨gc, 0, none⟩ = some (.int .i64 (b : Nat)) := HKC.out.cell 0
      have y1 : V2.cell? ⟨gc, 1, none⟩ = some (.int .i64 (r : Nat)) := HKC.out.cell 1
      have y2 : V2.cell? ⟨gc, 2, none⟩ = some (.bool cd) := HKC.out.cell 2
      have x1 : V2.cell? ⟨w.heap.size + 1, 1, none⟩ = some (.int .i64 (t : Nat)) := (KX.out.below HBX.out KX.out.lt).cell 1
      have x2 : V2.cell? ⟨w.heap.size + 1, 2, none⟩ = some (.int .u8 (xh : Nat)) := (KX.out.below HBX.out KX.out.lt).cell 2
      have HNL : Hid (nameL s ⟨(k : Int), (t : Int), xh⟩ = num3 N ++ num2 r ++ num2 T) := Lib.hid (by rw [HNL0.out, HNE.out, HTE.out]; rfl)
      clear HNL0 HNE HTE
      have hq0 : qOf 0 = 2 := rfl
      have hq1 : qOf 1 = 1 := rfl
      have hq2 : qOf 2 = 3 := rfl
      rcases hh with rfl | rfl | rfl
      · rw [hq0] at hNE
        clear hq0 hq1 hq2
        have n7 : 4 * (b : Int) + 2 = (N : Int) := by omega
        have hN : N ≤ 159 := by omega
        clear hNE
        obtain ⟨U, hU⟩ : ∃ U : Nat, (t : Int) + (t : Int) + 2 = (U : Int) := ⟨2 * t + 2, by omega⟩
        cases cd with
        | false =>
          simp only [Bool.false_eq_true, if_false, Nat.add_zero] at hTE
          have hUT : U = T := by omega
          subst hUT
          have n9 : ((U : Int) == 100) = false := beq_eq_false_iff_ne.2 (by omega)
          have n9' : (U == 100) = false := beq_eq_false_iff_ne.2 (by omega)
          have hT : U ≤ 99 := by omega
          have hU20 : U ≤ 20 := by omega
          clear hTE
          have hcv := str7 V2 N r U hN hr30 hT
          go_wp2_with fail
          go_ret2
          exact ⟨by rw [HV.out, HNL.out]; rfl, HB0.out.trans ((HBX.out.trans ((ba1 V2 _).mono HBX.out.size)).mono HB0.out.size)⟩
        | true =>
          simp only [if_true] at hTE
          obtain ⟨Q, hQ⟩ : ∃ Q : Nat, (U : Int) + 80 = (Q : Int) := ⟨U + 80, by omega⟩
          have hU20 : U ≤ 20 := by omega
          by_cases h9 : t = 9
          · have hT0 : T = 0 := by omega
            have hQ1 : Q = 100 := by omega
            have n9 : ((Q : Int) == 100) = true := beq_iff_eq.2 (by omega)
            have n9' : (Q == 100) = true := beq_iff_eq.2 (by omega)
            subst hT0
            have hcv : (convert 74 9 (.slice (some ⟨V2.heap.size, 0, none⟩) 7 7)).run Tryd.prog (V2.alloc (.cells #[.int .u8 (48 + (N : Int) / 100), .int .u8 (48 + (N : Int) / 10 % 10), .int .u8 (48 + (N : Int) % 10), .int .u8 (48 + (r : Int) / 10), .int .u8 (48 + (r : Int) % 10), .int .u8 (48), .int .u8 (48)] 5)) = .ok (.string (strN (num3 N ++ num2 r ++ num2 0))) (V2.alloc (.cells #[.int .u8 (48 + (N : Int) / 100), .int .u8 (48 + (N : Int) / 10 % 10), .int .u8 (48 + (N : Int) % 10), .int .u8 (48 + (r : Int) / 10), .int .u8 (48 + (r : Int) % 10), .int .u8 (48), .int .u8 (48)] 5)) := str7 V2 N r 0 hN hr30 (by omega)
            clear hTE hQ1 h9
            go_wp2_with fail
            go_ret2
            exact ⟨by rw [HV.out, HNL.out]; rfl, HB0.out.trans ((HBX.out.trans ((ba1 V2 _).mono HBX.out.size)).mono HB0.out.size)⟩
          · have hQT : Q = T := by omega
            subst hQT
            have n9 : ((Q : Int) == 100) = false := beq_eq_false_iff_ne.2 (by omega)
            have n9' : (Q == 100) = false := beq_eq_false_iff_ne.2 (by omega)
            have hT : Q ≤ 99 := by omega
            clear hTE h9
            have hcv := str7 V2 N r Q hN hr30 hT
            go_wp2_with fail
            go_ret2
            exact ⟨by rw [HV.out, HNL.out]; rfl, HB0.out.trans ((HBX.out.trans ((ba1 V2 _).mono HBX.out.size)).mono HB0.out.size)⟩
      · rw [hq1] at hNE
        clear hq0 hq1 hq2
        have n7 : 4 * (b : Int) + 1 = (N : Int) := by omega
        have hN : N ≤ 159 := by omega
        clear hNE
        obtain ⟨U, hU⟩ : ∃ U : Nat, (t : Int) + (t : Int) + 2 = (U : Int) := ⟨2 * t + 2, by omega⟩
        cases cd with
        | false =>
          simp only [Bool.false_eq_true, if_false, Nat.add_zero] at hTE
          have hUT : U = T := by omega
          subst hUT
          have n9 : ((U : Int) == 100) = false := beq_eq_false_iff_ne.2 (by omega)
          have n9' : (U == 100) = false := beq_eq_false_iff_ne.2 (by omega)
          have hT : U ≤ 99 := by omega
          have hU20 : U ≤ 20 := by omega
          clear hTE
          have hcv := str7 V2 N r U hN hr30 hT
          go_wp2_with fail
          go_ret2
          exact ⟨by rw [HV.out, HNL.out]; rfl, HB0.out.trans ((HBX.out.trans ((ba1 V2 _).mono HBX.out.size)).mono HB0.out.size)⟩
        | true =>
          simp only [if_true] at hTE
          obtain ⟨Q, hQ⟩ : ∃ Q : Nat, (U : Int) + 80 = (Q : Int) := ⟨U + 80, by omega⟩
          have hU20 : U ≤ 20 := by omega
          by_cases h9 : t = 9
          · have hT0 : T = 0 := by omega
            have hQ1 : Q = 100 := by omega
            have n9 : ((Q : Int) == 100) = true := beq_iff_eq.2 (by omega)
            have n9' : (Q == 100) = true := beq_iff_eq.2 (by omega)
            subst hT0
            have hcv : (convert 74 9 (.slice (some ⟨V2.heap.size, 0, none⟩) 7 7)).run Tryd.prog (V2.alloc (.cells #[.int .u8 (48 + (N : Int) / 100), .int .u8 (48 + (N : Int) / 10 % 10), .int .u8 (48 + (N : Int) % 10), .int .u8 (48 + (r : Int) / 10), .int .u8 (48 + (r : Int) % 10), .int .u8 (48), .int .u8 (48)] 5)) = .ok (.string (strN (num3 N ++ num2 r ++ num2 0))) (V2.alloc (.cells #[.int .u8 (48 + (N : Int) / 100), .int .u8 (48 + (N : Int) / 10 % 10), .int .u8 (48 + (N : Int) % 10), .int .u8 (48 + (r : Int) / 10), .int .u8 (48 + (r : Int) % 10), .int .u8 (48), .int .u8 (48)] 5)) := str7 V2 N r 0 hN hr30 (by omega)
            clear hTE hQ1 h9
            go_wp2_with fail
            go_ret2
            exact ⟨by rw [HV.out, HNL.out]; rfl, HB0.out.trans ((HBX.out.trans ((ba1 V2 _).mono HBX.out.size)).mono HB0.out.size)⟩
          · have hQT : Q = T := by omega
            subst hQT
            have n9 : ((Q : Int) == 100) = false := beq_eq_false_iff_ne.2 (by omega)
            have n9' : (Q == 100) = false := beq_eq_false_iff_ne.2 (by omega)
            have hT : Q ≤ 99 := by omega
            clear hTE h9
            have hcv := str7 V2 N r Q hN hr30 hT
            go_wp2_with fail
            go_ret2
            exact ⟨by rw [HV.out, HNL.out]; rfl, HB0.out.trans ((HBX.out.trans ((ba1 V2 _).mono HBX.out.size)).mono HB0.out.size)⟩
      · rw [hq2] at hNE
        clear hq0 hq1 hq2
        have n7 : 4 * (b : Int) + 3 = (N : Int) := by omega
        have hN : N ≤ 159 := by omega
        clear hNE
        obtain ⟨U, hU⟩ : ∃ U : Nat, (t : Int) + (t : Int) + 2 = (U : Int) := ⟨2 * t + 2, by omega⟩
        cases cd with
        | false =>
          simp only [Bool.false_eq_true, if_false, Nat.add_zero] at hTE
          have hUT : U = T := by omega
          subst hUT
          have n9 : ((U : Int) == 100) = false := beq_eq_false_iff_ne.2 (by omega)
          have n9' : (U == 100) = false := beq_eq_false_iff_ne.2 (by omega)
          have hT : U ≤ 99 := by omega
          have hU20 : U ≤ 20 := by omega
          clear hTE
          have hcv := str7 V2 N r U hN hr30 hT
          go_wp2_with fail
          go_ret2
          exact ⟨by rw [HV.out, HNL.out]; rfl, HB0.out.trans ((HBX.out.trans ((ba1 V2 _).mono HBX.out.size)).mono HB0.out.size)⟩
        | true =>
          simp only [if_true] at hTE
          obtain ⟨Q, hQ⟩ : ∃ Q : Nat, (U : Int) + 80 = (Q : Int) := ⟨U + 80, by omega⟩
          have hU20 : U ≤ 20 := by omega
          by_cases h9 : t = 9
          · have hT0 : T = 0 := by omega
            have hQ1 : Q = 100 := by omega
            have n9 : ((Q : Int) == 100) = true := beq_iff_eq.2 (by omega)
            have n9' : (Q == 100) = true := beq_iff_eq.2 (by omega)
            subst hT0
            have hcv : (convert 74 9 (.slice (some ⟨V2.heap.size, 0, none⟩) 7 7)).run Tryd.prog (V2.alloc (.cells #[.int .u8 (48 + (N : Int) / 100), .int .u8 (48 + (N : Int) / 10 % 10), .int .u8 (48 + (N : Int) % 10), .int .u8 (48 + (r : Int) / 10), .int .u8 (48 + (r : Int) % 10), .int .u8 (48), .int .u8 (48)] 5)) = .ok (.string (strN (num3 N ++ num2 r ++ num2 0))) (V2.alloc (.cells #[.int .u8 (48 + (N : Int) / 100), .int .u8 (48 + (N : Int) / 10 % 10), .int .u8 (48 + (N : Int) % 10), .int .u8 (48 + (r : Int) / 10), .int .u8 (48 + (r : Int) % 10), .int .u8 (48), .int .u8 (48)] 5)) := str7 V2 N r 0 hN hr30 (by omega)
            clear hTE hQ1 h9
            go_wp2_with fail
            go_ret2
            exact ⟨by rw [HV.out, HNL.out]; rfl, HB0.out.trans ((HBX.out.trans ((ba1 V2 _).mono HBX.out.size)).mono HB0.out.size)⟩
          · have hQT : Q = T := by omega
            subst hQT
            have n9 : ((Q : Int) == 100) = false := beq_eq_false_iff_ne.2 (by omega)
            have n9' : (Q == 100) = false := beq_eq_false_iff_ne.2 (by omega)
            have hT : Q ≤ 99 := by omega
            clear hTE h9
            have hcv := str7 V2 N r Q hN hr30 hT
            go_wp2_with fail
            go_ret2
            exact ⟨by rw [HV.out, HNL.out]; rfl, HB0.out.trans ((HBX.out.trans ((ba1 V2 _).mono HBX.out.size)).mono HB0.out.size)⟩
end Go.Proofs.YtpmhchbkhohmjaaDoor
