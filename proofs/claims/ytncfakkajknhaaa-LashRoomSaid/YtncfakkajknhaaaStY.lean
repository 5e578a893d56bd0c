/-
  The walk of the statement StackTops.
-/
import Derived.Test.YtncfakkajknhaaaStYa
namespace Go.Proofs.Ytncfakkajknhaaa
open Go.RowKit

/-- Below a size, and not the block of a slice. -/
def Off (n : Nat) (A : Option Addr) (x : Nat) : Prop := x < n ∧ ∀ o, A ≠ some ⟨x, o, none⟩
/-- A ship in its variable, boxes of the call's own, a state. -/
structure TW (w V : World) (n g : Nat) (s : Shp) (h : Hd) (A1 : Option Addr) (q1 : Nat) (bs : List Bx) (A2 : Option Addr) (st : List Stw) : Prop where
  bk : Bk V g 37 (shpA s h)
  rd : ShpR V (Off n A1) s h
  own : OwnP tBx 43 V w.heap.size (.slice A1 bs.length q1) bs
  sx : SlT tStw V (Off n A1) A2 st
  be : Below w.heap.size w V
  le : n ≤ V.heap.size
theorem TW.on {w V V' : World} {n g : Nat} {s : Shp} {h : Hd} {A1 A2 : Option Addr} {q1 : Nat} {bs : List Bx} {st : List Stw} (r : TW w V n g s h A1 q1 bs A2 st) (hb : Below V.heap.size V V') : TW w V' n g s h A1 q1 bs A2 st :=
  ⟨r.bk.below hb r.bk.lt, r.rd.keep fun b o hS => hb.cell (p := ⟨b, o, none⟩) (Nat.lt_of_lt_of_le hS.1 r.le), r.own.on hb, r.sx.keep fun b o hS => hb.cell (p := ⟨b, o, none⟩) (Nat.lt_of_lt_of_le hS.1 r.le), r.be.trans (hb.mono r.be.size), Nat.le_trans r.le hb.size⟩
theorem TW.ww {w V : World} {n g : Nat} {s : Shp} {h : Hd} {A1 A2 : Option Addr} {q1 : Nat} {bs : List Bx} {st : List Stw} (r : TW w V n g s h A1 q1 bs A2 st) : WW w V g s h A1 bs A2 st := by
  obtain ⟨A, c, e, _, _, hs⟩ := OwnS.sl' r.own
  injection e with e1 _ _
  subst e1
  exact ⟨r.bk, r.rd.more fun x hx => Nat.lt_of_lt_of_le hx.1 r.le, hs, r.sx.more fun x hx => Nat.lt_of_lt_of_le hx.1 r.le, r.be⟩
theorem TW.form {w V : World} {n g : Nat} {s : Shp} {h : Hd} {A1 A2 : Option Addr} {q1 : Nat} {bs : List Bx} {st : List Stw} (r : TW w V n g s h A1 q1 bs A2 st) (hl : 0 < bs.length) : ∃ b, A1 = some ⟨b, 0, none⟩ := by
  obtain ⟨b, c, e, _⟩ := OwnS.form r.own hl
  injection e with e1 _ _
  exact ⟨b, e1⟩
theorem TW.cell {w V : World} {n g b : Nat} {s : Shp} {h : Hd} {A2 : Option Addr} {q1 : Nat} {bs : List Bx} {st : List Stw} (r : TW w V n g s h (some ⟨b, 0, none⟩) q1 bs A2 st) {k : Nat} {x : Bx} (hx : bs[k]? = some x) : V.cell? ⟨b, k * 9 + 4, none⟩ = some (.int .i64 x.kilos) ∧ V.frozen? ⟨b, k * 9 + 4, none⟩ = false := by
  obtain ⟨xs, ho, hfl, _⟩ := r.own
  obtain ⟨cs, hrd, hc⟩ := hfl.at_ hx
  have hrd' : cs = bxL x := hrd
  subst hrd'
  refine ⟨?_, ho.frozenAt _⟩
  have := ho.cells (g := b) rfl (k * 9 + 4) (.int .i64 x.kilos) (hc 4 _ rfl)
  rw [add_mk, Nat.zero_add] at this
  exact this
theorem TW.put {w V : World} {n g b : Nat} {s : Shp} {h : Hd} {A2 : Option Addr} {q1 : Nat} {bs : List Bx} {st : List Stw} (r : TW w V n g s h (some ⟨b, 0, none⟩) q1 bs A2 st) {k : Nat} {x : Bx} (hx : bs[k]? = some x) : TW w (V.setCell ⟨b, k * 9 + 4, none⟩ (.int .i64 12345)) n g s h (some ⟨b, 0, none⟩) q1 (bs.set k (eqBx x)) A2 st := by
  obtain ⟨cs, hkb⟩ : ∃ cs, Bk V b 43 cs := OwnS.blk r.own rfl
  have hne : g ≠ b := Bk.ne_ r.bk hkb (by decide)
  have hw : w.heap.size ≤ b := (r.own.lt b rfl).1
  have hf : ∀ x o, Off n (some ⟨b, 0, none⟩) x → (V.setCell ⟨b, k * 9 + 4, none⟩ (.int .i64 12345)).cell? ⟨x, o, none⟩ = V.cell? ⟨x, o, none⟩ := fun x o hS => cell_far (by
    intro e
    have e' : x = b := e
    subst e'
    exact hS.2 0 rfl)
  exact ⟨r.bk.far (p := ⟨b, k * 9 + 4, none⟩) hne _, r.rd.keep hf, OwnS.set (T := tBx) r.own hx (by decide) (fun cs h => by rw [show cs = bxL x from h]; rfl), r.sx.keep hf, r.be.setCell (by show w.heap.size ≤ b; exact hw) _, Nat.le_trans r.le (grown_setCell V ⟨b, k * 9 + 4, none⟩ _).size⟩
/-- What Check returns of a right state. -/
def ChkOK (w : World) (F : List Flt) (e : Ending) (w' : World) : Prop := ∃ A c, e = .returned (.tuple #[.slice A F.length c, .int .i64 0]) ∧ SlT tFlt w' (Lt w'.heap.size) A F ∧ Below w.heap.size w w'
theorem check_ok {w V : World} {g : Nat} {s : Shp} {h : Hd} {A1 A2 : Option Addr} {bs : List Bx} {st : List Stw} (q1 q3 : Nat) (r : WW w V g s h A1 bs A2 st) (hl : Lm s) (hkg : KgOK bs) (hbl : bs.length ≤ 1000000) (hsl : st.length ≤ 1000000) (hq : st.length ≤ q3) (ht : ∀ x ∈ st, x.slot.tier ≤ 9223372036854775807) (hr : stowRight s bs st = true) :
    Calls Try.prog 23 #[.agg (shpA s h), .slice A1 bs.length q1, .slice A2 st.length q3] V (ChkOK V (checkF s bs st s.cols.length)) := by
  refine (stCheck_any s h A1 q1 bs A2 q3 st V hkg hl.tol2 r.rd hl.few hl.ints hl.short r.bx hbl r.sx hsl hq ht).mono ?_
  rintro e w' ⟨v, rfl, ho, hb⟩
  unfold checkL at ho
  rw [if_pos hr] at ho
  obtain ⟨A', c', rfl, _, _, hs⟩ := ho.sl
  exact ⟨A', c', by rw [if_pos hr], hs, hb⟩
theorem check_few {s : Shp} (hl : Lm s) (bs : List Bx) {st : List Stw} (h : st.length ≤ 9) : (checkF s bs st s.cols.length).length ≤ 1000000 := by
  have h1 := checkF_len s bs st s.cols.length
  have h2 := Nat.mul_le_mul hl.twelve (show 3 + st.length ≤ 12 by omega)
  omega
set_option maxRecDepth 100000 in
set_option maxHeartbeats 8000000 in
theorem stackTops_any (A : Option Addr) (c : Nat) (pl : List (Nat × Nat × Nat × Bool)) (covers : Nat) (ha hb ht : Nat) (hha : ha < 256) (hhb : hb < 256) (hht : ht < 256) (A2 : Option Addr) (c2 : Nat) (ds : List Drp) (w : World)
    (hs : SlT tPl w (Lt w.heap.size) A pl) (hl : ∀ p ∈ pl, p.1 < 256 ∧ p.2.1 < 256 ∧ p.2.2.1 < 256) (hc : pl.length ≤ c) (hcm : c ≤ maxLen)
    (hs2 : SlT tDrp w (Lt w.heap.size) A2 ds) (hd : ∀ d ∈ ds, d.col < 256 ∧ d.kilos < 256) (hc2 : ds.length ≤ c2) (hcm2 : c2 ≤ maxLen) :
    Calls Try.prog 6 #[.slice A pl.length c, .int .u32 covers, .agg #[.int .u8 (ha : Nat), .int .u8 (hb : Nat), .int .u8 (ht : Nat)], .slice A2 ds.length c2] w (TrueRet w) := by
  have bw := ba1 w (.cells #[.int .u8 (ha : Nat), .int .u8 (hb : Nat), .int .u8 (ht : Nat)] 25)
  have kw := Bk.new w 25 #[.int .u8 (ha : Nat), .int .u8 (hb : Nat), .int .u8 (ht : Nat)]
  have HC := Lib.hid (limited_any A c pl covers ha hb ht hha hhb hht A2 c2 ds (w.alloc (.cells #[.int .u8 (ha : Nat), .int .u8 (hb : Nat), .int .u8 (ht : Nat)] 25)) (hs.on bw) hl hc hcm (hs2.on bw) hd hc2 hcm2)
  have HBW := Lib.hid bw
  have k0 : (w.alloc (.cells #[.int .u8 (ha : Nat), .int .u8 (hb : Nat), .int .u8 (ht : Nat)] 25)).cell? ⟨w.heap.size, 0, none⟩ = some (.int .u8 (ha : Nat)) := kw.cell 0
  have k1 : (w.alloc (.cells #[.int .u8 (ha : Nat), .int .u8 (hb : Nat), .int .u8 (ht : Nat)] 25)).cell? ⟨w.heap.size, 1, none⟩ = some (.int .u8 (hb : Nat)) := kw.cell 1
  have k2 : (w.alloc (.cells #[.int .u8 (ha : Nat), .int .u8 (hb : Nat), .int .u8 (ht : Nat)] 25)).cell? ⟨w.heap.size, 2, none⟩ = some (.int .u8 (ht : Nat)) := kw.cell 2
  clear hs hl hc hcm hs2 hd hc2 hcm2 bw kw
  go_enter Try.func6, Try.ntmps6
  go_wp2_with fail
  refine HC.out.mono ?_
  rintro e w1 ⟨s, h, v1, v2, bs, st, rfl, hLm, hLd, hrd, ob, os, hb1⟩
  simp only
  clear HC k0 k1 k2
  obtain ⟨A1, q1, rfl, hq1, hqm1, -⟩ := OwnS.sl' ob
  obtain ⟨A3, q3, rfl, hq3, hqm3, hss⟩ := OwnS.sl' os
  have hT : TW w (w1.alloc (.cells (shpA s h) 37)) w1.heap.size w1.heap.size s h A1 q1 bs A3 st := by
    have hx := ba1 w1 (.cells (shpA s h) 37)
    have h0 := HBW.out.trans (hb1.mono HBW.out.size)
    have hrd2 : ShpR w1 (Off w1.heap.size A1) s h := hrd.more fun x hx => ⟨hx.1, fun o e => hx.2.1 (by rw [e]; rfl)⟩
    have hss2 : SlT tStw w1 (Off w1.heap.size A1) A3 st := fun hn => by
      obtain ⟨b, off, e, hS, hcc⟩ := hss hn
      obtain ⟨cs, hk⟩ : ∃ cs, Bk w1 b 61 cs := OwnS.blk os (by rw [e]; rfl)
      exact ⟨b, off, e, ⟨hS, fun o e' => OwnP.ne ob hk (by decide) (by rw [e']; rfl)⟩, hcc⟩
    exact ⟨Bk.new w1 _ _, hrd2.keep fun b o hS => hx.cell (p := ⟨b, o, none⟩) hS.1, (ob.down (by simp)).on hx, hss2.keep fun b o hS => hx.cell (p := ⟨b, o, none⟩) hS.1, h0.trans (hx.mono h0.size), hx.size⟩
  have HT := Lib.hid hT
  have HLM := Lib.hid hLm
  have HLD := Lib.hid hLd
  have hsl := hLd.stlen
  have hbl9 := hLd.nine
  have hc1 := hLm.one
  have hc12 := hLm.twelve
  have HQ3 := Lib.hid hq3
  clear hT ob os hss hrd hb1 HBW hLm hLd hqm1 hqm3 hq1 hq3
  have HIN : Hid (∀ x ∈ st, 0 ≤ x.slot.tier ∧ x.slot.tier < 5 ∧ 0 ≤ x.slot.col ∧ x.slot.col < s.cols.length ∧ x.slot.half < 3) := Lib.hid fun x hx => HLD.out.tier HLM.out hx
  unfold shpA at HT ⊢
  go_upto_region 2 with fail
  generalize w1.heap.size = g at *
  generalize (w1.alloc _) = V at *
  clear w1
  have HCK := Lib.hid (check_ok q1 q3 HT.out.ww HLM.out HLD.out.kg HLD.out.bl HLD.out.sl HQ3.out (HLD.out.max HLM.out) HLD.out.right)
  have HTOP := Lib.hid (fun (x : Stw) (hx : x ∈ st) => top_told HLM.out HLD.out hx)
  have hFl := check_few HLM.out bs hsl
  generalize checkF s bs st s.cols.length = F at *
  have SC := HT.out.bk
  unfold shpA at HCK
  have e0 : V.cell? ⟨g, 0, none⟩ = some (.slice h.A1 s.cols.length h.c1) := SC.cell 0
  have e1 : V.cell? ⟨g, 1, none⟩ = some (.slice h.A2 s.covs.length h.c2) := SC.cell 1
  have e2 : V.cell? ⟨g, 2, none⟩ = some (.int .i64 s.l0) := SC.cell 2
  have e3 : V.cell? ⟨g, 3, none⟩ = some (.int .i64 s.l1) := SC.cell 3
  have e4 : V.cell? ⟨g, 4, none⟩ = some (.int .i64 s.l2) := SC.cell 4
  have e5 : V.cell? ⟨g, 5, none⟩ = some (.int .i64 s.l3) := SC.cell 5
  have e6 : V.cell? ⟨g, 6, none⟩ = some (.slice h.A3 s.rows.length h.c3) := SC.cell 6
  have e7 : V.cell? ⟨g, 7, none⟩ = some (.slice h.A4 s.frames.length h.c4) := SC.cell 7
  have e8 : V.cell? ⟨g, 8, none⟩ = some (.slice h.A5 s.tanks.length h.c5) := SC.cell 8
  have e9 : V.cell? ⟨g, 9, none⟩ = some (.int .i64 s.m0) := SC.cell 9
  have e10 : V.cell? ⟨g, 10, none⟩ = some (.int .i64 s.m1) := SC.cell 10
  have e11 : V.cell? ⟨g, 11, none⟩ = some (.int .i64 s.m2) := SC.cell 11
  have e12 : V.cell? ⟨g, 12, none⟩ = some (.int .i64 s.m3) := SC.cell 12
  clear SC
  go_wp2_with fail
  refine HCK.out.mono ?_
  rintro e V1 ⟨A7, c7, rfl, hs7, hb⟩
  simp only
  clear HCK
  clear e0 e1 e2 e3 e4 e5 e6 e7 e8 e9 e10 e11 e12
  have HSF := Lib.hid hs7
  replace HT := Lib.hid (HT.out.on hb)
  clear hs7 hb
  try clear V
  go_wp2_with fail
  go_loopw [47] (fun i wr => ∃ k : Nat, k ≤ st.length ∧ i = .int .i64 k ∧ Hid (Below V1.heap.size V1 wr)) (fun i _ => st.length - (intOf i).toNat)
  case atStart => exact ⟨0, Nat.zero_le _, rfl, Lib.hid (Below.refl _ _)⟩
  case round =>
    obtain ⟨k, hk, rfl, HB⟩ := hrel
    obtain ⟨W, rfl⟩ : ∃ V, V = wr := ⟨_, rfl⟩
    by_cases hlt : k < st.length
    · have i0 : (0 : Int) ≤ (k : Int) := by omega
      have i1 : (k : Int) < (st.length : Int) := by omega
      have HWW := Lib.hid ((HT.out.on HB.out).ww)
      obtain ⟨b, off, rfl, hbB, c0, c1, c2', c3⟩ := HWW.out.sx.stw hlt
      have HX := Lib.hid (HLD.out.box_at (getD_memD hlt default))
      have HXM := Lib.hid (getD_memD hlt default)
      have hkg := find_kg HLD.out.kg (st.getD k default).box
      have HWT : Hid (∀ dk : Bool, (s.cols.getD (st.getD k default).slot.col.toNat default).deck = dk → wantTop s bs st (st.getD k default) = (dk && (decide (0 < (st.getD k default).slot.tier) && decide (sumF bs st (belowB (st.getD k default).slot) + s.m0 < (findBx bs (st.getD k default).box).1.kilos)))) := Lib.hid fun dk h => by rw [← h]; rfl
      generalize st.getD k default = x at *
      obtain ⟨xb, xc, xt, xh⟩ := x
      obtain ⟨t0', t1', xc0, xc1, xh3⟩ := HIN.out _ HXM.out
      simp only at c0 c1 c2' c3 t0' t1' xc0 xc1 xh3 hkg HX
      obtain ⟨kc, rfl⟩ : ∃ kc : Nat, xc = (kc : Int) := ⟨xc.toNat, by omega⟩
      have HTK : Hid (hasF F ⟨(kc : Nat), 4, xb⟩ = wantTop s bs st ⟨xb, (kc : Nat), xt, xh⟩) := Lib.hid (HTOP.out _ HXM.out)
      have hY := ba1 W (.cells #[.int .i64 xb, .int .i64 (kc : Nat), .int .i64 xt, .int .u8 (xh : Nat)] 61)
      have HKX := Lib.hid (Bk.new W 61 #[.int .i64 xb, .int .i64 (kc : Nat), .int .i64 xt, .int .u8 (xh : Nat)])
      have HB1 := Lib.hid (HB.out.trans (hY.mono HB.out.size))
      clear HB
      have HWY := Lib.hid (HWW.out.on hY)
      have KF := Lib.hid (stowFind_any A1 q1 bs xb _ HWY.out.bx HLD.out.bl)
      generalize hfb : findBx bs xb = fb at *
      clear hfb
      obtain ⟨⟨z0, z1, z2, z3, z4, z5, z6, z7, z8⟩, ok⟩ := fb
      obtain rfl : ok = true := HX.out.1
      unfold bxL at KF
      simp only at hkg KF HWT
      obtain ⟨kz0, kz1⟩ := hkg
      clear hY HX HWW
      go_upto_region 8 with fail
      clear c0 c1 c2' c3
      generalize W.heap.size = gx at *
      generalize (W.alloc _) = Y at *
      try clear W
      have x0 : Y.cell? ⟨gx, 0, none⟩ = some (.int .i64 xb) := HKX.out.cell 0
      go_wp2_with fail
      refine KF.out.mono ?_
      rintro e Y1 ⟨rfl, hb⟩
      simp only
      clear KF x0
      have hZ := ba1 Y1 (.cells #[.int .i64 z0, .string z1, .int .u8 (z2 : Nat), .bool z3, .int .i64 z4, .int .i64 z5, .int .i64 z6, .int .u8 (z7 : Nat), .bool z8] 43)
      have HKB := Lib.hid ((Bk.new Y1 43 #[.int .i64 z0, .string z1, .int .u8 (z2 : Nat), .bool z3, .int .i64 z4, .int .i64 z5, .int .i64 z6, .int .u8 (z7 : Nat), .bool z8]))
      have HKX2 := Lib.hid ((HKX.out.below hb HKX.out.lt).below hZ (HKX.out.below hb HKX.out.lt).lt)
      have HB2 := Lib.hid ((HB1.out.trans (hb.mono HB1.out.size)).trans (hZ.mono (HB1.out.trans (hb.mono HB1.out.size)).size))
      clear hb hZ HKX HB1 HWY
      go_upto_region 9 with fail
      generalize Y1.heap.size = gb at *
      generalize (Y1.alloc _) = X at *
      try clear Y1
      try clear Y
      go_wp2_with fail
      go_loopw [18, 60] (fun uv i wx => ∃ (j : Nat) (U : Int), j ≤ st.length ∧ i = .int .i64 j ∧ uv = .int .i64 U ∧ Hid (U = sumF bs (st.take j) (belowB ⟨(kc : Nat), xt, xh⟩)) ∧ Hid (Below X.heap.size X wx)) (fun _ i _ => st.length - (intOf i).toNat)
      case atStart => exact ⟨0, 0, Nat.zero_le _, rfl, rfl, Lib.hid rfl, Lib.hid (Below.refl _ _)⟩
      case round =>
        obtain ⟨j, U, hj, rfl, rfl, HU, HBx⟩ := hrel
        obtain ⟨Q, rfl⟩ : ∃ V, V = wr := ⟨_, rfl⟩
        have HBQ : Hid (Below V1.heap.size V1 Q) := Lib.hid (HB2.out.trans (HBx.out.mono HB2.out.size))
        by_cases hjl : j < st.length
        · have HWW := Lib.hid ((HT.out.on HBQ.out).ww)
          obtain ⟨b2, off2, hA3, hbB2, c0, c1, c2', c3⟩ := HWW.out.sx.stw hjl
          injection hA3 with hA3
          injection hA3 with hA31 hA32 _
          subst hA31 hA32
          have HX := Lib.hid (HLD.out.box_at (getD_memD hjl default))
          have hkg := find_kg HLD.out.kg (st.getD j default).box
          have HU2 : Hid (sumF bs (st.take (j + 1)) (belowB ⟨(kc : Nat), xt, xh⟩) = sumF bs (st.take j) (belowB ⟨(kc : Nat), xt, xh⟩) + if belowB ⟨(kc : Nat), xt, xh⟩ (st.getD j default).slot = true then (findBx bs (st.getD j default).box).1.kilos else 0) := Lib.hid (sumF_take bs st (belowB ⟨(kc : Nat), xt, xh⟩) hjl)
          have HOB := Lib.hid (over_below ⟨(kc : Nat), xt, xh⟩ (st.getD j default).slot)
          have u1 := sumF_take_bd HLD.out.kg st (belowB ⟨(kc : Nat), xt, xh⟩) j
          rw [← HU.out] at u1
          have KF := Lib.hid (fun (V' : World) (hV : Below Q.heap.size Q V') => stowFind_any A1 q1 bs (st.getD j default).box V' (HWW.out.on hV).bx HLD.out.bl)
          have KOV : Hid (∀ V' : World, Calls Try.prog 24 #[.agg #[.int .i64 (kc : Nat), .int .i64 xt, .int .u8 (xh : Nat)], .agg #[.int .i64 (st.getD j default).slot.col, .int .i64 (st.getD j default).slot.tier, .int .u8 ((st.getD j default).slot.half : Nat)]] V' (Ret V' (.bool (overB ⟨(kc : Nat), xt, xh⟩ (st.getD j default).slot)))) := Lib.hid fun V' => over_any ⟨(kc : Nat), xt, xh⟩ (st.getD j default).slot V'
          rw [← HU.out] at HU2
          generalize st.getD j default = y at *
          obtain ⟨yb, yc, yt, yh⟩ := y
          simp only at c0 c1 c2' c3 hkg KF HX HU2 HOB KOV
          generalize findBx bs yb = fb at *
          obtain ⟨⟨y0, y1, y2, y3, y4, y5, y6, y7, y8⟩, ok⟩ := fb
          obtain rfl : ok = true := HX.out.1
          simp only at hkg HU2 KF
          obtain ⟨g0, g1⟩ := hkg
          obtain ⟨n0, n1⟩ : -9000000000000 ≤ U ∧ U ≤ 9000000000000 := by omega
          have j0 : (0 : Int) ≤ (j : Int) := by omega
          have j1 : (j : Int) < (st.length : Int) := by omega
          have hj1 : j + 1 ≤ st.length := hjl
          clear u1 HX HU
          have HKY := Lib.hid (Bk.new Q 61 #[.int .i64 yb, .int .i64 yc, .int .i64 yt, .int .u8 (yh : Nat)])
          have hY2 := ba1 Q (.cells #[.int .i64 yb, .int .i64 yc, .int .i64 yt, .int .u8 (yh : Nat)] 61)
          have KF2 := Lib.hid (KF.out _ hY2)
          have HBX2 := Lib.hid (HBx.out.trans (hY2.mono HBx.out.size))
          clear KF hY2 HBx HWW
          unfold bxL at KF2
          simp only at KF2
          go_upto_region 13 with fail
          clear c0 c1 c2' c3
          generalize Q.heap.size = gy at *
          generalize (Q.alloc _) = Q2 at *
          try clear Q
          have x0 : Q2.cell? ⟨gy, 0, none⟩ = some (.int .i64 yb) := HKY.out.cell 0
          go_wp2_with fail
          refine KF2.out.mono ?_
          rintro e Q3 ⟨rfl, hb⟩
          simp only
          clear KF2 x0
          have hZ := ba1 Q3 (.cells #[.int .i64 y0, .string y1, .int .u8 (y2 : Nat), .bool y3, .int .i64 y4, .int .i64 y5, .int .i64 y6, .int .u8 (y7 : Nat), .bool y8] 43)
          have HKC := Lib.hid ((Bk.new Q3 43 #[.int .i64 y0, .string y1, .int .u8 (y2 : Nat), .bool y3, .int .i64 y4, .int .i64 y5, .int .i64 y6, .int .u8 (y7 : Nat), .bool y8]))
          have HKY3 := Lib.hid ((HKY.out.below hb HKY.out.lt).below hZ (HKY.out.below hb HKY.out.lt).lt)
          have HBX3 := Lib.hid ((HBX2.out.trans (hb.mono HBX2.out.size)).trans (hZ.mono (HBX2.out.trans (hb.mono HBX2.out.size)).size))
          clear hb hZ HKY HBX2
          go_upto_region 14 with fail
          generalize Q3.heap.size = gz at *
          generalize (Q3.alloc _) = Z at *
          try clear Q3
          try clear Q2
          have HKX9 := Lib.hid (HKX2.out.below HBX3.out HKX2.out.lt)
          have g1' : ∀ p : Gr Z, p.W.cell? ⟨gx, 1, none⟩ = some (.int .i64 (kc : Nat)) := Gr.cell (HKX9.out.cell 1)
          have g2' : ∀ p : Gr Z, p.W.cell? ⟨gx, 2, none⟩ = some (.int .i64 xt) := Gr.cell (HKX9.out.cell 2)
          have g3' : ∀ p : Gr Z, p.W.cell? ⟨gx, 3, none⟩ = some (.int .u8 (xh : Nat)) := Gr.cell (HKX9.out.cell 3)
          have h1' : ∀ p : Gr Z, p.W.cell? ⟨gy, 1, none⟩ = some (.int .i64 yc) := Gr.cell (HKY3.out.cell 1)
          have h2' : ∀ p : Gr Z, p.W.cell? ⟨gy, 2, none⟩ = some (.int .i64 yt) := Gr.cell (HKY3.out.cell 2)
          have h3' : ∀ p : Gr Z, p.W.cell? ⟨gy, 3, none⟩ = some (.int .u8 (yh : Nat)) := Gr.cell (HKY3.out.cell 3)
          clear HKX9 HKY3
          cases hov : overB ⟨(kc : Nat), xt, xh⟩ ⟨yc, yt, yh⟩ with
          | false =>
            rw [hov] at KOV HOB
            have HUF : Hid (U = sumF bs (st.take (j + 1)) (belowB ⟨(kc : Nat), xt, xh⟩)) := Lib.hid (by rw [HU2.out, ← HOB.out]; simp)
            clear HOB hov
            refine wp_region_grs ?_
            repeat (go_big_quiet_step ((first | (with_reducible exact Gr.call _ (fun V hV => KOV.out V)))))
            refine wpQuiet_nil ?_
            rintro Y9 ⟨⟨_, hbY⟩, rfl⟩
            clear g1' g2' g3' h1' h2' h3' KOV
            replace HBX3 := Lib.hid (HBX3.out.trans (hbY.mono HBX3.out.size))
            have y4c : Y9.cell? ⟨gz, 4, none⟩ = some (.int .i64 y4) := (HKC.out.below hbY HKC.out.lt).cell 4
            clear hbY
            clear HU2
            go_wp2_with fail
            go_roundw
            case rel => (repeat apply Exists.intro); (first | exact ⟨⟨j + 1, U, hj1, by go_num, rfl, HUF, HBX3⟩, rfl⟩ | exact ⟨hj1, by go_num, rfl, HUF, HBX3⟩)
            case measure => simp [intOf]; omega
          | true =>
            rw [hov] at KOV HOB
            by_cases hyt : yt = xt - 1
            · have heq : (yt == xt - 1) = true := by simp [hyt]
              have HUF : Hid (U + y4 = sumF bs (st.take (j + 1)) (belowB ⟨(kc : Nat), xt, xh⟩)) := Lib.hid (by rw [HU2.out, ← HOB.out, heq]; simp)
              clear HOB hov hyt
              refine wp_region_grs ?_
              repeat (go_big_quiet_step ((first | (with_reducible exact Gr.call _ (fun V hV => KOV.out V)))))
              refine wpQuiet_nil ?_
              rintro Y9 ⟨⟨_, hbY⟩, rfl⟩
              clear g1' g2' g3' h1' h2' h3' KOV
              replace HBX3 := Lib.hid (HBX3.out.trans (hbY.mono HBX3.out.size))
              have y4c : Y9.cell? ⟨gz, 4, none⟩ = some (.int .i64 y4) := (HKC.out.below hbY HKC.out.lt).cell 4
              clear hbY
              clear heq
              clear HU2
              go_wp2_with fail
              go_roundw
              case rel => (repeat apply Exists.intro); (first | exact ⟨⟨j + 1, U + y4, hj1, by go_num, rfl, HUF, HBX3⟩, rfl⟩ | exact ⟨hj1, by go_num, rfl, HUF, HBX3⟩)
              case measure => simp [intOf]; omega
            · have heq : (yt == xt - 1) = false := by simp [hyt]
              have HUF : Hid (U = sumF bs (st.take (j + 1)) (belowB ⟨(kc : Nat), xt, xh⟩)) := Lib.hid (by rw [HU2.out, ← HOB.out, heq]; simp)
              clear HOB hov hyt
              refine wp_region_grs ?_
              repeat (go_big_quiet_step ((first | (with_reducible exact Gr.call _ (fun V hV => KOV.out V)))))
              refine wpQuiet_nil ?_
              rintro Y9 ⟨⟨_, hbY⟩, rfl⟩
              clear g1' g2' g3' h1' h2' h3' KOV
              replace HBX3 := Lib.hid (HBX3.out.trans (hbY.mono HBX3.out.size))
              have y4c : Y9.cell? ⟨gz, 4, none⟩ = some (.int .i64 y4) := (HKC.out.below hbY HKC.out.lt).cell 4
              clear hbY
              clear heq
              clear HU2
              go_wp2_with fail
              go_roundw
              case rel => (repeat apply Exists.intro); (first | exact ⟨⟨j + 1, U, hj1, by go_num, rfl, HUF, HBX3⟩, rfl⟩ | exact ⟨hj1, by go_num, rfl, HUF, HBX3⟩)
              case measure => simp [intOf]; omega
        · obtain rfl : j = st.length := by omega
          rw [List.take_length] at HU
          have u1 := sumF_bd HLD.out.kg st (belowB ⟨(kc : Nat), xt, xh⟩)
          rw [← HU.out] at u1
          rw [← HU.out] at HWT
          obtain ⟨n0, n1⟩ : -9000000000000 ≤ U ∧ U ≤ 9000000000000 := by omega
          have hF0 := HLM.out.tol2
          obtain ⟨m0', m1'⟩ := hF0
          have HWW := Lib.hid ((HT.out.on HBQ.out).ww)
          have HKX9 := Lib.hid (HKX2.out.below HBx.out HKX2.out.lt)
          have HKB9 := Lib.hid (HKB.out.below HBx.out HKB.out.lt)
          have KHS : Hid (∀ V' : World, Below Q.heap.size Q V' → Calls Try.prog 25 #[.slice A7 F.length c7, .agg #[.int .i64 (kc : Nat), .int .u8 4, .int .i64 xb]] V' (Ret V' (.bool (wantTop s bs st ⟨xb, (kc : Nat), xt, xh⟩)))) := Lib.hid fun V' hV => by
            have k1 := has_any A7 c7 F ⟨(kc : Nat), 4, xb⟩ V' ((HSF.out.on HBQ.out).on hV) hFl
            rw [HTK.out] at k1
            exact k1
          have KBE : Hid (∀ V' : World, Below Q.heap.size Q V' → Calls Try.prog 26 #[.slice A1 bs.length q1, .slice (some ⟨b, off, none⟩) st.length q3, .agg #[.int .i64 (kc : Nat), .int .i64 xt, .int .u8 (xh : Nat)]] V' (Ret V' (.int .i64 U))) := Lib.hid fun V' hV => by
            have k1 := stackBelow_any A1 q1 bs (some ⟨b, off, none⟩) q3 st ⟨(kc : Nat), xt, xh⟩ V' HLD.out.kg (HWW.out.on hV).bx HLD.out.bl (HWW.out.on hV).sx HLD.out.sl (by simp only; omega)
            rw [← HU.out] at k1
            exact k1
          have hkc : kc < s.cols.length := by omega
          obtain ⟨b3, off3, Ap, q, hA1, hbB3, hpq, hpl, d0, d1, d2, d3, d4, d5, d6, d7, d8, d9, d10, d11⟩ := HWW.out.rd.cols.col (i := kc) hkc
          clear d0 d1 d3 d4 d5 d6 d7 d8 d9 d10 d11 hpq hpl
          have e0 : Q.cell? ⟨g, 0, none⟩ = some (.slice h.A1 s.cols.length h.c1) := HWW.out.bk.cell 0
          have e9 : Q.cell? ⟨g, 9, none⟩ = some (.int .i64 s.m0) := HWW.out.bk.cell 9
          rw [hA1] at e0
          clear hA1
          replace HWT := Lib.hid (HWT.out _ rfl)
          rw [Int.toNat_natCast] at HWT
          generalize (s.cols.getD kc default).deck = dk at *
          have t1 : Q.cell? ⟨gx, 1, none⟩ = some (.int .i64 (kc : Nat)) := HKX9.out.cell 1
          have t2 : Q.cell? ⟨gx, 2, none⟩ = some (.int .i64 xt) := HKX9.out.cell 2
          have n4 : Q.cell? ⟨gb, 4, none⟩ = some (.int .i64 z4) := HKB9.out.cell 4
          have kc0 : (0 : Int) ≤ (kc : Int) := by omega
          clear HU u1 HBx HKX2 HKB HKB9 HB2 HWW
          cases dk with
          | false =>
            have hwt : wantTop s bs st ⟨xb, (kc : Nat), xt, xh⟩ = false := by rw [HWT.out]; rfl
            go_upto_region 18 with fail
            clear t1 t2 n4 d2 e0 e9
            rw [hwt] at KHS
            have f0 : ∀ p : Gr Q, p.W.cell? ⟨gx, 0, none⟩ = some (.int .i64 xb) := Gr.cell (HKX9.out.cell 0)
            have f1 : ∀ p : Gr Q, p.W.cell? ⟨gx, 1, none⟩ = some (.int .i64 (kc : Nat)) := Gr.cell (HKX9.out.cell 1)
            have f2 : ∀ p : Gr Q, p.W.cell? ⟨gx, 2, none⟩ = some (.int .i64 xt) := Gr.cell (HKX9.out.cell 2)
            have f3 : ∀ p : Gr Q, p.W.cell? ⟨gx, 3, none⟩ = some (.int .u8 (xh : Nat)) := Gr.cell (HKX9.out.cell 3)
            refine wp_region_grs ?_
            repeat (go_big_quiet_step ((first | (with_reducible exact Gr.call _ (fun V hV => KHS.out V hV)) | (with_reducible exact Gr.call _ (fun V hV => KBE.out V hV)))))
            refine wpQuiet_nil ?_
            rintro Y9 ⟨⟨_, hbY⟩, rfl⟩
            clear f0 f1 f2 f3 KHS KBE
            have HB9 := Lib.hid (HBQ.out.trans (hbY.mono HBQ.out.size))
            clear hbY
            go_wp2_with fail
            go_roundw
            case rel => (repeat apply Exists.intro); (first | exact ⟨⟨k + 1, hlt, by go_num, HB9⟩, rfl⟩ | exact ⟨hlt, by go_num, HB9⟩)
            case measure => simp [intOf]; omega
          | true =>
            by_cases ht0 : 0 < xt
            · by_cases hgt : U + s.m0 < z4
              · have hwt : wantTop s bs st ⟨xb, (kc : Nat), xt, xh⟩ = true := by rw [HWT.out]; simp [ht0, hgt]
                go_upto_region 18 with fail
                clear t1 t2 n4 d2 e0 e9
                rw [hwt] at KHS
                have f0 : ∀ p : Gr Q, p.W.cell? ⟨gx, 0, none⟩ = some (.int .i64 xb) := Gr.cell (HKX9.out.cell 0)
                have f1 : ∀ p : Gr Q, p.W.cell? ⟨gx, 1, none⟩ = some (.int .i64 (kc : Nat)) := Gr.cell (HKX9.out.cell 1)
                have f2 : ∀ p : Gr Q, p.W.cell? ⟨gx, 2, none⟩ = some (.int .i64 xt) := Gr.cell (HKX9.out.cell 2)
                have f3 : ∀ p : Gr Q, p.W.cell? ⟨gx, 3, none⟩ = some (.int .u8 (xh : Nat)) := Gr.cell (HKX9.out.cell 3)
                refine wp_region_grs ?_
                repeat (go_big_quiet_step ((first | (with_reducible exact Gr.call _ (fun V hV => KHS.out V hV)) | (with_reducible exact Gr.call _ (fun V hV => KBE.out V hV)))))
                refine wpQuiet_nil ?_
                rintro Y9 ⟨⟨_, hbY⟩, rfl⟩
                clear f0 f1 f2 f3 KHS KBE
                have HB9 := Lib.hid (HBQ.out.trans (hbY.mono HBQ.out.size))
                clear hbY
                go_wp2_with fail
                go_roundw
                case rel => (repeat apply Exists.intro); (first | exact ⟨⟨k + 1, hlt, by go_num, HB9⟩, rfl⟩ | exact ⟨hlt, by go_num, HB9⟩)
                case measure => simp [intOf]; omega
              · have hwt : wantTop s bs st ⟨xb, (kc : Nat), xt, xh⟩ = false := by rw [HWT.out]; simp [ht0, hgt]
                go_upto_region 18 with fail
                clear t1 t2 n4 d2 e0 e9
                rw [hwt] at KHS
                have f0 : ∀ p : Gr Q, p.W.cell? ⟨gx, 0, none⟩ = some (.int .i64 xb) := Gr.cell (HKX9.out.cell 0)
                have f1 : ∀ p : Gr Q, p.W.cell? ⟨gx, 1, none⟩ = some (.int .i64 (kc : Nat)) := Gr.cell (HKX9.out.cell 1)
                have f2 : ∀ p : Gr Q, p.W.cell? ⟨gx, 2, none⟩ = some (.int .i64 xt) := Gr.cell (HKX9.out.cell 2)
                have f3 : ∀ p : Gr Q, p.W.cell? ⟨gx, 3, none⟩ = some (.int .u8 (xh : Nat)) := Gr.cell (HKX9.out.cell 3)
                refine wp_region_grs ?_
                repeat (go_big_quiet_step ((first | (with_reducible exact Gr.call _ (fun V hV => KHS.out V hV)) | (with_reducible exact Gr.call _ (fun V hV => KBE.out V hV)))))
                refine wpQuiet_nil ?_
                rintro Y9 ⟨⟨_, hbY⟩, rfl⟩
                clear f0 f1 f2 f3 KHS KBE
                have HB9 := Lib.hid (HBQ.out.trans (hbY.mono HBQ.out.size))
                clear hbY
                go_wp2_with fail
                go_roundw
                case rel => (repeat apply Exists.intro); (first | exact ⟨⟨k + 1, hlt, by go_num, HB9⟩, rfl⟩ | exact ⟨hlt, by go_num, HB9⟩)
                case measure => simp [intOf]; omega
            · have hwt : wantTop s bs st ⟨xb, (kc : Nat), xt, xh⟩ = false := by rw [HWT.out]; simp [ht0]
              go_upto_region 18 with fail
              clear t1 t2 n4 d2 e0 e9
              rw [hwt] at KHS
              have f0 : ∀ p : Gr Q, p.W.cell? ⟨gx, 0, none⟩ = some (.int .i64 xb) := Gr.cell (HKX9.out.cell 0)
              have f1 : ∀ p : Gr Q, p.W.cell? ⟨gx, 1, none⟩ = some (.int .i64 (kc : Nat)) := Gr.cell (HKX9.out.cell 1)
              have f2 : ∀ p : Gr Q, p.W.cell? ⟨gx, 2, none⟩ = some (.int .i64 xt) := Gr.cell (HKX9.out.cell 2)
              have f3 : ∀ p : Gr Q, p.W.cell? ⟨gx, 3, none⟩ = some (.int .u8 (xh : Nat)) := Gr.cell (HKX9.out.cell 3)
              refine wp_region_grs ?_
              repeat (go_big_quiet_step ((first | (with_reducible exact Gr.call _ (fun V hV => KHS.out V hV)) | (with_reducible exact Gr.call _ (fun V hV => KBE.out V hV)))))
              refine wpQuiet_nil ?_
              rintro Y9 ⟨⟨_, hbY⟩, rfl⟩
              clear f0 f1 f2 f3 KHS KBE
              have HB9 := Lib.hid (HBQ.out.trans (hbY.mono HBQ.out.size))
              clear hbY
              go_wp2_with fail
              go_roundw
              case rel => (repeat apply Exists.intro); (first | exact ⟨⟨k + 1, hlt, by go_num, HB9⟩, rfl⟩ | exact ⟨hlt, by go_num, HB9⟩)
              case measure => simp [intOf]; omega
    · have HTV := Lib.hid (HT.out.on HB.out)
      clear HT HB HTOP HSF hFl HIN
      go_wp2_with fail
      go_loopw [137] (fun i wr => ∃ k : Nat, k ≤ bs.length ∧ i = .int .i64 k ∧ Hid (TW w wr g g s h A1 q1 (eqTo bs k) A3 st)) (fun i _ => bs.length - (intOf i).toNat)
      case atStart => exact ⟨0, Nat.zero_le _, rfl, Lib.hid (by rw [eqTo_zero]; exact HTV.out)⟩
      case round =>
        obtain ⟨j, hj, rfl, HR⟩ := hrel
        obtain ⟨Q, rfl⟩ : ∃ V, V = wr := ⟨_, rfl⟩
        by_cases hjl : j < bs.length
        · have hx := eqTo_at bs hjl
          obtain ⟨b, rfl⟩ := HR.out.form (by rw [eqTo_len]; omega)
          obtain ⟨d4, f4⟩ := HR.out.cell hx
          have HP := Lib.hid (HR.out.put hx)
          rw [eqTo_set bs hjl] at HP
          have j0 : (0 : Int) ≤ (j : Int) := by omega
          have j1 : (j : Int) < (bs.length : Int) := by omega
          clear hx HR
          go_wp2_with fail
          go_roundw
          case rel => (repeat apply Exists.intro); (first | exact ⟨⟨j + 1, hjl, by go_num, HP⟩, rfl⟩ | exact ⟨hjl, by go_num, HP⟩)
          case measure => simp [intOf]; omega
        · obtain rfl : j = bs.length := by omega
          rw [eqTo_all] at HR
          clear HTV
          have hlen : (bs.map eqBx).length = bs.length := by simp
          have HCK := Lib.hid (check_ok q1 q3 HR.out.ww HLM.out (eq_kg bs) (by rw [hlen]; exact HLD.out.bl) HLD.out.sl HQ3.out (HLD.out.max HLM.out) (eq_right HLD.out.right))
          rw [hlen] at HCK
          have HNO := Lib.hid (fun (f : Flt) (hf : f ∈ checkF s (bs.map eqBx) st s.cols.length) => no_top HLM.out HLD.out hf)
          have hFl := check_few HLM.out (bs.map eqBx) hsl
          generalize checkF s (bs.map eqBx) st s.cols.length = F2 at *
          have SC := HR.out.bk
          unfold shpA at HCK
          have HBE := Lib.hid HR.out.be
          clear HR hlen
          have e0 : Q.cell? ⟨g, 0, none⟩ = some (.slice h.A1 s.cols.length h.c1) := SC.cell 0
          have e1 : Q.cell? ⟨g, 1, none⟩ = some (.slice h.A2 s.covs.length h.c2) := SC.cell 1
          have e2 : Q.cell? ⟨g, 2, none⟩ = some (.int .i64 s.l0) := SC.cell 2
          have e3 : Q.cell? ⟨g, 3, none⟩ = some (.int .i64 s.l1) := SC.cell 3
          have e4 : Q.cell? ⟨g, 4, none⟩ = some (.int .i64 s.l2) := SC.cell 4
          have e5 : Q.cell? ⟨g, 5, none⟩ = some (.int .i64 s.l3) := SC.cell 5
          have e6 : Q.cell? ⟨g, 6, none⟩ = some (.slice h.A3 s.rows.length h.c3) := SC.cell 6
          have e7 : Q.cell? ⟨g, 7, none⟩ = some (.slice h.A4 s.frames.length h.c4) := SC.cell 7
          have e8 : Q.cell? ⟨g, 8, none⟩ = some (.slice h.A5 s.tanks.length h.c5) := SC.cell 8
          have e9 : Q.cell? ⟨g, 9, none⟩ = some (.int .i64 s.m0) := SC.cell 9
          have e10 : Q.cell? ⟨g, 10, none⟩ = some (.int .i64 s.m1) := SC.cell 10
          have e11 : Q.cell? ⟨g, 11, none⟩ = some (.int .i64 s.m2) := SC.cell 11
          have e12 : Q.cell? ⟨g, 12, none⟩ = some (.int .i64 s.m3) := SC.cell 12
          clear SC
          go_wp2_with fail
          refine HCK.out.mono ?_
          rintro e V2 ⟨A8, c8, rfl, hs8, hb⟩
          simp only
          clear HCK
          clear e0 e1 e2 e3 e4 e5 e6 e7 e8 e9 e10 e11 e12
          have HSF := Lib.hid hs8
          replace HBE := Lib.hid (HBE.out.trans (hb.mono HBE.out.size))
          clear hs8 hb
          try clear Q
          go_wp2_with fail
          go_loopw [154] (fun i wr => ∃ k : Nat, k ≤ F2.length ∧ i = .int .i64 k ∧ Hid (Below V2.heap.size V2 wr)) (fun i _ => F2.length - (intOf i).toNat)
          case atStart => exact ⟨0, Nat.zero_le _, rfl, Lib.hid (Below.refl _ _)⟩
          case round =>
            obtain ⟨i', hi', rfl, HBf⟩ := hrel
            obtain ⟨Z, rfl⟩ : ∃ V, V = wr := ⟨_, rfl⟩
            by_cases hif : i' < F2.length
            · obtain ⟨b, off, hA7, hbB, c0, c1, c2'⟩ := (HSF.out.below HBf.out).flt hif
              subst hA7
              obtain ⟨hk1, hk4⟩ := HNO.out _ (getD_memD hif default)
              have HBG := Lib.hid (HBf.out.trans ((ba1 Z (.cells #[.int .i64 (F2.getD i' default).col, .int .u8 ((F2.getD i' default).kind : Nat), .int .i64 (F2.getD i' default).box] 65)).mono HBf.out.size))
              have HKF := Lib.hid (Bk.new Z 65 #[.int .i64 (F2.getD i' default).col, .int .u8 ((F2.getD i' default).kind : Nat), .int .i64 (F2.getD i' default).box])
              generalize F2.getD i' default = f at *
              obtain ⟨fc, fk, fx⟩ := f
              simp only at c0 c1 c2' hk1 hk4 HBG HKF
              have i0 : (0 : Int) ≤ (i' : Int) := by omega
              have i1 : (i' : Int) < (F2.length : Int) := by omega
              have hi1 : i' + 1 ≤ F2.length := hif
              have hk5 : fk < 256 := by omega
              clear HBf
              go_upto_region 30 with fail
              clear c0 c1 c2'
              generalize Z.heap.size = gz at *
              generalize (Z.alloc _) = Z2 at *
              try clear Z
              have f1 : Z2.cell? ⟨gz, 1, none⟩ = some (.int .u8 (fk : Nat)) := HKF.out.cell 1
              clear HKF
              obtain rfl | rfl | rfl : fk = 1 ∨ fk = 2 ∨ fk = 3 := by omega
              all_goals
                go_wp2_with fail
                go_roundw
                case rel => (repeat apply Exists.intro); (first | exact ⟨⟨i' + 1, hi1, by go_num, HBG⟩, rfl⟩ | exact ⟨hi1, by go_num, HBG⟩)
                case measure => simp [intOf]; omega
            · have HBZ := Lib.hid (HBE.out.trans (HBf.out.mono HBE.out.size))
              obtain rfl : i' = F2.length := by omega
              clear HBf HSF HNO hFl HBE
              go_wp2_with fail
              refine (awake10_true _).mono ?_
              rintro e W1 ⟨rfl, hb⟩
              simp only
              go_wp2_with fail
              go_ret
              exact ⟨rfl, HBZ.out.trans (hb.mono HBZ.out.size)⟩
end Go.Proofs.Ytncfakkajknhaaa
