/-
  The walk of the statement StackRoom.
-/
import Derived.Test.YtncfakkajknhaaaStRf
import Derived.Test.YtncfakkajknhaaaStRw
import Derived.Test.YtncfakkajknhaaaStY
namespace Go.Proofs.Ytncfakkajknhaaa
open Go.RowKit

theorem all_tier {s : Shp} (hl : Lm s) (size : Nat) : ∀ x ∈ allF s size, x.tier ≤ 9223372036854775807 := fun x hx => by
  obtain ⟨c, t, _, h2, _, h4, _⟩ := mem_all.1 hx
  have := hl.tiersN c
  omega
/-- The blocks that are there, but for one. -/
def No (n gb : Nat) (b : Nat) : Prop := b < n ∧ b ≠ gb
theorem No.on {n n' gb : Nat} (h : n ≤ n') : ∀ b, No n gb b → No n' gb b := fun _ hb => ⟨Nat.lt_of_lt_of_le hb.1 h, hb.2⟩
theorem No.lt {n gb : Nat} : ∀ b, No n gb b → Lt n b := fun _ hb => hb.1
/-- The box that is put. -/
def putB (sz : Nat) (kg : Int) : Bx := ⟨900, ⟨#[]⟩, sz, false, kg, 0, 1, 0, false⟩
def putC (sz : Nat) (kg : Int) : Array Value := #[.int .i64 900, .string ⟨#[]⟩, .int .u8 (sz : Nat), .bool false, .int .i64 kg, .int .i64 0, .int .i64 1, .int .u8 0, .bool false]
/-- A ship in its variable, boxes and a state, to read; a box in a variable that is written. -/
structure RW (w V : World) (g gb : Nat) (s : Shp) (h : Hd) (A1 : Option Addr) (bs : List Bx) (A2 : Option Addr) (st : List Stw) (sz : Nat) (kg : Int) : Prop where
  bk : Bk V g 37 (shpA s h)
  rd : ShpR V (No V.heap.size gb) s h
  bx : SlT tBx V (No V.heap.size gb) A1 bs
  sx : SlT tStw V (No V.heap.size gb) A2 st
  be : Below w.heap.size w V
  bb : Bk V gb 43 (putC sz kg)
  gw : w.heap.size ≤ gb
theorem no_keep {V V' : World} {n gb : Nat} (hb : Below V.heap.size V V') (hn : n ≤ V.heap.size) : ∀ b o, No n gb b → V'.cell? ⟨b, o, none⟩ = V.cell? ⟨b, o, none⟩ := fun b o hS => hb.cell (p := ⟨b, o, none⟩) (Nat.lt_of_lt_of_le hS.1 hn)
theorem RW.on {w V V' : World} {g gb : Nat} {s : Shp} {h : Hd} {A1 A2 : Option Addr} {bs : List Bx} {st : List Stw} {sz : Nat} {kg : Int} (r : RW w V g gb s h A1 bs A2 st sz kg) (hb : Below V.heap.size V V') : RW w V' g gb s h A1 bs A2 st sz kg :=
  ⟨r.bk.below hb r.bk.lt, (r.rd.keep (no_keep hb (Nat.le_refl _))).more (No.on hb.size), (r.bx.keep (no_keep hb (Nat.le_refl _))).more (No.on hb.size), (r.sx.keep (no_keep hb (Nat.le_refl _))).more (No.on hb.size), r.be.trans (hb.mono r.be.size), r.bb.below hb r.bb.lt, r.gw⟩
theorem RW.ww {w V : World} {g gb : Nat} {s : Shp} {h : Hd} {A1 A2 : Option Addr} {bs : List Bx} {st : List Stw} {sz : Nat} {kg : Int} (r : RW w V g gb s h A1 bs A2 st sz kg) : WW w V g s h A1 bs A2 st :=
  ⟨r.bk, r.rd.more No.lt, r.bx.more No.lt, r.sx.more No.lt, r.be⟩
theorem size_set (V : World) (p : Addr) (v : Value) : (V.setCell p v).heap.size = V.heap.size := by simp [World.setCell]
theorem set_far (V : World) (gb : Nat) (k : Nat) (v : Value) (n : Nat) : ∀ b o, No n gb b → (V.setCell ⟨gb, k, none⟩ v).cell? ⟨b, o, none⟩ = V.cell? ⟨b, o, none⟩ := fun b o hS => cell_far (by
  intro e
  have e' : b = gb := e
  exact hS.2 e')
theorem RW.put {w V : World} {g gb : Nat} {s : Shp} {h : Hd} {A1 A2 : Option Addr} {bs : List Bx} {st : List Stw} {sz : Nat} {kg : Int} (r : RW w V g gb s h A1 bs A2 st sz kg) (n : Int) : RW w (V.setCell ⟨gb, 4, none⟩ (.int .i64 n)) g gb s h A1 bs A2 st sz n := by
  have hne : g ≠ gb := Bk.ne_ r.bk r.bb (by decide)
  refine ⟨r.bk.far (p := ⟨gb, 4, none⟩) hne _, ?_, ?_, ?_, r.be.setCell (by show w.heap.size ≤ gb; exact r.gw) _, r.bb.set_ 4 _, r.gw⟩
  · rw [size_set]; exact r.rd.keep (set_far V gb 4 _ _)
  · rw [size_set]; exact r.bx.keep (set_far V gb 4 _ _)
  · rw [size_set]; exact r.sx.keep (set_far V gb 4 _ _)
/-- What the inner loop keeps. -/
structure RI (w V : World) (g gb gx gl : Nat) (s : Shp) (h : Hd) (A1 : Option Addr) (bs : List Bx) (A2 : Option Addr) (st : List Stw) (sz : Nat) (kg : Int) (AF : Option Addr) (fl : List Slt) (x : Slt) (ns : List Int) : Prop where
  rw_ : RW w V g gb s h A1 bs A2 st sz kg
  fr : SlT tSlt V (No V.heap.size gb) AF fl
  kx : Bk V gx 47 (sltL x).toArray
  kl : Bk V gl 3 (i64s ns).toArray
theorem RI.on {w V V' : World} {g gb gx gl : Nat} {s : Shp} {h : Hd} {A1 A2 : Option Addr} {bs : List Bx} {st : List Stw} {sz : Nat} {kg : Int} {AF : Option Addr} {fl : List Slt} {x : Slt} {ns : List Int} (r : RI w V g gb gx gl s h A1 bs A2 st sz kg AF fl x ns) (hb : Below V.heap.size V V') : RI w V' g gb gx gl s h A1 bs A2 st sz kg AF fl x ns :=
  ⟨r.rw_.on hb, (r.fr.keep (no_keep hb (Nat.le_refl _))).more (No.on hb.size), r.kx.below hb r.kx.lt, r.kl.below hb r.kl.lt⟩
theorem RI.put {w V : World} {g gb gx gl : Nat} {s : Shp} {h : Hd} {A1 A2 : Option Addr} {bs : List Bx} {st : List Stw} {sz : Nat} {kg : Int} {AF : Option Addr} {fl : List Slt} {x : Slt} {ns : List Int} (r : RI w V g gb gx gl s h A1 bs A2 st sz kg AF fl x ns) (n : Int) : RI w (V.setCell ⟨gb, 4, none⟩ (.int .i64 n)) g gb gx gl s h A1 bs A2 st sz n AF fl x ns := by
  refine ⟨r.rw_.put n, ?_, r.kx.far (p := ⟨gb, 4, none⟩) (Bk.ne_ r.kx r.rw_.bb (by decide)) _, r.kl.far (p := ⟨gb, 4, none⟩) (Bk.ne_ r.kl r.rw_.bb (by decide)) _⟩
  rw [size_set]; exact r.fr.keep (set_far V gb 4 _ _)
theorem more_bl {bs : List Bx} (b : Bx) : (bs ++ [b]).length = bs.length + 1 := by simp
theorem more_sl {st : List Stw} (x : Stw) : (st ++ [x]).length = st.length + 1 := by simp
def fourL (rm : Int) : List Int := [1, rm, rm + 1, (rm + 1) / 2]
set_option maxRecDepth 100000 in
set_option maxHeartbeats 8000000 in
theorem stackRoom_any (A : Option Addr) (c : Nat) (pl : List (Nat × Nat × Nat × Bool)) (covers : Nat) (ha hb ht : Nat) (hha : ha < 256) (hhb : hb < 256) (hht : ht < 256) (A2 : Option Addr) (c2 : Nat) (ds : List Drp) (small : Bool) (w : World)
    (hs : SlT tPl w (Lt w.heap.size) A pl) (hl : ∀ p ∈ pl, p.1 < 256 ∧ p.2.1 < 256 ∧ p.2.2.1 < 256) (hc : pl.length ≤ c) (hcm : c ≤ maxLen)
    (hs2 : SlT tDrp w (Lt w.heap.size) A2 ds) (hd : ∀ d ∈ ds, d.col < 256 ∧ d.kilos < 256) (hc2 : ds.length ≤ c2) (hcm2 : c2 ≤ maxLen) :
    Calls Try.prog 3 #[.slice A pl.length c, .int .u32 covers, .agg #[.int .u8 (ha : Nat), .int .u8 (hb : Nat), .int .u8 (ht : Nat)], .slice A2 ds.length c2, .bool small] w (TrueRet w) := by
  have bw := ba1 w (.cells #[.int .u8 (ha : Nat), .int .u8 (hb : Nat), .int .u8 (ht : Nat)] 25)
  have kw := Bk.new w 25 #[.int .u8 (ha : Nat), .int .u8 (hb : Nat), .int .u8 (ht : Nat)]
  have HC := Lib.hid (limited_any A c pl covers ha hb ht hha hhb hht A2 c2 ds (w.alloc (.cells #[.int .u8 (ha : Nat), .int .u8 (hb : Nat), .int .u8 (ht : Nat)] 25)) (hs.on bw) hl hc hcm (hs2.on bw) hd hc2 hcm2)
  have HBW := Lib.hid bw
  have k0 : (w.alloc (.cells #[.int .u8 (ha : Nat), .int .u8 (hb : Nat), .int .u8 (ht : Nat)] 25)).cell? ⟨w.heap.size, 0, none⟩ = some (.int .u8 (ha : Nat)) := kw.cell 0
  have k1 : (w.alloc (.cells #[.int .u8 (ha : Nat), .int .u8 (hb : Nat), .int .u8 (ht : Nat)] 25)).cell? ⟨w.heap.size, 1, none⟩ = some (.int .u8 (hb : Nat)) := kw.cell 1
  have k2 : (w.alloc (.cells #[.int .u8 (ha : Nat), .int .u8 (hb : Nat), .int .u8 (ht : Nat)] 25)).cell? ⟨w.heap.size, 2, none⟩ = some (.int .u8 (ht : Nat)) := kw.cell 2
  clear hs hl hc hcm hs2 hd hc2 hcm2 bw kw
  go_enter Try.func3, Try.ntmps3
  go_wp2_with fail
  refine HC.out.mono ?_
  rintro e w1 ⟨s, h, v1, v2, bs, st, rfl, hLm, hLd, hrd, ob, os, hb1⟩
  simp only
  clear HC k0 k1 k2
  obtain ⟨A1, q1, rfl, hq1, hqm1, hsb⟩ := OwnS.sl' ob
  obtain ⟨A3, q3, rfl, hq3, hqm3, hss⟩ := OwnS.sl' os
  have hW : WW w (w1.alloc (.cells (shpA s h) 37)) w1.heap.size s h A1 bs A3 st := by
    have hx := ba1 w1 (.cells (shpA s h) 37)
    have h0 := HBW.out.trans (hb1.mono HBW.out.size)
    exact ⟨Bk.new w1 _ _, (hrd.more fun x hx => hx.1).on hx, hsb.on hx, hss.on hx, h0.trans (hx.mono h0.size)⟩
  have HW := Lib.hid hW
  have HLM := Lib.hid hLm
  have HLD := Lib.hid hLd
  have hsl := hLd.stlen
  have hbl9 := hLd.nine
  have hc1 := hLm.one
  have hc12 := hLm.twelve
  clear hW ob os hsb hss hrd hb1 HBW hLm hLd hqm1 hqm3 hq1 hq3
  unfold shpA at HW ⊢
  go_upto_region 2 with fail
  generalize w1.heap.size = g at *
  generalize (w1.alloc _) = V at *
  clear w1
  have HR : Hid (RW w (V.alloc (.cells (putC 40 0) 43)) g V.heap.size s h A1 bs A3 st 40 0) := Lib.hid (by
    have hx := ba1 V (.cells (putC 40 0) 43)
    have hn : ∀ b, Lt V.heap.size b → No (V.alloc (.cells (putC 40 0) 43)).heap.size V.heap.size b := fun b hb => ⟨Nat.lt_of_lt_of_le hb hx.size, Nat.ne_of_lt hb⟩
    exact ⟨HW.out.bk.below hx HW.out.bk.lt, (HW.out.rd.keep (keep_below hx)).more hn, (HW.out.bx.keep (keep_below hx)).more hn, (HW.out.sx.keep (keep_below hx)).more hn, HW.out.be.trans (hx.mono HW.out.be.size), Bk.new V _ _, HW.out.be.size⟩)
  clear HW
  unfold putC at HR
  go_upto_if 32 with fail
  generalize V.heap.size = gb at *
  generalize (V.alloc _) = V1 at *
  clear V
  go_cut [33] (fun _ wx => ∃ sz : Nat, sz < 256 ∧ Hid (RW w wx g gb s h A1 bs A3 st sz 0))
  case first =>
    have kb := HR.out.bb
    have y2 : V1.cell? ⟨gb, 2, none⟩ = some (.int .u8 40) := kb.cell 2
    have f2 := kb.frozen 2
    clear kb
    cases small with
    | false =>
      go_wp2_with fail
      go_meet
      exact ⟨40, by omega, HR⟩
    | true =>
      go_wp2_with fail
      go_meet
      refine ⟨20, by omega, Lib.hid ?_⟩
      have r := HR.out
      have hne : g ≠ gb := Bk.ne_ r.bk r.bb (by decide)
      refine ⟨r.bk.far (p := ⟨gb, 2, none⟩) hne _, ?_, ?_, ?_, r.be.setCell (by show w.heap.size ≤ gb; exact r.gw) _, r.bb.set_ 2 _, r.gw⟩
      · rw [size_set]; exact r.rd.keep (set_far V1 gb 2 _ _)
      · rw [size_set]; exact r.bx.keep (set_far V1 gb 2 _ _)
      · rw [size_set]; exact r.sx.keep (set_far V1 gb 2 _ _)
  case rest =>
    obtain ⟨sz, hsz, HRS⟩ := hcut
    obtain ⟨W, rfl⟩ : ∃ V, V = wc := ⟨_, rfl⟩
    clear HR
    have KFR := Lib.hid (free10_any s h A3 q3 st sz W HRS.out.ww.rd HLM.out HRS.out.ww.sx (by omega) (all_tier HLM.out sz))
    have hFr := free_len HLM.out st sz
    have HFX : Hid (∀ x, x ∈ freeF s st sz → x ∈ freeF s st sz) := Lib.hid fun x hx => hx
    have HFE : Hid (∃ fl, fl = freeF s st sz) := Lib.hid ⟨_, rfl⟩
    obtain ⟨fl, hfl⟩ := HFE.out
    rw [← hfl] at KFR hFr
    have HFL := Lib.hid hfl
    clear hfl HFE HFX
    have SC := HRS.out.bk
    have kb := HRS.out.bb
    unfold shpA at KFR
    have e0 : W.cell? ⟨g, 0, none⟩ = some (.slice h.A1 s.cols.length h.c1) := SC.cell 0
    have e1 : W.cell? ⟨g, 1, none⟩ = some (.slice h.A2 s.covs.length h.c2) := SC.cell 1
    have e2 : W.cell? ⟨g, 2, none⟩ = some (.int .i64 s.l0) := SC.cell 2
    have e3 : W.cell? ⟨g, 3, none⟩ = some (.int .i64 s.l1) := SC.cell 3
    have e4 : W.cell? ⟨g, 4, none⟩ = some (.int .i64 s.l2) := SC.cell 4
    have e5 : W.cell? ⟨g, 5, none⟩ = some (.int .i64 s.l3) := SC.cell 5
    have e6 : W.cell? ⟨g, 6, none⟩ = some (.slice h.A3 s.rows.length h.c3) := SC.cell 6
    have e7 : W.cell? ⟨g, 7, none⟩ = some (.slice h.A4 s.frames.length h.c4) := SC.cell 7
    have e8 : W.cell? ⟨g, 8, none⟩ = some (.slice h.A5 s.tanks.length h.c5) := SC.cell 8
    have e9 : W.cell? ⟨g, 9, none⟩ = some (.int .i64 s.m0) := SC.cell 9
    have e10 : W.cell? ⟨g, 10, none⟩ = some (.int .i64 s.m1) := SC.cell 10
    have e11 : W.cell? ⟨g, 11, none⟩ = some (.int .i64 s.m2) := SC.cell 11
    have e12 : W.cell? ⟨g, 12, none⟩ = some (.int .i64 s.m3) := SC.cell 12
    have y2 : W.cell? ⟨gb, 2, none⟩ = some (.int .u8 (sz : Nat)) := kb.cell 2
    clear SC kb
    go_wp2_with fail
    refine KFR.out.mono ?_
    rintro e W1 ⟨v3, rfl, ho, hb⟩
    simp only
    clear e0 e1 e2 e3 e4 e5 e6 e7 e8 e9 e10 e11 e12
    clear KFR y2
    have HFR : Hid (∃ AF qF, v3 = .slice AF fl.length qF ∧ SlT tSlt W1 (No W1.heap.size gb) AF fl) := Lib.hid (by
      obtain ⟨xs, ho', hf'⟩ := ho
      obtain ⟨AF, qF, e, _, _, hsF⟩ := OwnT.sl ⟨xs, ho', hf'⟩
      subst e
      refine ⟨AF, qF, rfl, fun hn => ?_⟩
      obtain ⟨b, off, e2, hB, hcc⟩ := hsF hn
      have hbl : W.heap.size ≤ b := (ho'.lt b (by rw [e2]; rfl)).1
      exact ⟨b, off, e2, ⟨hB, by have := HRS.out.bb.lt; omega⟩, hcc⟩)
    obtain ⟨AF, qF, rfl, hsF⟩ := HFR.out
    have HRF := Lib.hid (show RW w W1 g gb s h A1 bs A3 st sz 0 ∧ SlT tSlt W1 (No W1.heap.size gb) AF fl from ⟨HRS.out.on hb, hsF⟩)
    clear HFR hsF ho hb HRS
    try clear W
    go_wp2_with fail
    go_loopw [40] (fun i wr => ∃ (k : Nat) (kg : Int), k ≤ fl.length ∧ i = .int .i64 k ∧ Hid (RW w wr g gb s h A1 bs A3 st sz kg ∧ SlT tSlt wr (No wr.heap.size gb) AF fl)) (fun i _ => fl.length - (intOf i).toNat)
    case atStart => exact ⟨0, 0, Nat.zero_le _, rfl, HRF⟩
    case round =>
      clear HRF
      obtain ⟨k, kg, hk, rfl, HR⟩ := hrel
      obtain ⟨V, rfl⟩ : ∃ V, V = wr := ⟨_, rfl⟩
      by_cases hlt : k < fl.length
      · have i0 : (0 : Int) ≤ (k : Int) := by omega
        have i1 : (k : Int) < (fl.length : Int) := by omega
        obtain ⟨b, off, rfl, hbB, c0, c1, c2'⟩ := HR.out.2.slt hlt
        have HXF : Hid (fl.getD k default ∈ freeF s st sz) := Lib.hid (by rw [← HFL.out]; exact getD_memD hlt default)
        generalize fl.getD k default = x at *
        have HSI := Lib.hid (slot_in (free_in HXF.out).1)
        obtain ⟨xc, xt, xh⟩ := x
        simp only at c0 c1 c2'
        obtain ⟨xc0, xc1, xt0, xt1, _⟩ := HSI.out
        simp only at xc0 xc1 xt0 xt1
        obtain ⟨kc, rfl⟩ : ∃ kc : Nat, xc = (kc : Int) := ⟨xc.toNat, by omega⟩
        have hkc : kc < s.cols.length := by omega
        have xt2 : xt < 5 := by
          have := HLM.out.at_ (k := kc) hkc
          rw [Int.toNat_natCast] at xt1
          omega
        clear xt1 xc0 xc1 HSI
        have hY := ba1 V (.cells #[.int .i64 (kc : Nat), .int .i64 xt, .int .u8 (xh : Nat)] 47)
        have HKX := Lib.hid (Bk.new V 47 #[.int .i64 (kc : Nat), .int .i64 xt, .int .u8 (xh : Nat)])
        have HR1 := Lib.hid (show RW w _ g gb s h A1 bs A3 st sz kg ∧ SlT tSlt _ (No _ gb) (some ⟨b, off, none⟩) fl from ⟨HR.out.1.on hY, (HR.out.2.keep (no_keep hY (Nat.le_refl _))).more (No.on hY.size)⟩)
        clear hY HR
        go_upto_region 8 with fail
        clear c0 c1 c2'
        generalize V.heap.size = gx at *
        generalize (V.alloc _) = Y at *
        try clear V
        have KFL : Hid (Calls Try.prog 15 #[.agg (shpA s h), .slice A1 bs.length q1, .slice A3 st.length q3, .int .i64 (kc : Nat)] Y (OwnFlt Y (faultsF s bs st kc))) := Lib.hid (by
          have hw := HR1.out.1.ww
          have k1 := stFaults_any s h A1 q1 bs A3 q3 st (kc : Nat) Y HLD.out.kg HLM.out.tol2 hw.rd HLM.out.short hw.bx HLD.out.bl hw.sx HLD.out.sl (HLD.out.max HLM.out)
          rw [show thereB s (kc : Nat) = true by unfold thereB; simp; omega] at k1
          exact k1)
        have HEX := Lib.hid (fun (b : Bx) (hb : b.id = 900) (hz : b.size = sz) (h0 : faultsF s bs st kc = []) (hp : 0 < b.kilos) => room_exact (x := ⟨(kc : Nat), xt, xh⟩) HLD.out hb (by rw [hz]; exact HXF.out) rfl h0 hp)
        have HRT := Lib.hid (fun (b : Bx) (hb : b.id = 900) (hz : b.size = sz) => room_right (x := ⟨(kc : Nat), xt, xh⟩) HLM.out HLD.out hb (by rw [hz]; exact HXF.out))
        have hF9 := faultsF_len s bs st kc
        generalize faultsF s bs st kc = F0 at *
        have SC := HR1.out.1.bk
        unfold shpA at KFL
        have e0 : Y.cell? ⟨g, 0, none⟩ = some (.slice h.A1 s.cols.length h.c1) := SC.cell 0
        have e1 : Y.cell? ⟨g, 1, none⟩ = some (.slice h.A2 s.covs.length h.c2) := SC.cell 1
        have e2 : Y.cell? ⟨g, 2, none⟩ = some (.int .i64 s.l0) := SC.cell 2
        have e3 : Y.cell? ⟨g, 3, none⟩ = some (.int .i64 s.l1) := SC.cell 3
        have e4 : Y.cell? ⟨g, 4, none⟩ = some (.int .i64 s.l2) := SC.cell 4
        have e5 : Y.cell? ⟨g, 5, none⟩ = some (.int .i64 s.l3) := SC.cell 5
        have e6 : Y.cell? ⟨g, 6, none⟩ = some (.slice h.A3 s.rows.length h.c3) := SC.cell 6
        have e7 : Y.cell? ⟨g, 7, none⟩ = some (.slice h.A4 s.frames.length h.c4) := SC.cell 7
        have e8 : Y.cell? ⟨g, 8, none⟩ = some (.slice h.A5 s.tanks.length h.c5) := SC.cell 8
        have e9 : Y.cell? ⟨g, 9, none⟩ = some (.int .i64 s.m0) := SC.cell 9
        have e10 : Y.cell? ⟨g, 10, none⟩ = some (.int .i64 s.m1) := SC.cell 10
        have e11 : Y.cell? ⟨g, 11, none⟩ = some (.int .i64 s.m2) := SC.cell 11
        have e12 : Y.cell? ⟨g, 12, none⟩ = some (.int .i64 s.m3) := SC.cell 12
        have x0 : Y.cell? ⟨gx, 0, none⟩ = some (.int .i64 (kc : Nat)) := HKX.out.cell 0
        clear SC
        go_wp2_with fail
        refine KFL.out.mono ?_
        rintro e Y1 ⟨v7, rfl, hov, hb⟩
        simp only
        clear KFL x0
        clear e0 e1 e2 e3 e4 e5 e6 e7 e8 e9 e10 e11 e12
        obtain ⟨A7, c7, rfl, _, _, _⟩ := hov.sl
        have HR2 := Lib.hid (show RW w Y1 g gb s h A1 bs A3 st sz kg ∧ SlT tSlt Y1 (No Y1.heap.size gb) (some ⟨b, off, none⟩) fl from ⟨HR1.out.1.on hb, (HR1.out.2.keep (no_keep hb (Nat.le_refl _))).more (No.on hb.size)⟩)
        have HKX1 := Lib.hid (HKX.out.below hb HKX.out.lt)
        clear hov hb HR1 HKX
        try clear Y
        cases F0 with
        | cons a0 ar =>
          have hpos : (0 : Int) < (((a0 :: ar).length : Nat) : Int) := by rw [List.length_cons]; omega
          clear HEX HRT hF9
          generalize (a0 :: ar).length = na at *
          go_wp2_with fail
          go_roundw
          case rel => (repeat apply Exists.intro); (first | exact ⟨⟨k + 1, kg, hlt, by go_num, HR2⟩, rfl⟩ | exact ⟨hlt, by go_num, HR2⟩)
          case measure => simp [intOf]; omega
        | nil =>
          clear hF9
          have HEX1 := Lib.hid (fun (b : Bx) (hb : b.id = 900) (hz : b.size = sz) => HEX.out b hb hz rfl)
          clear HEX
          have KRM := Lib.hid (stRoom_any s h A1 q1 bs A3 q3 st ⟨(kc : Nat), xt, xh⟩ Y1 HLD.out.kg HLM.out.tol2 HLM.out.kgs HR2.out.1.ww.rd HR2.out.1.ww.bx HLD.out.bl HR2.out.1.ww.sx HLD.out.sl (by simp only; omega))
          obtain ⟨rm0, rm1⟩ := room_bd HLM.out HLD.out ⟨(kc : Nat), xt, xh⟩
          generalize roomF s bs st ⟨(kc : Nat), xt, xh⟩ = rm at *
          unfold shpA sltL at KRM
          simp only at KRM
          go_upto_region 9 with fail
          have SC := HR2.out.1.bk
          have e0 : Y1.cell? ⟨g, 0, none⟩ = some (.slice h.A1 s.cols.length h.c1) := SC.cell 0
          have e1 : Y1.cell? ⟨g, 1, none⟩ = some (.slice h.A2 s.covs.length h.c2) := SC.cell 1
          have e2 : Y1.cell? ⟨g, 2, none⟩ = some (.int .i64 s.l0) := SC.cell 2
          have e3 : Y1.cell? ⟨g, 3, none⟩ = some (.int .i64 s.l1) := SC.cell 3
          have e4 : Y1.cell? ⟨g, 4, none⟩ = some (.int .i64 s.l2) := SC.cell 4
          have e5 : Y1.cell? ⟨g, 5, none⟩ = some (.int .i64 s.l3) := SC.cell 5
          have e6 : Y1.cell? ⟨g, 6, none⟩ = some (.slice h.A3 s.rows.length h.c3) := SC.cell 6
          have e7 : Y1.cell? ⟨g, 7, none⟩ = some (.slice h.A4 s.frames.length h.c4) := SC.cell 7
          have e8 : Y1.cell? ⟨g, 8, none⟩ = some (.slice h.A5 s.tanks.length h.c5) := SC.cell 8
          have e9 : Y1.cell? ⟨g, 9, none⟩ = some (.int .i64 s.m0) := SC.cell 9
          have e10 : Y1.cell? ⟨g, 10, none⟩ = some (.int .i64 s.m1) := SC.cell 10
          have e11 : Y1.cell? ⟨g, 11, none⟩ = some (.int .i64 s.m2) := SC.cell 11
          have e12 : Y1.cell? ⟨g, 12, none⟩ = some (.int .i64 s.m3) := SC.cell 12
          have x0 : Y1.cell? ⟨gx, 0, none⟩ = some (.int .i64 (kc : Nat)) := HKX1.out.cell 0
          have x1 : Y1.cell? ⟨gx, 1, none⟩ = some (.int .i64 xt) := HKX1.out.cell 1
          have x2 : Y1.cell? ⟨gx, 2, none⟩ = some (.int .u8 (xh : Nat)) := HKX1.out.cell 2
          clear SC
          go_wp2_with fail
          refine KRM.out.mono ?_
          rintro e Y2 ⟨rfl, hb⟩
          simp only
          clear e0 e1 e2 e3 e4 e5 e6 e7 e8 e9 e10 e11 e12
          clear KRM x0 x1 x2
          have HRI : Hid (RI w (Y2.alloc (.cells #[.int .i64 1, .int .i64 rm, .int .i64 (rm + 1), .int .i64 ((rm + 1) / 2)] 3)) g gb gx Y2.heap.size s h A1 bs A3 st sz kg (some ⟨b, off, none⟩) fl ⟨(kc : Nat), xt, xh⟩ (fourL rm)) := Lib.hid (by
            have hx := hb.trans ((ba1 Y2 (.cells #[.int .i64 1, .int .i64 rm, .int .i64 (rm + 1), .int .i64 ((rm + 1) / 2)] 3)).mono hb.size)
            exact ⟨HR2.out.1.on hx, (HR2.out.2.keep (no_keep hx (Nat.le_refl _))).more (No.on hx.size), HKX1.out.below hx HKX1.out.lt, Bk.new Y2 _ _⟩)
          clear hb HR2 HKX1
          go_upto_block 2 with fail
          generalize Y2.heap.size = gl at *
          generalize (Y2.alloc _) = Z0 at *
          try clear Y2
          try clear Y1
          go_wp2_with fail
          go_loopw [65] (fun i wz => ∃ (j : Nat) (kg : Int), j ≤ 4 ∧ i = .int .i64 j ∧ Hid (RI w wz g gb gx gl s h A1 bs A3 st sz kg (some ⟨b, off, none⟩) fl ⟨(kc : Nat), xt, xh⟩ (fourL rm))) (fun i _ => 4 - (intOf i).toNat)
          case atStart => exact ⟨0, kg, by omega, rfl, HRI⟩
          case round =>
            clear HRI
            obtain ⟨j, kg, hj, rfl, HI⟩ := hrel
            obtain ⟨Z, rfl⟩ : ∃ V, V = wr := ⟨_, rfl⟩
            by_cases hjl : j < 4
            · have j0 : (0 : Int) ≤ (j : Int) := by omega
              have j1 : (j : Int) < 4 := by omega
              have hj1 : j + 1 ≤ 4 := hjl
              obtain ⟨kj, hkj, kj0, kj1⟩ : ∃ kj : Int, Z.cell? ⟨gl, j, none⟩ = some (.int .i64 kj) ∧ 0 ≤ kj ∧ kj ≤ 500000001 := by
                have kb := HI.out.kl
                unfold fourL at kb
                obtain rfl | rfl | rfl | rfl : j = 0 ∨ j = 1 ∨ j = 2 ∨ j = 3 := by omega
                · exact ⟨1, kb.cell 0, by omega, by omega⟩
                · exact ⟨rm, kb.cell 1, by omega, by omega⟩
                · exact ⟨rm + 1, kb.cell 2, by omega, by omega⟩
                · exact ⟨(rm + 1) / 2, kb.cell 3, by omega, by omega⟩
              have kb := HI.out.rw_.bb
              have y4 : Z.cell? ⟨gb, 4, none⟩ = some (.int .i64 kg) := kb.cell 4
              have f4 := kb.frozen 4
              have HI1 := Lib.hid (HI.out.put kj)
              clear kb HI
              go_upto_region 14 with fail
              clear hkj y4 f4
              generalize (Z.setCell _ _) = Z1 at *
              try clear Z
              have KWI := Lib.hid (with_any A1 q1 bs A3 q3 st (putB sz kj) ⟨(kc : Nat), xt, xh⟩ Z1 HI1.out.rw_.ww.bx (by omega) HI1.out.rw_.ww.sx (by omega))
              have kb := HI1.out.rw_.bb
              have kx := HI1.out.kx
              have y0 : Z1.cell? ⟨gb, 0, none⟩ = some (.int .i64 900) := kb.cell 0
              have y1 : Z1.cell? ⟨gb, 1, none⟩ = some (.string ⟨#[]⟩) := kb.cell 1
              have y2 : Z1.cell? ⟨gb, 2, none⟩ = some (.int .u8 (sz : Nat)) := kb.cell 2
              have y3 : Z1.cell? ⟨gb, 3, none⟩ = some (.bool false) := kb.cell 3
              have y4 : Z1.cell? ⟨gb, 4, none⟩ = some (.int .i64 kj) := kb.cell 4
              have y5 : Z1.cell? ⟨gb, 5, none⟩ = some (.int .i64 0) := kb.cell 5
              have y6 : Z1.cell? ⟨gb, 6, none⟩ = some (.int .i64 1) := kb.cell 6
              have y7 : Z1.cell? ⟨gb, 7, none⟩ = some (.int .u8 0) := kb.cell 7
              have y8 : Z1.cell? ⟨gb, 8, none⟩ = some (.bool false) := kb.cell 8
              have x0 : Z1.cell? ⟨gx, 0, none⟩ = some (.int .i64 (kc : Nat)) := kx.cell 0
              have x1 : Z1.cell? ⟨gx, 1, none⟩ = some (.int .i64 xt) := kx.cell 1
              have x2 : Z1.cell? ⟨gx, 2, none⟩ = some (.int .u8 (xh : Nat)) := kx.cell 2
              clear kb kx
              unfold bxL putB sltL at KWI
              simp only [Int.ofNat_zero] at KWI
              go_wp2_with fail
              refine KWI.out.mono ?_
              rintro e Z2 ⟨A5, c5, A6, c6, rfl, hs5, hs6, hc6, hb⟩
              simp only
              clear KWI y0 y1 y2 y3 y4 y5 y6 y7 y8 x0 x1 x2
              have HI2 := Lib.hid (HI1.out.on hb)
              have HS5 : Hid (SlT tBx Z2 (Lt Z2.heap.size) A5 (bs ++ [putB sz kj])) := Lib.hid hs5
              have HS6 : Hid (SlT tStw Z2 (Lt Z2.heap.size) A6 (st ++ [⟨900, ⟨(kc : Nat), xt, xh⟩⟩])) := Lib.hid hs6
              clear hs5 hs6 hb HI1
              try clear Z1
              have HKG2 := Lib.hid (room_ld (b := putB sz kj) HLD.out (by unfold putB; simp only; omega))
              have HMX : Hid (∀ y ∈ st ++ [(⟨900, ⟨(kc : Nat), xt, xh⟩⟩ : Stw)], y.slot.tier ≤ 9223372036854775807) := Lib.hid (fun y hy => by
                rcases List.mem_append.1 hy with hy | hy
                · exact HLD.out.max HLM.out y hy
                · obtain rfl : y = ⟨900, ⟨(kc : Nat), xt, xh⟩⟩ := by simpa using hy
                  simp only; omega)
              have hn1 : bs.length + 1 ≤ 1000000 := by omega
              have hn2 : st.length + 1 ≤ 1000000 := by omega
              by_cases hkp : 0 < kj
              · have KRI : Hid (Calls Try.prog 18 #[.agg (shpA s h), .slice A5 (bs.length + 1) c5, .slice A6 (st.length + 1) c6] Z2 (Ret Z2 (.bool true))) := Lib.hid (by
                  have k1 := stowRight_any s h A5 c5 (bs ++ [putB sz kj]) A6 c6 (st ++ [⟨900, ⟨(kc : Nat), xt, xh⟩⟩]) Z2 HI2.out.rw_.ww.rd HLM.out.few HLM.out.ints HLM.out.short HS5.out (by rw [more_bl]; exact hn1) HS6.out (by rw [more_sl]; exact hn2) (by rw [more_sl]; exact hc6) HMX.out
                  rw [more_bl, more_sl, HRT.out (putB sz kj) rfl rfl] at k1
                  exact k1)
                have KF2 : Hid (∀ V' : World, Below Z2.heap.size Z2 V' → Calls Try.prog 15 #[.agg (shpA s h), .slice A5 (bs.length + 1) c5, .slice A6 (st.length + 1) c6, .int .i64 (kc : Nat)] V' (OwnFlt V' (faultsF s (bs ++ [putB sz kj]) (st ++ [⟨900, ⟨(kc : Nat), xt, xh⟩⟩]) kc))) := Lib.hid (fun V' hV => by
                  have hw := (HI2.out.on hV).rw_.ww
                  have k1 := stFaults_any s h A5 c5 (bs ++ [putB sz kj]) A6 c6 (st ++ [⟨900, ⟨(kc : Nat), xt, xh⟩⟩]) (kc : Nat) V' HKG2.out HLM.out.tol2 hw.rd HLM.out.short (HS5.out.on hV) (by rw [more_bl]; exact hn1) (HS6.out.on hV) (by rw [more_sl]; exact hn2) HMX.out
                  rw [more_bl, more_sl, show thereB s (kc : Nat) = true by unfold thereB; simp; omega] at k1
                  exact k1)
                have HIFF : Hid (faultsF s (bs ++ [putB sz kj]) (st ++ [⟨900, ⟨(kc : Nat), xt, xh⟩⟩]) kc = [] ↔ kj ≤ rm) := Lib.hid (HEX1.out (putB sz kj) rfl rfl hkp)
                have hF2 := faultsF_len s (bs ++ [putB sz kj]) (st ++ [⟨900, ⟨(kc : Nat), xt, xh⟩⟩]) kc
                rw [more_sl] at hF2
                generalize faultsF s (bs ++ [putB sz kj]) (st ++ [⟨900, ⟨(kc : Nat), xt, xh⟩⟩]) kc = F2 at *
                clear HS5 HS6 HKG2 HMX
                have SC := HI2.out.rw_.bk
                unfold shpA at KRI KF2
                have e0 : Z2.cell? ⟨g, 0, none⟩ = some (.slice h.A1 s.cols.length h.c1) := SC.cell 0
                have e1 : Z2.cell? ⟨g, 1, none⟩ = some (.slice h.A2 s.covs.length h.c2) := SC.cell 1
                have e2 : Z2.cell? ⟨g, 2, none⟩ = some (.int .i64 s.l0) := SC.cell 2
                have e3 : Z2.cell? ⟨g, 3, none⟩ = some (.int .i64 s.l1) := SC.cell 3
                have e4 : Z2.cell? ⟨g, 4, none⟩ = some (.int .i64 s.l2) := SC.cell 4
                have e5 : Z2.cell? ⟨g, 5, none⟩ = some (.int .i64 s.l3) := SC.cell 5
                have e6 : Z2.cell? ⟨g, 6, none⟩ = some (.slice h.A3 s.rows.length h.c3) := SC.cell 6
                have e7 : Z2.cell? ⟨g, 7, none⟩ = some (.slice h.A4 s.frames.length h.c4) := SC.cell 7
                have e8 : Z2.cell? ⟨g, 8, none⟩ = some (.slice h.A5 s.tanks.length h.c5) := SC.cell 8
                have e9 : Z2.cell? ⟨g, 9, none⟩ = some (.int .i64 s.m0) := SC.cell 9
                have e10 : Z2.cell? ⟨g, 10, none⟩ = some (.int .i64 s.m1) := SC.cell 10
                have e11 : Z2.cell? ⟨g, 11, none⟩ = some (.int .i64 s.m2) := SC.cell 11
                have e12 : Z2.cell? ⟨g, 12, none⟩ = some (.int .i64 s.m3) := SC.cell 12
                clear SC
                go_upto_region 15 with fail
                go_wp2_with fail
                refine KRI.out.mono ?_
                rintro e Z3 ⟨rfl, hb⟩
                simp only
                clear e0 e1 e2 e3 e4 e5 e6 e7 e8 e9 e10 e11 e12
                clear KRI
                have HI3 := Lib.hid (HI2.out.on hb)
                have HB3 := Lib.hid hb
                clear hb
                go_upto_region 17 with fail
                have SC := HI3.out.rw_.bk
                have e0 : Z3.cell? ⟨g, 0, none⟩ = some (.slice h.A1 s.cols.length h.c1) := SC.cell 0
                have e1 : Z3.cell? ⟨g, 1, none⟩ = some (.slice h.A2 s.covs.length h.c2) := SC.cell 1
                have e2 : Z3.cell? ⟨g, 2, none⟩ = some (.int .i64 s.l0) := SC.cell 2
                have e3 : Z3.cell? ⟨g, 3, none⟩ = some (.int .i64 s.l1) := SC.cell 3
                have e4 : Z3.cell? ⟨g, 4, none⟩ = some (.int .i64 s.l2) := SC.cell 4
                have e5 : Z3.cell? ⟨g, 5, none⟩ = some (.int .i64 s.l3) := SC.cell 5
                have e6 : Z3.cell? ⟨g, 6, none⟩ = some (.slice h.A3 s.rows.length h.c3) := SC.cell 6
                have e7 : Z3.cell? ⟨g, 7, none⟩ = some (.slice h.A4 s.frames.length h.c4) := SC.cell 7
                have e8 : Z3.cell? ⟨g, 8, none⟩ = some (.slice h.A5 s.tanks.length h.c5) := SC.cell 8
                have e9 : Z3.cell? ⟨g, 9, none⟩ = some (.int .i64 s.m0) := SC.cell 9
                have e10 : Z3.cell? ⟨g, 10, none⟩ = some (.int .i64 s.m1) := SC.cell 10
                have e11 : Z3.cell? ⟨g, 11, none⟩ = some (.int .i64 s.m2) := SC.cell 11
                have e12 : Z3.cell? ⟨g, 12, none⟩ = some (.int .i64 s.m3) := SC.cell 12
                have x0 : Z3.cell? ⟨gx, 0, none⟩ = some (.int .i64 (kc : Nat)) := HI3.out.kx.cell 0
                clear SC
                by_cases hle : kj ≤ rm
                · obtain rfl : F2 = [] := HIFF.out.2 hle
                  clear HIFF hF2
                  go_wp2_with fail
                  refine (KF2.out _ HB3.out).mono ?_
                  rintro e Z4 ⟨v9, rfl, hov, hb⟩
                  simp only
                  clear e0 e1 e2 e3 e4 e5 e6 e7 e8 e9 e10 e11 e12
                  clear KF2 x0
                  obtain ⟨A9, c9, rfl, _, _, _⟩ := hov.sl
                  have HI4 := Lib.hid (HI3.out.on hb)
                  clear hov hb HI3 HI2 HB3
                  go_wp2_with fail
                  go_roundw
                  case rel => (repeat apply Exists.intro); (first | exact ⟨⟨j + 1, kj, hj1, by go_num, HI4⟩, rfl⟩ | exact ⟨hj1, by go_num, HI4⟩)
                  case measure => simp [intOf]; omega
                · have hlt2 : rm < kj := by omega
                  cases F2 with
                  | nil => exact absurd (HIFF.out.1 rfl) hle
                  | cons a0 ar =>
                    have hne0 : ((((a0 :: ar).length : Nat) : Int) == 0) = false := by rw [List.length_cons]; simp; omega
                    clear HIFF hF2
                    go_wp2_with fail
                    refine (KF2.out _ HB3.out).mono ?_
                    rintro e Z4 ⟨v9, rfl, hov, hb⟩
                    simp only
                    clear e0 e1 e2 e3 e4 e5 e6 e7 e8 e9 e10 e11 e12
                    clear KF2 x0
                    obtain ⟨A9, c9, rfl, _, _, _⟩ := hov.sl
                    have HI4 := Lib.hid (HI3.out.on hb)
                    clear hov hb HI3 HI2 HB3
                    generalize (a0 :: ar).length = na at *
                    go_wp2_with fail
                    go_roundw
                    case rel => (repeat apply Exists.intro); (first | exact ⟨⟨j + 1, kj, hj1, by go_num, HI4⟩, rfl⟩ | exact ⟨hj1, by go_num, HI4⟩)
                    case measure => simp [intOf]; omega
              · clear HS5 HS6 HKG2 HMX
                have hkn : ¬ 0 < kj := hkp
                go_wp2_with fail
                go_roundw
                case rel => (repeat apply Exists.intro); (first | exact ⟨⟨j + 1, kj, hj1, by go_num, HI2⟩, rfl⟩ | exact ⟨hj1, by go_num, HI2⟩)
                case measure => simp [intOf]; omega
            · obtain rfl : j = 4 := by omega
              have HR9 := Lib.hid (show RW w Z g gb s h A1 bs A3 st sz kg ∧ SlT tSlt Z (No Z.heap.size gb) (some ⟨b, off, none⟩) fl from ⟨HI.out.rw_, HI.out.fr⟩)
              clear HI
              go_wp2_with fail
              go_roundw
              case rel => (repeat apply Exists.intro); (first | exact ⟨⟨k + 1, kg, hlt, by go_num, HR9⟩, rfl⟩ | exact ⟨hlt, by go_num, HR9⟩)
              case measure => simp [intOf]; omega
      · obtain rfl : k = fl.length := by omega
        have HW9 := Lib.hid HR.out.1.be
        clear HR HLM HLD HFL
        go_wp2_with fail
        refine (awake10_true _).mono ?_
        rintro e W9 ⟨rfl, hb⟩
        simp only
        go_wp2_with fail
        go_ret
        exact ⟨rfl, HW9.out.trans (hb.mono HW9.out.size)⟩
end Go.Proofs.Ytncfakkajknhaaa
