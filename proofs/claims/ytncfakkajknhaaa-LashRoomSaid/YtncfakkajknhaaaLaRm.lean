/-
  The walk of the statement LashRoom.
-/
import Derived.Test.YtncfakkajknhaaaLaRp
import Derived.Test.YtncfakkajknhaaaLaRf
import Derived.Test.YtncfakkajknhaaaStY
namespace Go.Proofs.Ytncfakkajknhaaa
open Go.RowKit

theorem all_tier {s : Shp} (hl : Lm s) (size : Nat) : ∀ x ∈ allF s size, x.tier ≤ 9223372036854775807 := fun x hx => by
  obtain ⟨c, t, _, h2, _, h4, _⟩ := mem_all.1 hx
  have := hl.tiersN c
  omega
/-- The blocks that are there, but for one. -/
def No (n gb : Nat) (b : Nat) : Prop := b < n ∧ b ≠ gb
theorem No.on {n n' gb : Nat} (h : n ≤ n') : ∀ b, No n gb b → No n' gb b := fun _ hb => ⟨Nat.lt_of_lt_of_le hb.1 h, hb.2⟩
theorem No.lt {n gb : Nat} : ∀ b, No n gb b → Lt n b := fun _ hb => hb.1
/-- The box that is put. -/
def putB (sz : Nat) (kg : Int) : Bx := ⟨900, ⟨#[]⟩, sz, false, kg, 0, 1, 0, false⟩
def putC (sz : Nat) (kg : Int) : Array Value := #[.int .i64 900, .string ⟨#[]⟩, .int .u8 (sz : Nat), .bool false, .int .i64 kg, .int .i64 0, .int .i64 1, .int .u8 0, .bool false]
/-- A ship in its variable, boxes and a state, to read; a box in a variable that is written. -/
structure RW (w V : World) (g gb : Nat) (s : Shp) (h : Hd) (A1 : Option Addr) (bs : List Bx) (A2 : Option Addr) (st : List Stw) (sz : Nat) (kg : Int) : Prop where
  bk : Bk V g 37 (shpA s h)
  rd : ShpR V (No V.heap.size gb) s h
  bx : SlT tBx V (No V.heap.size gb) A1 bs
  sx : SlT tStw V (No V.heap.size gb) A2 st
  be : Below w.heap.size w V
  bb : Bk V gb 43 (putC sz kg)
  gw : w.heap.size ≤ gb
theorem no_keep {V V' : World} {n gb : Nat} (hb : Below V.heap.size V V') (hn : n ≤ V.heap.size) : ∀ b o, No n gb b → V'.cell? ⟨b, o, none⟩ = V.cell? ⟨b, o, none⟩ := fun b o hS => hb.cell (p := ⟨b, o, none⟩) (Nat.lt_of_lt_of_le hS.1 hn)
theorem RW.on {w V V' : World} {g gb : Nat} {s : Shp} {h : Hd} {A1 A2 : Option Addr} {bs : List Bx} {st : List Stw} {sz : Nat} {kg : Int} (r : RW w V g gb s h A1 bs A2 st sz kg) (hb : Below V.heap.size V V') : RW w V' g gb s h A1 bs A2 st sz kg :=
  ⟨r.bk.below hb r.bk.lt, (r.rd.keep (no_keep hb (Nat.le_refl _))).more (No.on hb.size), (r.bx.keep (no_keep hb (Nat.le_refl _))).more (No.on hb.size), (r.sx.keep (no_keep hb (Nat.le_refl _))).more (No.on hb.size), r.be.trans (hb.mono r.be.size), r.bb.below hb r.bb.lt, r.gw⟩
theorem RW.ww {w V : World} {g gb : Nat} {s : Shp} {h : Hd} {A1 A2 : Option Addr} {bs : List Bx} {st : List Stw} {sz : Nat} {kg : Int} (r : RW w V g gb s h A1 bs A2 st sz kg) : WW w V g s h A1 bs A2 st :=
  ⟨r.bk, r.rd.more No.lt, r.bx.more No.lt, r.sx.more No.lt, r.be⟩
theorem size_set (V : World) (p : Addr) (v : Value) : (V.setCell p v).heap.size = V.heap.size := by simp [World.setCell]
theorem set_far (V : World) (gb : Nat) (k : Nat) (v : Value) (n : Nat) : ∀ b o, No n gb b → (V.setCell ⟨gb, k, none⟩ v).cell? ⟨b, o, none⟩ = V.cell? ⟨b, o, none⟩ := fun b o hS => cell_far (by
  intro e
  have e' : b = gb := e
  exact hS.2 e')
theorem RW.put {w V : World} {g gb : Nat} {s : Shp} {h : Hd} {A1 A2 : Option Addr} {bs : List Bx} {st : List Stw} {sz : Nat} {kg : Int} (r : RW w V g gb s h A1 bs A2 st sz kg) (n : Int) : RW w (V.setCell ⟨gb, 4, none⟩ (.int .i64 n)) g gb s h A1 bs A2 st sz n := by
  have hne : g ≠ gb := Bk.ne_ r.bk r.bb (by decide)
  refine ⟨r.bk.far (p := ⟨gb, 4, none⟩) hne _, ?_, ?_, ?_, r.be.setCell (by show w.heap.size ≤ gb; exact r.gw) _, r.bb.set_ 4 _, r.gw⟩
  · rw [size_set]; exact r.rd.keep (set_far V gb 4 _ _)
  · rw [size_set]; exact r.bx.keep (set_far V gb 4 _ _)
  · rw [size_set]; exact r.sx.keep (set_far V gb 4 _ _)
/-- What the inner loop keeps. -/
structure RI (w V : World) (g gb gx gl : Nat) (s : Shp) (h : Hd) (A1 : Option Addr) (bs : List Bx) (A2 : Option Addr) (st : List Stw) (sz : Nat) (kg : Int) (AF : Option Addr) (fl : List Slt) (x : Slt) (ns : List Int) : Prop where
  rw_ : RW w V g gb s h A1 bs A2 st sz kg
  fr : SlT tSlt V (No V.heap.size gb) AF fl
  kx : Bk V gx 47 (sltL x).toArray
  kl : Bk V gl 3 (i64s ns).toArray
theorem RI.on {w V V' : World} {g gb gx gl : Nat} {s : Shp} {h : Hd} {A1 A2 : Option Addr} {bs : List Bx} {st : List Stw} {sz : Nat} {kg : Int} {AF : Option Addr} {fl : List Slt} {x : Slt} {ns : List Int} (r : RI w V g gb gx gl s h A1 bs A2 st sz kg AF fl x ns) (hb : Below V.heap.size V V') : RI w V' g gb gx gl s h A1 bs A2 st sz kg AF fl x ns :=
  ⟨r.rw_.on hb, (r.fr.keep (no_keep hb (Nat.le_refl _))).more (No.on hb.size), r.kx.below hb r.kx.lt, r.kl.below hb r.kl.lt⟩
theorem RI.put {w V : World} {g gb gx gl : Nat} {s : Shp} {h : Hd} {A1 A2 : Option Addr} {bs : List Bx} {st : List Stw} {sz : Nat} {kg : Int} {AF : Option Addr} {fl : List Slt} {x : Slt} {ns : List Int} (r : RI w V g gb gx gl s h A1 bs A2 st sz kg AF fl x ns) (n : Int) : RI w (V.setCell ⟨gb, 4, none⟩ (.int .i64 n)) g gb gx gl s h A1 bs A2 st sz n AF fl x ns := by
  refine ⟨r.rw_.put n, ?_, r.kx.far (p := ⟨gb, 4, none⟩) (Bk.ne_ r.kx r.rw_.bb (by decide)) _, r.kl.far (p := ⟨gb, 4, none⟩) (Bk.ne_ r.kl r.rw_.bb (by decide)) _⟩
  rw [size_set]; exact r.fr.keep (set_far V gb 4 _ _)
theorem more_bl {bs : List Bx} (b : Bx) : (bs ++ [b]).length = bs.length + 1 := by simp
theorem more_sl {st : List Stw} (x : Stw) : (st ++ [x]).length = st.length + 1 := by simp
def fiveL (rm : Int) : List Int := [0, rm, rm + 1, (rm + 1) / 2]
set_option maxRecDepth 100000 in
set_option maxHeartbeats 8000000 in
theorem lashRoom_any (A : Option Addr) (c : Nat) (pl : List (Nat × Nat × Nat × Bool)) (covers : Nat) (q : Nat) (hq : q < 65536) (A2 : Option Addr) (c2 : Nat) (ds : List Drp) (small : Bool) (w : World)
    (hs : SlT tPl w (Lt w.heap.size) A pl) (hl : ∀ p ∈ pl, p.1 < 256 ∧ p.2.1 < 256 ∧ p.2.2.1 < 256) (hc : pl.length ≤ c) (hcm : c ≤ maxLen)
    (hs2 : SlT tDrp w (Lt w.heap.size) A2 ds) (hd : ∀ d ∈ ds, d.col < 256 ∧ d.kilos < 256) (hc2 : ds.length ≤ c2) (hcm2 : c2 ≤ maxLen) :
    Calls Try.prog 8 #[.slice A pl.length c, .int .u32 covers, .int .u16 (q : Nat), .slice A2 ds.length c2, .bool small] w (TrueRet w) := by
  have HC := Lib.hid (lashedShip_any A c pl covers q hq A2 c2 ds w hs hl hc hcm hs2 hd hc2 hcm2)
  clear hs hl hc hcm hs2 hd hc2 hcm2
  go_enter Try.func8, Try.ntmps8
  go_wp2_with fail
  refine HC.out.mono ?_
  rintro e w1 ⟨s, h, v1, v2, bs, st, rfl, hLm, hLd, hrd, ob, os, hb1⟩
  simp only
  clear HC
  obtain ⟨A1, q1, rfl, hq1, hqm1, hsb⟩ := OwnS.sl' ob
  obtain ⟨A3, q3, rfl, hq3, hqm3, hss⟩ := OwnS.sl' os
  have hW : WW w (w1.alloc (.cells (shpA s h) 37)) w1.heap.size s h A1 bs A3 st := by
    have hx := ba1 w1 (.cells (shpA s h) 37)
    exact ⟨Bk.new w1 _ _, (hrd.more fun x hx => hx.1).on hx, hsb.on hx, hss.on hx, hb1.trans (hx.mono hb1.size)⟩
  have HW := Lib.hid hW
  have HLM := Lib.hid hLm
  have HLD := Lib.hid hLd
  have HQ3 := Lib.hid hq3
  have HLH : Hid (∀ c ∈ s.cols, c.lash ≤ 1000000000000000) := Lib.hid fun c hc => by have := hLm.col c hc; omega
  have HKL : Hid (KgL bs) := Lib.hid fun b hb => by have := (hLd.box b hb).2; omega
  have HIN : Hid (∀ x ∈ st, 0 ≤ x.slot.tier ∧ x.slot.tier < 5 ∧ 0 ≤ x.slot.col ∧ x.slot.col < s.cols.length ∧ x.slot.half < 3) := Lib.hid fun x hx => hLd.tier hLm hx
  have hbl := hLd.nine
  have hsl := hLd.stlen
  have hc1 := hLm.one
  have hc12 := hLm.twelve
  clear hW ob os hsb hss hrd hb1 hLm hLd hq1 hq3
  unfold maxLen at hqm1 hqm3
  unfold shpA at HW ⊢
  go_upto_region 2 with fail
  generalize w1.heap.size = g at *
  generalize (w1.alloc _) = V at *
  clear w1
  have HR : Hid (RW w (V.alloc (.cells (putC 40 0) 43)) g V.heap.size s h A1 bs A3 st 40 0) := Lib.hid (by
    have hx := ba1 V (.cells (putC 40 0) 43)
    have hn : ∀ b, Lt V.heap.size b → No (V.alloc (.cells (putC 40 0) 43)).heap.size V.heap.size b := fun b hb => ⟨Nat.lt_of_lt_of_le hb hx.size, Nat.ne_of_lt hb⟩
    exact ⟨HW.out.bk.below hx HW.out.bk.lt, (HW.out.rd.keep (keep_below hx)).more hn, (HW.out.bx.keep (keep_below hx)).more hn, (HW.out.sx.keep (keep_below hx)).more hn, HW.out.be.trans (hx.mono HW.out.be.size), Bk.new V _ _, HW.out.be.size⟩)
  clear HW
  unfold putC at HR
  go_upto_if 33 with fail
  generalize V.heap.size = gb at *
  generalize (V.alloc _) = V1 at *
  clear V
  go_cut [34] (fun _ wx => ∃ sz : Nat, sz < 256 ∧ Hid (RW w wx g gb s h A1 bs A3 st sz 0))
  case first =>
    have kb := HR.out.bb
    have y2 : V1.cell? ⟨gb, 2, none⟩ = some (.int .u8 40) := kb.cell 2
    have f2 := kb.frozen 2
    clear kb
    cases small with
    | false =>
      go_wp2_with fail
      go_meet
      exact ⟨40, by omega, HR⟩
    | true =>
      go_wp2_with fail
      go_meet
      refine ⟨20, by omega, Lib.hid ?_⟩
      have r := HR.out
      have hne : g ≠ gb := Bk.ne_ r.bk r.bb (by decide)
      refine ⟨r.bk.far (p := ⟨gb, 2, none⟩) hne _, ?_, ?_, ?_, r.be.setCell (by show w.heap.size ≤ gb; exact r.gw) _, r.bb.set_ 2 _, r.gw⟩
      · rw [size_set]; exact r.rd.keep (set_far V1 gb 2 _ _)
      · rw [size_set]; exact r.bx.keep (set_far V1 gb 2 _ _)
      · rw [size_set]; exact r.sx.keep (set_far V1 gb 2 _ _)
  case rest =>
    obtain ⟨sz, hsz, HRS⟩ := hcut
    obtain ⟨W, rfl⟩ : ∃ V, V = wc := ⟨_, rfl⟩
    clear HR
    have KFR := Lib.hid (free11_any s h A3 q3 st sz W HRS.out.ww.rd HLM.out HRS.out.ww.sx (by omega) (all_tier HLM.out sz))
    have hFr := free_len HLM.out st sz
    have HFX : Hid (∀ x, x ∈ freeF s st sz → x ∈ freeF s st sz) := Lib.hid fun x hx => hx
    have HFE : Hid (∃ fl, fl = freeF s st sz) := Lib.hid ⟨_, rfl⟩
    obtain ⟨fl, hfl⟩ := HFE.out
    rw [← hfl] at KFR hFr
    have HFL := Lib.hid hfl
    clear hfl HFE HFX
    have SC := HRS.out.bk
    have kb := HRS.out.bb
    unfold shpA at KFR
    have e0 : W.cell? ⟨g, 0, none⟩ = some (.slice h.A1 s.cols.length h.c1) := SC.cell 0
    have e1 : W.cell? ⟨g, 1, none⟩ = some (.slice h.A2 s.covs.length h.c2) := SC.cell 1
    have e2 : W.cell? ⟨g, 2, none⟩ = some (.int .i64 s.l0) := SC.cell 2
    have e3 : W.cell? ⟨g, 3, none⟩ = some (.int .i64 s.l1) := SC.cell 3
    have e4 : W.cell? ⟨g, 4, none⟩ = some (.int .i64 s.l2) := SC.cell 4
    have e5 : W.cell? ⟨g, 5, none⟩ = some (.int .i64 s.l3) := SC.cell 5
    have e6 : W.cell? ⟨g, 6, none⟩ = some (.slice h.A3 s.rows.length h.c3) := SC.cell 6
    have e7 : W.cell? ⟨g, 7, none⟩ = some (.slice h.A4 s.frames.length h.c4) := SC.cell 7
    have e8 : W.cell? ⟨g, 8, none⟩ = some (.slice h.A5 s.tanks.length h.c5) := SC.cell 8
    have e9 : W.cell? ⟨g, 9, none⟩ = some (.int .i64 s.m0) := SC.cell 9
    have e10 : W.cell? ⟨g, 10, none⟩ = some (.int .i64 s.m1) := SC.cell 10
    have e11 : W.cell? ⟨g, 11, none⟩ = some (.int .i64 s.m2) := SC.cell 11
    have e12 : W.cell? ⟨g, 12, none⟩ = some (.int .i64 s.m3) := SC.cell 12
    have y2 : W.cell? ⟨gb, 2, none⟩ = some (.int .u8 (sz : Nat)) := kb.cell 2
    clear SC kb
    go_wp2_with fail
    refine KFR.out.mono ?_
    rintro e W1 ⟨v3, rfl, ho, hb⟩
    simp only
    clear e0 e1 e2 e3 e4 e5 e6 e7 e8 e9 e10 e11 e12
    clear KFR y2
    have HFR : Hid (∃ AF qF, v3 = .slice AF fl.length qF ∧ SlT tSlt W1 (No W1.heap.size gb) AF fl) := Lib.hid (by
      obtain ⟨xs, ho', hf'⟩ := ho
      obtain ⟨AF, qF, e, _, _, hsF⟩ := OwnT.sl ⟨xs, ho', hf'⟩
      subst e
      refine ⟨AF, qF, rfl, fun hn => ?_⟩
      obtain ⟨b, off, e2, hB, hcc⟩ := hsF hn
      have hbl : W.heap.size ≤ b := (ho'.lt b (by rw [e2]; rfl)).1
      exact ⟨b, off, e2, ⟨hB, by have := HRS.out.bb.lt; omega⟩, hcc⟩)
    obtain ⟨AF, qF, rfl, hsF⟩ := HFR.out
    have HRF := Lib.hid (show RW w W1 g gb s h A1 bs A3 st sz 0 ∧ SlT tSlt W1 (No W1.heap.size gb) AF fl from ⟨HRS.out.on hb, hsF⟩)
    clear HFR hsF ho hb HRS
    try clear W
    go_wp2_with fail
    go_loopw [41] (fun i wr => ∃ (k : Nat) (kg : Int), k ≤ fl.length ∧ i = .int .i64 k ∧ Hid (RW w wr g gb s h A1 bs A3 st sz kg ∧ SlT tSlt wr (No wr.heap.size gb) AF fl)) (fun i _ => fl.length - (intOf i).toNat)
    case atStart => exact ⟨0, 0, Nat.zero_le _, rfl, HRF⟩
    case round =>
      clear HRF
      obtain ⟨k, kg, hk, rfl, HR⟩ := hrel
      obtain ⟨V, rfl⟩ : ∃ V, V = wr := ⟨_, rfl⟩
      by_cases hlt : k < fl.length
      · have i0 : (0 : Int) ≤ (k : Int) := by omega
        have i1 : (k : Int) < (fl.length : Int) := by omega
        obtain ⟨b, off, rfl, hbB, c0, c1, c2'⟩ := HR.out.2.slt hlt
        have HXF : Hid (fl.getD k default ∈ freeF s st sz) := Lib.hid (by rw [← HFL.out]; exact getD_memD hlt default)
        generalize fl.getD k default = x at *
        have HSI := Lib.hid (slot_in (free_in HXF.out).1)
        obtain ⟨xc, xt, xh⟩ := x
        simp only at c0 c1 c2'
        obtain ⟨xc0, xc1, xt0, xt1, _⟩ := HSI.out
        simp only at xc0 xc1 xt0 xt1
        obtain ⟨kc, rfl⟩ : ∃ kc : Nat, xc = (kc : Int) := ⟨xc.toNat, by omega⟩
        have hkc : kc < s.cols.length := by omega
        have xt2 : xt < 5 := by
          have := HLM.out.at_ (k := kc) hkc
          rw [Int.toNat_natCast] at xt1
          omega
        clear xt1 xc0 xc1 HSI
        have hY := ba1 V (.cells #[.int .i64 (kc : Nat), .int .i64 xt, .int .u8 (xh : Nat)] 47)
        have HKX := Lib.hid (Bk.new V 47 #[.int .i64 (kc : Nat), .int .i64 xt, .int .u8 (xh : Nat)])
        have HR1 := Lib.hid (show RW w _ g gb s h A1 bs A3 st sz kg ∧ SlT tSlt _ (No _ gb) (some ⟨b, off, none⟩) fl from ⟨HR.out.1.on hY, (HR.out.2.keep (no_keep hY (Nat.le_refl _))).more (No.on hY.size)⟩)
        clear hY HR
        go_upto_region 8 with fail
        clear c0 c1 c2'
        generalize V.heap.size = gx at *
        generalize (V.alloc _) = Y at *
        try clear V
        have KFL : Hid (Calls Try.prog 30 #[.agg (shpA s h), .slice A1 bs.length q1, .slice A3 st.length q3, .int .i64 (kc : Nat)] Y (OwnLf Y (lfaultsF s bs st kc))) := Lib.hid (by
          have hw := HR1.out.1.ww
          have k1 := lFaults_any s h A1 q1 bs A3 q3 st (kc : Nat) Y HKL.out HLH.out hw.rd HLM.out.short hw.bx HLD.out.bl hw.sx (by omega)
          exact k1)
        have HEX := Lib.hid (fun (b : Bx) (hb : b.id = 900) (hz : b.size = sz) (h0 : lfaultsF s bs st kc = []) (hp : 0 ≤ b.kilos) => lroom_exact (x := ⟨(kc : Nat), xt, xh⟩) HLD.out hb (by rw [hz]; exact HXF.out) rfl h0 hp)
        have HBD := Lib.hid (fun (h0 : lfaultsF s bs st kc = []) => lroom_bd (x := ⟨(kc : Nat), xt, xh⟩) (k := kc) hc12 rfl hkc (half_three (slot_in (free_in HXF.out).1).2.2.2.2) h0)
        generalize lfaultsF s bs st kc = F0 at *
        have SC := HR1.out.1.bk
        unfold shpA at KFL
        have e0 : Y.cell? ⟨g, 0, none⟩ = some (.slice h.A1 s.cols.length h.c1) := SC.cell 0
        have e1 : Y.cell? ⟨g, 1, none⟩ = some (.slice h.A2 s.covs.length h.c2) := SC.cell 1
        have e2 : Y.cell? ⟨g, 2, none⟩ = some (.int .i64 s.l0) := SC.cell 2
        have e3 : Y.cell? ⟨g, 3, none⟩ = some (.int .i64 s.l1) := SC.cell 3
        have e4 : Y.cell? ⟨g, 4, none⟩ = some (.int .i64 s.l2) := SC.cell 4
        have e5 : Y.cell? ⟨g, 5, none⟩ = some (.int .i64 s.l3) := SC.cell 5
        have e6 : Y.cell? ⟨g, 6, none⟩ = some (.slice h.A3 s.rows.length h.c3) := SC.cell 6
        have e7 : Y.cell? ⟨g, 7, none⟩ = some (.slice h.A4 s.frames.length h.c4) := SC.cell 7
        have e8 : Y.cell? ⟨g, 8, none⟩ = some (.slice h.A5 s.tanks.length h.c5) := SC.cell 8
        have e9 : Y.cell? ⟨g, 9, none⟩ = some (.int .i64 s.m0) := SC.cell 9
        have e10 : Y.cell? ⟨g, 10, none⟩ = some (.int .i64 s.m1) := SC.cell 10
        have e11 : Y.cell? ⟨g, 11, none⟩ = some (.int .i64 s.m2) := SC.cell 11
        have e12 : Y.cell? ⟨g, 12, none⟩ = some (.int .i64 s.m3) := SC.cell 12
        have x0 : Y.cell? ⟨gx, 0, none⟩ = some (.int .i64 (kc : Nat)) := HKX.out.cell 0
        clear SC
        go_wp2_with fail
        refine KFL.out.mono ?_
        rintro e Y1 ⟨v7, rfl, hov, hb⟩
        simp only
        clear KFL x0
        clear e0 e1 e2 e3 e4 e5 e6 e7 e8 e9 e10 e11 e12
        obtain ⟨A7, c7, rfl, _, _, _⟩ := hov.sl
        have HR2 := Lib.hid (show RW w Y1 g gb s h A1 bs A3 st sz kg ∧ SlT tSlt Y1 (No Y1.heap.size gb) (some ⟨b, off, none⟩) fl from ⟨HR1.out.1.on hb, (HR1.out.2.keep (no_keep hb (Nat.le_refl _))).more (No.on hb.size)⟩)
        have HKX1 := Lib.hid (HKX.out.below hb HKX.out.lt)
        clear hov hb HR1 HKX
        try clear Y
        cases F0 with
        | cons a0 ar =>
          have hpos : (0 : Int) < (((a0 :: ar).length : Nat) : Int) := by rw [List.length_cons]; omega
          clear HEX HBD
          generalize (a0 :: ar).length = na at *
          go_wp2_with fail
          go_roundw
          case rel => (repeat apply Exists.intro); (first | exact ⟨⟨k + 1, kg, hlt, by go_num, HR2⟩, rfl⟩ | exact ⟨hlt, by go_num, HR2⟩)
          case measure => simp [intOf]; omega
        | nil =>
          obtain ⟨n0, hn0⟩ : ∃ n, n = ([] : List Flt).length := ⟨_, rfl⟩
          rw [← hn0]
          have hn1 : ¬ (0 : Int) < (n0 : Int) := by rw [hn0]; decide
          clear hn0
          have HEX1 := Lib.hid (fun (b : Bx) (hb : b.id = 900) (hz : b.size = sz) => HEX.out b hb hz rfl)
          obtain ⟨rm0, rm1⟩ := HBD.out rfl
          clear HEX HBD
          have KRM := Lib.hid (lRoom_any s h A1 q1 bs A3 q3 st ⟨(kc : Nat), xt, xh⟩ Y1 HKL.out HLH.out HR2.out.1.ww.rd HLM.out.short HR2.out.1.ww.bx HLD.out.bl HR2.out.1.ww.sx (by omega))
          generalize lroomF s bs st ⟨(kc : Nat), xt, xh⟩ = rm at *
          unfold shpA sltL at KRM
          simp only at KRM
          go_upto_region 9 with fail
          (try simp only [decide_eq_false hn1, decide_eq_false (show ¬ 0 < n0 by omega)])
          clear hn1
          have SC := HR2.out.1.bk
          have e0 : Y1.cell? ⟨g, 0, none⟩ = some (.slice h.A1 s.cols.length h.c1) := SC.cell 0
          have e1 : Y1.cell? ⟨g, 1, none⟩ = some (.slice h.A2 s.covs.length h.c2) := SC.cell 1
          have e2 : Y1.cell? ⟨g, 2, none⟩ = some (.int .i64 s.l0) := SC.cell 2
          have e3 : Y1.cell? ⟨g, 3, none⟩ = some (.int .i64 s.l1) := SC.cell 3
          have e4 : Y1.cell? ⟨g, 4, none⟩ = some (.int .i64 s.l2) := SC.cell 4
          have e5 : Y1.cell? ⟨g, 5, none⟩ = some (.int .i64 s.l3) := SC.cell 5
          have e6 : Y1.cell? ⟨g, 6, none⟩ = some (.slice h.A3 s.rows.length h.c3) := SC.cell 6
          have e7 : Y1.cell? ⟨g, 7, none⟩ = some (.slice h.A4 s.frames.length h.c4) := SC.cell 7
          have e8 : Y1.cell? ⟨g, 8, none⟩ = some (.slice h.A5 s.tanks.length h.c5) := SC.cell 8
          have e9 : Y1.cell? ⟨g, 9, none⟩ = some (.int .i64 s.m0) := SC.cell 9
          have e10 : Y1.cell? ⟨g, 10, none⟩ = some (.int .i64 s.m1) := SC.cell 10
          have e11 : Y1.cell? ⟨g, 11, none⟩ = some (.int .i64 s.m2) := SC.cell 11
          have e12 : Y1.cell? ⟨g, 12, none⟩ = some (.int .i64 s.m3) := SC.cell 12
          have x0 : Y1.cell? ⟨gx, 0, none⟩ = some (.int .i64 (kc : Nat)) := HKX1.out.cell 0
          have x1 : Y1.cell? ⟨gx, 1, none⟩ = some (.int .i64 xt) := HKX1.out.cell 1
          have x2 : Y1.cell? ⟨gx, 2, none⟩ = some (.int .u8 (xh : Nat)) := HKX1.out.cell 2
          clear SC
          go_wp2_with fail
          refine KRM.out.mono ?_
          rintro e Y2 ⟨rfl, hb⟩
          simp only
          clear e0 e1 e2 e3 e4 e5 e6 e7 e8 e9 e10 e11 e12
          clear KRM x0 x1 x2
          have HRI : Hid (RI w (Y2.alloc (.cells #[.int .i64 0, .int .i64 rm, .int .i64 (rm + 1), .int .i64 ((rm + 1) / 2)] 3)) g gb gx Y2.heap.size s h A1 bs A3 st sz kg (some ⟨b, off, none⟩) fl ⟨(kc : Nat), xt, xh⟩ (fiveL rm)) := Lib.hid (by
            have hx := hb.trans ((ba1 Y2 (.cells #[.int .i64 0, .int .i64 rm, .int .i64 (rm + 1), .int .i64 ((rm + 1) / 2)] 3)).mono hb.size)
            exact ⟨HR2.out.1.on hx, (HR2.out.2.keep (no_keep hx (Nat.le_refl _))).more (No.on hx.size), HKX1.out.below hx HKX1.out.lt, Bk.new Y2 _ _⟩)
          clear hb HR2 HKX1
          have hr0 : ¬ rm < 0 := by omega
          have hr1 : ¬ 500000000 < rm := by omega
          go_upto_block 2 with fail
          clear hr0 hr1
          generalize Y2.heap.size = gl at *
          generalize (Y2.alloc _) = Z0 at *
          try clear Y2
          try clear Y1
          go_wp2_with fail
          go_loopw [72] (fun i wz => ∃ (j : Nat) (kg : Int), j ≤ 4 ∧ i = .int .i64 j ∧ Hid (RI w wz g gb gx gl s h A1 bs A3 st sz kg (some ⟨b, off, none⟩) fl ⟨(kc : Nat), xt, xh⟩ (fiveL rm))) (fun i _ => 4 - (intOf i).toNat)
          case atStart => exact ⟨0, kg, by omega, rfl, HRI⟩
          case round =>
            clear HRI
            obtain ⟨j, kg, hj, rfl, HI⟩ := hrel
            obtain ⟨Z, rfl⟩ : ∃ V, V = wr := ⟨_, rfl⟩
            by_cases hjl : j < 4
            · have j0 : (0 : Int) ≤ (j : Int) := by omega
              have j1 : (j : Int) < 4 := by omega
              have hj1 : j + 1 ≤ 4 := hjl
              obtain ⟨kj, hkj, kj0, kj1⟩ : ∃ kj : Int, Z.cell? ⟨gl, j, none⟩ = some (.int .i64 kj) ∧ 0 ≤ kj ∧ kj ≤ 500000001 := by
                have kb := HI.out.kl
                unfold fiveL at kb
                obtain rfl | rfl | rfl | rfl : j = 0 ∨ j = 1 ∨ j = 2 ∨ j = 3 := by omega
                · exact ⟨0, kb.cell 0, by omega, by omega⟩
                · exact ⟨rm, kb.cell 1, by omega, by omega⟩
                · exact ⟨rm + 1, kb.cell 2, by omega, by omega⟩
                · exact ⟨(rm + 1) / 2, kb.cell 3, by omega, by omega⟩
              have kb := HI.out.rw_.bb
              have y4 : Z.cell? ⟨gb, 4, none⟩ = some (.int .i64 kg) := kb.cell 4
              have f4 := kb.frozen 4
              have HI1 := Lib.hid (HI.out.put kj)
              clear kb HI
              go_upto_region 16 with fail
              clear hkj y4 f4
              generalize (Z.setCell _ _) = Z1 at *
              try clear Z
              have HI1b : Hid (RI w Z1 g gb gx gl s h A1 bs A3 st sz kj (some ⟨b, off, none⟩) fl ⟨(kc : Nat), xt, xh⟩ (fiveL rm)) := HI1
              clear HI1
              have HSB : Hid (∀ V : World, Cb Z1 V → Src tBx V (Lt Z1.heap.size) A1 bs.length bs) := Lib.hid fun V hV => (HI1b.out.rw_.ww.bx.below hV).src rfl (fun b hb => Nat.lt_of_lt_of_le hb (Below.size hV))
              have kb := HI1b.out.rw_.bb
              have y0 : Z1.cell? ⟨gb, 0, none⟩ = some (.int .i64 900) := kb.cell 0
              have y1 : Z1.cell? ⟨gb, 1, none⟩ = some (.string ⟨#[]⟩) := kb.cell 1
              have y2 : Z1.cell? ⟨gb, 2, none⟩ = some (.int .u8 (sz : Nat)) := kb.cell 2
              have y3 : Z1.cell? ⟨gb, 3, none⟩ = some (.bool false) := kb.cell 3
              have y4 : Z1.cell? ⟨gb, 4, none⟩ = some (.int .i64 kj) := kb.cell 4
              have y5 : Z1.cell? ⟨gb, 5, none⟩ = some (.int .i64 0) := kb.cell 5
              have y6 : Z1.cell? ⟨gb, 6, none⟩ = some (.int .i64 1) := kb.cell 6
              have y7 : Z1.cell? ⟨gb, 7, none⟩ = some (.int .u8 0) := kb.cell 7
              have y8 : Z1.cell? ⟨gb, 8, none⟩ = some (.bool false) := kb.cell 8
              clear kb
              refine wp_region_og [.sl 0 0 43 #[] Z1.heap.size,
    .val 1 (.slice A1 bs.length q1),
    .own tBx 43 Z1.heap.size (Lt Z1.heap.size) 2 bs,
    .val 3 (.agg #[.int .i64 900, .string ⟨#[]⟩, .int .u8 (sz : Nat), .bool false, .int .i64 kj, .int .i64 0, .int .i64 1, .int .u8 0, .bool false]),
    .sl 4 1 43 #[.int .i64 900, .string ⟨#[]⟩, .int .u8 (sz : Nat), .bool false, .int .i64 kj, .int .i64 0, .int .i64 1, .int .u8 0, .bool false] Z1.heap.size,
    .own tBx 43 Z1.heap.size (Lt Z1.heap.size) 5 (bs ++ [(⟨900, ⟨#[]⟩, sz, false, kj, 0, 1, 0, false⟩ : Bx)]),
    .own tBx 43 Z1.heap.size (Lt Z1.heap.size) 6 (bs ++ [(⟨900, ⟨#[]⟩, sz, false, kj, 0, 1, 0, false⟩ : Bx)])]
                [[], [], [0, 1], [], [3], [2, 4], [5]] [6] (Cb Z1) (by kernel_rfl) (by kernel_rfl) (Cb.drew Z1) ⟨?_, ?_, ?_, ?_, ?_, ?_, ?_, trivial⟩ ?_
              case refine_1 =>
                refine StepL.up fun x V hV hu K Q hK => ?_
                clear hu
                rw [owp_eq]
                go_big_op
                exact hK _ _ (ba1 V _) ⟨_, rfl, Below.size hV, Bk.new V _ _⟩
              case refine_2 =>
                refine StepL.up fun x V hV hu K Q hK => ?_
                clear hu
                simp only [putL, List.set_cons_zero, List.set_cons_succ] at hK ⊢
                rw [owp_eq]
                go_big_op
                exact hK _ _ (Below.refl _ _) rfl
              case refine_3 =>
                refine StepL.wr [3, 4] (by kernel_rfl) fun x V hV hu K Q hK => ?_
                obtain ⟨gd, ud, hgd, hkd⟩ := hu 0 (by decide)
                have HO := own_of_empty (T := tBx) hkd hgd
                have uj : x 1 = _ := hu 1 (by decide)
                have HSRC := HSB.out V hV
                clear hu
                simp only [putL, List.set_cons_zero, List.set_cons_succ] at hK ⊢
                refine wp_append_og el_bx (.tmp 78) (.tmp 79) rfl Z1.heap.size (Lt Z1.heap.size) _ _ ud HO _ _ _ _ rfl uj HSRC (by unfold maxLen; simp; omega) (by simp; omega) (Below.size hV) fun v' w' h1 h2 h3 => ?_
                refine hK v' _ (hV.app h3) h1 fun k hk' => ?_
                simp only [List.mem_cons, List.not_mem_nil, or_false] at hk'
                rcases hk' with rfl | rfl
                · exact fun h => h
                · rintro ⟨g', e', l', k'⟩; exact ⟨g', e', l', k'.stay h2 (fun q => (Bk.size_ne hkd k' (by simp)) (Option.some.inj q))⟩
              case refine_4 =>
                refine StepL.up fun x V hV hu K Q hK => ?_
                have fy0 := hV.cell y0
                have fy1 := hV.cell y1
                have fy2 := hV.cell y2
                have fy3 := hV.cell y3
                have fy4 := hV.cell y4
                have fy5 := hV.cell y5
                have fy6 := hV.cell y6
                have fy7 := hV.cell y7
                have fy8 := hV.cell y8
                clear hu
                simp only [putL, List.set_cons_zero, List.set_cons_succ] at hK ⊢
                rw [owp_eq]
                go_big_op
                exact hK _ _ (Below.refl _ _) rfl
              case refine_5 =>
                refine StepL.up fun x V hV hu K Q hK => ?_
                have u3 : x 3 = _ := hu 3 (by decide)
                clear hu
                simp only [putL, List.set_cons_zero, List.set_cons_succ] at hK ⊢
                rw [owp_eq]
                go_big_op
                exact hK _ _ (ba1 V _) ⟨_, rfl, Below.size hV, Bk.new V _ _⟩
              case refine_6 =>
                refine StepL.wr [] (by kernel_rfl) fun x V hV hu K Q hK => ?_
                have HO : OwnS tBx 43 V Z1.heap.size (Lt Z1.heap.size) (x 2) _ := hu 2 (by decide)
                obtain ⟨gj, uj, hgj, hkj⟩ := hu 4 (by decide)
                have HSRC := Src.blk (T := tBx) (S := Lt Z1.heap.size) (ms := [(⟨900, ⟨#[]⟩, sz, false, kj, 0, 1, 0, false⟩ : Bx)]) hkj (Flat.single rfl) rfl
                clear hu
                simp only [putL, List.set_cons_zero, List.set_cons_succ] at hK ⊢
                refine wp_append_og el_bx (.tmp 80) (.tmp 82) rfl Z1.heap.size (Lt Z1.heap.size) _ _ rfl HO _ _ _ [(⟨900, ⟨#[]⟩, sz, false, kj, 0, 1, 0, false⟩ : Bx)] rfl uj HSRC (by unfold maxLen; simp; omega) (by simp; omega) (Below.size hV) fun v' w' h1 h2 h3 => ?_
                refine hK v' _ (hV.app h3) h1 fun k hk' => ?_
                cases hk'
              case refine_7 =>
                refine StepL.up fun x V hV hu K Q hK => ?_
                have h9 : OwnS tBx 43 V Z1.heap.size (Lt Z1.heap.size) (x 5) _ := hu 5 (by decide)
                clear hu
                simp only [putL, List.set_cons_zero, List.set_cons_succ] at hK ⊢
                rw [owp_eq]
                go_big_op
                exact hK _ _ (Below.refl _ _) h9
              case refine_8 =>
                intro x X1 hV hA
                have h6 : OwnS tBx 43 X1 Z1.heap.size (Lt Z1.heap.size) (x 6) (bs ++ [(⟨900, ⟨#[]⟩, sz, false, kj, 0, 1, 0, false⟩ : Bx)]) := hA 6 rfl (by decide)
                simp only [layL, putL, List.set_cons_zero, List.set_cons_succ]
                obtain ⟨A5, c5, e5, _, _, hs5⟩ := h6.sl'
                rw [e5]
                have HS5 : Hid (SlT tBx X1 (Lt X1.heap.size) A5 (bs ++ [putB sz kj])) := Lib.hid hs5
                have HI2 : Hid (RI w X1 g gb gx gl s h A1 bs A3 st sz kj (some ⟨b, off, none⟩) fl ⟨(kc : Nat), xt, xh⟩ (fiveL rm)) := Lib.hid (HI1b.out.on hV)
                clear hA h6 e5 hs5 hV HSB y0 y1 y2 y3 y4 y5 y6 y7 y8 HI1b
                rw [more_bl]
                try clear Z1
                have HSS : Hid (∀ V : World, Cb X1 V → Src tStw V (Lt X1.heap.size) A3 st.length st) := Lib.hid fun V hV => (HI2.out.rw_.ww.sx.below hV).src rfl (fun b hb => Nat.lt_of_lt_of_le hb (Below.size hV))
                have kb := HI2.out.rw_.bb
                have kx := HI2.out.kx
                have y0 : X1.cell? ⟨gb, 0, none⟩ = some (.int .i64 900) := kb.cell 0
                have x0 : X1.cell? ⟨gx, 0, none⟩ = some (.int .i64 (kc : Nat)) := kx.cell 0
                have x1 : X1.cell? ⟨gx, 1, none⟩ = some (.int .i64 xt) := kx.cell 1
                have x2 : X1.cell? ⟨gx, 2, none⟩ = some (.int .u8 (xh : Nat)) := kx.cell 2
                clear kb kx
                go_upto_region 17 with fail
                refine wp_region_og [.sl 0 0 61 #[] X1.heap.size,
    .val 1 (.slice A3 st.length q3),
    .own tStw 61 X1.heap.size (Lt X1.heap.size) 2 st,
    .val 3 (.pointer (some ⟨gb, 0, none⟩)),
    .val 4 (.int .i64 900),
    .val 5 (.agg #[.int .i64 (kc : Nat), .int .i64 xt, .int .u8 (xh : Nat)]),
    .val 6 (.agg #[.int .i64 900, .int .i64 (kc : Nat), .int .i64 xt, .int .u8 (xh : Nat)]),
    .sl 7 1 61 #[.int .i64 900, .int .i64 (kc : Nat), .int .i64 xt, .int .u8 (xh : Nat)] X1.heap.size,
    .own tStw 61 X1.heap.size (Lt X1.heap.size) 8 (st ++ [(⟨900, ⟨(kc : Nat), xt, xh⟩⟩ : Stw)]),
    .own tStw 61 X1.heap.size (Lt X1.heap.size) 9 (st ++ [(⟨900, ⟨(kc : Nat), xt, xh⟩⟩ : Stw)])]
                  [[], [], [0, 1], [], [3], [], [4, 5], [6], [2, 7], [8]] [9] (Cb X1) (by kernel_rfl) (by kernel_rfl) (Cb.drew X1) ⟨?_, ?_, ?_, ?_, ?_, ?_, ?_, ?_, ?_, ?_, trivial⟩ ?_
                case refine_1 =>
                  refine StepL.up fun x V hV hu K Q hK => ?_
                  clear hu
                  rw [owp_eq]
                  go_big_op
                  exact hK _ _ (ba1 V _) ⟨_, rfl, Below.size hV, Bk.new V _ _⟩
                case refine_2 =>
                  refine StepL.up fun x V hV hu K Q hK => ?_
                  clear hu
                  simp only [putL, List.set_cons_zero, List.set_cons_succ] at hK ⊢
                  rw [owp_eq]
                  go_big_op
                  exact hK _ _ (Below.refl _ _) rfl
                case refine_3 =>
                  refine StepL.wr [3, 4, 5, 6, 7] (by kernel_rfl) fun x V hV hu K Q hK => ?_
                  obtain ⟨gd, ud, hgd, hkd⟩ := hu 0 (by decide)
                  have HO := own_of_empty (T := tStw) hkd hgd
                  have uj : x 1 = _ := hu 1 (by decide)
                  have HSRC := HSS.out V hV
                  clear hu
                  simp only [putL, List.set_cons_zero, List.set_cons_succ] at hK ⊢
                  refine wp_append_og el_stw (.tmp 84) (.tmp 85) rfl X1.heap.size (Lt X1.heap.size) _ _ ud HO _ _ _ _ rfl uj HSRC (by unfold maxLen; simp; omega) (by simp; omega) (Below.size hV) fun v' w' h1 h2 h3 => ?_
                  refine hK v' _ (hV.app h3) h1 fun k hk' => ?_
                  simp only [List.mem_cons, List.not_mem_nil, or_false] at hk'
                  rcases hk' with rfl | rfl | rfl | rfl | rfl
                  · exact fun h => h
                  · exact fun h => h
                  · exact fun h => h
                  · exact fun h => h
                  · rintro ⟨g', e', l', k'⟩; exact ⟨g', e', l', k'.stay h2 (fun q => (Bk.size_ne hkd k' (by simp)) (Option.some.inj q))⟩
                case refine_4 =>
                  refine StepL.up fun x V hV hu K Q hK => ?_
                  clear hu
                  simp only [putL, List.set_cons_zero, List.set_cons_succ] at hK ⊢
                  rw [owp_eq]
                  go_big_op
                  exact hK _ _ (Below.refl _ _) rfl
                case refine_5 =>
                  refine StepL.up fun x V hV hu K Q hK => ?_
                  have u3 : x 3 = _ := hu 3 (by decide)
                  have fy0 := hV.cell y0
                  clear hu
                  simp only [putL, List.set_cons_zero, List.set_cons_succ] at hK ⊢
                  rw [owp_eq]
                  go_big_op
                  exact hK _ _ (Below.refl _ _) rfl
                case refine_6 =>
                  refine StepL.up fun x V hV hu K Q hK => ?_
                  have fx0 := hV.cell x0
                  have fx1 := hV.cell x1
                  have fx2 := hV.cell x2
                  clear hu
                  simp only [putL, List.set_cons_zero, List.set_cons_succ] at hK ⊢
                  rw [owp_eq]
                  go_big_op
                  exact hK _ _ (Below.refl _ _) rfl
                case refine_7 =>
                  refine StepL.up fun x V hV hu K Q hK => ?_
                  have u4 : x 4 = _ := hu 4 (by decide)
                  have u5 : x 5 = _ := hu 5 (by decide)
                  clear hu
                  simp only [putL, List.set_cons_zero, List.set_cons_succ] at hK ⊢
                  rw [owp_eq]
                  go_big_op
                  exact hK _ _ (Below.refl _ _) rfl
                case refine_8 =>
                  refine StepL.up fun x V hV hu K Q hK => ?_
                  have u6 : x 6 = _ := hu 6 (by decide)
                  clear hu
                  simp only [putL, List.set_cons_zero, List.set_cons_succ] at hK ⊢
                  rw [owp_eq]
                  go_big_op
                  exact hK _ _ (ba1 V _) ⟨_, rfl, Below.size hV, Bk.new V _ _⟩
                case refine_9 =>
                  refine StepL.wr [] (by kernel_rfl) fun x V hV hu K Q hK => ?_
                  have HO : OwnS tStw 61 V X1.heap.size (Lt X1.heap.size) (x 2) _ := hu 2 (by decide)
                  obtain ⟨gj, uj, hgj, hkj⟩ := hu 7 (by decide)
                  have HSRC := Src.blk (T := tStw) (S := Lt X1.heap.size) (ms := [(⟨900, ⟨(kc : Nat), xt, xh⟩⟩ : Stw)]) hkj (Flat.single rfl) rfl
                  clear hu
                  simp only [putL, List.set_cons_zero, List.set_cons_succ] at hK ⊢
                  refine wp_append_og el_stw (.tmp 86) (.tmp 91) rfl X1.heap.size (Lt X1.heap.size) _ _ rfl HO _ _ _ [(⟨900, ⟨(kc : Nat), xt, xh⟩⟩ : Stw)] rfl uj HSRC (by unfold maxLen; simp; omega) (by simp; omega) (Below.size hV) fun v' w' h1 h2 h3 => ?_
                  refine hK v' _ (hV.app h3) h1 fun k hk' => ?_
                  cases hk'
                case refine_10 =>
                  refine StepL.up fun x V hV hu K Q hK => ?_
                  have h9 : OwnS tStw 61 V X1.heap.size (Lt X1.heap.size) (x 8) _ := hu 8 (by decide)
                  clear hu
                  simp only [putL, List.set_cons_zero, List.set_cons_succ] at hK ⊢
                  rw [owp_eq]
                  go_big_op
                  exact hK _ _ (Below.refl _ _) h9
                case refine_11 =>
                  intro x Z2 hV hA
                  have h9 : OwnS tStw 61 Z2 X1.heap.size (Lt X1.heap.size) (x 9) (st ++ [(⟨900, ⟨(kc : Nat), xt, xh⟩⟩ : Stw)]) := hA 9 rfl (by decide)
                  simp only [layL, putL, List.set_cons_zero, List.set_cons_succ]
                  obtain ⟨A6, c6, e6, _, _, hs6⟩ := h9.sl'
                  rw [e6]
                  have HS6 : Hid (SlT tStw Z2 (Lt Z2.heap.size) A6 (st ++ [⟨900, ⟨(kc : Nat), xt, xh⟩⟩])) := Lib.hid hs6
                  have HS5b : Hid (SlT tBx Z2 (Lt Z2.heap.size) A5 (bs ++ [putB sz kj])) := Lib.hid (HS5.out.on hV)
                  have HI3 : Hid (RI w Z2 g gb gx gl s h A1 bs A3 st sz kj (some ⟨b, off, none⟩) fl ⟨(kc : Nat), xt, xh⟩ (fiveL rm)) := Lib.hid (HI2.out.on hV)
                  clear hA h9 e6 hs6 hV HSS y0 x0 x1 x2 HI2 HS5
                  rw [more_sl]
                  try clear X1
                  have hn1 : bs.length + 1 ≤ 1000000 := by omega
                  have hn2 : st.length + 1 ≤ 1000 := by omega
                  have KF2 : Hid (Calls Try.prog 30 #[.agg (shpA s h), .slice A5 (bs.length + 1) c5, .slice A6 (st.length + 1) c6, .int .i64 (kc : Nat)] Z2 (OwnLf Z2 (lfaultsF s (bs ++ [putB sz kj]) (st ++ [⟨900, ⟨(kc : Nat), xt, xh⟩⟩]) kc))) := Lib.hid (by
                    have hw := HI3.out.rw_.ww
                    have k1 := lFaults_any s h A5 c5 (bs ++ [putB sz kj]) A6 c6 (st ++ [⟨900, ⟨(kc : Nat), xt, xh⟩⟩]) (kc : Nat) Z2 (by
                      intro y hy
                      rcases List.mem_append.1 hy with hy | hy
                      · exact HKL.out y hy
                      · obtain rfl : y = putB sz kj := by simpa using hy
                        unfold putB
                        simp only
                        omega) HLH.out hw.rd HLM.out.short HS5b.out (by rw [more_bl]; exact hn1) HS6.out (by rw [more_sl]; exact hn2)
                    rw [more_bl, more_sl] at k1
                    exact k1)
                  have HIFF := Lib.hid (HEX1.out (putB sz kj) rfl rfl kj0)
                  unfold putB at HIFF
                  simp only at HIFF
                  have HIF1 : Hid (kj ≤ rm → lfaultsF s (bs ++ [putB sz kj]) (st ++ [⟨900, ⟨(kc : Nat), xt, xh⟩⟩]) kc = []) := Lib.hid HIFF.out.1
                  have HIF2 : Hid (rm < kj → rm < 500000000 → lfaultsF s (bs ++ [putB sz kj]) (st ++ [⟨900, ⟨(kc : Nat), xt, xh⟩⟩]) kc ≠ []) := Lib.hid HIFF.out.2
                  clear HIFF HS5b HS6
                  generalize lfaultsF s (bs ++ [putB sz kj]) (st ++ [⟨900, ⟨(kc : Nat), xt, xh⟩⟩]) kc = F2 at *
                  have SC := HI3.out.rw_.bk
                  unfold shpA at KF2
                  have e0 : Z2.cell? ⟨g, 0, none⟩ = some (.slice h.A1 s.cols.length h.c1) := SC.cell 0
                  have e1 : Z2.cell? ⟨g, 1, none⟩ = some (.slice h.A2 s.covs.length h.c2) := SC.cell 1
                  have e2 : Z2.cell? ⟨g, 2, none⟩ = some (.int .i64 s.l0) := SC.cell 2
                  have e3 : Z2.cell? ⟨g, 3, none⟩ = some (.int .i64 s.l1) := SC.cell 3
                  have e4 : Z2.cell? ⟨g, 4, none⟩ = some (.int .i64 s.l2) := SC.cell 4
                  have e5 : Z2.cell? ⟨g, 5, none⟩ = some (.int .i64 s.l3) := SC.cell 5
                  have e6 : Z2.cell? ⟨g, 6, none⟩ = some (.slice h.A3 s.rows.length h.c3) := SC.cell 6
                  have e7 : Z2.cell? ⟨g, 7, none⟩ = some (.slice h.A4 s.frames.length h.c4) := SC.cell 7
                  have e8 : Z2.cell? ⟨g, 8, none⟩ = some (.slice h.A5 s.tanks.length h.c5) := SC.cell 8
                  have e9 : Z2.cell? ⟨g, 9, none⟩ = some (.int .i64 s.m0) := SC.cell 9
                  have e10 : Z2.cell? ⟨g, 10, none⟩ = some (.int .i64 s.m1) := SC.cell 10
                  have e11 : Z2.cell? ⟨g, 11, none⟩ = some (.int .i64 s.m2) := SC.cell 11
                  have e12 : Z2.cell? ⟨g, 12, none⟩ = some (.int .i64 s.m3) := SC.cell 12
                  have x0 : Z2.cell? ⟨gx, 0, none⟩ = some (.int .i64 (kc : Nat)) := HI3.out.kx.cell 0
                  clear SC
                  by_cases hle : kj ≤ rm
                  · obtain rfl : F2 = [] := HIF1.out hle
                    have hng : ¬ rm < kj := by omega
                    clear HIF1 HIF2
                    go_wp2_with fail
                    refine KF2.out.mono ?_
                    rintro e Z4 ⟨v9, rfl, hov, hb⟩
                    simp only
                    clear e0 e1 e2 e3 e4 e5 e6 e7 e8 e9 e10 e11 e12
                    clear KF2 x0
                    obtain ⟨A9, c9, rfl, _, _, _⟩ := hov.sl
                    have HI4 := Lib.hid (HI3.out.on hb)
                    clear hov hb HI3
                    go_wp2_with fail
                    go_roundw
                    case rel => first | exact ⟨_, _, _, _, _, _, ⟨j + 1, hj1, by go_num, kj, HI4⟩, rfl, rfl, rfl, rfl, rfl, rfl⟩ | exact ⟨j + 1, hj1, by go_num, kj, HI4⟩ | exact ⟨j + 1, kj, hj1, by go_num, HI4⟩ | exact ⟨hj1, by go_num, kj, HI4⟩
                    case measure => simp [intOf]; omega
                  · have hgt : rm < kj := by omega
                    cases F2 with
                    | nil =>
                      have hmx : ¬ rm < 500000000 := fun h => HIF2.out hgt h rfl
                      clear HIF1 HIF2
                      go_wp2_with fail
                      refine KF2.out.mono ?_
                      rintro e Z4 ⟨v9, rfl, hov, hb⟩
                      simp only
                      clear e0 e1 e2 e3 e4 e5 e6 e7 e8 e9 e10 e11 e12
                      clear KF2 x0
                      obtain ⟨A9, c9, rfl, _, _, _⟩ := hov.sl
                      have HI4 := Lib.hid (HI3.out.on hb)
                      clear hov hb HI3
                      go_wp2_with fail
                      go_roundw
                      case rel => first | exact ⟨_, _, _, _, _, _, ⟨j + 1, hj1, by go_num, kj, HI4⟩, rfl, rfl, rfl, rfl, rfl, rfl⟩ | exact ⟨j + 1, hj1, by go_num, kj, HI4⟩ | exact ⟨j + 1, kj, hj1, by go_num, HI4⟩ | exact ⟨hj1, by go_num, kj, HI4⟩
                      case measure => simp [intOf]; omega
                    | cons a0 ar =>
                      have hp0 : (0 : Int) < (((a0 :: ar).length : Nat) : Int) := by rw [List.length_cons]; omega
                      clear HIF1 HIF2
                      go_wp2_with fail
                      refine KF2.out.mono ?_
                      rintro e Z4 ⟨v9, rfl, hov, hb⟩
                      simp only
                      clear e0 e1 e2 e3 e4 e5 e6 e7 e8 e9 e10 e11 e12
                      clear KF2 x0
                      obtain ⟨A9, c9, rfl, _, _, _⟩ := hov.sl
                      have HI4 := Lib.hid (HI3.out.on hb)
                      clear hov hb HI3
                      generalize (a0 :: ar).length = na at *
                      go_wp2_with fail
                      go_roundw
                      case rel => first | exact ⟨_, _, _, _, _, _, ⟨j + 1, hj1, by go_num, kj, HI4⟩, rfl, rfl, rfl, rfl, rfl, rfl⟩ | exact ⟨j + 1, hj1, by go_num, kj, HI4⟩ | exact ⟨j + 1, kj, hj1, by go_num, HI4⟩ | exact ⟨hj1, by go_num, kj, HI4⟩
                      case measure => simp [intOf]; omega
            · obtain rfl : j = 4 := by omega
              have HR9 := Lib.hid (show RW w Z g gb s h A1 bs A3 st sz kg ∧ SlT tSlt Z (No Z.heap.size gb) (some ⟨b, off, none⟩) fl from ⟨HI.out.rw_, HI.out.fr⟩)
              clear HI
              go_wp2_with fail
              go_roundw
              case rel => (repeat apply Exists.intro); (first | exact ⟨⟨k + 1, kg, hlt, by go_num, HR9⟩, rfl⟩ | exact ⟨hlt, by go_num, HR9⟩)
              case measure => simp [intOf]; omega
      · obtain rfl : k = fl.length := by omega
        have HW9 := Lib.hid HR.out.1.be
        clear HR HLM HLD HFL
        go_wp2_with fail
        refine (awake11_true _).mono ?_
        rintro e W9 ⟨rfl, hb⟩
        simp only
        go_wp2_with fail
        go_ret
        exact ⟨rfl, HW9.out.trans (hb.mono HW9.out.size)⟩
end Go.Proofs.Ytncfakkajknhaaa
