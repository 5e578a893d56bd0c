/-
  Walks of the reference of chapter 11: Check, room, Room.
-/
import Derived.Test.YtmkplemdnglhmaaRjB
import Derived.Test.YtmkplemdnglhmaaRhB
import Derived.Test.YtmkplemdnglhmaaLaZ
namespace Go.Proofs.Ytmkplemdnglhmaa
open Go.RowKit

theorem fr11_src {w : World} {B2 : Nat} {v v' : Value} {ms : List Flt} (h : OwnT tFr 144 w B2 v' ms) (hv : ∀ g, v.ownBlock = some g → g < B2) : ∃ A c, v' = .slice A ms.length c ∧ SlT tFr w (But w v) A ms := by
  obtain ⟨xs, ho, hf⟩ := h
  obtain ⟨A, c, e, h1, h2, h3⟩ := OwnT.sl ⟨xs, ho, hf⟩
  subst e
  refine ⟨A, c, rfl, fun hn => ?_⟩
  obtain ⟨b, off, rfl, hb, hc⟩ := h3 hn
  refine ⟨b, off, rfl, ⟨hb, fun e => ?_⟩, hc⟩
  have h4 := hv b e.symm
  have h5 := (ho.lt b (by
    rcases ho.2 with ⟨h0, _⟩ | ⟨g, cap, cur, h0, _⟩
    · cases h0
    · injection h0 with h0 _ _; injection h0 with h0; injection h0 with h0 _ _; simp only [h0]; rfl)).1
  omega
def LCheckRetR (w : World) (s : Shp) (boxes : List Bx) (l : List Stw) (e : Ending) (w' : World) : Prop :=
  ∃ v, e = .returned (.tuple #[v, .int .i64 (if stowRight s boxes l then 0 else 2)]) ∧ OwnT tFr 144 w' w.heap.size v (lcheckL s boxes l) ∧ Below w.heap.size w w'
set_option maxRecDepth 100000 in
set_option maxHeartbeats 4000000 in
theorem refCheck11_any (s : Shp) (h : Hd) (A : Option Addr) (c : Nat) (boxes : List Bx) (A2 : Option Addr) (c2 : Nat) (l : List Stw) (w : World) (hkg : KgL boxes) (htol : ∀ c ∈ s.cols, c.lash ≤ 1000000000000000) (hsh : ShpR w (Lt w.heap.size) s h) (hf : Few s) (hcl : s.cols.length ≤ 1000000)
    (hb : SlT tBx w (Lt w.heap.size) A boxes) (hbl : boxes.length ≤ 1000000) (hs : SlT tStw w (Lt w.heap.size) A2 l) (hl : l.length ≤ 1000) (hti : ∀ x ∈ l, x.slot.tier ≤ 9223372036854775807) (hsz : ∀ b ∈ boxes, b.size < 256) :
    Calls Try.prog 55 #[.agg (shpA s h), .slice A boxes.length c, .slice A2 l.length c2] w (LCheckRetR w s boxes l) := by
  have hbx := ba1 w (.cells (shpA s h) 32)
  have HR := Lib.hid (refStow_any s h A c boxes A2 c2 l (w.alloc (.cells (shpA s h) 32)) (hsh.on hbx) hf hcl ((hb.below hbx).up hbx.size) hbl ((hs.below hbx).up hbx.size) (by omega) hti hsz)
  have KS := Lib.hid (Bk.new w 32 (shpA s h))
  have HB := Lib.hid hbx
  have HFL : Hid (∀ (k : Nat) (V : World), k < s.cols.length → Below w.heap.size w V → Calls Try.prog 58 #[.agg (shpA s h), .slice A boxes.length c, .slice A2 l.length c2, .int .i64 (k : Nat)] V (OwnFr11 V (lfaultsF s boxes l k))) := Lib.hid fun k V hk hV => by
    have := refFaults11_any s h A c boxes A2 c2 l k V hkg htol ((hsh.below hV).up hV.size) hcl ((hb.below hV).up hV.size) hbl ((hs.below hV).up hV.size) hl
    exact this
  have HC : Hid (lcheckL s boxes l = if stowRight s boxes l then lcheckF s boxes l s.cols.length else []) := Lib.hid rfl
  clear hb hs hsh hbx
  unfold LCheckRetR
  generalize lcheckL s boxes l = CL at *
  have q0 : (w.alloc (.cells (shpA s h) 32)).cell? ⟨w.heap.size, 0, none⟩ = some (.slice h.A1 s.cols.length h.c1) := KS.out.cell 0
  cases hr : stowRight s boxes l with
  | false =>
    rw [hr] at HR HC
    unfold shpA at HR HB q0 ⊢
    go_enter Try.func55, Try.ntmps55
    go_wp2_with fail
    refine HR.out.mono ?_
    rintro e w1 ⟨rfl, hb1⟩
    simp only
    go_wp2_with fail
    go_ret2
    exact ⟨_, rfl, by rw [HC.out]; exact OwnT.nil, HB.out.trans (hb1.mono HB.out.size)⟩
  | true =>
    rw [hr] at HR HC
    simp only [if_true] at HC ⊢
    have HSP : Hid (shpA s h = #[.slice h.A1 s.cols.length h.c1, .slice h.A2 s.covs.length h.c2, .int .i64 s.l0, .int .i64 s.l1, .int .i64 s.l2, .int .i64 s.l3, .slice h.A3 s.rows.length h.c3, .slice h.A4 s.frames.length h.c4, .slice h.A5 s.tanks.length h.c5, .int .i64 s.m0, .int .i64 s.m1, .int .i64 s.m2, .int .i64 s.m3]) := Lib.hid rfl
    unfold shpA at HR HB q0 HFL ⊢
    go_enter Try.func55, Try.ntmps55
    go_upto_region 1 with fail
    go_wp2_with fail
    refine HR.out.mono ?_
    rintro e w1 ⟨rfl, hb1⟩
    simp only
    have hb2 := HB.out.trans (hb1.mono HB.out.size)
    have KS2 := Lib.hid (KS.out.below hb1 (by simp))
    have q1 : w1.cell? ⟨w.heap.size, 0, none⟩ = some (.slice h.A1 s.cols.length h.c1) := KS2.out.cell 0
    clear q0 hb1 HR KS HB
    clear q1
    go_wp2_with fail
    go_loopw [8, 9] (fun v i wr => ∃ (k : Nat) (m : List Flt), k ≤ s.cols.length ∧ i = .int .i64 k ∧ Hid (m = lcheckF s boxes l k) ∧ OwnT tFr 144 wr w.heap.size v m ∧ Below w.heap.size w wr ∧ Hid (Bk wr w.heap.size 32 (shpA s h))) (fun _ i _ => s.cols.length - (intOf i).toNat)
    case atStart => exact ⟨0, [], Nat.zero_le _, rfl, Lib.hid (by simp [lcheckF]), OwnT.nil, hb2, KS2⟩
    case round =>
      clear hb2 KS2
      obtain ⟨k, m, hk, rfl, HM, hown, hbW, KS⟩ := hrel
      obtain ⟨V, rfl⟩ : ∃ V, V = wr := ⟨_, rfl⟩
      have bS := KS.out
      obtain ⟨e0, e1, e2, e3, e4, e5, e6, e7, e8, e9, e10, e11, e12⟩ : V.cell? ⟨w.heap.size, 0, none⟩ = some (.slice h.A1 s.cols.length h.c1) ∧ V.cell? ⟨w.heap.size, 1, none⟩ = some (.slice h.A2 s.covs.length h.c2) ∧ V.cell? ⟨w.heap.size, 2, none⟩ = some (.int .i64 s.l0) ∧ V.cell? ⟨w.heap.size, 3, none⟩ = some (.int .i64 s.l1) ∧ V.cell? ⟨w.heap.size, 4, none⟩ = some (.int .i64 s.l2) ∧ V.cell? ⟨w.heap.size, 5, none⟩ = some (.int .i64 s.l3) ∧ V.cell? ⟨w.heap.size, 6, none⟩ = some (.slice h.A3 s.rows.length h.c3) ∧ V.cell? ⟨w.heap.size, 7, none⟩ = some (.slice h.A4 s.frames.length h.c4) ∧ V.cell? ⟨w.heap.size, 8, none⟩ = some (.slice h.A5 s.tanks.length h.c5) ∧ V.cell? ⟨w.heap.size, 9, none⟩ = some (.int .i64 s.m0) ∧ V.cell? ⟨w.heap.size, 10, none⟩ = some (.int .i64 s.m1) ∧ V.cell? ⟨w.heap.size, 11, none⟩ = some (.int .i64 s.m2) ∧ V.cell? ⟨w.heap.size, 12, none⟩ = some (.int .i64 s.m3) := ⟨bS.cell 0, bS.cell 1, bS.cell 2, bS.cell 3, bS.cell 4, bS.cell 5, bS.cell 6, bS.cell 7, bS.cell 8, bS.cell 9, bS.cell 10, bS.cell 11, bS.cell 12⟩
      clear bS
      by_cases hlt : k < s.cols.length
      · have i0 : (0 : Int) ≤ (k : Int) := by omega
        have i1 : (k : Int) < (s.cols.length : Int) := by omega
        have a1 : k + 1 ≤ s.cols.length := hlt
        have hml : m.length ≤ 2000000 := by
          rw [HM.out]
          exact Nat.le_trans (lcheckF_len s boxes l k) (by omega)
        have hfl := lfaults_len s boxes l k
        have HM1 : Hid (lcheckF s boxes l (k + 1) = m ++ lfaultsF s boxes l k) := Lib.hid (by rw [lcheckF_succ, ← HM.out])
        have HK := Lib.hid (HFL.out k V hlt hbW)
        generalize lfaultsF s boxes l k = fk at *
        go_wp2_with fail
        refine HK.out.mono ?_
        rintro e V1 ⟨v', rfl, ho', hq⟩
        simp only
        clear e0 e1 e2 e3 e4 e5 e6 e7 e8 e9 e10 e11 e12
        have hown1 := hown.below hq
        obtain ⟨A', c', rfl, hsl⟩ := fr11_src ho' (own_ltT hown)
        have hb3 := hbW.trans (hq.mono hbW.size)
        have KS1 := Lib.hid (KS.out.below hq KS.out.lt)
        have hsz := hb3.size
        clear HK ho' hq
        go_wp2_with (at_builtin; (refine wpList_append_T el_fr11 rfl (.tmp 22) (.tmp 27) rfl w.heap.size _ m rfl hown1 A' fk.length c' fk rfl rfl hsl ?c1 ?c2 hsz ?_))
        case c1 => unfold maxLen; omega
        case c2 => omega
        intro v'' w3 hown3 hgr hbel
        have KS3 : Hid (Bk w3 w.heap.size 32 (shpA s h)) := Lib.hid (by
          obtain ⟨xs, ho, _⟩ := hown1
          exact KS1.out.grown hgr (Ne.symm (own_ne ho KS1.out (by decide))))
        have HM2 : Hid (m ++ fk = lcheckF s boxes l (k + 1)) := Lib.hid HM1.out.symm
        have HO3 := Lib.hid hown3
        have HB3 := Lib.hid (hb3.trans hbel)
        clear hgr hown3 hbel hsl hown1
        go_wp2
        go_roundw
        case rel => exact ⟨k + 1, m ++ fk, a1, by go_num, HM2, HO3.out, HB3.out, KS3⟩
        case measure => simp [intOf]; omega
      · obtain rfl : k = s.cols.length := by omega
        go_wp2
        go_ret2
        exact ⟨_, rfl, by rw [HC.out, ← HM.out]; exact hown, hbW⟩
/-- What a half has room for, as the reference tells it. -/
def roomG (L lift M : Int) : Int := if L - M < 0 then 0 else if lift = 0 then 500000000 else if 500000000 < (L - M) / lift then 500000000 else (L - M) / lift
set_option maxRecDepth 100000 in
set_option maxHeartbeats 4000000 in
theorem refroom_any (A : Option Addr) (c : Nat) (boxes : List Bx) (A2 : Option Addr) (c2 : Nat) (l : List Stw) (x : Slt) (half : Nat) (L : Int) (w : World) (hk : KgL boxes) (hL : 0 ≤ L ∧ L ≤ 1000000000000000) (hb : SlT tBx w (Lt w.heap.size) A boxes) (hbl : boxes.length ≤ 1000000) (hs : SlT tStw w (Lt w.heap.size) A2 l) (hl : l.length ≤ 1000) :
    Calls Try.prog 97 #[.slice A boxes.length c, .slice A2 l.length c2, .agg (sltL x).toArray, .int .u8 (half : Nat), .int .i64 L] w (Ret w (.int .i64 (roomG L (liftF boxes l x) (momentF boxes l x.col half)))) := by
  obtain ⟨xc, xt, xh⟩ := x
  have hb0 := ba1 w (.cells #[.int .i64 xc, .int .i64 xt, .int .u8 (xh : Nat)] 40)
  have KX := Lib.hid (Bk.new w 40 #[.int .i64 xc, .int .i64 xt, .int .u8 (xh : Nat)])
  have HB0 := Lib.hid hb0
  have KM := Lib.hid (fun (U : World) (hU : Below (w.alloc (.cells #[.int .i64 xc, .int .i64 xt, .int .u8 (xh : Nat)] 40)).heap.size (w.alloc (.cells #[.int .i64 xc, .int .i64 xt, .int .u8 (xh : Nat)] 40)) U) => refMoment_any A c boxes A2 c2 l xc half U hk ((hb.on hb0).on hU) hbl ((hs.on hb0).on hU) hl)
  have KL := Lib.hid (fun (U : World) (hU : Below (w.alloc (.cells #[.int .i64 xc, .int .i64 xt, .int .u8 (xh : Nat)] 40)).heap.size (w.alloc (.cells #[.int .i64 xc, .int .i64 xt, .int .u8 (xh : Nat)] 40)) U) => refLift_any A c boxes A2 c2 l ⟨xc, xt, xh⟩ U ((hb.on hb0).on hU) hbl ((hs.on hb0).on hU) hl)
  obtain ⟨g1, g2⟩ := moment_bd hk hl xc half
  obtain ⟨g3, g4⟩ := lift_bd boxes hl ⟨xc, xt, xh⟩
  clear hb hs hb0 hk
  obtain ⟨hL0, hL1⟩ := hL
  unfold sltL at *
  simp only at *
  generalize momentF boxes l xc half = M at *
  generalize liftF boxes l ⟨xc, xt, xh⟩ = lf at *
  obtain ⟨r, hr⟩ : ∃ r, roomG L lf M = r := ⟨_, rfl⟩
  rw [hr]
  have HV : Hid (r = if L - M < 0 then 0 else if lf = 0 then 500000000 else if 500000000 < (L - M) / lf then 500000000 else (L - M) / lf) := Lib.hid hr.symm
  clear hr
  have s1 : IntKind.i64.wrap (L - M) = L - M := IntWalk.i64_in _ (by omega)
  go_enter Try.func97, Try.ntmps97
  go_upto_region 1 with fail
  generalize (w.alloc _) = W at *
  have x0 : ∀ gp : Gr W, gp.W.cell? ⟨w.heap.size, 0, none⟩ = some (.int .i64 xc) := Gr.cell (KX.out.cell 0)
  refine wp_region_grs ?_
  repeat (go_big_quiet_step ((with_reducible exact Gr.call _ (fun V hV => KM.out V hV))))
  refine wpQuiet_nil ?_
  rintro Y ⟨⟨_, hbY⟩, rfl⟩
  have HY := Lib.hid hbY
  clear hbY KM x0 s1
  have x0 : Y.cell? ⟨w.heap.size, 0, none⟩ = some (.int .i64 xc) := (KX.out.below HY.out KX.out.lt).cell 0
  have x1 : Y.cell? ⟨w.heap.size, 1, none⟩ = some (.int .i64 xt) := (KX.out.below HY.out KX.out.lt).cell 1
  have x2 : Y.cell? ⟨w.heap.size, 2, none⟩ = some (.int .u8 (xh : Nat)) := (KX.out.below HY.out KX.out.lt).cell 2
  go_wp2_with fail
  refine (KL.out Y HY.out).mono ?_
  rintro e V ⟨rfl, hb⟩
  simp only
  have HE := Lib.hid (HB0.out.trans ((HY.out.trans (hb.mono HY.out.size)).mono HB0.out.size))
  clear hb HY KL x0 x1 x2
  by_cases p1 : L - M < 0
  · have HZ : Hid (r = 0) := Lib.hid (by rw [HV.out, if_pos p1])
    go_wp2_with fail
    go_ret
    exact ⟨by rw [HZ.out]; rfl, HE.out⟩
  · by_cases p2 : lf = 0
    · have HZ : Hid (r = 500000000) := Lib.hid (by rw [HV.out, if_neg p1, if_pos p2])
      have q2 : (lf == 0) = true := by simpa using p2
      clear p2
      go_wp2_with fail
      go_ret
      exact ⟨by rw [HZ.out]; rfl, HE.out⟩
    · have q2 : (lf == 0) = false := by simpa using p2
      have hpos : 0 < lf := by omega
      have hn0 : 0 ≤ L - M := by omega
      obtain ⟨d0, d1⟩ := div_bd (a := L - M) (b := lf) (by omega) (by omega) hpos
      by_cases p3 : 500000000 < (L - M) / lf
      · have HZ : Hid (r = 500000000) := Lib.hid (by rw [HV.out, if_neg p1, if_neg p2, if_pos p3])
        go_wp2_with fail
        go_ret
        exact ⟨by rw [HZ.out]; rfl, HE.out⟩
      · have HZ : Hid (r = (L - M) / lf) := Lib.hid (by rw [HV.out, if_neg p1, if_neg p2, if_neg p3])
        go_wp2_with fail
        go_ret
        exact ⟨by rw [HZ.out]; rfl, HE.out⟩
theorem go_one (L li : Int) (M : Nat → Int) (h : Nat) (hli : 0 ≤ li) : lroomGo L li M [h] 500000000 = roomG L li (M h) := by
  unfold roomG
  simp only [lroomGo]
  split
  · rfl
  · by_cases h0 : li = 0
    · rw [if_neg (by omega), if_pos h0]
    · rw [if_pos (by omega), if_neg h0]
      unfold minI
      split <;> split <;> omega
theorem go_two (L li : Int) (M : Nat → Int) (a b : Nat) (hli : 0 ≤ li) : lroomGo L li M [a, b] 500000000 = if roomG L li (M a) < roomG L li (M b) then roomG L li (M a) else roomG L li (M b) := by
  have hd : ∀ z : Int, 0 ≤ z → 0 ≤ z / li := fun z hz => Int.ediv_nonneg hz hli
  have h1 := hd (L - M a)
  have h2 := hd (L - M b)
  unfold roomG
  simp only [lroomGo]
  generalize (L - M a) / li = u at *
  generalize (L - M b) / li = v at *
  generalize L - M a = p at *
  generalize L - M b = q at *
  unfold minI
  by_cases c1 : p < 0
  · rw [if_pos c1, if_pos c1]
    (repeat' split) <;> omega
  · rw [if_neg c1, if_neg c1]
    by_cases c2 : q < 0
    · rw [if_pos c2, if_pos c2]
      (repeat' split) <;> omega
    · rw [if_neg c2, if_neg c2]
      by_cases c3 : li = 0
      · have c4 : ¬ 0 < li := by omega
        simp only [c3, if_neg c4]
        simp
      · have c4 : 0 < li := by omega
        simp only [if_neg c3, if_pos c4]
        (repeat' split) <;> omega
set_option maxRecDepth 100000 in
set_option maxHeartbeats 8000000 in
theorem refRoom11_any (s : Shp) (h : Hd) (A : Option Addr) (c : Nat) (boxes : List Bx) (A2 : Option Addr) (c2 : Nat) (l : List Stw) (x : Slt) (w : World) (hk : KgL boxes) (hlh : ∀ c ∈ s.cols, c.lash ≤ 1000000000000000) (hsh : ShpR w (Lt w.heap.size) s h) (hcl : s.cols.length ≤ 1000000) (hb : SlT tBx w (Lt w.heap.size) A boxes) (hbl : boxes.length ≤ 1000000) (hs : SlT tStw w (Lt w.heap.size) A2 l) (hl : l.length ≤ 1000) :
    Calls Try.prog 51 #[.agg (shpA s h), .slice A boxes.length c, .slice A2 l.length c2, .agg (sltL x).toArray] w (Ret w (.int .i64 (lroomF s boxes l x))) := by
  obtain ⟨R, hR⟩ : ∃ R, lroomF s boxes l x = R := ⟨_, rfl⟩
  rw [hR]
  have HR := Lib.hid hR
  clear hR
  obtain ⟨xc, xt, xh⟩ := x
  have hb0 := ba2 w (.cells (shpA s h) 32) (.cells #[.int .i64 xc, .int .i64 xt, .int .u8 (xh : Nat)] 40)
  have KE := Lib.hid ((Bk.new w 32 (shpA s h)).alloc (.cells #[.int .i64 xc, .int .i64 xt, .int .u8 (xh : Nat)] 40))
  have KX := Lib.hid (Bk.nxt8 (w := w) (.cells (shpA s h) 32) 40 #[.int .i64 xc, .int .i64 xt, .int .u8 (xh : Nat)])
  have HB0 := Lib.hid hb0
  have HSH := Lib.hid (hsh.on hb0)
  have HBX := Lib.hid (hb.on hb0)
  have HST := Lib.hid (hs.on hb0)
  have HKG := Lib.hid hk
  have HLH := Lib.hid hlh
  clear hsh hb hs hk hlh hb0
  unfold shpA at KE KX HB0 HSH HBX HST
  unfold shpA sltL
  simp only
  go_enter Try.func51, Try.ntmps51
  go_upto_region 1 with fail
  generalize ((w.alloc _).alloc _) = W at *
  have e0 : W.cell? ⟨w.heap.size, 0, none⟩ = some (.slice h.A1 s.cols.length h.c1) := KE.out.cell 0
  have x0 : W.cell? ⟨w.heap.size + 1, 0, none⟩ = some (.int .i64 xc) := KX.out.cell 0
  cases p1 : decide (xc < 0) with
  | true =>
    have HN : Hid (R = 0) := Lib.hid (by rw [← HR.out]; unfold lroomF thereB; rw [decide_eq_false (by have := of_decide_eq_true p1; simp only; omega)]; rfl)
    clear HR
    go_wp2_with fail
    go_ret
    exact ⟨by rw [HN.out]; rfl, HB0.out⟩
  | false =>
    cases p2 : decide ((s.cols.length : Int) ≤ xc) with
    | true =>
      have HN : Hid (R = 0) := Lib.hid (by rw [← HR.out]; unfold lroomF thereB; rw [decide_eq_false (by have := of_decide_eq_true p2; simp only; omega : ¬ (⟨xc, xt, xh⟩ : Slt).col < (s.cols.length : Int)), Bool.and_false]; rfl)
      clear HR
      go_wp2_with fail
      go_ret
      exact ⟨by rw [HN.out]; rfl, HB0.out⟩
    | false =>
      obtain ⟨k, rfl⟩ : ∃ k : Nat, xc = (k : Int) := ⟨xc.toNat, by have := of_decide_eq_false p1; omega⟩
      have hk : k < s.cols.length := by have := of_decide_eq_false p2; omega
      have HRF : Hid (R = if lashF s (k : Int) = 0 then 500000000 else lroomGo (lashF s (k : Int)) (liftF boxes l ⟨(k : Int), xt, xh⟩) (momentF boxes l (k : Int)) (hvL ⟨(k : Int), xt, xh⟩) 500000000) := Lib.hid (by
        rw [← HR.out]
        unfold lroomF
        rw [if_pos (by unfold thereB; simp; omega)])
      have HLF := Lib.hid (lashF_at0 hk)
      have HLB := HLH.out _ (getD_memD hk default)
      clear HR
      have i0 : (0 : Int) ≤ (k : Int) := by omega
      have i1 : (k : Int) < (s.cols.length : Int) := by omega
      obtain ⟨b1, o1, cA, cq, hA, _, hcq, hcp, d0, d1, d2, d3, d4, d5, d6, d7, d8, d9, d10, d11⟩ := HSH.out.cols.col hk
      have HA := Lib.hid hA
      rw [hA] at e0
      clear hA hcq hcp p2
      generalize s.cols.getD k default = cc at *
      obtain ⟨cb, cr, cd, ct, ch, c20, c40, cl, cp, cx, cy, cz⟩ := cc
      simp only at d0 d1 d2 d3 d4 d5 d6 d7 d8 d9 d10 d11 HLF HLB
      have hbc := ba1 W (.cells #[.int .i64 cb, .int .i64 cr, .bool cd, .int .i64 ct, .int .i64 ch, .int .i64 c20, .int .i64 c40, .int .i64 cl, .slice cA cp.length cq, .int .i64 cx, .int .i64 cy, .int .i64 cz] 46)
      have KC := Lib.hid (Bk.new W 46 #[.int .i64 cb, .int .i64 cr, .bool cd, .int .i64 ct, .int .i64 ch, .int .i64 c20, .int .i64 c40, .int .i64 cl, .slice cA cp.length cq, .int .i64 cx, .int .i64 cy, .int .i64 cz])
      have HBW := Lib.hid hbc
      go_upto_region 4 with fail
      obtain ⟨gc, hgc⟩ : ∃ gc, gc = W.heap.size := ⟨_, rfl⟩
      rw [← hgc] at KC ⊢
      have KX1 := Lib.hid (KX.out.below hbc KX.out.lt)
      clear hgc hbc e0 x0 d0 d1 d2 d3 d4 d5 d6 d7 d8 d9 d10 d11
      generalize (W.alloc _) = W1 at *
      have HE1 := Lib.hid (HB0.out.trans (HBW.out.mono HB0.out.size))
      have cc2 : W1.cell? ⟨gc, 2, none⟩ = some (.bool cd) := KC.out.cell 2
      have cc7 : W1.cell? ⟨gc, 7, none⟩ = some (.int .i64 cl) := KC.out.cell 7
      cases cd with
      | false =>
        have HY : Hid (R = 500000000) := Lib.hid (by rw [HRF.out, if_pos (by rw [HLF.out]; simp)])
        go_wp2_with fail
        go_ret
        exact ⟨by rw [HY.out]; rfl, HE1.out⟩
      | true =>
        cases p3 : decide (cl < 1) with
        | true =>
          have HY : Hid (R = 500000000) := Lib.hid (by rw [HRF.out, if_pos (by rw [HLF.out, if_pos rfl]; have := of_decide_eq_true p3; split <;> omega)])
          go_wp2_with fail
          go_ret
          exact ⟨by rw [HY.out]; rfl, HE1.out⟩
        | false =>
          have hcl0 := of_decide_eq_false p3
          have HLL : Hid (lashF s (k : Int) = cl) := Lib.hid (by rw [HLF.out, if_pos rfl, if_neg (by omega)])
          have KR := Lib.hid (fun (half : Nat) (U : World) (hU : Below W1.heap.size W1 U) => refroom_any A c boxes A2 c2 l ⟨(k : Int), xt, xh⟩ half cl U HKG.out ⟨by omega, HLB⟩ (HBX.out.on (HBW.out.trans (hU.mono HBW.out.size))) hbl (HST.out.on (HBW.out.trans (hU.mono HBW.out.size))) hl)
          have hlb := (lift_bd boxes hl ⟨(k : Int), xt, xh⟩).1
          unfold sltL at KR
          simp only at KR
          have x0 : W1.cell? ⟨w.heap.size + 1, 0, none⟩ = some (.int .i64 (k : Nat)) := KX1.out.cell 0
          have x1 : W1.cell? ⟨w.heap.size + 1, 1, none⟩ = some (.int .i64 xt) := KX1.out.cell 1
          have x2 : W1.cell? ⟨w.heap.size + 1, 2, none⟩ = some (.int .u8 (xh : Nat)) := KX1.out.cell 2
          by_cases hz : xh = 0
          · have q0 : ((xh : Int) != 0) = false := by rw [hz]; rfl
            have HY : Hid (R = if roomG cl (liftF boxes l ⟨(k : Int), xt, xh⟩) (momentF boxes l (k : Int) 1) < roomG cl (liftF boxes l ⟨(k : Int), xt, xh⟩) (momentF boxes l (k : Int) 2) then roomG cl (liftF boxes l ⟨(k : Int), xt, xh⟩) (momentF boxes l (k : Int) 1) else roomG cl (liftF boxes l ⟨(k : Int), xt, xh⟩) (momentF boxes l (k : Int) 2)) := Lib.hid (by
              rw [HRF.out, if_neg (by rw [HLL.out]; omega), HLL.out, show hvL ⟨(k : Int), xt, xh⟩ = [1, 2] by unfold hvL; rw [if_pos hz]]
              exact go_two _ _ _ _ _ hlb)
            have K1 := Lib.hid (KR.out 1)
            have K2 := Lib.hid (KR.out 2)
            clear KR hz HRF hlb
            generalize roomG cl (liftF boxes l ⟨(k : Int), xt, xh⟩) (momentF boxes l (k : Int) 1) = r1 at *
            generalize roomG cl (liftF boxes l ⟨(k : Int), xt, xh⟩) (momentF boxes l (k : Int) 2) = r2 at *
            go_wp2_with fail
            refine (K1.out W1 (Below.refl _ _)).mono ?_
            rintro e V ⟨rfl, hb⟩
            simp only
            have HV := Lib.hid hb
            have KXV := Lib.hid (KX1.out.below hb KX1.out.lt)
            have KCV := Lib.hid (KC.out.below hb KC.out.lt)
            clear hb K1 x0 x1 x2 cc2 cc7
            have cc7 : V.cell? ⟨gc, 7, none⟩ = some (.int .i64 cl) := KCV.out.cell 7
            have x0 : V.cell? ⟨w.heap.size + 1, 0, none⟩ = some (.int .i64 (k : Nat)) := KXV.out.cell 0
            have x1 : V.cell? ⟨w.heap.size + 1, 1, none⟩ = some (.int .i64 xt) := KXV.out.cell 1
            have x2 : V.cell? ⟨w.heap.size + 1, 2, none⟩ = some (.int .u8 (xh : Nat)) := KXV.out.cell 2
            go_wp2_with fail
            refine (K2.out V HV.out).mono ?_
            rintro e V2 ⟨rfl, hb⟩
            simp only
            have HE := Lib.hid (HE1.out.trans ((HV.out.trans (hb.mono HV.out.size)).mono HE1.out.size))
            clear hb K2 x0 x1 x2 cc7 HV
            cases p4 : decide (r1 < r2) with
            | true =>
              have HZ : Hid (R = r1) := Lib.hid (by rw [HY.out, if_pos (of_decide_eq_true p4)])
              go_wp2_with fail
              go_ret
              exact ⟨by rw [HZ.out]; rfl, HE.out⟩
            | false =>
              have HZ : Hid (R = r2) := Lib.hid (by rw [HY.out, if_neg (of_decide_eq_false p4)])
              go_wp2_with fail
              go_ret
              exact ⟨by rw [HZ.out]; rfl, HE.out⟩
          · have q0 : ((xh : Int) != 0) = true := by simp; omega
            have HY : Hid (R = roomG cl (liftF boxes l ⟨(k : Int), xt, xh⟩) (momentF boxes l (k : Int) xh)) := Lib.hid (by
              rw [HRF.out, if_neg (by rw [HLL.out]; omega), HLL.out, show hvL ⟨(k : Int), xt, xh⟩ = [xh] by unfold hvL; rw [if_neg hz]]
              exact go_one _ _ _ _ hlb)
            have K1 := Lib.hid (KR.out xh)
            clear KR hz HRF hlb
            generalize roomG cl (liftF boxes l ⟨(k : Int), xt, xh⟩) (momentF boxes l (k : Int) xh) = r1 at *
            go_wp2_with fail
            refine (K1.out W1 (Below.refl _ _)).mono ?_
            rintro e V ⟨rfl, hb⟩
            simp only
            have HE := Lib.hid (HE1.out.trans (hb.mono HE1.out.size))
            clear hb K1 x0 x1 x2 cc2 cc7
            go_wp2_with fail
            go_ret
            exact ⟨by rw [HY.out]; rfl, HE.out⟩
end Go.Proofs.Ytmkplemdnglhmaa
