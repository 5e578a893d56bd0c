/-
  Walks of package lash: Check, Room.
-/
import Derived.Test.YtncfakkajknhaaaLaD
import Derived.Test.YtncfakkajknhaaaStN
namespace Go.Proofs.Ytncfakkajknhaaa
open Go.RowKit

def lcheckF (s : Shp) (boxes : List Bx) (l : List Stw) (n : Nat) : List Flt := (List.range n).flatMap fun (c : Nat) => lfaultsF s boxes l c
theorem lcheckF_succ (s : Shp) (boxes : List Bx) (l : List Stw) (n : Nat) : lcheckF s boxes l (n + 1) = lcheckF s boxes l n ++ lfaultsF s boxes l n := by simp [lcheckF, List.range_succ]
theorem lcheckF_len (s : Shp) (boxes : List Bx) (l : List Stw) : ∀ n, (lcheckF s boxes l n).length ≤ 2 * n
  | 0 => by simp [lcheckF]
  | n + 1 => by
    rw [lcheckF_succ, List.length_append]
    have h1 := lcheckF_len s boxes l n
    have h2 := lfaults_len s boxes l n
    omega
theorem lflt_src {w : World} {B2 : Nat} {v v' : Value} {ms : List Flt} (h : OwnT tFlt 92 w B2 v' ms) (hv : ∀ g, v.ownBlock = some g → g < B2) : ∃ A c, v' = .slice A ms.length c ∧ SlT tFlt w (But w v) A ms := by
  obtain ⟨xs, ho, hf⟩ := h
  obtain ⟨A, c, e, h1, h2, h3⟩ := OwnT.sl ⟨xs, ho, hf⟩
  subst e
  refine ⟨A, c, rfl, fun hn => ?_⟩
  obtain ⟨b, off, rfl, hb, hc⟩ := h3 hn
  refine ⟨b, off, rfl, ⟨hb, fun e => ?_⟩, hc⟩
  have h4 := hv b e.symm
  have h5 := (ho.lt b (by
    rcases ho.2 with ⟨h0, _⟩ | ⟨g, cap, cur, h0, _⟩
    · cases h0
    · injection h0 with h0 _ _; injection h0 with h0; injection h0 with h0 _ _; simp only [h0]; rfl)).1
  omega
/-- The faults of a whole state. -/
def lcheckL (s : Shp) (boxes : List Bx) (l : List Stw) : List Flt := if stowRight s boxes l then lcheckF s boxes l s.cols.length else []
def LCheckRet (w : World) (s : Shp) (boxes : List Bx) (l : List Stw) (e : Ending) (w' : World) : Prop :=
  ∃ v, e = .returned (.tuple #[v, .int .i64 (if stowRight s boxes l then 0 else 2)]) ∧ OwnT tFlt 92 w' w.heap.size v (lcheckL s boxes l) ∧ Below w.heap.size w w'
set_option maxRecDepth 100000 in
set_option maxHeartbeats 4000000 in
theorem lCheck_any (s : Shp) (h : Hd) (A : Option Addr) (c : Nat) (boxes : List Bx) (A2 : Option Addr) (c2 : Nat) (l : List Stw) (w : World) (hkg : KgL boxes) (htol : ∀ c ∈ s.cols, c.lash ≤ 1000000000000000) (hsh : ShpR w (Lt w.heap.size) s h) (hf : Few s) (hi : Ints s) (hcl : s.cols.length ≤ 1000000)
    (hb : SlT tBx w (Lt w.heap.size) A boxes) (hbl : boxes.length ≤ 1000000) (hs : SlT tStw w (Lt w.heap.size) A2 l) (hl : l.length ≤ 1000000) (hl9 : l.length ≤ 1000) (hll : l.length ≤ c2) (ht : ∀ x ∈ l, x.slot.tier ≤ 9223372036854775807) :
    Calls Try.prog 36 #[.agg (shpA s h), .slice A boxes.length c, .slice A2 l.length c2] w (LCheckRet w s boxes l) := by
  have hbx := ba1 w (.cells (shpA s h) 37)
  have HR := Lib.hid (stowRight_any s h A c boxes A2 c2 l (w.alloc (.cells (shpA s h) 37)) (hsh.on hbx) hf hi hcl ((hb.below hbx).up hbx.size) hbl ((hs.below hbx).up hbx.size) hl hll ht)
  have KS := Lib.hid (Bk.new w 37 (shpA s h))
  have HB := Lib.hid hbx
  have HFL : Hid (∀ (k : Nat) (V : World), k < s.cols.length → Below w.heap.size w V → Calls Try.prog 30 #[.agg (shpA s h), .slice A boxes.length c, .slice A2 l.length c2, .int .i64 (k : Nat)] V (OwnLf V (lfaultsF s boxes l k))) := Lib.hid fun k V hk hV => by
    have := lFaults_any s h A c boxes A2 c2 l k V hkg htol ((hsh.below hV).up hV.size) hcl ((hb.below hV).up hV.size) hbl ((hs.below hV).up hV.size) hl9
    exact this
  have HC : Hid (lcheckL s boxes l = if stowRight s boxes l then lcheckF s boxes l s.cols.length else []) := Lib.hid rfl
  clear hb hs hsh hbx
  unfold LCheckRet
  generalize lcheckL s boxes l = CL at *
  have q0 : (w.alloc (.cells (shpA s h) 37)).cell? ⟨w.heap.size, 0, none⟩ = some (.slice h.A1 s.cols.length h.c1) := KS.out.cell 0
  cases hr : stowRight s boxes l with
  | false =>
    rw [hr] at HR HC
    unfold shpA at HR HB q0 ⊢
    go_enter Try.func36, Try.ntmps36
    go_wp2_with fail
    refine HR.out.mono ?_
    rintro e w1 ⟨rfl, hb1⟩
    simp only
    go_wp2_with fail
    go_ret2
    exact ⟨_, rfl, by rw [HC.out]; exact OwnT.nil, HB.out.trans (hb1.mono HB.out.size)⟩
  | true =>
    rw [hr] at HR HC
    simp only [if_true] at HC ⊢
    have HSP : Hid (shpA s h = #[.slice h.A1 s.cols.length h.c1, .slice h.A2 s.covs.length h.c2, .int .i64 s.l0, .int .i64 s.l1, .int .i64 s.l2, .int .i64 s.l3, .slice h.A3 s.rows.length h.c3, .slice h.A4 s.frames.length h.c4, .slice h.A5 s.tanks.length h.c5, .int .i64 s.m0, .int .i64 s.m1, .int .i64 s.m2, .int .i64 s.m3]) := Lib.hid rfl
    unfold shpA at HR HB q0 HFL ⊢
    go_enter Try.func36, Try.ntmps36
    go_upto_region 1 with fail
    go_wp2_with fail
    refine HR.out.mono ?_
    rintro e w1 ⟨rfl, hb1⟩
    simp only
    have hb2 := HB.out.trans (hb1.mono HB.out.size)
    have KS2 := Lib.hid (KS.out.below hb1 (by simp))
    have q1 : w1.cell? ⟨w.heap.size, 0, none⟩ = some (.slice h.A1 s.cols.length h.c1) := KS2.out.cell 0
    clear q0 hb1 HR KS HB
    go_wp2_with fail
    clear q1
    go_loopw [8, 18] (fun v i wr => ∃ (k : Nat) (m : List Flt), k ≤ s.cols.length ∧ i = .int .i64 k ∧ Hid (m = lcheckF s boxes l k) ∧ OwnT tFlt 92 wr w.heap.size v m ∧ Below w.heap.size w wr ∧ Hid (Bk wr w.heap.size 37 (shpA s h))) (fun _ i _ => s.cols.length - (intOf i).toNat)
    case atStart => exact ⟨0, [], Nat.zero_le _, rfl, Lib.hid (by simp [lcheckF]), OwnT.nil, hb2, KS2⟩
    case round =>
      clear hb2 KS2
      obtain ⟨k, m, hk, rfl, HM, hown, hbW, KS⟩ := hrel
      obtain ⟨V, rfl⟩ : ∃ V, V = wr := ⟨_, rfl⟩
      by_cases hlt : k < s.cols.length
      · have i0 : (0 : Int) ≤ (k : Int) := by omega
        have i1 : (k : Int) < (s.cols.length : Int) := by omega
        have a1 : k + 1 ≤ s.cols.length := hlt
        have hml : m.length ≤ 2000000 := by
          rw [HM.out]
          exact Nat.le_trans (lcheckF_len s boxes l k) (by omega)
        have hfl := lfaults_len s boxes l k
        have HM1 : Hid (lcheckF s boxes l (k + 1) = m ++ lfaultsF s boxes l k) := Lib.hid (by rw [lcheckF_succ, ← HM.out])
        have HK := Lib.hid (HFL.out k V hlt hbW)
        have bS := KS.out
        obtain ⟨e0, e1, e2, e3, e4, e5, e6, e7, e8, e9, e10, e11, e12⟩ : V.cell? ⟨w.heap.size, 0, none⟩ = some (.slice h.A1 s.cols.length h.c1) ∧ V.cell? ⟨w.heap.size, 1, none⟩ = some (.slice h.A2 s.covs.length h.c2) ∧ V.cell? ⟨w.heap.size, 2, none⟩ = some (.int .i64 s.l0) ∧ V.cell? ⟨w.heap.size, 3, none⟩ = some (.int .i64 s.l1) ∧ V.cell? ⟨w.heap.size, 4, none⟩ = some (.int .i64 s.l2) ∧ V.cell? ⟨w.heap.size, 5, none⟩ = some (.int .i64 s.l3) ∧ V.cell? ⟨w.heap.size, 6, none⟩ = some (.slice h.A3 s.rows.length h.c3) ∧ V.cell? ⟨w.heap.size, 7, none⟩ = some (.slice h.A4 s.frames.length h.c4) ∧ V.cell? ⟨w.heap.size, 8, none⟩ = some (.slice h.A5 s.tanks.length h.c5) ∧ V.cell? ⟨w.heap.size, 9, none⟩ = some (.int .i64 s.m0) ∧ V.cell? ⟨w.heap.size, 10, none⟩ = some (.int .i64 s.m1) ∧ V.cell? ⟨w.heap.size, 11, none⟩ = some (.int .i64 s.m2) ∧ V.cell? ⟨w.heap.size, 12, none⟩ = some (.int .i64 s.m3) := ⟨bS.cell 0, bS.cell 1, bS.cell 2, bS.cell 3, bS.cell 4, bS.cell 5, bS.cell 6, bS.cell 7, bS.cell 8, bS.cell 9, bS.cell 10, bS.cell 11, bS.cell 12⟩
        clear bS
        generalize lfaultsF s boxes l k = fk at *
        go_wp2_with fail
        refine HK.out.mono ?_
        rintro e V1 ⟨v', rfl, ho', hq⟩
        simp only
        clear e0 e1 e2 e3 e4 e5 e6 e7 e8 e9 e10 e11 e12
        have hown1 := hown.below hq
        obtain ⟨A', c', rfl, hsl⟩ := lflt_src ho' (own_ltT hown)
        have hb3 := hbW.trans (hq.mono hbW.size)
        have KS1 := Lib.hid (KS.out.below hq KS.out.lt)
        have hsz := hb3.size
        clear HK ho' hq
        go_wp2_with (at_builtin; (refine wpList_append_T el_lflt rfl (.tmp 21) (.tmp 26) rfl w.heap.size _ m rfl hown1 A' fk.length c' fk rfl rfl hsl ?c1 ?c2 hsz ?_))
        case c1 => unfold maxLen; omega
        case c2 => omega
        intro v'' w3 hown3 hgr hbel
        have KS3 : Hid (Bk w3 w.heap.size 37 (shpA s h)) := Lib.hid (by
          obtain ⟨xs, ho, _⟩ := hown1
          exact KS1.out.grown hgr (Ne.symm (own_ne ho KS1.out (by decide))))
        have HM2 : Hid (m ++ fk = lcheckF s boxes l (k + 1)) := Lib.hid HM1.out.symm
        have HO3 := Lib.hid hown3
        have HB3 := Lib.hid (hb3.trans hbel)
        clear hgr hown3 hbel hsl hown1
        go_wp2
        go_roundw
        case rel => exact ⟨k + 1, m ++ fk, a1, by go_num, HM2, HO3.out, HB3.out, KS3⟩
        case measure => simp [intOf]; omega
      · obtain rfl : k = s.cols.length := by omega
        go_wp2
        go_ret2
        exact ⟨_, rfl, by rw [HC.out, ← HM.out]; exact hown, hbW⟩
/-- What there is room for, the halves in h still to be looked at. -/
def lroomGo (L lift : Int) (M : Nat → Int) : List Nat → Int → Int
  | [], out => out
  | h :: t, out => if L - M h < 0 then 0 else lroomGo L lift M t (if 0 < lift then minI out ((L - M h) / lift) else out)
def lroomF (s : Shp) (boxes : List Bx) (l : List Stw) (x : Slt) : Int :=
  if thereB s x.col then (if lashF s x.col = 0 then 500000000 else lroomGo (lashF s x.col) (liftF boxes l x) (momentF boxes l x.col) (hvL x) 500000000) else 0
theorem div_bd {a b : Int} (h0 : 0 ≤ a) (h1 : a ≤ 6000000000000000000) (hb : 0 < b) : 0 ≤ a / b ∧ a / b ≤ 6000000000000000000 := ⟨Int.ediv_nonneg h0 (Int.le_of_lt hb), Int.le_trans (Int.ediv_le_self _ h0) h1⟩
set_option maxRecDepth 100000 in
set_option maxHeartbeats 4000000 in
theorem lRoom_any (s : Shp) (h : Hd) (A : Option Addr) (c : Nat) (boxes : List Bx) (A2 : Option Addr) (c2 : Nat) (l : List Stw) (x : Slt) (w : World) (hk : KgL boxes) (hlh : ∀ c ∈ s.cols, c.lash ≤ 1000000000000000) (hsh : ShpR w (Lt w.heap.size) s h) (hcl : s.cols.length ≤ 1000000)
    (hb : SlT tBx w (Lt w.heap.size) A boxes) (hbl : boxes.length ≤ 1000000) (hs : SlT tStw w (Lt w.heap.size) A2 l) (hl : l.length ≤ 1000) :
    Calls Try.prog 31 #[.agg (shpA s h), .slice A boxes.length c, .slice A2 l.length c2, .agg (sltL x).toArray] w (Ret w (.int .i64 (lroomF s boxes l x))) := by
  have hbs := ba2 w (.cells (shpA s h) 37) (.cells (sltL x).toArray 47)
  have kS := (Bk.new w 37 (shpA s h)).alloc (.cells (sltL x).toArray 47)
  have kX : Bk ((w.alloc (.cells (shpA s h) 37)).alloc (.cells (sltL x).toArray 47)) (w.heap.size + 1) 47 (sltL x).toArray := Bk.at_ _ _ (by simp)
  have HBE := Lib.hid hbs
  have KL := Lib.hid (fun (V : World) (hV : Below w.heap.size w V) => lashed_any s h x.col V (hsh.on hV) hcl)
  have KLI := Lib.hid (fun (V : World) (hV : Below w.heap.size w V) => lift_any A c boxes A2 c2 l x V (hb.on hV) hbl (hs.on hV) hl)
  have KM := Lib.hid (fun (V : World) (hV : Below w.heap.size w V) (hf : Nat) => moment_any A c boxes A2 c2 l x.col hf V hk (hb.on hV) hbl (hs.on hV) hl)
  have KH := Lib.hid (fun V => lashHalves_any x V)
  have HMB := Lib.hid (fun hf => moment_bd hk hl x.col hf)
  have hLb := lashF_bd hlh x.col
  have hlf := lift_bd boxes hl x
  have hhl := hv_len x
  have HV : Hid (lroomF s boxes l x = if thereB s x.col then (if lashF s x.col = 0 then 500000000 else lroomGo (lashF s x.col) (liftF boxes l x) (momentF boxes l x.col) (hvL x) 500000000) else 0) := Lib.hid rfl
  clear hk hlh hsh hb hs hbs
  generalize lroomF s boxes l x = RF at *
  generalize lashF s x.col = L at *
  generalize liftF boxes l x = LI at *
  generalize momentF boxes l x.col = MF at *
  generalize hvL x = hv at *
  obtain ⟨hL0, hL1⟩ := hLb
  obtain ⟨hI0, hI1⟩ := hlf
  obtain ⟨xc, xt, xh⟩ := x
  unfold sltL at kS kX HBE KLI KH
  unfold shpA at kS kX HBE KL
  simp only at kS kX HBE KL KLI KM KH HV
  have HKS := Lib.hid kS
  have HKX := Lib.hid kX
  clear kS kX
  unfold shpA sltL
  simp only
  go_enter Try.func31, Try.ntmps31
  go_upto_region 1 with fail
  obtain ⟨gs, hgs⟩ : ∃ gs, gs = w.heap.size := ⟨_, rfl⟩
  generalize hW : (World.alloc (World.alloc w _) _) = W at *
  clear hW
  rw [← hgs] at HKS HKX ⊢
  have HGS := Lib.hid hgs
  clear hgs
  have e0 : W.cell? ⟨gs, 0, none⟩ = some (.slice h.A1 s.cols.length h.c1) := HKS.out.cell 0
  have x0 : W.cell? ⟨gs + 1, 0, none⟩ = some (.int .i64 xc) := HKX.out.cell 0
  by_cases h0 : 0 ≤ xc
  · by_cases h1 : xc < (s.cols.length : Int)
    · have HV1 : Hid (RF = if L = 0 then 500000000 else lroomGo L LI MF hv 500000000) := Lib.hid (by rw [HV.out]; unfold thereB; rw [decide_eq_true h0, decide_eq_true h1]; rfl)
      clear HV
      have hn0 : ¬ xc < 0 := by omega
      have hn1 : ¬ (s.cols.length : Int) ≤ xc := by omega
      go_upto_region 3 with fail
      clear hn0 hn1 e0
      have SC := HKS.out
      have e0 : W.cell? ⟨gs, 0, none⟩ = some (.slice h.A1 s.cols.length h.c1) := SC.cell 0
      have e1 : W.cell? ⟨gs, 1, none⟩ = some (.slice h.A2 s.covs.length h.c2) := SC.cell 1
      have e2 : W.cell? ⟨gs, 2, none⟩ = some (.int .i64 s.l0) := SC.cell 2
      have e3 : W.cell? ⟨gs, 3, none⟩ = some (.int .i64 s.l1) := SC.cell 3
      have e4 : W.cell? ⟨gs, 4, none⟩ = some (.int .i64 s.l2) := SC.cell 4
      have e5 : W.cell? ⟨gs, 5, none⟩ = some (.int .i64 s.l3) := SC.cell 5
      have e6 : W.cell? ⟨gs, 6, none⟩ = some (.slice h.A3 s.rows.length h.c3) := SC.cell 6
      have e7 : W.cell? ⟨gs, 7, none⟩ = some (.slice h.A4 s.frames.length h.c4) := SC.cell 7
      have e8 : W.cell? ⟨gs, 8, none⟩ = some (.slice h.A5 s.tanks.length h.c5) := SC.cell 8
      have e9 : W.cell? ⟨gs, 9, none⟩ = some (.int .i64 s.m0) := SC.cell 9
      have e10 : W.cell? ⟨gs, 10, none⟩ = some (.int .i64 s.m1) := SC.cell 10
      have e11 : W.cell? ⟨gs, 11, none⟩ = some (.int .i64 s.m2) := SC.cell 11
      have e12 : W.cell? ⟨gs, 12, none⟩ = some (.int .i64 s.m3) := SC.cell 12
      clear SC
      go_wp2_with fail
      refine (KL.out W HBE.out).mono ?_
      rintro e W1 ⟨rfl, hb⟩
      simp only
      clear KL x0
      clear e0 e1 e2 e3 e4 e5 e6 e7 e8 e9 e10 e11 e12
      have HB1 := Lib.hid (HBE.out.trans (hb.mono HBE.out.size))
      have HKX1 := Lib.hid (HKX.out.below hb HKX.out.lt)
      clear hb HBE HKX HKS
      try clear W
      by_cases hz : L = 0
      · have HV2 : Hid (RF = 500000000) := Lib.hid (by rw [HV1.out, if_pos hz])
        clear HV1
        subst hz
        go_wp2_with fail
        go_ret
        exact ⟨by rw [HV2.out]; rfl, HB1.out⟩
      · have HV2 : Hid (RF = lroomGo L LI MF hv 500000000) := Lib.hid (by rw [HV1.out, if_neg hz])
        clear HV1
        have hzb : (L == 0) = false := by simpa using hz
        clear hz
        go_upto_region 6 with fail
        clear hzb
        have x0 : W1.cell? ⟨gs + 1, 0, none⟩ = some (.int .i64 xc) := HKX1.out.cell 0
        have x1 : W1.cell? ⟨gs + 1, 1, none⟩ = some (.int .i64 xt) := HKX1.out.cell 1
        have x2 : W1.cell? ⟨gs + 1, 2, none⟩ = some (.int .u8 (xh : Nat)) := HKX1.out.cell 2
        go_wp2_with fail
        refine (KLI.out W1 HB1.out).mono ?_
        rintro e W2 ⟨rfl, hb⟩
        simp only
        clear KLI x0 x1 x2
        have HB2 := Lib.hid (HB1.out.trans (hb.mono HB1.out.size))
        have HKX2 := Lib.hid (HKX1.out.below hb HKX1.out.lt)
        clear hb HB1 HKX1
        try clear W1
        go_upto_region 7 with fail
        have x0 : W2.cell? ⟨gs + 1, 0, none⟩ = some (.int .i64 xc) := HKX2.out.cell 0
        have x1 : W2.cell? ⟨gs + 1, 1, none⟩ = some (.int .i64 xt) := HKX2.out.cell 1
        have x2 : W2.cell? ⟨gs + 1, 2, none⟩ = some (.int .u8 (xh : Nat)) := HKX2.out.cell 2
        go_wp2_with fail
        refine (KH.out W2).mono ?_
        rintro e W3 ⟨A7, c7, rfl, hs7, hb⟩
        simp only
        clear KH x0 x1 x2
        have HS7 := Lib.hid hs7
        have HB3 := Lib.hid (HB2.out.trans (hb.mono HB2.out.size))
        have HKX3 := Lib.hid (HKX2.out.below hb HKX2.out.lt)
        clear hb HB2 HKX2 hs7
        try clear W2
        go_wp2_with fail
        go_loopw [10, 39] (fun v i wr => ∃ (k : Nat) (o : Int), k ≤ hv.length ∧ i = .int .i64 k ∧ v = .int .i64 o ∧ 0 ≤ o ∧ o ≤ 500000000 ∧ Hid (RF = lroomGo L LI MF (hv.drop k) o) ∧ Hid (Below W3.heap.size W3 wr)) (fun _ i _ => hv.length - (intOf i).toNat)
        case atStart => exact ⟨0, 500000000, Nat.zero_le _, rfl, rfl, by omega, by omega, Lib.hid (by rw [HV2.out]; rfl), Lib.hid (Below.refl _ _)⟩
        case round =>
          obtain ⟨k, o, hk, rfl, rfl, ho0, ho1, HO, HBr⟩ := hrel
          obtain ⟨V, rfl⟩ : ∃ V, V = wr := ⟨_, rfl⟩
          by_cases hlt : k < hv.length
          · have k0 : (0 : Int) ≤ (k : Int) := by omega
            have k1 : (k : Int) < (hv.length : Int) := by omega
            have hk1 : k + 1 ≤ hv.length := hlt
            obtain ⟨b, off, rfl, hbB, c0⟩ := (HS7.out.on HBr.out).u8 hlt
            have HO2 : Hid (RF = if L - MF (hv.getD k 0) < 0 then 0 else lroomGo L LI MF (hv.drop (k + 1)) (if 0 < LI then minI o ((L - MF (hv.getD k 0)) / LI) else o)) := Lib.hid (by
              rw [HO.out, List.drop_eq_getElem_cons hlt]
              have e : hv[k] = hv.getD k 0 := by simp [hlt]
              rw [e]
              rfl)
            clear HO
            have hmb := HMB.out (hv.getD k 0)
            generalize hv.getD k 0 = hf at *
            have KM1 := Lib.hid (KM.out V (HB3.out.trans (HBr.out.mono HB3.out.size)) hf)
            generalize MF hf = mv at *
            obtain ⟨mb0, mb1⟩ := hmb
            go_upto_region 10 with fail
            clear c0
            have x0 : V.cell? ⟨gs + 1, 0, none⟩ = some (.int .i64 xc) := (HKX3.out.below HBr.out HKX3.out.lt).cell 0
            go_wp2_with fail
            refine KM1.out.mono ?_
            rintro e V1 ⟨rfl, hb⟩
            simp only
            clear KM1 x0
            have HBV := Lib.hid (HBr.out.trans (hb.mono HBr.out.size))
            clear hb HBr
            by_cases hneg : L - mv < 0
            · have HF : Hid (RF = 0) := Lib.hid (by rw [HO2.out, if_pos hneg])
              clear HO2
              go_wp2_with fail
              go_ret
              exact ⟨by rw [HF.out]; rfl, HB3.out.trans (HBV.out.mono HB3.out.size)⟩
            · by_cases hpos : 0 < LI
              · obtain ⟨d0, d1⟩ := div_bd (a := L - mv) (b := LI) (by omega) (by omega) hpos
                by_cases hmin : (L - mv) / LI < o
                · have HF : Hid (RF = lroomGo L LI MF (hv.drop (k + 1)) ((L - mv) / LI)) := Lib.hid (by rw [HO2.out, if_neg hneg, if_pos hpos]; unfold minI; rw [if_pos hmin])
                  clear HO2
                  have hn0 : 0 ≤ L - mv := by omega
                  go_wp2_with fail
                  go_roundw
                  case rel => (repeat apply Exists.intro); (first | exact ⟨⟨k + 1, (L - mv) / LI, hk1, by go_num, rfl, d0, by omega, HF, HBV⟩, rfl⟩ | exact ⟨hk1, by go_num, rfl, d0, by omega, HF, HBV⟩)
                  case measure => simp [intOf]; omega
                · have HF : Hid (RF = lroomGo L LI MF (hv.drop (k + 1)) o) := Lib.hid (by rw [HO2.out, if_neg hneg, if_pos hpos]; unfold minI; rw [if_neg hmin])
                  clear HO2
                  have hn0 : 0 ≤ L - mv := by omega
                  go_wp2_with fail
                  go_roundw
                  case rel => (repeat apply Exists.intro); (first | exact ⟨⟨k + 1, o, hk1, by go_num, rfl, ho0, ho1, HF, HBV⟩, rfl⟩ | exact ⟨hk1, by go_num, rfl, ho0, ho1, HF, HBV⟩)
                  case measure => simp [intOf]; omega
              · have HF : Hid (RF = lroomGo L LI MF (hv.drop (k + 1)) o) := Lib.hid (by rw [HO2.out, if_neg hneg, if_neg hpos])
                clear HO2
                go_wp2_with fail
                go_roundw
                case rel => (repeat apply Exists.intro); (first | exact ⟨⟨k + 1, o, hk1, by go_num, rfl, ho0, ho1, HF, HBV⟩, rfl⟩ | exact ⟨hk1, by go_num, rfl, ho0, ho1, HF, HBV⟩)
                case measure => simp [intOf]; omega
          · obtain rfl : k = hv.length := by omega
            rw [List.drop_length] at HO
            obtain rfl : RF = o := HO.out
            go_wp2_with fail
            go_ret
            exact ⟨rfl, HB3.out.trans (HBr.out.mono HB3.out.size)⟩
    · have HV0 : Hid (RF = 0) := Lib.hid (by rw [HV.out]; unfold thereB; rw [decide_eq_false h1]; simp)
      have h1' : (s.cols.length : Int) ≤ xc := by omega
      have hn0 : ¬ xc < 0 := by omega
      clear h1 h0
      go_wp2_with fail
      go_ret
      exact ⟨by rw [HV0.out]; rfl, HBE.out⟩
  · have HV0 : Hid (RF = 0) := Lib.hid (by rw [HV.out]; unfold thereB; rw [decide_eq_false h0]; simp)
    have h0' : xc < 0 := by omega
    clear h0
    go_wp2_with fail
    go_ret
    exact ⟨by rw [HV0.out]; rfl, HBE.out⟩
end Go.Proofs.Ytncfakkajknhaaa
