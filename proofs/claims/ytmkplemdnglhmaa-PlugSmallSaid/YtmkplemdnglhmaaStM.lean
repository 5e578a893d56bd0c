/-
  Walks of package stack: Check.
-/
import Derived.Test.YtmkplemdnglhmaaStL
namespace Go.Proofs.Ytmkplemdnglhmaa
open Go.RowKit

theorem flt_src {w : World} {B2 : Nat} {v v' : Value} {ms : List Flt} (h : OwnT tFlt 73 w B2 v' ms) (hv : ∀ g, v.ownBlock = some g → g < B2) : ∃ A c, v' = .slice A ms.length c ∧ SlT tFlt w (But w v) A ms := by
  obtain ⟨xs, ho, hf⟩ := h
  obtain ⟨A, c, e, h1, h2, h3⟩ := OwnT.sl ⟨xs, ho, hf⟩
  subst e
  refine ⟨A, c, rfl, fun hn => ?_⟩
  obtain ⟨b, off, rfl, hb, hc⟩ := h3 hn
  refine ⟨b, off, rfl, ⟨hb, fun e => ?_⟩, hc⟩
  have h4 := hv b e.symm
  have h5 := (ho.lt b (by
    rcases ho.2 with ⟨h0, _⟩ | ⟨g, cap, cur, h0, _⟩
    · cases h0
    · injection h0 with h0 _ _; injection h0 with h0; injection h0 with h0 _ _; simp only [h0]; rfl)).1
  omega
theorem own_ltT {α : Type} {T : Ty α} {e : TypeId} {w : World} {B : Nat} {v : Value} {l : List α} (h : OwnT T e w B v l) : ∀ g, v.ownBlock = some g → g < w.heap.size := by
  obtain ⟨xs, ho, _⟩ := h
  exact fun g hg => (ho.lt g hg).2
def checkF (s : Shp) (boxes : List Bx) (l : List Stw) (n : Nat) : List Flt := (List.range n).flatMap fun c => faultsF s boxes l c
theorem checkF_succ (s : Shp) (boxes : List Bx) (l : List Stw) (n : Nat) : checkF s boxes l (n + 1) = checkF s boxes l n ++ faultsF s boxes l n := by simp [checkF, List.range_succ]
theorem faultsF_len (s : Shp) (boxes : List Bx) (l : List Stw) (k : Nat) : (faultsF s boxes l k).length ≤ 3 + l.length := by
  unfold faultsF
  rw [List.length_append]
  have h1 := kindsTo_len (heavies s boxes l k) k 3
  have h2 := topsOf_len (topB (s.cols.getD k default).deck s.m0 boxes l k) k l
  omega
theorem checkF_len (s : Shp) (boxes : List Bx) (l : List Stw) : ∀ n, (checkF s boxes l n).length ≤ n * (3 + l.length)
  | 0 => by simp [checkF]
  | n + 1 => by
    rw [checkF_succ, List.length_append, Nat.succ_mul]
    have h1 := checkF_len s boxes l n
    have h2 := faultsF_len s boxes l n
    omega
/-- The faults of a whole state. -/
def checkL (s : Shp) (boxes : List Bx) (l : List Stw) : List Flt := if stowRight s boxes l then checkF s boxes l s.cols.length else []
def CheckRet (w : World) (s : Shp) (boxes : List Bx) (l : List Stw) (e : Ending) (w' : World) : Prop :=
  ∃ v, e = .returned (.tuple #[v, .int .i64 (if stowRight s boxes l then 0 else 2)]) ∧ OwnT tFlt 73 w' w.heap.size v (checkL s boxes l) ∧ Below w.heap.size w w'
set_option maxRecDepth 100000 in
set_option maxHeartbeats 4000000 in
theorem stCheck_any (s : Shp) (h : Hd) (A : Option Addr) (c : Nat) (boxes : List Bx) (A2 : Option Addr) (c2 : Nat) (l : List Stw) (w : World) (hkg : KgOK boxes) (htol : -1000000000000 ≤ s.m0 ∧ s.m0 ≤ 1000000000000) (hsh : ShpR w (Lt w.heap.size) s h) (hf : Few s) (hi : Ints s) (hcl : s.cols.length ≤ 1000000)
    (hb : SlT tBx w (Lt w.heap.size) A boxes) (hbl : boxes.length ≤ 1000000) (hs : SlT tStw w (Lt w.heap.size) A2 l) (hl : l.length ≤ 1000000) (hll : l.length ≤ c2) (ht : ∀ x ∈ l, x.slot.tier ≤ 9223372036854775807) :
    Calls Try.prog 25 #[.agg (shpA s h), .slice A boxes.length c, .slice A2 l.length c2] w (CheckRet w s boxes l) := by
  have hbx := ba1 w (.cells (shpA s h) 32)
  have HR := Lib.hid (stowRight_any s h A c boxes A2 c2 l (w.alloc (.cells (shpA s h) 32)) (hsh.on hbx) hf hi hcl ((hb.below hbx).up hbx.size) hbl ((hs.below hbx).up hbx.size) hl hll ht)
  have KS := Lib.hid (Bk.new w 32 (shpA s h))
  have HB := Lib.hid hbx
  have HFL : Hid (∀ (k : Nat) (V : World), k < s.cols.length → Below w.heap.size w V → Calls Try.prog 28 #[.agg (shpA s h), .slice A boxes.length c, .slice A2 l.length c2, .int .i64 (k : Nat)] V (OwnFlt V (faultsF s boxes l k))) := Lib.hid fun k V hk hV => by
    have := stFaults_any s h A c boxes A2 c2 l k V hkg htol ((hsh.below hV).up hV.size) hcl ((hb.below hV).up hV.size) hbl ((hs.below hV).up hV.size) hl ht
    rwa [if_pos (by unfold thereB; simp; omega), Int.toNat_natCast] at this
  have HC : Hid (checkL s boxes l = if stowRight s boxes l then checkF s boxes l s.cols.length else []) := Lib.hid rfl
  clear hb hs hsh hbx
  unfold CheckRet
  generalize checkL s boxes l = CL at *
  have q0 : (w.alloc (.cells (shpA s h) 32)).cell? ⟨w.heap.size, 0, none⟩ = some (.slice h.A1 s.cols.length h.c1) := KS.out.cell 0
  cases hr : stowRight s boxes l with
  | false =>
    rw [hr] at HR HC
    unfold shpA at HR HB q0 ⊢
    go_enter Try.func25, Try.ntmps25
    go_wp2_with fail
    refine HR.out.mono ?_
    rintro e w1 ⟨rfl, hb1⟩
    simp only
    go_wp2_with fail
    go_ret2
    exact ⟨_, rfl, by rw [HC.out]; exact OwnT.nil, HB.out.trans (hb1.mono HB.out.size)⟩
  | true =>
    rw [hr] at HR HC
    simp only [if_true] at HC ⊢
    have HSP : Hid (shpA s h = #[.slice h.A1 s.cols.length h.c1, .slice h.A2 s.covs.length h.c2, .int .i64 s.l0, .int .i64 s.l1, .int .i64 s.l2, .int .i64 s.l3, .slice h.A3 s.rows.length h.c3, .slice h.A4 s.frames.length h.c4, .slice h.A5 s.tanks.length h.c5, .int .i64 s.m0, .int .i64 s.m1, .int .i64 s.m2, .int .i64 s.m3]) := Lib.hid rfl
    unfold shpA at HR HB q0 HFL ⊢
    go_enter Try.func25, Try.ntmps25
    go_upto_region 1 with fail
    go_wp2_with fail
    refine HR.out.mono ?_
    rintro e w1 ⟨rfl, hb1⟩
    simp only
    have hb2 := HB.out.trans (hb1.mono HB.out.size)
    have KS2 := Lib.hid (KS.out.below hb1 (by simp))
    have q1 : w1.cell? ⟨w.heap.size, 0, none⟩ = some (.slice h.A1 s.cols.length h.c1) := KS2.out.cell 0
    clear q0 hb1 HR KS HB
    go_wp2_with fail
    clear q1
    go_loopw [8, 18] (fun v i wr => ∃ (k : Nat) (m : List Flt), k ≤ s.cols.length ∧ i = .int .i64 k ∧ Hid (m = checkF s boxes l k) ∧ OwnT tFlt 73 wr w.heap.size v m ∧ Below w.heap.size w wr ∧ Hid (Bk wr w.heap.size 32 (shpA s h))) (fun _ i _ => s.cols.length - (intOf i).toNat)
    case atStart => exact ⟨0, [], Nat.zero_le _, rfl, Lib.hid (by simp [checkF]), OwnT.nil, hb2, KS2⟩
    case round =>
      clear hb2 KS2
      obtain ⟨k, m, hk, rfl, HM, hown, hbW, KS⟩ := hrel
      obtain ⟨V, rfl⟩ : ∃ V, V = wr := ⟨_, rfl⟩
      by_cases hlt : k < s.cols.length
      · have i0 : (0 : Int) ≤ (k : Int) := by omega
        have i1 : (k : Int) < (s.cols.length : Int) := by omega
        have a1 : k + 1 ≤ s.cols.length := hlt
        have hml : m.length ≤ 1000000 * 1000003 := by
          rw [HM.out]
          exact Nat.le_trans (checkF_len s boxes l k) (Nat.mul_le_mul (by omega) (by omega))
        have hfl := faultsF_len s boxes l k
        have HM1 : Hid (checkF s boxes l (k + 1) = m ++ faultsF s boxes l k) := Lib.hid (by rw [checkF_succ, ← HM.out])
        have HK := Lib.hid (HFL.out k V hlt hbW)
        have bS := KS.out
        obtain ⟨e0, e1, e2, e3, e4, e5, e6, e7, e8, e9, e10, e11, e12⟩ : V.cell? ⟨w.heap.size, 0, none⟩ = some (.slice h.A1 s.cols.length h.c1) ∧ V.cell? ⟨w.heap.size, 1, none⟩ = some (.slice h.A2 s.covs.length h.c2) ∧ V.cell? ⟨w.heap.size, 2, none⟩ = some (.int .i64 s.l0) ∧ V.cell? ⟨w.heap.size, 3, none⟩ = some (.int .i64 s.l1) ∧ V.cell? ⟨w.heap.size, 4, none⟩ = some (.int .i64 s.l2) ∧ V.cell? ⟨w.heap.size, 5, none⟩ = some (.int .i64 s.l3) ∧ V.cell? ⟨w.heap.size, 6, none⟩ = some (.slice h.A3 s.rows.length h.c3) ∧ V.cell? ⟨w.heap.size, 7, none⟩ = some (.slice h.A4 s.frames.length h.c4) ∧ V.cell? ⟨w.heap.size, 8, none⟩ = some (.slice h.A5 s.tanks.length h.c5) ∧ V.cell? ⟨w.heap.size, 9, none⟩ = some (.int .i64 s.m0) ∧ V.cell? ⟨w.heap.size, 10, none⟩ = some (.int .i64 s.m1) ∧ V.cell? ⟨w.heap.size, 11, none⟩ = some (.int .i64 s.m2) ∧ V.cell? ⟨w.heap.size, 12, none⟩ = some (.int .i64 s.m3) := ⟨bS.cell 0, bS.cell 1, bS.cell 2, bS.cell 3, bS.cell 4, bS.cell 5, bS.cell 6, bS.cell 7, bS.cell 8, bS.cell 9, bS.cell 10, bS.cell 11, bS.cell 12⟩
        clear bS
        generalize faultsF s boxes l k = fk at *
        go_wp2_with fail
        refine HK.out.mono ?_
        rintro e V1 ⟨v', rfl, ho', hq⟩
        simp only
        clear e0 e1 e2 e3 e4 e5 e6 e7 e8 e9 e10 e11 e12
        have hown1 := hown.below hq
        obtain ⟨A', c', rfl, hsl⟩ := flt_src ho' (own_ltT hown)
        have hb3 := hbW.trans (hq.mono hbW.size)
        have KS1 := Lib.hid (KS.out.below hq KS.out.lt)
        have hsz := hb3.size
        clear HK ho' hq
        go_wp2_with (at_builtin; (refine wpList_append_T el_flt rfl (.tmp 21) (.tmp 26) rfl w.heap.size _ m rfl hown1 A' fk.length c' fk rfl rfl hsl ?c1 ?c2 hsz ?_))
        case c1 => unfold maxLen; omega
        case c2 => omega
        intro v'' w3 hown3 hgr hbel
        have KS3 : Hid (Bk w3 w.heap.size 32 (shpA s h)) := Lib.hid (by
          obtain ⟨xs, ho, _⟩ := hown1
          exact KS1.out.grown hgr (Ne.symm (own_ne ho KS1.out (by decide))))
        have HM2 : Hid (m ++ fk = checkF s boxes l (k + 1)) := Lib.hid HM1.out.symm
        have HO3 := Lib.hid hown3
        have HB3 := Lib.hid (hb3.trans hbel)
        clear hgr hown3 hbel hsl hown1
        go_wp2
        go_roundw
        case rel => exact ⟨k + 1, m ++ fk, a1, by go_num, HM2, HO3.out, HB3.out, KS3⟩
        case measure => simp [intOf]; omega
      · obtain rfl : k = s.cols.length := by omega
        go_wp2
        go_ret2
        exact ⟨_, rfl, by rw [HC.out, ← HM.out]; exact hown, hbW⟩
end Go.Proofs.Ytmkplemdnglhmaa
