/-
  Walks of the reference of chapter 09: Right.
-/
import Derived.Test.YtmhikcleekfbpaaDoorRhA
import Derived.Test.YtmhikcleekfbpaaDoorRfZ
import Derived.Test.YtmhikcleekfbpaaDoorSlTs
namespace Go.Proofs.YtmhikcleekfbpaaDoor
open Go.RowKit

def pairA (l : List Stw) (i k : Nat) : Bool := decide ((l.getD k default).box < (l.getD i default).box) && !meetB (l.getD k default).slot (l.getD i default).slot
def goodA (s : Shp) (boxes : List Bx) (l : List Stw) (i : Nat) : Bool := (findBx boxes (l.getD i default).box).2 && (slotRight s (l.getD i default).slot (findBx boxes (l.getD i default).box).1.size && heldB (l.getD i default).slot (l.map (·.slot)))
def refAt (s : Shp) (boxes : List Bx) (l : List Stw) (i : Nat) : Bool := goodA s boxes l i && (List.range i).all (pairA l i)
theorem rising {l : List Stw} {n : Nat} (h : ∀ i, i < n → i = 0 ∨ (l.getD (i - 1) default).box < (l.getD i default).box) : ∀ i, i < n → ∀ k, k < i → (l.getD k default).box < (l.getD i default).box
  | 0, _, k, hk => absurd hk (by omega)
  | i + 1, hi, k, hk => by
    have h1 := (h (i + 1) hi).resolve_left (by omega)
    rw [Nat.add_sub_cancel] at h1
    rcases Nat.lt_succ_iff_lt_or_eq.1 hk with h2 | h2
    · exact Int.lt_trans (rising h i (by omega) k h2) h1
    · rw [h2]; exact h1
theorem right_high {s : Shp} (hr : rightF s = true) {c : Nat} (hc : c < s.cols.length) : 0 ≤ (s.cols.getD c default).height := by
  unfold rightF at hr
  simp only [Bool.and_eq_true, List.all_eq_true] at hr
  have h1 := hr.2.1 _ (getD_memD hc default)
  unfold colOK spans inB at h1
  simp only [List.all_cons, List.all_nil, Bool.and_eq_true, Bool.not_eq_true', Bool.or_eq_false_iff, decide_eq_false_iff_not, Bool.and_true] at h1
  omega
theorem stowRight_ref (s : Shp) (boxes : List Bx) (l : List Stw) : stowRight s boxes l = (rightF s && ((List.range l.length).all (refAt s boxes l) && (List.range s.cols.length).all fun c => !highF s boxes l c)) := by
  unfold stowRight
  cases hr : rightF s with
  | false => rfl
  | true =>
    rw [Bool.true_and, Bool.true_and]
    have e2 : (List.range s.cols.length).all (fitsF s boxes l) = (List.range s.cols.length).all fun c => !highF s boxes l c := by
      rw [Bool.eq_iff_iff, List.all_eq_true, List.all_eq_true]
      have key : ∀ c ∈ List.range s.cols.length, fitsF s boxes l c = !highF s boxes l c := fun c hc => by
        have h0 := right_high hr (List.mem_range.1 hc)
        unfold fitsF highF
        generalize (s.cols.getD c default).height = H at *
        rw [Bool.eq_iff_iff]
        by_cases h1 : H = 0
        · rw [if_pos h1]; simp; omega
        · rw [if_neg h1]
          simp only [Bool.or_eq_true, Bool.and_eq_true, decide_eq_true_eq, Bool.not_eq_true', Bool.or_eq_false_iff, decide_eq_false_iff_not]
          omega
      exact ⟨fun h c hc => by rw [← key c hc]; exact h c hc, fun h c hc => by rw [key c hc]; exact h c hc⟩
    have e1 : (List.range l.length).all (stowAt s boxes l) = (List.range l.length).all (refAt s boxes l) := by
      rw [Bool.eq_iff_iff, List.all_eq_true, List.all_eq_true]
      constructor
      · intro h i hi
        have hr := rising (l := l) (n := l.length) fun j hj => by
          have := h j (List.mem_range.2 hj)
          unfold stowAt at this
          simp only [Bool.and_eq_true, Bool.or_eq_true, decide_eq_true_eq] at this
          exact this.1.1.1.2
        have h1 := h i hi
        unfold stowAt at h1
        unfold refAt goodA pairA
        simp only [Bool.and_eq_true, Bool.or_eq_true, decide_eq_true_eq, List.all_eq_true, List.mem_range, Bool.not_eq_true'] at h1 ⊢
        exact ⟨⟨h1.1.1.1.1, h1.1.1.2, h1.1.2⟩, fun k hk => ⟨hr i (List.mem_range.1 hi) k hk, by rw [← meet_symm]; exact h1.2 k hk⟩⟩
      · intro h i hi
        have h1 := h i hi
        unfold refAt goodA pairA at h1
        unfold stowAt
        simp only [Bool.and_eq_true, Bool.or_eq_true, decide_eq_true_eq, List.all_eq_true, List.mem_range, Bool.not_eq_true'] at h1 ⊢
        refine ⟨⟨⟨⟨h1.1.1, ?_⟩, h1.1.2.1⟩, h1.1.2.2⟩, fun k hk => by rw [← meet_symm]; exact (h1.2 k hk).2⟩
        by_cases h0 : i = 0
        · exact .inl h0
        · exact .inr (h1.2 (i - 1) (by omega)).1
    rw [e1, e2]
theorem stow_noA {s : Shp} {boxes : List Bx} {l : List Stw} {i : Nat} (hi : i < l.length) (h : refAt s boxes l i = false) : stowRight s boxes l = false := by
  rw [stowRight_ref, show (List.range l.length).all (refAt s boxes l) = false from List.all_eq_false.2 ⟨i, List.mem_range.2 hi, by rw [h]; decide⟩]
  simp
theorem stow_noH {s : Shp} {boxes : List Bx} {l : List Stw} {c : Nat} (hc : c < s.cols.length) (h : highF s boxes l c = true) : stowRight s boxes l = false := by
  rw [stowRight_ref, show ((List.range s.cols.length).all fun c => !highF s boxes l c) = false from List.all_eq_false.2 ⟨c, List.mem_range.2 hc, by rw [h]; decide⟩]
  simp
theorem stow_yes {s : Shp} {boxes : List Bx} {l : List Stw} (hr : rightF s = true) (h1 : ∀ i, i < l.length → refAt s boxes l i = true) (h2 : ∀ c, c < s.cols.length → highF s boxes l c = false) : stowRight s boxes l = true := by
  rw [stowRight_ref, hr, List.all_eq_true.2 fun i hi => h1 i (List.mem_range.1 hi), List.all_eq_true.2 fun c hc => by rw [h2 c (List.mem_range.1 hc)]; rfl]
  rfl
theorem refAt_good {s : Shp} {boxes : List Bx} {l : List Stw} {i : Nat} (h : goodA s boxes l i = false) : refAt s boxes l i = false := by unfold refAt; rw [h]; rfl
theorem refAt_pair {s : Shp} {boxes : List Bx} {l : List Stw} {i k : Nat} (hk : k < i) (h : pairA l i k = false) : refAt s boxes l i = false := by
  unfold refAt
  rw [show (List.range i).all (pairA l i) = false from List.all_eq_false.2 ⟨k, List.mem_range.2 hk, by rw [h]; decide⟩, Bool.and_false]
theorem refAt_yes {s : Shp} {boxes : List Bx} {l : List Stw} {i : Nat} (h : goodA s boxes l i = true) (h2 : ∀ k, k < i → pairA l i k = true) : refAt s boxes l i = true := by
  unfold refAt
  rw [h, List.all_eq_true.2 fun k hk => h2 k (List.mem_range.1 hk)]
  rfl
set_option maxRecDepth 100000 in
set_option maxHeartbeats 16000000 in
theorem refStow_any (s : Shp) (h : Hd) (A : Option Addr) (c : Nat) (boxes : List Bx) (A2 : Option Addr) (c2 : Nat) (l : List Stw) (w : World) (hsh : ShpR w (Lt w.heap.size) s h) (hf : Few s) (hcl : s.cols.length ≤ 1000000)
    (hb : SlT tBx w (Lt w.heap.size) A boxes) (hbl : boxes.length ≤ 1000000) (hs : SlT tStw w (Lt w.heap.size) A2 l) (hl : l.length ≤ 1000000) (ht : ∀ x ∈ l, x.slot.tier ≤ 9223372036854775807) (hsz : ∀ b ∈ boxes, b.size < 256) :
    Calls Tryd.prog 45 #[.agg (shpA s h), .slice A boxes.length c, .slice A2 l.length c2] w (Ret w (.bool (stowRight s boxes l))) := by
  obtain ⟨r, hr⟩ : ∃ r, stowRight s boxes l = r := ⟨_, rfl⟩
  rw [hr]
  have HR := Lib.hid hr
  clear hr
  have hb0 := ba1 w (.cells (shpA s h) 32)
  have KE := Lib.hid (Bk.new w 32 (shpA s h))
  have HB0 := Lib.hid hb0
  have HSH := Lib.hid (hsh.on hb0)
  have HBX := Lib.hid (hb.on hb0)
  have HST := Lib.hid (hs.on hb0)
  have HT := Lib.hid ht
  have HSZ := Lib.hid hsz
  have HF := Lib.hid hf
  have KRS := Lib.hid (refRight_any s h _ (hsh.on hb0) hf)
  clear hsh hb hs ht hsz hf hb0
  unfold shpA at KE KRS HB0 HSH HBX HST ⊢
  go_enter Tryd.func45, Tryd.ntmps45
  go_upto_region 1 with fail
  generalize (w.alloc _) = W at *
  have e0 : W.cell? ⟨w.heap.size, 0, none⟩ = some (Value.slice h.A1 s.cols.length h.c1) := KE.out.cell 0
  have e1 : W.cell? ⟨w.heap.size, 1, none⟩ = some (Value.slice h.A2 s.covs.length h.c2) := KE.out.cell 1
  have e2 : W.cell? ⟨w.heap.size, 2, none⟩ = some (.int .i64 s.l0) := KE.out.cell 2
  have e3 : W.cell? ⟨w.heap.size, 3, none⟩ = some (.int .i64 s.l1) := KE.out.cell 3
  have e4 : W.cell? ⟨w.heap.size, 4, none⟩ = some (.int .i64 s.l2) := KE.out.cell 4
  have e5 : W.cell? ⟨w.heap.size, 5, none⟩ = some (.int .i64 s.l3) := KE.out.cell 5
  have e6 : W.cell? ⟨w.heap.size, 6, none⟩ = some (.slice h.A3 s.rows.length h.c3) := KE.out.cell 6
  have e7 : W.cell? ⟨w.heap.size, 7, none⟩ = some (.slice h.A4 s.frames.length h.c4) := KE.out.cell 7
  have e8 : W.cell? ⟨w.heap.size, 8, none⟩ = some (.slice h.A5 s.tanks.length h.c5) := KE.out.cell 8
  have e9 : W.cell? ⟨w.heap.size, 9, none⟩ = some (.int .i64 s.m0) := KE.out.cell 9
  have e10 : W.cell? ⟨w.heap.size, 10, none⟩ = some (.int .i64 s.m1) := KE.out.cell 10
  have e11 : W.cell? ⟨w.heap.size, 11, none⟩ = some (.int .i64 s.m2) := KE.out.cell 11
  have e12 : W.cell? ⟨w.heap.size, 12, none⟩ = some (.int .i64 s.m3) := KE.out.cell 12
  go_wp2_with fail
  refine KRS.out.mono ?_
  rintro e W1 ⟨rfl, hb1⟩
  simp only
  have HB1 := Lib.hid hb1
  clear KRS hb1 e0 e1 e2 e3 e4 e5 e6 e7 e8 e9 e10 e11 e12
  cases hrs : rightF s with
  | false =>
    have HE := Lib.hid (HB0.out.trans (HB1.out.mono HB0.out.size))
    have HY : Hid (r = false) := Lib.hid (by rw [← HR.out]; unfold stowRight; rw [hrs]; rfl)
    go_wp2_with fail
    go_ret
    exact ⟨by rw [HY.out]; rfl, HE.out⟩
  | true =>
    have HRS := Lib.hid hrs
    go_wp2_with fail
    clear hrs
    go_loopw [7] (fun i wr => ∃ k : Nat, k ≤ l.length ∧ i = .int .i64 k ∧ Hid ((∀ j, j < k → refAt s boxes l j = true) ∧ Below W.heap.size W wr)) (fun i _ => l.length - (intOf i).toNat)
    case atStart => exact ⟨0, Nat.zero_le _, rfl, Lib.hid (And.intro (fun j hj => absurd hj (by omega)) HB1.out)⟩
    case round =>
      clear HB1
      clear W1
      obtain ⟨i, hi, rfl, HI⟩ := hrel
      obtain ⟨V, rfl⟩ : ∃ V, V = wr := ⟨_, rfl⟩
      by_cases hlt : i < l.length
      · obtain ⟨b, off, rfl, hbB, a0, a1, a2, a3⟩ := (HST.out.on HI.out.2).stw hlt
        have i0 : (0 : Int) ≤ (i : Int) := by omega
        have i1 : (i : Int) < (l.length : Int) := by omega
        have hbb : b < V.heap.size := hbB
        clear hbB
        have HQ : Hid (goodA s boxes l i = ((findBx boxes (l.getD i default).box).2 && (slotRight s (l.getD i default).slot (findBx boxes (l.getD i default).box).1.size && heldB (l.getD i default).slot (l.map (·.slot))))) := Lib.hid rfl
        have HP : Hid (∀ k, pairA l i k = (decide ((l.getD k default).box < (l.getD i default).box) && !meetB (l.getD k default).slot (l.getD i default).slot)) := Lib.hid fun k => rfl
        have HXT := Lib.hid (HT.out _ (getD_memD hlt default))
        generalize l.getD i default = x at *
        obtain ⟨xb, xc, xt, xh⟩ := x
        simp only at a0 a1 a2 a3 HXT HQ HP
        have KF := Lib.hid (refFindBx_any A c boxes xb V (HBX.out.on HI.out.2) hbl)
        have HZ : Hid ((findBx boxes xb).1.size < 256) := Lib.hid (by
          cases hq : findBx boxes xb with
          | mk bb ok =>
            cases ok with
            | true => exact HSZ.out bb (find_some hq).1
            | false =>
              unfold findBx at hq
              split at hq
              · cases hq; decide
              · cases hq)
        obtain ⟨fb, hf⟩ : ∃ fb, findBx boxes xb = fb := ⟨_, rfl⟩
        rw [hf] at KF HZ HQ
        clear hf
        obtain ⟨⟨b0, b1, b2, b3, b4, b5, b6, b7, b8⟩, ok⟩ := fb
        unfold bxL at KF
        simp only at KF HZ HQ
        go_step
        go_step
        go_upto_region 6 with fail
        go_wp2_with fail
        refine KF.out.mono ?_
        rintro e V1 ⟨rfl, hb1⟩
        simp only
        have KY := Lib.hid (Bk.new V1 41 #[.int .i64 b0, .string b1, .int .u8 (b2 : Nat), .bool b3, .int .i64 b4, .int .i64 b5, .int .i64 b6, .int .u8 (b7 : Nat), .bool b8])
        have hb2 := hb1.trans ((ba1 V1 (.cells #[.int .i64 b0, .string b1, .int .u8 (b2 : Nat), .bool b3, .int .i64 b4, .int .i64 b5, .int .i64 b6, .int .u8 (b7 : Nat), .bool b8] 41)).mono hb1.size)
        go_upto_region 7 with fail
        obtain ⟨gy, hgy⟩ : ∃ gy, gy = V1.heap.size := ⟨_, rfl⟩
        rw [← hgy] at KY ⊢
        clear hgy
        generalize (V1.alloc _) = V2 at *
        have y2 : V2.cell? ⟨gy, 2, none⟩ = some (.int .u8 (b2 : Nat)) := KY.out.cell 2
        replace a0 := (hb2.cell (p := ⟨b, off + i * 4, none⟩) hbb).trans a0
        replace a1 := (hb2.cell (p := ⟨b, off + i * 4 + 1, none⟩) hbb).trans a1
        replace a2 := (hb2.cell (p := ⟨b, off + i * 4 + 2, none⟩) hbb).trans a2
        replace a3 := (hb2.cell (p := ⟨b, off + i * 4 + 3, none⟩) hbb).trans a3
        have HV2 := Lib.hid (HI.out.2.trans (hb2.mono HI.out.2.size))
        have HA1 := Lib.hid HI.out.1
        have HKE := Lib.hid (KE.out.below HV2.out KE.out.lt)
        clear hb1 hb2 KF KY HI hbb
        cases ok with
        | false =>
          clear a0 a1 a2 a3 y2 HKE
          have HE := Lib.hid (HB0.out.trans (HV2.out.mono HB0.out.size))
          have HG : Hid (goodA s boxes l i = false) := Lib.hid (by rw [HQ.out]; rfl)
          refine wp_region_gr (by kernel_rfl) (by kernel_rfl) ?_
          repeat (go_big_quiet_step (fail))
          refine wpQuiet_nil ?_
          rintro Y ⟨⟨_, hbY⟩, rfl⟩
          have HE2 := Lib.hid (HE.out.trans (hbY.mono HE.out.size))
          clear hbY
          have HY : Hid (r = false) := Lib.hid (by rw [← HR.out]; exact stow_noA hlt (refAt_good HG.out))
          go_wp2_with fail
          go_ret
          exact ⟨by rw [HY.out]; rfl, HE2.out⟩
        | true =>
          have hz := HZ.out
          have KR := Lib.hid (fun (U : World) (hU : Cb V2 U) => refRightS_any s h ⟨xc, xt, xh⟩ b2 U (HSH.out.on (HV2.out.trans (hU.mono HV2.out.size))) HZ.out)
          unfold shpA sltL at KR
          simp only at KR
          obtain ⟨q, hq⟩ : ∃ q, slotRight s ⟨xc, xt, xh⟩ b2 = q := ⟨_, rfl⟩
          rw [hq] at KR HQ
          clear hq
          cases q with
          | false =>
            have HE := Lib.hid (HB0.out.trans (HV2.out.mono HB0.out.size))
            have HG : Hid (goodA s boxes l i = false) := Lib.hid (by rw [HQ.out]; rfl)
            have e0 : ∀ p : Gr V2, p.W.cell? ⟨w.heap.size, 0, none⟩ = some (Value.slice h.A1 s.cols.length h.c1) := Gr.cell (HKE.out.cell 0)
            have e1 : ∀ p : Gr V2, p.W.cell? ⟨w.heap.size, 1, none⟩ = some (Value.slice h.A2 s.covs.length h.c2) := Gr.cell (HKE.out.cell 1)
            have e2 : ∀ p : Gr V2, p.W.cell? ⟨w.heap.size, 2, none⟩ = some (.int .i64 s.l0) := Gr.cell (HKE.out.cell 2)
            have e3 : ∀ p : Gr V2, p.W.cell? ⟨w.heap.size, 3, none⟩ = some (.int .i64 s.l1) := Gr.cell (HKE.out.cell 3)
            have e4 : ∀ p : Gr V2, p.W.cell? ⟨w.heap.size, 4, none⟩ = some (.int .i64 s.l2) := Gr.cell (HKE.out.cell 4)
            have e5 : ∀ p : Gr V2, p.W.cell? ⟨w.heap.size, 5, none⟩ = some (.int .i64 s.l3) := Gr.cell (HKE.out.cell 5)
            have e6 : ∀ p : Gr V2, p.W.cell? ⟨w.heap.size, 6, none⟩ = some (.slice h.A3 s.rows.length h.c3) := Gr.cell (HKE.out.cell 6)
            have e7 : ∀ p : Gr V2, p.W.cell? ⟨w.heap.size, 7, none⟩ = some (.slice h.A4 s.frames.length h.c4) := Gr.cell (HKE.out.cell 7)
            have e8 : ∀ p : Gr V2, p.W.cell? ⟨w.heap.size, 8, none⟩ = some (.slice h.A5 s.tanks.length h.c5) := Gr.cell (HKE.out.cell 8)
            have e9 : ∀ p : Gr V2, p.W.cell? ⟨w.heap.size, 9, none⟩ = some (.int .i64 s.m0) := Gr.cell (HKE.out.cell 9)
            have e10 : ∀ p : Gr V2, p.W.cell? ⟨w.heap.size, 10, none⟩ = some (.int .i64 s.m1) := Gr.cell (HKE.out.cell 10)
            have e11 : ∀ p : Gr V2, p.W.cell? ⟨w.heap.size, 11, none⟩ = some (.int .i64 s.m2) := Gr.cell (HKE.out.cell 11)
            have e12 : ∀ p : Gr V2, p.W.cell? ⟨w.heap.size, 12, none⟩ = some (.int .i64 s.m3) := Gr.cell (HKE.out.cell 12)
            have a1 : ∀ p : Gr V2, p.W.cell? ⟨b, off + i * 4 + 1, none⟩ = some (.int .i64 xc) := Gr.cell a1
            have a2 : ∀ p : Gr V2, p.W.cell? ⟨b, off + i * 4 + 2, none⟩ = some (.int .i64 xt) := Gr.cell a2
            have a3 : ∀ p : Gr V2, p.W.cell? ⟨b, off + i * 4 + 3, none⟩ = some (.int .u8 (xh : Nat)) := Gr.cell a3
            clear a0
            have KRb := Lib.hid (fun (U : World) (hU : Below V2.heap.size V2 U) => KR.out U hU)
            clear KR
            have y2 : ∀ p : Gr V2, p.W.cell? ⟨gy, 2, none⟩ = some (.int .u8 (b2 : Nat)) := Gr.cell y2
            refine wp_region_gr (by kernel_rfl) (by kernel_rfl) ?_
            repeat (go_big_quiet_step ((with_reducible exact Gr.call _ (fun V hV => KRb.out V hV))))
            refine wpQuiet_nil ?_
            rintro Y ⟨⟨_, hbY⟩, rfl⟩
            have HE2 := Lib.hid (HE.out.trans (hbY.mono HE.out.size))
            clear hbY a1 a2 a3 y2 e0 e1 e2 e3 e4 e5 e6 e7 e8 e9 e10 e11 e12
            have HY : Hid (r = false) := Lib.hid (by rw [← HR.out]; exact stow_noA hlt (refAt_good HG.out))
            go_wp2_with fail
            go_ret
            exact ⟨by rw [HY.out]; rfl, HE2.out⟩
          | true =>
            have KL : Hid (∀ U : World, Cb V2 U → Calls Tryd.prog 62 #[.slice (some ⟨b, off, none⟩) l.length c2] U (fun e w' => ∃ A c, e = .returned (.slice A (l.map (·.slot)).length c) ∧ (l.map (·.slot)).length ≤ c ∧ SlT tSlt w' (Lt w'.heap.size) A (l.map (·.slot)) ∧ Below U.heap.size U w')) := Lib.hid fun U hU => by
              refine (refSlots_any (some ⟨b, off, none⟩) c2 l U (HST.out.on (HV2.out.trans (hU.mono HV2.out.size))) hl).mono ?_
              rintro e w' ⟨v, rfl, ho, hb⟩
              obtain ⟨A, c, rfl, hc, _, hs⟩ := ho.sl
              exact ⟨A, c, rfl, hc, hs, hb⟩
            have KH : Hid (∀ (U : World) (A9 : Option Addr) (c9 : Nat), SlT tSlt U (Lt U.heap.size) A9 (l.map (·.slot)) → Cb V2 U → Calls Tryd.prog 61 #[.agg #[.int .i64 xc, .int .i64 xt, .int .u8 (xh : Nat)], .slice A9 (l.map (·.slot)).length c9] U (Ret U (.bool (heldB ⟨xc, xt, xh⟩ (l.map (·.slot)))))) := Lib.hid fun U A9 c9 h9 hU => by
              have := refHeld_any ⟨xc, xt, xh⟩ A9 c9 (l.map (·.slot)) U h9 (by rw [List.length_map]; omega) HXT.out
              unfold sltL at this
              exact this
            generalize heldB ⟨xc, xt, xh⟩ (l.map (·.slot)) = hd at *
            generalize l.map (·.slot) = LS at *
            have e0 : V2.cell? ⟨w.heap.size, 0, none⟩ = some (Value.slice h.A1 s.cols.length h.c1) := HKE.out.cell 0
            have e1 : V2.cell? ⟨w.heap.size, 1, none⟩ = some (Value.slice h.A2 s.covs.length h.c2) := HKE.out.cell 1
            have e2 : V2.cell? ⟨w.heap.size, 2, none⟩ = some (.int .i64 s.l0) := HKE.out.cell 2
            have e3 : V2.cell? ⟨w.heap.size, 3, none⟩ = some (.int .i64 s.l1) := HKE.out.cell 3
            have e4 : V2.cell? ⟨w.heap.size, 4, none⟩ = some (.int .i64 s.l2) := HKE.out.cell 4
            have e5 : V2.cell? ⟨w.heap.size, 5, none⟩ = some (.int .i64 s.l3) := HKE.out.cell 5
            have e6 : V2.cell? ⟨w.heap.size, 6, none⟩ = some (.slice h.A3 s.rows.length h.c3) := HKE.out.cell 6
            have e7 : V2.cell? ⟨w.heap.size, 7, none⟩ = some (.slice h.A4 s.frames.length h.c4) := HKE.out.cell 7
            have e8 : V2.cell? ⟨w.heap.size, 8, none⟩ = some (.slice h.A5 s.tanks.length h.c5) := HKE.out.cell 8
            have e9 : V2.cell? ⟨w.heap.size, 9, none⟩ = some (.int .i64 s.m0) := HKE.out.cell 9
            have e10 : V2.cell? ⟨w.heap.size, 10, none⟩ = some (.int .i64 s.m1) := HKE.out.cell 10
            have e11 : V2.cell? ⟨w.heap.size, 11, none⟩ = some (.int .i64 s.m2) := HKE.out.cell 11
            have e12 : V2.cell? ⟨w.heap.size, 12, none⟩ = some (.int .i64 s.m3) := HKE.out.cell 12
            refine wp_region_ogG [.val 0 (.bool true),
              .val 1 (.bool false),
              .val 2 (.bool false),
              .val 3 (.agg #[.slice h.A1 s.cols.length h.c1, .slice h.A2 s.covs.length h.c2, .int .i64 s.l0, .int .i64 s.l1, .int .i64 s.l2, .int .i64 s.l3, .slice h.A3 s.rows.length h.c3, .slice h.A4 s.frames.length h.c4, .slice h.A5 s.tanks.length h.c5, .int .i64 s.m0, .int .i64 s.m1, .int .i64 s.m2, .int .i64 s.m3]),
              .val 4 (.slice (some ⟨b, off, none⟩) l.length c2),
              .val 5 (.int .i64 (i : Nat)),
              .val 6 (.pointer (some ⟨b, off + i * 4, none⟩)),
              .val 7 (.pointer (some ⟨b, off + i * 4 + 1, none⟩)),
              .val 8 (.agg #[.int .i64 xc, .int .i64 xt, .int .u8 (xh : Nat)]),
              .val 9 (.pointer (some ⟨gy, 2, none⟩)),
              .val 10 (.int .u8 (b2 : Nat)),
              .val 11 (.int .i64 (b2 : Nat)),
              .val 12 (.bool true),
              .val 13 (.bool false),
              .val 14 (.bool false),
              .val 15 (.bool false),
              .val 16 (.slice (some ⟨b, off, none⟩) l.length c2),
              .val 17 (.int .i64 (i : Nat)),
              .val 18 (.pointer (some ⟨b, off + i * 4, none⟩)),
              .val 19 (.pointer (some ⟨b, off + i * 4 + 1, none⟩)),
              .val 20 (.agg #[.int .i64 xc, .int .i64 xt, .int .u8 (xh : Nat)]),
              .val 21 (.slice (some ⟨b, off, none⟩) l.length c2),
              .slT tSlt 22 LS,
              .val 23 (.bool hd),
              .val 24 (.bool (!hd)),
              .val 25 (.bool (!hd))]
              [[], [0], [1], [2], [2], [2], [2, 4, 5], [2, 6], [2, 7], [2], [2, 9], [2, 10], [2, 3, 8, 11], [2, 12], [2, 13], [14], [15], [15], [15, 16, 17], [15, 18], [15, 19], [15], [15, 21], [15, 20, 22], [15, 23], [15, 24]] [25] (Cb V2) (by kernel_rfl) (by kernel_rfl) (Cb.drew V2) ⟨?_, ?_, ?_, ?_, ?_, ?_, ?_, ?_, ?_, ?_, ?_, ?_, ?_, ?_, ?_, ?_, ?_, ?_, ?_, ?_, ?_, ?_, ?_, ?_, ?_, ?_, trivial⟩ ?_
            case refine_1 =>
              refine StepG.of rfl ?_
              refine StepL.up fun x V hV hu K Q hK => ?_
              clear hu
              rw [owp_eq]
              go_big_op
              exact hK _ _ (Below.refl _ _) rfl
            case refine_2 =>
              refine StepG.of rfl ?_
              refine StepL.up fun x V hV hu K Q hK => ?_
              have u0 : x 0 = _ := hu 0 (by decide)
              clear hu
              simp only [putL, List.set_cons_zero, List.set_cons_succ] at hK ⊢
              rw [owp_eq]
              go_big_op
              exact hK _ _ (Below.refl _ _) rfl
            case refine_3 =>
              refine StepG.of rfl ?_
              refine StepL.up fun x V hV hu K Q hK => ?_
              have u1 : x 1 = _ := hu 1 (by decide)
              clear hu
              simp only [putL, List.set_cons_zero, List.set_cons_succ] at hK ⊢
              rw [owp_eq]
              go_big_op
              exact hK _ _ (Below.refl _ _) rfl
            case refine_4 =>
              refine StepG.yes 2 false 33 rfl rfl (fun x => by simp only [putL, List.set_cons_zero, List.set_cons_succ]; rfl) rfl (fun x w h => h) ?_
              refine StepL.up fun x V hV hu K Q hK => ?_
              have u2 : x 2 = _ := hu 2 (by decide)
              have fe0 := hV.cell e0
              have fe1 := hV.cell e1
              have fe2 := hV.cell e2
              have fe3 := hV.cell e3
              have fe4 := hV.cell e4
              have fe5 := hV.cell e5
              have fe6 := hV.cell e6
              have fe7 := hV.cell e7
              have fe8 := hV.cell e8
              have fe9 := hV.cell e9
              have fe10 := hV.cell e10
              have fe11 := hV.cell e11
              have fe12 := hV.cell e12
              clear hu
              simp only [putL, List.set_cons_zero, List.set_cons_succ] at hK ⊢
              rw [owp_eq]
              go_big_op
              exact hK _ _ (Below.refl _ _) rfl
            case refine_5 =>
              refine StepG.yes 2 false 33 rfl rfl (fun x => by simp only [putL, List.set_cons_zero, List.set_cons_succ]; rfl) rfl (fun x w h => h) ?_
              refine StepL.up fun x V hV hu K Q hK => ?_
              have u2 : x 2 = _ := hu 2 (by decide)
              clear hu
              simp only [putL, List.set_cons_zero, List.set_cons_succ] at hK ⊢
              rw [owp_eq]
              go_big_op
              exact hK _ _ (Below.refl _ _) rfl
            case refine_6 =>
              refine StepG.yes 2 false 33 rfl rfl (fun x => by simp only [putL, List.set_cons_zero, List.set_cons_succ]; rfl) rfl (fun x w h => h) ?_
              refine StepL.up fun x V hV hu K Q hK => ?_
              have u2 : x 2 = _ := hu 2 (by decide)
              clear hu
              simp only [putL, List.set_cons_zero, List.set_cons_succ] at hK ⊢
              rw [owp_eq]
              go_big_op
              exact hK _ _ (Below.refl _ _) rfl
            case refine_7 =>
              refine StepG.yes 2 false 33 rfl rfl (fun x => by simp only [putL, List.set_cons_zero, List.set_cons_succ]; rfl) rfl (fun x w h => h) ?_
              refine StepL.up fun x V hV hu K Q hK => ?_
              have u2 : x 2 = _ := hu 2 (by decide)
              have u4 : x 4 = _ := hu 4 (by decide)
              have u5 : x 5 = _ := hu 5 (by decide)
              clear hu
              simp only [putL, List.set_cons_zero, List.set_cons_succ] at hK ⊢
              rw [owp_eq]
              go_big_op
              exact hK _ _ (Below.refl _ _) rfl
            case refine_8 =>
              refine StepG.yes 2 false 33 rfl rfl (fun x => by simp only [putL, List.set_cons_zero, List.set_cons_succ]; rfl) rfl (fun x w h => h) ?_
              refine StepL.up fun x V hV hu K Q hK => ?_
              have u2 : x 2 = _ := hu 2 (by decide)
              have u6 : x 6 = _ := hu 6 (by decide)
              clear hu
              simp only [putL, List.set_cons_zero, List.set_cons_succ] at hK ⊢
              rw [owp_eq]
              go_big_op
              exact hK _ _ (Below.refl _ _) rfl
            case refine_9 =>
              refine StepG.yes 2 false 33 rfl rfl (fun x => by simp only [putL, List.set_cons_zero, List.set_cons_succ]; rfl) rfl (fun x w h => h) ?_
              refine StepL.up fun x V hV hu K Q hK => ?_
              have u2 : x 2 = _ := hu 2 (by decide)
              have u7 : x 7 = _ := hu 7 (by decide)
              have fa1 := hV.cell a1
              have fa2 := hV.cell a2
              have fa3 := hV.cell a3
              clear hu
              simp only [putL, List.set_cons_zero, List.set_cons_succ] at hK ⊢
              rw [owp_eq]
              go_big_op
              exact hK _ _ (Below.refl _ _) rfl
            case refine_10 =>
              refine StepG.yes 2 false 33 rfl rfl (fun x => by simp only [putL, List.set_cons_zero, List.set_cons_succ]; rfl) rfl (fun x w h => h) ?_
              refine StepL.up fun x V hV hu K Q hK => ?_
              have u2 : x 2 = _ := hu 2 (by decide)
              clear hu
              simp only [putL, List.set_cons_zero, List.set_cons_succ] at hK ⊢
              rw [owp_eq]
              go_big_op
              exact hK _ _ (Below.refl _ _) rfl
            case refine_11 =>
              refine StepG.yes 2 false 33 rfl rfl (fun x => by simp only [putL, List.set_cons_zero, List.set_cons_succ]; rfl) rfl (fun x w h => h) ?_
              refine StepL.up fun x V hV hu K Q hK => ?_
              have u2 : x 2 = _ := hu 2 (by decide)
              have u9 : x 9 = _ := hu 9 (by decide)
              have fy2 := hV.cell y2
              clear hu
              simp only [putL, List.set_cons_zero, List.set_cons_succ] at hK ⊢
              rw [owp_eq]
              go_big_op
              exact hK _ _ (Below.refl _ _) rfl
            case refine_12 =>
              refine StepG.yes 2 false 33 rfl rfl (fun x => by simp only [putL, List.set_cons_zero, List.set_cons_succ]; rfl) rfl (fun x w h => h) ?_
              refine StepL.up fun x V hV hu K Q hK => ?_
              have u2 : x 2 = _ := hu 2 (by decide)
              have u10 : x 10 = _ := hu 10 (by decide)
              clear hu
              simp only [putL, List.set_cons_zero, List.set_cons_succ] at hK ⊢
              rw [owp_eq]
              go_big_op
              exact hK _ _ (Below.refl _ _) rfl
            case refine_13 =>
              refine StepG.yes 2 false 33 rfl rfl (fun x => by simp only [putL, List.set_cons_zero, List.set_cons_succ]; rfl) rfl (fun x w h => h) ?_
              refine StepL.up fun x V hV hu K Q hK => ?_
              have u2 : x 2 = _ := hu 2 (by decide)
              have u3 : x 3 = _ := hu 3 (by decide)
              have u8 : x 8 = _ := hu 8 (by decide)
              have u11 : x 11 = _ := hu 11 (by decide)
              clear hu
              simp only [putL, List.set_cons_zero, List.set_cons_succ] at hK ⊢
              rw [owp_eq]
              go_big_op
              refine (KR.out V hV).mono ?_
              rintro e V' ⟨rfl, hb⟩
              exact hK _ _ hb rfl
            case refine_14 =>
              refine StepG.yes 2 false 33 rfl rfl (fun x => by simp only [putL, List.set_cons_zero, List.set_cons_succ]; rfl) rfl (fun x w h => h) ?_
              refine StepL.up fun x V hV hu K Q hK => ?_
              have u2 : x 2 = _ := hu 2 (by decide)
              have u12 : x 12 = _ := hu 12 (by decide)
              clear hu
              simp only [putL, List.set_cons_zero, List.set_cons_succ] at hK ⊢
              rw [owp_eq]
              go_big_op
              exact hK _ _ (Below.refl _ _) rfl
            case refine_15 =>
              refine StepG.of rfl ?_
              refine StepL.up fun x V hV hu K Q hK => ?_
              have u2 : x 2 = _ := hu 2 (by decide)
              have u13 : x 13 = _ := hu 13 (by decide)
              clear hu
              simp only [putL, List.set_cons_zero, List.set_cons_succ] at hK ⊢
              rw [owp_eq]
              go_big_op
              exact hK _ _ (Below.refl _ _) rfl
            case refine_16 =>
              refine StepG.of rfl ?_
              refine StepL.up fun x V hV hu K Q hK => ?_
              have u14 : x 14 = _ := hu 14 (by decide)
              clear hu
              simp only [putL, List.set_cons_zero, List.set_cons_succ] at hK ⊢
              rw [owp_eq]
              go_big_op
              exact hK _ _ (Below.refl _ _) rfl
            case refine_17 =>
              refine StepG.yes 15 false 46 rfl rfl (fun x => by simp only [putL, List.set_cons_zero, List.set_cons_succ]; rfl) rfl (fun x w h => h) ?_
              refine StepL.up fun x V hV hu K Q hK => ?_
              have u15 : x 15 = _ := hu 15 (by decide)
              clear hu
              simp only [putL, List.set_cons_zero, List.set_cons_succ] at hK ⊢
              rw [owp_eq]
              go_big_op
              exact hK _ _ (Below.refl _ _) rfl
            case refine_18 =>
              refine StepG.yes 15 false 46 rfl rfl (fun x => by simp only [putL, List.set_cons_zero, List.set_cons_succ]; rfl) rfl (fun x w h => h) ?_
              refine StepL.up fun x V hV hu K Q hK => ?_
              have u15 : x 15 = _ := hu 15 (by decide)
              clear hu
              simp only [putL, List.set_cons_zero, List.set_cons_succ] at hK ⊢
              rw [owp_eq]
              go_big_op
              exact hK _ _ (Below.refl _ _) rfl
            case refine_19 =>
              refine StepG.yes 15 false 46 rfl rfl (fun x => by simp only [putL, List.set_cons_zero, List.set_cons_succ]; rfl) rfl (fun x w h => h) ?_
              refine StepL.up fun x V hV hu K Q hK => ?_
              have u15 : x 15 = _ := hu 15 (by decide)
              have u16 : x 16 = _ := hu 16 (by decide)
              have u17 : x 17 = _ := hu 17 (by decide)
              clear hu
              simp only [putL, List.set_cons_zero, List.set_cons_succ] at hK ⊢
              rw [owp_eq]
              go_big_op
              exact hK _ _ (Below.refl _ _) rfl
            case refine_20 =>
              refine StepG.yes 15 false 46 rfl rfl (fun x => by simp only [putL, List.set_cons_zero, List.set_cons_succ]; rfl) rfl (fun x w h => h) ?_
              refine StepL.up fun x V hV hu K Q hK => ?_
              have u15 : x 15 = _ := hu 15 (by decide)
              have u18 : x 18 = _ := hu 18 (by decide)
              clear hu
              simp only [putL, List.set_cons_zero, List.set_cons_succ] at hK ⊢
              rw [owp_eq]
              go_big_op
              exact hK _ _ (Below.refl _ _) rfl
            case refine_21 =>
              refine StepG.yes 15 false 46 rfl rfl (fun x => by simp only [putL, List.set_cons_zero, List.set_cons_succ]; rfl) rfl (fun x w h => h) ?_
              refine StepL.up fun x V hV hu K Q hK => ?_
              have u15 : x 15 = _ := hu 15 (by decide)
              have u19 : x 19 = _ := hu 19 (by decide)
              have fa1 := hV.cell a1
              have fa2 := hV.cell a2
              have fa3 := hV.cell a3
              clear hu
              simp only [putL, List.set_cons_zero, List.set_cons_succ] at hK ⊢
              rw [owp_eq]
              go_big_op
              exact hK _ _ (Below.refl _ _) rfl
            case refine_22 =>
              refine StepG.yes 15 false 46 rfl rfl (fun x => by simp only [putL, List.set_cons_zero, List.set_cons_succ]; rfl) rfl (fun x w h => h) ?_
              refine StepL.up fun x V hV hu K Q hK => ?_
              have u15 : x 15 = _ := hu 15 (by decide)
              clear hu
              simp only [putL, List.set_cons_zero, List.set_cons_succ] at hK ⊢
              rw [owp_eq]
              go_big_op
              exact hK _ _ (Below.refl _ _) rfl
            case refine_23 =>
              refine StepG.yes 15 false 46 rfl rfl (fun x => by simp only [putL, List.set_cons_zero, List.set_cons_succ]; rfl) rfl (fun x w h => h) ?_
              refine StepL.up fun x V hV hu K Q hK => ?_
              have u15 : x 15 = _ := hu 15 (by decide)
              have u21 : x 21 = _ := hu 21 (by decide)
              clear hu
              simp only [putL, List.set_cons_zero, List.set_cons_succ] at hK ⊢
              rw [owp_eq]
              go_big_op
              refine (KL.out V hV).mono ?_
              rintro e V' ⟨A9, c9, rfl, hc9, hs9, hb⟩
              exact hK _ _ hb ⟨A9, c9, rfl, hc9, hs9⟩
            case refine_24 =>
              refine StepG.yes 15 false 46 rfl rfl (fun x => by simp only [putL, List.set_cons_zero, List.set_cons_succ]; rfl) rfl (fun x w h => h) ?_
              refine StepL.up fun x V hV hu K Q hK => ?_
              have u15 : x 15 = _ := hu 15 (by decide)
              have u20 : x 20 = _ := hu 20 (by decide)
              obtain ⟨A22, c22, u22, hc22, hs22⟩ := hu 22 (by decide)
              clear hu
              simp only [putL, List.set_cons_zero, List.set_cons_succ] at hK ⊢
              rw [owp_eq]
              go_big_op
              refine (KH.out V A22 c22 hs22 hV).mono ?_
              rintro e V' ⟨rfl, hb⟩
              exact hK _ _ hb rfl
            case refine_25 =>
              refine StepG.yes 15 false 46 rfl rfl (fun x => by simp only [putL, List.set_cons_zero, List.set_cons_succ]; rfl) rfl (fun x w h => h) ?_
              refine StepL.up fun x V hV hu K Q hK => ?_
              have u15 : x 15 = _ := hu 15 (by decide)
              have u23 : x 23 = _ := hu 23 (by decide)
              clear hu
              simp only [putL, List.set_cons_zero, List.set_cons_succ] at hK ⊢
              rw [owp_eq]
              go_big_op
              exact hK _ _ (Below.refl _ _) rfl
            case refine_26 =>
              refine StepG.of rfl ?_
              refine StepL.up fun x V hV hu K Q hK => ?_
              have u15 : x 15 = _ := hu 15 (by decide)
              have u24 : x 24 = _ := hu 24 (by decide)
              clear hu
              simp only [putL, List.set_cons_zero, List.set_cons_succ] at hK ⊢
              rw [owp_eq]
              go_big_op
              exact hK _ _ (Below.refl _ _) rfl
            case refine_27 =>
            refine fun x w' hC hx => ?_
            have hx25 : x 25 = _ := hx 25 (by decide) (by decide)
            clear hx
            simp only [layL, putL, List.set_cons_zero, List.set_cons_succ, hx25]
            have HC := Lib.hid (HV2.out.trans (hC.mono HV2.out.size))
            have a0 : w'.cell? ⟨b, off + i * 4, none⟩ = some (.int .i64 xb) := hC.cell a0
            have a1 : w'.cell? ⟨b, off + i * 4 + 1, none⟩ = some (.int .i64 xc) := hC.cell a1
            have a2 : w'.cell? ⟨b, off + i * 4 + 2, none⟩ = some (.int .i64 xt) := hC.cell a2
            have a3 : w'.cell? ⟨b, off + i * 4 + 3, none⟩ = some (.int .u8 (xh : Nat)) := hC.cell a3
            clear hC hx25 KR KL KH HKE HV2 e0 e1 e2 e3 e4 e5 e6 e7 e8 e9 e10 e11 e12 y2 hz
            cases hd with
            | false =>
              have HG : Hid (goodA s boxes l i = false) := Lib.hid (by rw [HQ.out]; rfl)
              have HE2 := Lib.hid (HB0.out.trans (HC.out.mono HB0.out.size))
              clear a0 a1 a2 a3
              have HY : Hid (r = false) := Lib.hid (by rw [← HR.out]; exact stow_noA hlt (refAt_good HG.out))
              go_wp2_with fail
              go_ret
              exact ⟨by rw [HY.out]; rfl, HE2.out⟩
            | true =>
              have HG : Hid (goodA s boxes l i = true) := Lib.hid (by rw [HQ.out]; rfl)
              have HAT : Hid (∀ p, Hid (Below W.heap.size W p) → SlT tStw p (Lt p.heap.size) (some ⟨b, off, none⟩) l) := Lib.hid fun p hp => HST.out.on hp.out
              have HX0 : Hid (∀ p : World, Below w'.heap.size w' p → p.cell? ⟨b, off + i * 4, none⟩ = some (.int .i64 xb) ∧ p.cell? ⟨b, off + i * 4 + 1, none⟩ = some (.int .i64 xc) ∧ p.cell? ⟨b, off + i * 4 + 2, none⟩ = some (.int .i64 xt) ∧ p.cell? ⟨b, off + i * 4 + 3, none⟩ = some (.int .u8 (xh : Nat))) := Lib.hid fun p hp => ⟨(hp.cell (block_lt_of_cell a0)).trans a0, (hp.cell (block_lt_of_cell a1)).trans a1, (hp.cell (block_lt_of_cell a2)).trans a2, (hp.cell (block_lt_of_cell a3)).trans a3⟩
              clear a0 a1 a2 a3 HQ
              go_wp2_with fail
              go_loopw [10] (fun j wr => ∃ k : Nat, k ≤ i ∧ j = .int .i64 k ∧ Hid ((∀ j, j < k → pairA l i j = true) ∧ Below w'.heap.size w' wr)) (fun j _ => i - (intOf j).toNat)
              case atStart => exact ⟨0, Nat.zero_le _, rfl, Lib.hid (And.intro (fun j hj => absurd hj (by omega)) (Below.refl _ _))⟩
              case round =>
                obtain ⟨k, hk, rfl, HJ⟩ := hrel
                obtain ⟨U, rfl⟩ : ∃ U, U = wr := ⟨_, rfl⟩
                by_cases hlt2 : k < i
                · obtain ⟨b', off', e', _, d0, d1, d2, d3⟩ := (HAT.out U (Lib.hid (HC.out.trans (HJ.out.2.mono HC.out.size)))).stw (Nat.lt_trans hlt2 hlt)
                  obtain ⟨rfl, rfl⟩ : b = b' ∧ off = off' := by simpa using e'
                  obtain ⟨a0, a1, a2, a3⟩ := HX0.out U HJ.out.2
                  have k0 : (0 : Int) ≤ (k : Int) := by omega
                  have k1 : (k : Int) < (i : Int) := by omega
                  have k2 : (k : Int) < (l.length : Int) := by omega
                  have HPK := Lib.hid (HP.out k)
                  have HJ1 : Hid (pairA l i k = true → ∀ j, j < k + 1 → pairA l i j = true) := Lib.hid fun hp j hj => by
                    rcases Nat.lt_succ_iff_lt_or_eq.1 hj with h' | h'
                    · exact HJ.out.1 j h'
                    · rw [h']; exact hp
                  generalize l.getD k default = y at *
                  obtain ⟨yb, yc, yt, yh⟩ := y
                  simp only at d0 d1 d2 d3 HPK
                  have KM := Lib.hid (fun (V : World) (_ : Below U.heap.size U V) => refMeet_any ⟨yc, yt, yh⟩ ⟨xc, xt, xh⟩ V)
                  unfold sltL at KM
                  simp only at KM
                  generalize meetB ⟨yc, yt, yh⟩ ⟨xc, xt, xh⟩ = mt at *
                  have HBU := Lib.hid HJ.out.2
                  clear HJ e'
                  go_step
                  go_step
                  go_upto_region 12 with fail
                  have a0 : ∀ p : Gr U, p.W.cell? ⟨b, off + i * 4, none⟩ = some (.int .i64 xb) := Gr.cell a0
                  have a1 : ∀ p : Gr U, p.W.cell? ⟨b, off + i * 4 + 1, none⟩ = some (.int .i64 xc) := Gr.cell a1
                  have a2 : ∀ p : Gr U, p.W.cell? ⟨b, off + i * 4 + 2, none⟩ = some (.int .i64 xt) := Gr.cell a2
                  have a3 : ∀ p : Gr U, p.W.cell? ⟨b, off + i * 4 + 3, none⟩ = some (.int .u8 (xh : Nat)) := Gr.cell a3
                  have d0 : ∀ p : Gr U, p.W.cell? ⟨b, off + k * 4, none⟩ = some (.int .i64 yb) := Gr.cell d0
                  have d1 : ∀ p : Gr U, p.W.cell? ⟨b, off + k * 4 + 1, none⟩ = some (.int .i64 yc) := Gr.cell d1
                  have d2 : ∀ p : Gr U, p.W.cell? ⟨b, off + k * 4 + 2, none⟩ = some (.int .i64 yt) := Gr.cell d2
                  have d3 : ∀ p : Gr U, p.W.cell? ⟨b, off + k * 4 + 3, none⟩ = some (.int .u8 (yh : Nat)) := Gr.cell d3
                  cases p1 : decide (xb ≤ yb) with
                  | true =>
                    have HPF : Hid (pairA l i k = false) := Lib.hid (by
                      rw [HPK.out, decide_eq_false (by have := of_decide_eq_true p1; omega)]; rfl)
                    clear a1 a2 a3 d1 d2 d3
                    refine wp_region_gr (by kernel_rfl) (by kernel_rfl) ?_
                    repeat (go_big_quiet_step (fail))
                    refine wpQuiet_nil ?_
                    rintro Y ⟨⟨_, hbY⟩, rfl⟩
                    have HE2 := Lib.hid (HB0.out.trans ((HC.out.trans ((HBU.out.trans (hbY.mono HBU.out.size)).mono HC.out.size)).mono HB0.out.size))
                    clear hbY a0 d0
                    have HY : Hid (r = false) := Lib.hid (by rw [← HR.out]; exact stow_noA hlt (refAt_pair hlt2 HPF.out))
                    go_wp2_with fail
                    go_ret
                    exact ⟨by rw [HY.out]; rfl, HE2.out⟩
                  | false =>
                    have HPT : Hid (pairA l i k = !mt) := Lib.hid (by
                      rw [HPK.out, decide_eq_true (by have := of_decide_eq_false p1; omega)]; rfl)
                    refine wp_region_gr (by kernel_rfl) (by kernel_rfl) ?_
                    repeat (go_big_quiet_step ((with_reducible exact Gr.call _ (fun V hV => KM.out V hV))))
                    refine wpQuiet_nil ?_
                    rintro Y ⟨⟨_, hbY⟩, rfl⟩
                    have HBY := Lib.hid (HBU.out.trans (hbY.mono HBU.out.size))
                    clear hbY a0 a1 a2 a3 d0 d1 d2 d3 KM HPK
                    cases mt with
                    | true =>
                      have HPF : Hid (pairA l i k = false) := Lib.hid HPT.out
                      have HE2 := Lib.hid (HB0.out.trans ((HC.out.trans (HBY.out.mono HC.out.size)).mono HB0.out.size))
                      have HY : Hid (r = false) := Lib.hid (by rw [← HR.out]; exact stow_noA hlt (refAt_pair hlt2 HPF.out))
                      go_wp2_with fail
                      go_ret
                      exact ⟨by rw [HY.out]; rfl, HE2.out⟩
                    | false =>
                      have HN := Lib.hid (And.intro (HJ1.out HPT.out) HBY.out)
                      clear HBY HJ1 HPT HBU
                      go_wp2_with fail
                      go_roundw
                      case rel => first | exact ⟨k + 1, by omega, by go_num, HN⟩ | ((repeat apply Exists.intro); (first | exact ⟨⟨k + 1, by omega, by go_num, HN⟩, rfl⟩ | exact ⟨by omega, by go_num, HN⟩))
                      case measure => simp [intOf]; omega
                · obtain rfl : k = i := by omega
                  have HN : Hid ((∀ j, j < k + 1 → refAt s boxes l j = true) ∧ Below W.heap.size W U) := Lib.hid (And.intro (fun j hj => by
                    rcases Nat.lt_succ_iff_lt_or_eq.1 hj with h' | h'
                    · exact HA1.out j h'
                    · rw [h']; exact refAt_yes HG.out HJ.out.1) (HC.out.trans (HJ.out.2.mono HC.out.size)))
                  clear HJ HA1 HC
                  go_wp2_with fail
                  go_roundw
                  case rel => first | exact ⟨k + 1, by omega, by go_num, HN⟩ | ((repeat apply Exists.intro); (first | exact ⟨⟨k + 1, by omega, by go_num, HN⟩, rfl⟩ | exact ⟨by omega, by go_num, HN⟩))
                  case measure => simp [intOf]; omega
      · obtain rfl : i = l.length := by omega
        have HA := Lib.hid HI.out.1
        have HV1 := Lib.hid HI.out.2
        clear HI
        go_wp2_with fail
        go_loopw [11] (fun i wr => ∃ k : Nat, k ≤ s.cols.length ∧ i = .int .i64 k ∧ Hid ((∀ j, j < k → highF s boxes l j = false) ∧ Below W.heap.size W wr)) (fun i _ => s.cols.length - (intOf i).toNat)
        case atStart => exact ⟨0, Nat.zero_le _, rfl, Lib.hid (And.intro (fun j hj => absurd hj (by omega)) HV1.out)⟩
        case round =>
          clear HV1
          obtain ⟨k, hk, rfl, HI⟩ := hrel
          obtain ⟨V, rfl⟩ : ∃ V, V = wr := ⟨_, rfl⟩
          have KEV := Lib.hid (KE.out.below HI.out.2 KE.out.lt)
          have e0 : V.cell? ⟨w.heap.size, 0, none⟩ = some (Value.slice h.A1 s.cols.length h.c1) := KEV.out.cell 0
          have e1 : V.cell? ⟨w.heap.size, 1, none⟩ = some (Value.slice h.A2 s.covs.length h.c2) := KEV.out.cell 1
          have e2 : V.cell? ⟨w.heap.size, 2, none⟩ = some (.int .i64 s.l0) := KEV.out.cell 2
          have e3 : V.cell? ⟨w.heap.size, 3, none⟩ = some (.int .i64 s.l1) := KEV.out.cell 3
          have e4 : V.cell? ⟨w.heap.size, 4, none⟩ = some (.int .i64 s.l2) := KEV.out.cell 4
          have e5 : V.cell? ⟨w.heap.size, 5, none⟩ = some (.int .i64 s.l3) := KEV.out.cell 5
          have e6 : V.cell? ⟨w.heap.size, 6, none⟩ = some (.slice h.A3 s.rows.length h.c3) := KEV.out.cell 6
          have e7 : V.cell? ⟨w.heap.size, 7, none⟩ = some (.slice h.A4 s.frames.length h.c4) := KEV.out.cell 7
          have e8 : V.cell? ⟨w.heap.size, 8, none⟩ = some (.slice h.A5 s.tanks.length h.c5) := KEV.out.cell 8
          have e9 : V.cell? ⟨w.heap.size, 9, none⟩ = some (.int .i64 s.m0) := KEV.out.cell 9
          have e10 : V.cell? ⟨w.heap.size, 10, none⟩ = some (.int .i64 s.m1) := KEV.out.cell 10
          have e11 : V.cell? ⟨w.heap.size, 11, none⟩ = some (.int .i64 s.m2) := KEV.out.cell 11
          have e12 : V.cell? ⟨w.heap.size, 12, none⟩ = some (.int .i64 s.m3) := KEV.out.cell 12
          by_cases hlt : k < s.cols.length
          · have k0 : (0 : Int) ≤ (k : Int) := by omega
            have k1 : (k : Int) < (s.cols.length : Int) := by omega
            have KH := Lib.hid (refHigh_any s h A c boxes A2 c2 l k V (HSH.out.on HI.out.2) hlt hcl (HBX.out.on HI.out.2) hbl (HST.out.on HI.out.2) hl)
            unfold shpA at KH
            have HJ1 : Hid (highF s boxes l k = false → ∀ j, j < k + 1 → highF s boxes l j = false) := Lib.hid fun hp j hj => by
              rcases Nat.lt_succ_iff_lt_or_eq.1 hj with h' | h'
              · exact HI.out.1 j h'
              · rw [h']; exact hp
            obtain ⟨q, hq⟩ : ∃ q, highF s boxes l k = q := ⟨_, rfl⟩
            rw [hq] at KH HJ1
            have HQ := Lib.hid hq
            have HBV := Lib.hid HI.out.2
            clear hq HI
            go_wp2_with fail
            refine KH.out.mono ?_
            rintro e V1 ⟨rfl, hb1⟩
            simp only
            have HB3 := Lib.hid (HBV.out.trans (hb1.mono HBV.out.size))
            clear KH HBV hb1 KEV e0 e1 e2 e3 e4 e5 e6 e7 e8 e9 e10 e11 e12
            cases q with
            | true =>
              have HY : Hid (r = false) := Lib.hid (by rw [← HR.out]; exact stow_noH hlt HQ.out)
              go_wp2_with fail
              go_ret
              exact ⟨by rw [HY.out]; rfl, HB0.out.trans (HB3.out.mono HB0.out.size)⟩
            | false =>
              have HN := Lib.hid (And.intro (HJ1.out rfl) HB3.out)
              clear HB3 HJ1 HQ
              go_wp2_with fail
              go_roundw
              case rel => first | exact ⟨k + 1, by omega, by go_num, HN⟩ | ((repeat apply Exists.intro); (first | exact ⟨⟨k + 1, by omega, by go_num, HN⟩, rfl⟩ | exact ⟨by omega, by go_num, HN⟩))
              case measure => simp [intOf]; omega
          · obtain rfl : k = s.cols.length := by omega
            have HY : Hid (r = true) := Lib.hid (by rw [← HR.out]; exact stow_yes HRS.out HA.out HI.out.1)
            have HE := Lib.hid (HB0.out.trans (HI.out.2.mono HB0.out.size))
            clear HI
            go_wp2_with fail
            go_ret
            exact ⟨by rw [HY.out]; rfl, HE.out⟩
end Go.Proofs.YtmhikcleekfbpaaDoor
