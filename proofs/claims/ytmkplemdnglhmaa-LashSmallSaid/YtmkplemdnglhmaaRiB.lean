/-
  Walks of the reference of chapter 10: Faults.
-/
import Derived.Test.YtmkplemdnglhmaaRiA
import Derived.Test.YtmkplemdnglhmaaStM
namespace Go.Proofs.Ytmkplemdnglhmaa
open Go.RowKit

def frL (f : Flt) : List Value := [.int .i64 f.col, .int .i64 (f.kind : Nat), .int .i64 f.box]
def tFr : Ty Flt where
  k := 3
  pos := by decide
  rd := fun _ _ cs x => cs = frL x
  len := by rintro _ _ _ _ rfl; rfl
  one := by rintro _ _ _ _ rfl; rfl
  keep := fun h _ => h
  more := fun h _ => h
theorem SlT.fr {w : World} {S : Nat → Prop} {A : Option Addr} {l : List Flt} (h : SlT tFr w S A l) {j : Nat} (hj : j < l.length) :
    ∃ b off, A = some ⟨b, off, none⟩ ∧ S b ∧ w.cell? ⟨b, off + j * 3, none⟩ = some (.int .i64 (l.getD j default).col) ∧ w.cell? ⟨b, off + j * 3 + 1, none⟩ = some (.int .i64 ((l.getD j default).kind : Nat)) ∧ w.cell? ⟨b, off + j * 3 + 2, none⟩ = some (.int .i64 (l.getD j default).box) := by
  obtain ⟨b, off, cs, e, hb, h1, h2⟩ := h.at_ hj default
  rw [show cs = _ from h1] at h2
  exact ⟨b, off, e, hb, h2 0 _ rfl, h2 1 _ rfl, h2 2 _ rfl⟩
theorem el_fr : El Try.prog 65 110 3 24 := El.mk' Try.underlying65 (by kernel_rfl) (by decide)
def OwnFr (w : World) (l : List Flt) (e : Ending) (w' : World) : Prop := ∃ v, e = .returned v ∧ OwnT tFr 110 w' w.heap.size v l ∧ Below w.heap.size w w'
theorem OwnT.fr1 {w w' : World} {base : Nat} {v v' : Value} {l : List Flt} {x : Flt} {xs : List Value} (hf : Flat tFr w (But w v) xs l) (ho : w'.ownsRow base 110 3 v' (l.length + 1) (xs ++ frL x)) (hg : w.grownBy w' v.ownBlock)
    (hd : v'.ownBlock = v.ownBlock ∨ ∃ g, v'.ownBlock = some g ∧ w.heap.size ≤ g) : OwnT tFr 110 w' base v' (l ++ [x]) := OwnT.append1 (T := tFr) hf (cs := frL x) rfl ho hg hd
set_option maxRecDepth 100000 in
set_option maxHeartbeats 16000000 in
theorem refFaults10_any (s : Shp) (h : Hd) (A : Option Addr) (c : Nat) (boxes : List Bx) (A2 : Option Addr) (c2 : Nat) (l : List Stw) (col : Int) (w : World) (hkg : KgOK boxes) (htol : -1000000000000 ≤ s.m0 ∧ s.m0 ≤ 1000000000000) (hsh : ShpR w (Lt w.heap.size) s h) (hcl : s.cols.length ≤ 1000000) (hb : SlT tBx w (Lt w.heap.size) A boxes) (hbl : boxes.length ≤ 1000000) (hs : SlT tStw w (Lt w.heap.size) A2 l) (hl : l.length ≤ 1000)
    (hti : ∀ x ∈ l, -9223372036854775808 ≤ x.slot.tier ∧ x.slot.tier ≤ 9223372036854775807) :
    Calls Try.prog 29 #[.agg (shpA s h), .slice A boxes.length c, .slice A2 l.length c2, .int .i64 col] w (OwnFr w (if thereB s col then faultsF s boxes l col.toNat else [])) := by
  obtain ⟨R, hR⟩ : ∃ R, (if thereB s col then faultsF s boxes l col.toNat else []) = R := ⟨_, rfl⟩
  rw [hR]
  have HR := Lib.hid hR
  clear hR
  have hb0 := ba1 w (.cells (shpA s h) 32)
  have KE := Lib.hid (Bk.new w 32 (shpA s h))
  have HB0 := Lib.hid hb0
  have HSH := Lib.hid (hsh.on hb0)
  have HBX := Lib.hid (hb.on hb0)
  have HST := Lib.hid (hs.on hb0)
  have HTI := Lib.hid hti
  have HKG := Lib.hid hkg
  clear hsh hb hs hti hkg hb0
  unfold shpA at KE HB0 HSH HBX HST ⊢
  go_enter Try.func29, Try.ntmps29
  go_upto_region 1 with fail
  generalize (w.alloc _) = W at *
  have e0 : W.cell? ⟨w.heap.size, 0, none⟩ = some (.slice h.A1 s.cols.length h.c1) := KE.out.cell 0
  cases p1 : decide (col < 0) with
  | true =>
    have HN : Hid (R = []) := Lib.hid (by rw [← HR.out, show thereB s col = false by unfold thereB; rw [decide_eq_false (by have := of_decide_eq_true p1; omega)]; rfl]; rfl)
    clear HR
    go_wp2_with fail
    go_ret
    exact ⟨_, rfl, by rw [HN.out]; exact OwnT.nil, HB0.out⟩
  | false =>
    cases p2 : decide ((s.cols.length : Int) ≤ col) with
    | true =>
      have HN : Hid (R = []) := Lib.hid (by rw [← HR.out, show thereB s col = false by unfold thereB; rw [decide_eq_false (by have := of_decide_eq_true p2; omega : ¬ col < (s.cols.length : Int))]; simp]; rfl)
      clear HR
      go_wp2_with fail
      go_ret
      exact ⟨_, rfl, by rw [HN.out]; exact OwnT.nil, HB0.out⟩
    | false =>
      obtain ⟨k, rfl⟩ : ∃ k : Nat, col = (k : Int) := ⟨col.toNat, by have := of_decide_eq_false p1; omega⟩
      have hk : k < s.cols.length := by have := of_decide_eq_false p2; omega
      have HRF : Hid (R = faultsF s boxes l k) := Lib.hid (by rw [← HR.out, if_pos (by unfold thereB; simp; omega), Int.toNat_natCast])
      clear HR
      have i0 : (0 : Int) ≤ (k : Int) := by omega
      have i1 : (k : Int) < (s.cols.length : Int) := by omega
      obtain ⟨b1, o1, cA, cq, hA, _, hcq, hcp, d0, d1, d2, d3, d4, d5, d6, d7, d8, d9, d10, d11⟩ := HSH.out.cols.col hk
      have HA := Lib.hid hA
      have HF : Hid (faultsF s boxes l k = kindsTo (heavies s boxes l k) k 3 ++ topsOf (topB (s.cols.getD k default).deck s.m0 boxes l k) k l) := Lib.hid rfl
      have HVV : Hid (heavies s boxes l k = [decide ((s.cols.getD k default).k20 < sumF boxes l (halfB k 1)), decide ((s.cols.getD k default).k20 < sumF boxes l (halfB k 2)), decide ((s.cols.getD k default).k40 < sumF boxes l (colB k))]) := Lib.hid rfl
      rw [hA] at e0
      clear hA hcq hcp p2
      generalize faultsF s boxes l k = FL at *
      generalize heavies s boxes l k = hv at *
      generalize s.cols.getD k default = cc at *
      obtain ⟨cb, cr, cd, ct, ch, c20, c40, cl, cp, cx, cy, cz⟩ := cc
      simp only at d0 d1 d2 d3 d4 d5 d6 d7 d8 d9 d10 d11 HF HVV
      have hbc := ba1 W (.cells #[.int .i64 cb, .int .i64 cr, .bool cd, .int .i64 ct, .int .i64 ch, .int .i64 c20, .int .i64 c40, .int .i64 cl, .slice cA cp.length cq, .int .i64 cx, .int .i64 cy, .int .i64 cz] 46)
      have KC := Lib.hid (Bk.new W 46 #[.int .i64 cb, .int .i64 cr, .bool cd, .int .i64 ct, .int .i64 ch, .int .i64 c20, .int .i64 c40, .int .i64 cl, .slice cA cp.length cq, .int .i64 cx, .int .i64 cy, .int .i64 cz])
      have HB1 := Lib.hid (HB0.out.trans (hbc.mono HB0.out.size))
      have KW := Lib.hid (refWeigh_any A c boxes A2 c2 l k (W.alloc (.cells #[.int .i64 cb, .int .i64 cr, .bool cd, .int .i64 ct, .int .i64 ch, .int .i64 c20, .int .i64 c40, .int .i64 cl, .slice cA cp.length cq, .int .i64 cx, .int .i64 cy, .int .i64 cz] 46)) HKG.out (HBX.out.on hbc) hbl (HST.out.on hbc) (by omega))
      go_upto_region 4 with fail
      obtain ⟨gc, hgc⟩ : ∃ gc, gc = W.heap.size := ⟨_, rfl⟩
      rw [← hgc] at KC ⊢
      have HBC := Lib.hid hbc
      clear hgc hbc e0 d0 d1 d2 d3 d4 d5 d6 d7 d8 d9 d10 d11
      generalize (W.alloc _) = W1 at *
      generalize hn1 : sumF boxes l (halfB k 1) = n1 at *
      generalize hn2 : sumF boxes l (halfB k 2) = n2 at *
      generalize hn3 : sumF boxes l (colB k) = n3 at *
      clear hn1 hn2 hn3
      go_wp2_with fail
      refine KW.out.mono ?_
      rintro e W2 ⟨rfl, hb2⟩
      simp only
      have HBW2 := Lib.hid (HBC.out.trans (hb2.mono HBC.out.size))
      have HKC := Lib.hid (KC.out.below hb2 KC.out.lt)
      have HSZ : Hid (w.heap.size ≤ W2.heap.size) := Lib.hid (Nat.le_trans HB0.out.size HBW2.out.size)
      clear KW KC hb2 HBC HB1
      go_upto_region 6 with fail
      obtain ⟨V, hV⟩ : ∃ V, V = W2 := ⟨_, rfl⟩
      have HO : Hid (OwnT tFr 110 V W2.heap.size (.slice none 0 0) (kindsTo hv (k : Int) 0)) := Lib.hid (by show OwnT tFr _ V _ _ []; exact OwnT.nil)
      have HB : Hid (Below W2.heap.size W2 V) := Lib.hid (by rw [hV]; exact Below.refl _ _)
      rw [← hV]
      clear hV
      have cc : V.cell? ⟨gc, 5, none⟩ = some (.int .i64 c20) := (HKC.out.below HB.out HKC.out.lt).cell 5
      go_upto_if 41 with fail
      clear cc
      go_cut [13] (fun v wx => Hid (OwnT tFr 110 wx W2.heap.size v (kindsTo hv (k : Int) 1)) ∧ Hid (Below W2.heap.size W2 wx))
      case first =>
        have HS1 : Hid (kindsTo hv (k : Int) 1 = kindsTo hv (k : Int) 0 ++ if hv.getD 0 false then [⟨(k : Int), 1 + 0, 0⟩] else []) := Lib.hid (kindsTo_succ hv (k : Int) 0)
        have hML := kindsTo_len hv (k : Int) 0
        have HGD : Hid (hv.getD 0 false = decide (c20 < n1)) := Lib.hid (by rw [HVV.out]; rfl)
        generalize kindsTo hv (k : Int) 0 = M at *
        cases q : decide (c20 < n1) with
        | true =>
          have HEQ : Hid (kindsTo hv (k : Int) 1 = M ++ [⟨(k : Int), 1, 0⟩]) := Lib.hid (by rw [HS1.out, HGD.out, q]; rfl)
          go_upto_region 7 with fail
          obtain ⟨xs, ho, hfl⟩ := HO.out
          have hz9 := HB.out.size
          go_wp2_with (at_builtin; (refine wpList_append1 el_fr rfl (.tmp 42) (.tmp 45) rfl W2.heap.size _ M.length xs rfl ho #[.int .i64 (k : Nat), .int .i64 1, .int .i64 0] _ rfl rfl rfl ?cA7 ?cB7 hz9 ?_))
          case cA7 => unfold maxLen; omega
          case cB7 => omega
          intro v' w3 hown' hgr hd3 hbel
          have HO2 := Lib.hid (OwnT.fr1 (x := ⟨(k : Int), 1, 0⟩) hfl hown' hgr hd3)
          have HB2 := Lib.hid (HB.out.trans hbel)
          clear hown' hgr hd3 hbel ho hfl hz9 HO HB
          go_wp2_with fail
          go_meet
          exact ⟨Lib.hid (by rw [HEQ.out]; exact HO2.out), HB2⟩
        | false =>
          have HEQ : Hid (kindsTo hv (k : Int) 1 = M) := Lib.hid (by rw [HS1.out, HGD.out, q]; simp)
          go_wp2_with fail
          go_meet
          exact ⟨Lib.hid (by rw [HEQ.out]; exact HO.out), HB⟩
      case rest =>
        clear HO HB
        clear V
        obtain ⟨HO, HB⟩ := hcut
        obtain ⟨V, rfl⟩ : ∃ V, V = wc := ⟨_, rfl⟩
        have cc : V.cell? ⟨gc, 5, none⟩ = some (.int .i64 c20) := (HKC.out.below HB.out HKC.out.lt).cell 5
        go_upto_if 50 with fail
        clear cc
        go_cut [13] (fun v wx => Hid (OwnT tFr 110 wx W2.heap.size v (kindsTo hv (k : Int) 2)) ∧ Hid (Below W2.heap.size W2 wx))
        case first =>
          have HS1 : Hid (kindsTo hv (k : Int) 2 = kindsTo hv (k : Int) 1 ++ if hv.getD 1 false then [⟨(k : Int), 1 + 1, 0⟩] else []) := Lib.hid (kindsTo_succ hv (k : Int) 1)
          have hML := kindsTo_len hv (k : Int) 1
          have HGD : Hid (hv.getD 1 false = decide (c20 < n2)) := Lib.hid (by rw [HVV.out]; rfl)
          generalize kindsTo hv (k : Int) 1 = M at *
          cases q : decide (c20 < n2) with
          | true =>
            have HEQ : Hid (kindsTo hv (k : Int) 2 = M ++ [⟨(k : Int), 2, 0⟩]) := Lib.hid (by rw [HS1.out, HGD.out, q]; rfl)
            go_upto_region 9 with fail
            obtain ⟨xs, ho, hfl⟩ := HO.out
            have hz9 := HB.out.size
            go_wp2_with (at_builtin; (refine wpList_append1 el_fr rfl (.tmp 51) (.tmp 54) rfl W2.heap.size _ M.length xs rfl ho #[.int .i64 (k : Nat), .int .i64 2, .int .i64 0] _ rfl rfl rfl ?cA9 ?cB9 hz9 ?_))
            case cA9 => unfold maxLen; omega
            case cB9 => omega
            intro v' w3 hown' hgr hd3 hbel
            have HO2 := Lib.hid (OwnT.fr1 (x := ⟨(k : Int), 2, 0⟩) hfl hown' hgr hd3)
            have HB2 := Lib.hid (HB.out.trans hbel)
            clear hown' hgr hd3 hbel ho hfl hz9 HO HB
            go_wp2_with fail
            go_meet
            exact ⟨Lib.hid (by rw [HEQ.out]; exact HO2.out), HB2⟩
          | false =>
            have HEQ : Hid (kindsTo hv (k : Int) 2 = M) := Lib.hid (by rw [HS1.out, HGD.out, q]; simp)
            go_wp2_with fail
            go_meet
            exact ⟨Lib.hid (by rw [HEQ.out]; exact HO.out), HB⟩
        case rest =>
          clear HO HB
          clear V
          obtain ⟨HO, HB⟩ := hcut
          obtain ⟨V, rfl⟩ : ∃ V, V = wc := ⟨_, rfl⟩
          have cc : V.cell? ⟨gc, 6, none⟩ = some (.int .i64 c40) := (HKC.out.below HB.out HKC.out.lt).cell 6
          go_upto_if 59 with fail
          clear cc
          go_cut [13] (fun v wx => Hid (OwnT tFr 110 wx W2.heap.size v (kindsTo hv (k : Int) 3)) ∧ Hid (Below W2.heap.size W2 wx))
          case first =>
            have HS1 : Hid (kindsTo hv (k : Int) 3 = kindsTo hv (k : Int) 2 ++ if hv.getD 2 false then [⟨(k : Int), 1 + 2, 0⟩] else []) := Lib.hid (kindsTo_succ hv (k : Int) 2)
            have hML := kindsTo_len hv (k : Int) 2
            have HGD : Hid (hv.getD 2 false = decide (c40 < n3)) := Lib.hid (by rw [HVV.out]; rfl)
            generalize kindsTo hv (k : Int) 2 = M at *
            cases q : decide (c40 < n3) with
            | true =>
              have HEQ : Hid (kindsTo hv (k : Int) 3 = M ++ [⟨(k : Int), 3, 0⟩]) := Lib.hid (by rw [HS1.out, HGD.out, q]; rfl)
              go_upto_region 11 with fail
              obtain ⟨xs, ho, hfl⟩ := HO.out
              have hz9 := HB.out.size
              go_wp2_with (at_builtin; (refine wpList_append1 el_fr rfl (.tmp 60) (.tmp 63) rfl W2.heap.size _ M.length xs rfl ho #[.int .i64 (k : Nat), .int .i64 3, .int .i64 0] _ rfl rfl rfl ?cA11 ?cB11 hz9 ?_))
              case cA11 => unfold maxLen; omega
              case cB11 => omega
              intro v' w3 hown' hgr hd3 hbel
              have HO2 := Lib.hid (OwnT.fr1 (x := ⟨(k : Int), 3, 0⟩) hfl hown' hgr hd3)
              have HB2 := Lib.hid (HB.out.trans hbel)
              clear hown' hgr hd3 hbel ho hfl hz9 HO HB
              go_wp2_with fail
              go_meet
              exact ⟨Lib.hid (by rw [HEQ.out]; exact HO2.out), HB2⟩
            | false =>
              have HEQ : Hid (kindsTo hv (k : Int) 3 = M) := Lib.hid (by rw [HS1.out, HGD.out, q]; simp)
              go_wp2_with fail
              go_meet
              exact ⟨Lib.hid (by rw [HEQ.out]; exact HO.out), HB⟩
          case rest =>
            clear HO HB
            clear V
            obtain ⟨HO, HB⟩ := hcut
            obtain ⟨V, rfl⟩ : ∃ V, V = wc := ⟨_, rfl⟩
            have HM3 : Hid ((kindsTo hv (k : Int) 3).length ≤ 3) := Lib.hid (kindsTo_len hv (k : Int) 3)
            generalize kindsTo hv (k : Int) 3 = M0 at *
            obtain ⟨tol, htl⟩ : ∃ tol, s.m0 = tol := ⟨_, rfl⟩
            have KET := Lib.hid (KE.out)
            rw [htl] at HF htol KET
            have HF0 := Lib.hid (show FL = M0 ++ topsOf (topB cd tol boxes l k) k l from HF.out)
            have HO0 : Hid (OwnT tFr 110 V W2.heap.size u13 (M0 ++ topsOf (topB cd tol boxes l k) k (l.take 0))) := Lib.hid (by simpa [topsOf] using HO.out)
            have HB9 := HB
            clear HO HB HF HVV htl
            go_wp2_with fail
            go_loopw [13, 14] (fun v i wr => ∃ j : Nat, j ≤ l.length ∧ i = .int .i64 j ∧ Hid (OwnT tFr 110 wr W2.heap.size v (M0 ++ topsOf (topB cd tol boxes l k) k (l.take j))) ∧ Hid (Below W2.heap.size W2 wr)) (fun _ i _ => l.length - (intOf i).toNat)
            case atStart => exact ⟨0, Nat.zero_le _, rfl, HO0, HB9⟩
            case round =>
              clear HO0 HB9
              clear V
              obtain ⟨j, hj, rfl, HO, HB⟩ := hrel
              obtain ⟨V, rfl⟩ : ∃ V, V = wr := ⟨_, rfl⟩
              have cc2 : V.cell? ⟨gc, 2, none⟩ = some (.bool cd) := (HKC.out.below HB.out HKC.out.lt).cell 2
              by_cases hlt : j < l.length
              · have j0 : (0 : Int) ≤ (j : Int) := by omega
                have j1 : (j : Int) < (l.length : Int) := by omega
                cases cd with
                | false =>
                  have HY : Hid (R = M0 ++ topsOf (topB false tol boxes l k) k (l.take j)) := Lib.hid (by
                    rw [HRF.out, HF0.out]
                    have e : ∀ m : List Stw, topsOf (topB false tol boxes l k) k m = [] := fun m => by unfold topsOf topB; simp
                    rw [e, e])
                  have HE := Lib.hid (HB0.out.trans ((HBW2.out.trans (HB.out.mono HBW2.out.size)).mono HB0.out.size))
                  go_wp2_with fail
                  go_ret
                  exact ⟨_, rfl, by rw [HY.out]; exact HO.out.down HSZ.out, HE.out⟩
                | true =>
                  have HBV := Lib.hid (HBW2.out.trans (HB.out.mono HBW2.out.size))
                  obtain ⟨b, off, rfl, hbB, a0, a1, a2, a3⟩ := (HST.out.on HBV.out).stw hlt
                  have hbb : b < V.heap.size := hbB
                  clear hbB
                  have HSU : Hid (M0 ++ topsOf (topB true tol boxes l k) k (l.take (j + 1)) = M0 ++ (topsOf (topB true tol boxes l k) k (l.take j) ++ if topB true tol boxes l k (l.getD j default) then [⟨k, 4, (l.getD j default).box⟩] else [])) := Lib.hid (by rw [topsOf_succ _ _ _ hlt])
                  have HXT := HTI.out _ (getD_memD hlt default)
                  generalize l.getD j default = x at *
                  obtain ⟨xb, xc, xt, xh⟩ := x
                  simp only at a0 a1 a2 a3 HSU HXT
                  obtain ⟨t1, t2⟩ := HXT
                  have HP : Hid (topB true tol boxes l k ⟨xb, ⟨xc, xt, xh⟩⟩ = ((xc == (k : Int)) && (decide (0 < xt) && decide (sumF boxes l (belowB ⟨xc, xt, xh⟩) + tol < (findBx boxes xb).1.kilos)))) := Lib.hid (by
                    unfold topB
                    simp only [Bool.true_and]
                    rw [show decide (1 ≤ xt) = decide (0 < xt) from by rw [Bool.eq_iff_iff]; simp; omega])
                  have hby := ba1 V (.cells #[.int .i64 xc, .int .i64 xt, .int .u8 (xh : Nat)] 40)
                  have KY := Lib.hid (Bk.new V 40 #[.int .i64 xc, .int .i64 xt, .int .u8 (xh : Nat)])
                  have KK := Lib.hid (fun (U : World) (hU : Below (V.alloc (.cells #[.int .i64 xc, .int .i64 xt, .int .u8 (xh : Nat)] 40)).heap.size (V.alloc (.cells #[.int .i64 xc, .int .i64 xt, .int .u8 (xh : Nat)] 40)) U) => refKilos_any A c boxes ⟨xb, ⟨xc, xt, xh⟩⟩ U (HBX.out.on (HBV.out.trans ((hby.trans (hU.mono hby.size)).mono HBV.out.size))) hbl)
                  have KB := Lib.hid (fun (U : World) (hU : Below (V.alloc (.cells #[.int .i64 xc, .int .i64 xt, .int .u8 (xh : Nat)] 40)).heap.size (V.alloc (.cells #[.int .i64 xc, .int .i64 xt, .int .u8 (xh : Nat)] 40)) U) => refBelow_any A c boxes (some ⟨b, off, none⟩) c2 l ⟨xc, xt, xh⟩ U HKG.out (HBX.out.on (HBV.out.trans ((hby.trans (hU.mono hby.size)).mono HBV.out.size))) hbl (HST.out.on (HBV.out.trans ((hby.trans (hU.mono hby.size)).mono HBV.out.size))) (by omega) t2 (fun y hy => (HTI.out y hy).1))
                  obtain ⟨g1, g2⟩ := find_kg HKG.out xb
                  have hbd := sum_bd2 (kgOf boxes (belowB ⟨xc, xt, xh⟩)) 1000000000000 l (fun x _ => kg_bd HKG.out _ x)
                  unfold stwL sltL at *
                  simp only at KK KB
                  have hbe : sumF boxes l (belowB ⟨xc, xt, xh⟩) = (l.map (kgOf boxes (belowB ⟨xc, xt, xh⟩))).sum := rfl
                  rw [← hbe] at hbd
                  clear hbe
                  generalize sumF boxes l (belowB ⟨xc, xt, xh⟩) = bl at *
                  generalize (findBx boxes xb).1.kilos = kg at *
                  obtain ⟨g3, g4⟩ := (show -1000000000000000 ≤ bl ∧ bl ≤ 1000000000000000 from ⟨by omega, by omega⟩)
                  clear hbd
                  go_step
                  go_step
                  go_upto_region 16 with fail
                  replace a0 := (hby.cell (p := ⟨b, off + j * 4, none⟩) hbb).trans a0
                  replace a1 := (hby.cell (p := ⟨b, off + j * 4 + 1, none⟩) hbb).trans a1
                  replace a2 := (hby.cell (p := ⟨b, off + j * 4 + 2, none⟩) hbb).trans a2
                  replace a3 := (hby.cell (p := ⟨b, off + j * 4 + 3, none⟩) hbb).trans a3
                  replace HO := Lib.hid (HO.out.below hby)
                  replace HB := Lib.hid (HB.out.trans (hby.mono HB.out.size))
                  have HE9 := Lib.hid (KET.out.below (HBV.out.trans (hby.mono HBV.out.size)) KET.out.lt)
                  obtain ⟨gy, hgy⟩ : ∃ gy, gy = V.heap.size := ⟨_, rfl⟩
                  rw [← hgy] at KY ⊢
                  clear hgy hbb hby cc2 HBV
                  generalize (V.alloc _) = V2 at *
                  obtain ⟨t3, t4⟩ := htol
                  have y0 : ∀ p : Gr V2, p.W.cell? ⟨gy, 0, none⟩ = some (.int .i64 xc) := Gr.cell (KY.out.cell 0)
                  have y1 : ∀ p : Gr V2, p.W.cell? ⟨gy, 1, none⟩ = some (.int .i64 xt) := Gr.cell (KY.out.cell 1)
                  have y2 : ∀ p : Gr V2, p.W.cell? ⟨gy, 2, none⟩ = some (.int .u8 (xh : Nat)) := Gr.cell (KY.out.cell 2)
                  have a0 : ∀ p : Gr V2, p.W.cell? ⟨b, off + j * 4, none⟩ = some (.int .i64 xb) := Gr.cell a0
                  have a1 : ∀ p : Gr V2, p.W.cell? ⟨b, off + j * 4 + 1, none⟩ = some (.int .i64 xc) := Gr.cell a1
                  have a2 : ∀ p : Gr V2, p.W.cell? ⟨b, off + j * 4 + 2, none⟩ = some (.int .i64 xt) := Gr.cell a2
                  have a3 : ∀ p : Gr V2, p.W.cell? ⟨b, off + j * 4 + 3, none⟩ = some (.int .u8 (xh : Nat)) := Gr.cell a3
                  have e9 : ∀ p : Gr V2, p.W.cell? ⟨w.heap.size, 9, none⟩ = some (.int .i64 tol) := Gr.cell (HE9.out.cell 9)
                  clear KY HE9
                  cases p1 : (xc == (k : Int)) with
                  | false =>
                    have HPX : Hid (topB true tol boxes l k ⟨xb, ⟨xc, xt, xh⟩⟩ = false) := Lib.hid (by rw [HP.out, p1]; rfl)
                    have HO2 : Hid (OwnT tFr 110 V2 W2.heap.size u13 (M0 ++ topsOf (topB true tol boxes l k) k (l.take (j + 1)))) := Lib.hid (by rw [HSU.out, HPX.out]; simpa using HO.out)
                    refine wp_region_gr (by kernel_rfl) (by kernel_rfl) ?_
                    repeat (go_big_quiet_step (fail))
                    refine wpQuiet_nil ?_
                    rintro Y ⟨⟨_, hbY⟩, rfl⟩
                    have HB2 := Lib.hid (HB.out.trans (hbY.mono HB.out.size))
                    have HO3 := Lib.hid (HO2.out.below hbY)
                    clear hbY HO HO2 HB HPX HP HSU y0 y1 y2 a0 a1 a2 a3 e9 KK KB
                    go_wp2_with fail
                    go_roundw
                    case rel => first | exact ⟨j + 1, by omega, by go_num, HO3, HB2⟩ | ((repeat apply Exists.intro); (first | exact ⟨⟨j + 1, by omega, by go_num, HO3, HB2⟩, rfl⟩ | exact ⟨by omega, by go_num, HO3, HB2⟩))
                    case measure => simp [intOf]; omega
                  | true =>
                    cases p2 : decide (0 < xt) with
                    | false =>
                      have HPX : Hid (topB true tol boxes l k ⟨xb, ⟨xc, xt, xh⟩⟩ = false) := Lib.hid (by rw [HP.out, p1, p2]; simp)
                      have HO2 : Hid (OwnT tFr 110 V2 W2.heap.size u13 (M0 ++ topsOf (topB true tol boxes l k) k (l.take (j + 1)))) := Lib.hid (by rw [HSU.out, HPX.out]; simpa using HO.out)
                      refine wp_region_gr (by kernel_rfl) (by kernel_rfl) ?_
                      repeat (go_big_quiet_step (fail))
                      refine wpQuiet_nil ?_
                      rintro Y ⟨⟨_, hbY⟩, rfl⟩
                      have HB2 := Lib.hid (HB.out.trans (hbY.mono HB.out.size))
                      have HO3 := Lib.hid (HO2.out.below hbY)
                      clear hbY HO HO2 HB HPX HP HSU y0 y1 y2 a0 a1 a2 a3 e9 KK KB
                      go_wp2_with fail
                      go_roundw
                      case rel => first | exact ⟨j + 1, by omega, by go_num, HO3, HB2⟩ | ((repeat apply Exists.intro); (first | exact ⟨⟨j + 1, by omega, by go_num, HO3, HB2⟩, rfl⟩ | exact ⟨by omega, by go_num, HO3, HB2⟩))
                      case measure => simp [intOf]; omega
                    | true =>
                      have s1 : IntKind.i64.wrap (kg - bl) = kg - bl := IntWalk.i64_in _ (by omega)
                      refine wp_region_gr (by kernel_rfl) (by kernel_rfl) ?_
                      repeat (go_big_quiet_step (((first | (with_reducible exact Gr.call _ (fun V hV => KK.out V hV)) | (with_reducible exact Gr.call _ (fun V hV => KB.out V hV))))))
                      refine wpQuiet_nil ?_
                      rintro Y ⟨⟨_, hbY⟩, rfl⟩

                      cases p3 : decide (tol < kg - bl) with
                      | false =>
                        have HPX : Hid (topB true tol boxes l k ⟨xb, ⟨xc, xt, xh⟩⟩ = false) := Lib.hid (by rw [HP.out, p1, p2, decide_eq_false (by have := of_decide_eq_false p3; omega)]; rfl)
                        have HO3 : Hid (OwnT tFr 110 Y W2.heap.size u13 (M0 ++ topsOf (topB true tol boxes l k) k (l.take (j + 1)))) := Lib.hid (by rw [HSU.out, HPX.out]; simpa using HO.out.below hbY)
                        have HB2 := Lib.hid (HB.out.trans (hbY.mono HB.out.size))
                        clear hbY HO HB HPX HP HSU y0 y1 y2 a0 a1 a2 a3 e9 KK KB s1
                        go_wp2_with fail
                        go_roundw
                        case rel => first | exact ⟨j + 1, by omega, by go_num, HO3, HB2⟩ | ((repeat apply Exists.intro); (first | exact ⟨⟨j + 1, by omega, by go_num, HO3, HB2⟩, rfl⟩ | exact ⟨by omega, by go_num, HO3, HB2⟩))
                        case measure => simp [intOf]; omega
                      | true =>
                        have HPX : Hid (topB true tol boxes l k ⟨xb, ⟨xc, xt, xh⟩⟩ = true) := Lib.hid (by rw [HP.out, p1, p2, decide_eq_true (by have := of_decide_eq_true p3; omega)]; rfl)
                        have HOY := Lib.hid (HO.out.below hbY)
                        have HBY := Lib.hid (HB.out.trans (hbY.mono HB.out.size))
                        have a0 : Y.cell? ⟨b, off + j * 4, none⟩ = some (.int .i64 xb) := a0 ⟨Y, hbY⟩
                        have HML : Hid ((M0 ++ topsOf (topB true tol boxes l k) k (l.take j)).length ≤ 3 + l.length) := Lib.hid (by
                          rw [List.length_append]
                          have h1 := topsOf_len (topB true tol boxes l k) k (l.take j)
                          have h2 : (l.take j).length ≤ l.length := by simp; omega
                          have h3 := HM3.out
                          omega)
                        clear hbY HO HB HP y0 y1 y2 a1 a2 a3 e9 KK KB s1
                        replace HSU : Hid (M0 ++ topsOf (topB true tol boxes l k) k (l.take (j + 1)) = (M0 ++ topsOf (topB true tol boxes l k) k (l.take j)) ++ [⟨(k : Int), 4, xb⟩]) := Lib.hid (by rw [HSU.out, HPX.out, List.append_assoc]; rfl)
                        clear HPX
                        generalize hM : M0 ++ topsOf (topB true tol boxes l k) k (l.take j) = M at *
                        clear hM
                        have hML := HML.out
                        obtain ⟨xs, ho, hfl⟩ := HOY.out
                        have hz9 := HBY.out.size
                        go_wp2_with (at_builtin; (refine wpList_append1 el_fr rfl (.tmp 106) (.tmp 114) rfl W2.heap.size _ M.length xs rfl ho #[.int .i64 (k : Nat), .int .i64 4, .int .i64 xb] _ rfl rfl rfl ?cA17 ?cB17 hz9 ?_))
                        case cA17 => unfold maxLen; omega
                        case cB17 => omega
                        intro v' w3 hown' hgr hd3 hbel
                        have HO2 := Lib.hid (OwnT.fr1 (x := ⟨(k : Int), 4, xb⟩) hfl hown' hgr hd3)
                        have HB2 := Lib.hid (HBY.out.trans hbel)
                        clear hown' hgr hd3 hbel ho hfl hz9 HOY HBY a0
                        replace HO2 : Hid (OwnT tFr 110 w3 W2.heap.size v' (M0 ++ topsOf (topB true tol boxes l k) k (l.take (j + 1)))) := Lib.hid (by rw [HSU.out]; exact HO2.out)
                        clear HSU
                        go_wp2_with fail
                        go_roundw
                        case rel => first | exact ⟨j + 1, by omega, by go_num, HO2, HB2⟩ | ((repeat apply Exists.intro); (first | exact ⟨⟨j + 1, by omega, by go_num, HO2, HB2⟩, rfl⟩ | exact ⟨by omega, by go_num, HO2, HB2⟩))
                        case measure => simp [intOf]; omega
              · obtain rfl : j = l.length := by omega
                have HY : Hid (R = M0 ++ topsOf (topB cd tol boxes l k) k (l.take l.length)) := Lib.hid (by rw [HRF.out, HF0.out, List.take_length])
                cases cd
                all_goals
                  have HE := Lib.hid (HB0.out.trans ((HBW2.out.trans (HB.out.mono HBW2.out.size)).mono HB0.out.size))
                  go_wp2_with fail
                  go_ret
                  exact ⟨_, rfl, by rw [HY.out]; exact HO.out.down HSZ.out, HE.out⟩
end Go.Proofs.Ytmkplemdnglhmaa
