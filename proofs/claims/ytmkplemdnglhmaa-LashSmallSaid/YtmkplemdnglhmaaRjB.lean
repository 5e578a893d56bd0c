/-
  Walks of the reference of chapter 11: Faults, Check, room, Room.
-/
import Derived.Test.YtmkplemdnglhmaaRjA
import Derived.Test.YtmkplemdnglhmaaRhB
import Derived.Test.YtmkplemdnglhmaaRiB
import Derived.Test.YtmkplemdnglhmaaLaZ
namespace Go.Proofs.Ytmkplemdnglhmaa
open Go.RowKit

theorem el_fr11 : El Try.prog 93 144 3 24 := El.mk' Try.underlying93 (by kernel_rfl) (by decide)
def OwnFr11 (w : World) (l : List Flt) (e : Ending) (w' : World) : Prop := ∃ v, e = .returned v ∧ OwnT tFr 144 w' w.heap.size v l ∧ Below w.heap.size w w'
theorem OwnT.fr11 {w w' : World} {base : Nat} {v v' : Value} {l : List Flt} {x : Flt} {xs : List Value} (hf : Flat tFr w (But w v) xs l) (ho : w'.ownsRow base 144 3 v' (l.length + 1) (xs ++ frL x)) (hg : w.grownBy w' v.ownBlock)
    (hd : v'.ownBlock = v.ownBlock ∨ ∃ g, v'.ownBlock = some g ∧ w.heap.size ≤ g) : OwnT tFr 144 w' base v' (l ++ [x]) := OwnT.append1 (T := tFr) hf (cs := frL x) rfl ho hg hd
/-- The faults as far as the loop has come. -/
def lfGo (s : Shp) (boxes : List Bx) (l : List Stw) (col : Int) (j : Nat) : List Flt := if lashF s col = 0 then [] else lfTo boxes l (lashF s col) col j
theorem lashF_at0 {s : Shp} {k : Nat} (hk : k < s.cols.length) : lashF s (k : Int) = if (s.cols.getD k default).deck then (if (s.cols.getD k default).lash < 0 then 0 else (s.cols.getD k default).lash) else 0 := by
  unfold lashF thereB
  rw [Int.toNat_natCast]
  have h1 : decide ((0 : Int) ≤ (k : Int)) = true := by simp
  have h2 : decide ((k : Int) < (s.cols.length : Int)) = true := by simp; omega
  rw [h1, h2]
  simp only [Bool.true_and]
theorem lfGo_no {s : Shp} {boxes : List Bx} {l : List Stw} {col : Int} {j : Nat} (h : lashF s col = 0) : lfGo s boxes l col j = [] := by unfold lfGo; rw [if_pos h]
theorem lfGo_succ {s : Shp} {boxes : List Bx} {l : List Stw} {col : Int} {j : Nat} (h : lashF s col ≠ 0) : lfGo s boxes l col (j + 1) = lfGo s boxes l col j ++ if lashF s col < momentF boxes l col (1 + j) then [⟨col, 1 + j, momentF boxes l col (1 + j) - lashF s col⟩] else [] := by
  unfold lfGo
  rw [if_neg h, if_neg h, lfTo_succ]
set_option maxRecDepth 100000 in
set_option maxHeartbeats 16000000 in
theorem refFaults11_any (s : Shp) (h : Hd) (A : Option Addr) (c : Nat) (boxes : List Bx) (A2 : Option Addr) (c2 : Nat) (l : List Stw) (col : Int) (w : World) (hkg : KgL boxes) (hlh : ∀ c ∈ s.cols, c.lash ≤ 1000000000000000) (hsh : ShpR w (Lt w.heap.size) s h) (hcl : s.cols.length ≤ 1000000) (hb : SlT tBx w (Lt w.heap.size) A boxes) (hbl : boxes.length ≤ 1000000) (hs : SlT tStw w (Lt w.heap.size) A2 l) (hl : l.length ≤ 1000) :
    Calls Try.prog 58 #[.agg (shpA s h), .slice A boxes.length c, .slice A2 l.length c2, .int .i64 col] w (OwnFr11 w (lfaultsF s boxes l col)) := by
  have hb0 := ba1 w (.cells (shpA s h) 32)
  have KE := Lib.hid (Bk.new w 32 (shpA s h))
  have HB0 := Lib.hid hb0
  have HSH := Lib.hid (hsh.on hb0)
  have HBX := Lib.hid (hb.on hb0)
  have HST := Lib.hid (hs.on hb0)
  have HKG := Lib.hid hkg
  have HLH := Lib.hid hlh
  obtain ⟨R, hR⟩ : ∃ R, lfaultsF s boxes l col = R := ⟨_, rfl⟩
  rw [hR]
  have HR := Lib.hid hR
  clear hsh hb hs hkg hlh hb0 hR
  unfold shpA at KE HB0 HSH HBX HST ⊢
  go_enter Try.func58, Try.ntmps58
  go_upto_region 1 with fail
  generalize (w.alloc _) = W at *
  cases p1 : decide (0 ≤ col) with
  | false =>
    have HN : Hid (R = []) := Lib.hid (by rw [← HR.out]; unfold lfaultsF; rw [if_pos (by unfold lashF thereB; rw [p1]; rfl)])
    clear HR
    go_wp2_with fail
    go_loopw [9, 10] (fun v i wr => v = .slice none 0 0 ∧ i = .int .i64 1 ∧ Hid (Below W.heap.size W wr)) (fun _ _ _ => 0)
    case atStart => exact ⟨rfl, rfl, Lib.hid (Below.refl _ _)⟩
    case round =>
      obtain ⟨rfl, rfl, HB⟩ := hrel
      have HE := Lib.hid (HB0.out.trans (HB.out.mono HB0.out.size))
      go_wp2_with fail
      go_ret
      exact ⟨_, rfl, by rw [HN.out]; exact OwnT.nil, HE.out⟩
  | true =>
    cases p2 : decide (col < (s.cols.length : Int)) with
    | false =>
      have HN : Hid (R = []) := Lib.hid (by rw [← HR.out]; unfold lfaultsF; rw [if_pos (by unfold lashF thereB; rw [p2, Bool.and_false]; rfl)])
      clear HR
      go_wp2_with fail
      go_loopw [9, 10] (fun v i wr => v = .slice none 0 0 ∧ i = .int .i64 1 ∧ Hid (Below W.heap.size W wr)) (fun _ _ _ => 0)
      case atStart => exact ⟨rfl, rfl, Lib.hid (Below.refl _ _)⟩
      case round =>
        obtain ⟨rfl, rfl, HB⟩ := hrel
        have HE := Lib.hid (HB0.out.trans (HB.out.mono HB0.out.size))
        obtain ⟨V, rfl⟩ : ∃ V, V = wr := ⟨_, rfl⟩
        have e0 : V.cell? ⟨w.heap.size, 0, none⟩ = some (.slice h.A1 s.cols.length h.c1) := (KE.out.below HB.out KE.out.lt).cell 0
        go_wp2_with fail
        go_ret
        exact ⟨_, rfl, by rw [HN.out]; exact OwnT.nil, HE.out⟩
    | true =>
      obtain ⟨k, rfl⟩ : ∃ k : Nat, col = (k : Int) := ⟨col.toNat, by have := of_decide_eq_true p1; omega⟩
      have hk : k < s.cols.length := by have := of_decide_eq_true p2; omega
      have HLF := Lib.hid (lashF_at0 hk)
      have HLB := HLH.out _ (getD_memD hk default)
      have HRG : Hid (R = lfGo s boxes l (k : Int) 2) := Lib.hid HR.out.symm
      have HLN : Hid (∀ j, (lfGo s boxes l (k : Int) j).length ≤ j) := Lib.hid fun j => by
        unfold lfGo
        split
        · simp
        · exact lfTo_len _ _ _ _ _
      have HO0 : Hid (OwnT tFr 144 W W.heap.size (.slice none 0 0) (lfGo s boxes l (k : Int) 0)) := Lib.hid (by
        have : lfGo s boxes l (k : Int) 0 = [] := by unfold lfGo lfTo; split <;> rfl
        rw [this]; exact OwnT.nil)
      clear HR p1
      have i0 : (0 : Int) ≤ (k : Int) := by omega
      have i1 : (k : Int) < (s.cols.length : Int) := by omega
      obtain ⟨b1, o1, cA, cq, hA, hbB, hcq, hcp, -⟩ := HSH.out.cols.col hk
      have HA := Lib.hid hA
      have HCOL := Lib.hid (fun (V : World) (hV : Below W.heap.size W V) => (HSH.out.on hV).cols.col hk)
      clear hA hcq hcp p2 hbB
      go_wp2_with fail
      go_loopw [9, 10] (fun v i wr => ∃ j : Nat, j ≤ 2 ∧ i = .int .i64 (1 + (j : Int)) ∧ Hid (OwnT tFr 144 wr W.heap.size v (lfGo s boxes l (k : Int) j)) ∧ Hid (Below W.heap.size W wr)) (fun _ i _ => 3 - (intOf i).toNat)
      case atStart => exact ⟨0, by omega, rfl, HO0, Lib.hid (Below.refl _ _)⟩
      case round =>
        clear HO0
        obtain ⟨j, hj, rfl, HO, HB⟩ := hrel
        obtain ⟨V, rfl⟩ : ∃ V, V = wr := ⟨_, rfl⟩
        have e0 : V.cell? ⟨w.heap.size, 0, none⟩ = some (.slice h.A1 s.cols.length h.c1) := (KE.out.below HB.out KE.out.lt).cell 0
        obtain ⟨b1, o1, cA, cq, hA', _, hcq, hcp, d0, d1, d2, d3, d4, d5, d6, d7, d8, d9, d10, d11⟩ := HCOL.out V HB.out
        rw [hA'] at e0
        clear hA' hcq hcp
        generalize hcc : s.cols.getD k default = cc at *
        clear hcc
        obtain ⟨cb, cr, cd, ct, ch, c20, c40, cl, cp, cx, cy, cz⟩ := cc
        simp only at d0 d1 d2 d3 d4 d5 d6 d7 d8 d9 d10 d11 HLF HLB
        by_cases hj2 : j < 2
        · rcases (by omega : j = 0 ∨ j = 1) with rfl | rfl
          · simp only [Int.ofNat_zero, Int.add_zero, Int.natCast_zero] at *
            have hbc := ba1 V (.cells #[.int .i64 cb, .int .i64 cr, .bool cd, .int .i64 ct, .int .i64 ch, .int .i64 c20, .int .i64 c40, .int .i64 cl, .slice cA cp.length cq, .int .i64 cx, .int .i64 cy, .int .i64 cz] 46)
            have KC := Lib.hid (Bk.new V 46 #[.int .i64 cb, .int .i64 cr, .bool cd, .int .i64 ct, .int .i64 ch, .int .i64 c20, .int .i64 c40, .int .i64 cl, .slice cA cp.length cq, .int .i64 cx, .int .i64 cy, .int .i64 cz])
            have HBc := Lib.hid (HB.out.trans (hbc.mono HB.out.size))
            have KM := Lib.hid (refMoment_any A c boxes A2 c2 l (k : Int) 1 (V.alloc (.cells #[.int .i64 cb, .int .i64 cr, .bool cd, .int .i64 ct, .int .i64 ch, .int .i64 c20, .int .i64 c40, .int .i64 cl, .slice cA cp.length cq, .int .i64 cx, .int .i64 cy, .int .i64 cz] 46)) HKG.out (HBX.out.on HBc.out) hbl (HST.out.on HBc.out) hl)
            have HOc := Lib.hid (HO.out.below hbc)
            obtain ⟨n, hn⟩ : ∃ n, momentF boxes l (k : Int) 1 = n := ⟨_, rfl⟩
            obtain ⟨n1, n2⟩ := moment_bd HKG.out hl (k : Int) 1
            rw [hn] at KM n1 n2
            have HM := Lib.hid (show momentF boxes l (k : Int) (1 + 0) = n from hn)
            clear hn
            go_step
            go_step
            go_upto_region 6 with fail
            obtain ⟨gc, hgc⟩ : ∃ gc, gc = V.heap.size := ⟨_, rfl⟩
            rw [← hgc] at KC ⊢
            clear hgc hbc HB HO e0 d0 d1 d2 d3 d4 d5 d6 d7 d8 d9 d10 d11
            generalize (V.alloc _) = V2 at *
            go_wp2_with fail
            refine KM.out.mono ?_
            rintro e V3 ⟨rfl, hb3⟩
            simp only
            have HB2 := Lib.hid (HBc.out.trans (hb3.mono HBc.out.size))
            have HO3 := Lib.hid (HOc.out.below hb3)
            have KC3 := Lib.hid (KC.out.below hb3 KC.out.lt)
            clear KM hb3 HBc HOc KC
            have cc2 : V3.cell? ⟨gc, 2, none⟩ = some (.bool cd) := KC3.out.cell 2
            have cc7 : V3.cell? ⟨gc, 7, none⟩ = some (.int .i64 cl) := KC3.out.cell 7
            have HGS := Lib.hid True.intro
            cases cd with
            | false =>
              have HL0 : Hid (lashF s (k : Int) = 0) := Lib.hid (by rw [HLF.out]; simp)
              have HEQ : Hid (lfGo s boxes l (k : Int) 1 = lfGo s boxes l (k : Int) 0) := Lib.hid (by rw [lfGo_no HL0.out, lfGo_no HL0.out])
              have HO2 := Lib.hid (show OwnT tFr 144 V3 W.heap.size u9 (lfGo s boxes l (k : Int) 1) from by rw [HEQ.out]; exact HO3.out)
              clear HEQ HO3 HGS
              go_wp2_with fail
              go_roundw
              case rel => first | exact ⟨1, by omega, by go_num, HO2, HB2⟩ | ((repeat apply Exists.intro); (first | exact ⟨⟨1, by omega, by go_num, HO2, HB2⟩, rfl⟩ | exact ⟨by omega, by go_num, HO2, HB2⟩))
              case measure => simp [intOf]
            | true =>
              cases p1 : decide (0 < cl) with
              | false =>
                have HL0 : Hid (lashF s (k : Int) = 0) := Lib.hid (by rw [HLF.out, if_pos rfl]; have := of_decide_eq_false p1; split <;> omega)
                have HEQ : Hid (lfGo s boxes l (k : Int) 1 = lfGo s boxes l (k : Int) 0) := Lib.hid (by rw [lfGo_no HL0.out, lfGo_no HL0.out])
                have HO2 := Lib.hid (show OwnT tFr 144 V3 W.heap.size u9 (lfGo s boxes l (k : Int) 1) from by rw [HEQ.out]; exact HO3.out)
                clear HEQ HO3 HGS
                go_wp2_with fail
                go_roundw
                case rel => first | exact ⟨1, by omega, by go_num, HO2, HB2⟩ | ((repeat apply Exists.intro); (first | exact ⟨⟨1, by omega, by go_num, HO2, HB2⟩, rfl⟩ | exact ⟨by omega, by go_num, HO2, HB2⟩))
                case measure => simp [intOf]
              | true =>
                have hcp := of_decide_eq_true p1
                have HLL : Hid (lashF s (k : Int) = cl) := Lib.hid (by rw [HLF.out, if_pos rfl, if_neg (by omega)])
                cases p3 : decide (cl < n) with
                | false =>
                  have HEQ : Hid (lfGo s boxes l (k : Int) 1 = lfGo s boxes l (k : Int) 0) := Lib.hid (by rw [lfGo_succ (by rw [HLL.out]; omega), HLL.out, HM.out, if_neg (of_decide_eq_false p3)]; simp)
                  have HO2 := Lib.hid (show OwnT tFr 144 V3 W.heap.size u9 (lfGo s boxes l (k : Int) 1) from by rw [HEQ.out]; exact HO3.out)
                  clear HEQ HO3 HGS
                  go_wp2_with fail
                  go_roundw
                  case rel => first | exact ⟨1, by omega, by go_num, HO2, HB2⟩ | ((repeat apply Exists.intro); (first | exact ⟨⟨1, by omega, by go_num, HO2, HB2⟩, rfl⟩ | exact ⟨by omega, by go_num, HO2, HB2⟩))
                  case measure => simp [intOf]
                | true =>
                  have HEQ : Hid (lfGo s boxes l (k : Int) 1 = lfGo s boxes l (k : Int) 0 ++ [⟨(k : Int), 1 + 0, n - cl⟩]) := Lib.hid (by rw [lfGo_succ (by rw [HLL.out]; omega), HLL.out, HM.out, if_pos (of_decide_eq_true p3)])
                  have hml := HLN.out 0
                  generalize lfGo s boxes l (k : Int) 0 = M at *
                  obtain ⟨xs, ho, hfl⟩ := HO3.out
                  have hz9 := HB2.out.size
                  go_wp2_with (at_builtin; (refine wpList_append1 el_fr11 rfl (.tmp 52) (.tmp 60) rfl W.heap.size _ M.length xs rfl ho #[.int .i64 (k : Nat), .int .i64 1, .int .i64 (n - cl)] _ rfl rfl rfl ?cA0 ?cB0 hz9 ?_))
                  case cA0 => unfold maxLen; omega
                  case cB0 => omega
                  intro v' w3 hown' hgr hd3 hbel
                  have HO2 : Hid (OwnT tFr 144 w3 W.heap.size v' (lfGo s boxes l (k : Int) 1)) := Lib.hid (by rw [HEQ.out]; exact OwnT.fr11 (x := ⟨(k : Int), 1 + 0, n - cl⟩) hfl hown' hgr hd3)
                  replace HB2 := Lib.hid (HB2.out.trans hbel)
                  clear hown' hgr hd3 hbel ho hfl hz9 HO3 HEQ cc2 cc7
                  go_wp2_with fail
                  go_roundw
                  case rel => first | exact ⟨1, by omega, by go_num, HO2, HB2⟩ | ((repeat apply Exists.intro); (first | exact ⟨⟨1, by omega, by go_num, HO2, HB2⟩, rfl⟩ | exact ⟨by omega, by go_num, HO2, HB2⟩))
                  case measure => simp [intOf]
          · have h11 : (1 : Int) + ((1 : Nat) : Int) = 2 := rfl
            rw [h11]
            clear h11
            have hbc := ba1 V (.cells #[.int .i64 cb, .int .i64 cr, .bool cd, .int .i64 ct, .int .i64 ch, .int .i64 c20, .int .i64 c40, .int .i64 cl, .slice cA cp.length cq, .int .i64 cx, .int .i64 cy, .int .i64 cz] 46)
            have KC := Lib.hid (Bk.new V 46 #[.int .i64 cb, .int .i64 cr, .bool cd, .int .i64 ct, .int .i64 ch, .int .i64 c20, .int .i64 c40, .int .i64 cl, .slice cA cp.length cq, .int .i64 cx, .int .i64 cy, .int .i64 cz])
            have HBc := Lib.hid (HB.out.trans (hbc.mono HB.out.size))
            have KM := Lib.hid (refMoment_any A c boxes A2 c2 l (k : Int) 2 (V.alloc (.cells #[.int .i64 cb, .int .i64 cr, .bool cd, .int .i64 ct, .int .i64 ch, .int .i64 c20, .int .i64 c40, .int .i64 cl, .slice cA cp.length cq, .int .i64 cx, .int .i64 cy, .int .i64 cz] 46)) HKG.out (HBX.out.on HBc.out) hbl (HST.out.on HBc.out) hl)
            have HOc := Lib.hid (HO.out.below hbc)
            obtain ⟨n, hn⟩ : ∃ n, momentF boxes l (k : Int) 2 = n := ⟨_, rfl⟩
            obtain ⟨n1, n2⟩ := moment_bd HKG.out hl (k : Int) 2
            rw [hn] at KM n1 n2
            have HM := Lib.hid (show momentF boxes l (k : Int) (1 + 1) = n from hn)
            clear hn
            go_step
            go_step
            go_upto_region 6 with fail
            obtain ⟨gc, hgc⟩ : ∃ gc, gc = V.heap.size := ⟨_, rfl⟩
            rw [← hgc] at KC ⊢
            clear hgc hbc HB HO e0 d0 d1 d2 d3 d4 d5 d6 d7 d8 d9 d10 d11
            generalize (V.alloc _) = V2 at *
            go_wp2_with fail
            refine KM.out.mono ?_
            rintro e V3 ⟨rfl, hb3⟩
            simp only
            have HB2 := Lib.hid (HBc.out.trans (hb3.mono HBc.out.size))
            have HO3 := Lib.hid (HOc.out.below hb3)
            have KC3 := Lib.hid (KC.out.below hb3 KC.out.lt)
            clear KM hb3 HBc HOc KC
            have cc2 : V3.cell? ⟨gc, 2, none⟩ = some (.bool cd) := KC3.out.cell 2
            have cc7 : V3.cell? ⟨gc, 7, none⟩ = some (.int .i64 cl) := KC3.out.cell 7
            have HGS := Lib.hid True.intro
            cases cd with
            | false =>
              have HL0 : Hid (lashF s (k : Int) = 0) := Lib.hid (by rw [HLF.out]; simp)
              have HEQ : Hid (lfGo s boxes l (k : Int) 2 = lfGo s boxes l (k : Int) 1) := Lib.hid (by rw [lfGo_no HL0.out, lfGo_no HL0.out])
              have HO2 := Lib.hid (show OwnT tFr 144 V3 W.heap.size u9 (lfGo s boxes l (k : Int) 2) from by rw [HEQ.out]; exact HO3.out)
              clear HEQ HO3 HGS
              go_wp2_with fail
              go_roundw
              case rel => first | exact ⟨2, by omega, by go_num, HO2, HB2⟩ | ((repeat apply Exists.intro); (first | exact ⟨⟨2, by omega, by go_num, HO2, HB2⟩, rfl⟩ | exact ⟨by omega, by go_num, HO2, HB2⟩))
              case measure => simp [intOf]
            | true =>
              cases p1 : decide (0 < cl) with
              | false =>
                have HL0 : Hid (lashF s (k : Int) = 0) := Lib.hid (by rw [HLF.out, if_pos rfl]; have := of_decide_eq_false p1; split <;> omega)
                have HEQ : Hid (lfGo s boxes l (k : Int) 2 = lfGo s boxes l (k : Int) 1) := Lib.hid (by rw [lfGo_no HL0.out, lfGo_no HL0.out])
                have HO2 := Lib.hid (show OwnT tFr 144 V3 W.heap.size u9 (lfGo s boxes l (k : Int) 2) from by rw [HEQ.out]; exact HO3.out)
                clear HEQ HO3 HGS
                go_wp2_with fail
                go_roundw
                case rel => first | exact ⟨2, by omega, by go_num, HO2, HB2⟩ | ((repeat apply Exists.intro); (first | exact ⟨⟨2, by omega, by go_num, HO2, HB2⟩, rfl⟩ | exact ⟨by omega, by go_num, HO2, HB2⟩))
                case measure => simp [intOf]
              | true =>
                have hcp := of_decide_eq_true p1
                have HLL : Hid (lashF s (k : Int) = cl) := Lib.hid (by rw [HLF.out, if_pos rfl, if_neg (by omega)])
                cases p3 : decide (cl < n) with
                | false =>
                  have HEQ : Hid (lfGo s boxes l (k : Int) 2 = lfGo s boxes l (k : Int) 1) := Lib.hid (by rw [lfGo_succ (by rw [HLL.out]; omega), HLL.out, HM.out, if_neg (of_decide_eq_false p3)]; simp)
                  have HO2 := Lib.hid (show OwnT tFr 144 V3 W.heap.size u9 (lfGo s boxes l (k : Int) 2) from by rw [HEQ.out]; exact HO3.out)
                  clear HEQ HO3 HGS
                  go_wp2_with fail
                  go_roundw
                  case rel => first | exact ⟨2, by omega, by go_num, HO2, HB2⟩ | ((repeat apply Exists.intro); (first | exact ⟨⟨2, by omega, by go_num, HO2, HB2⟩, rfl⟩ | exact ⟨by omega, by go_num, HO2, HB2⟩))
                  case measure => simp [intOf]
                | true =>
                  have HEQ : Hid (lfGo s boxes l (k : Int) 2 = lfGo s boxes l (k : Int) 1 ++ [⟨(k : Int), 1 + 1, n - cl⟩]) := Lib.hid (by rw [lfGo_succ (by rw [HLL.out]; omega), HLL.out, HM.out, if_pos (of_decide_eq_true p3)])
                  have hml := HLN.out 1
                  generalize lfGo s boxes l (k : Int) 1 = M at *
                  obtain ⟨xs, ho, hfl⟩ := HO3.out
                  have hz9 := HB2.out.size
                  go_wp2_with (at_builtin; (refine wpList_append1 el_fr11 rfl (.tmp 52) (.tmp 60) rfl W.heap.size _ M.length xs rfl ho #[.int .i64 (k : Nat), .int .i64 2, .int .i64 (n - cl)] _ rfl rfl rfl ?cA1 ?cB1 hz9 ?_))
                  case cA1 => unfold maxLen; omega
                  case cB1 => omega
                  intro v' w3 hown' hgr hd3 hbel
                  have HO2 : Hid (OwnT tFr 144 w3 W.heap.size v' (lfGo s boxes l (k : Int) 2)) := Lib.hid (by rw [HEQ.out]; exact OwnT.fr11 (x := ⟨(k : Int), 1 + 1, n - cl⟩) hfl hown' hgr hd3)
                  replace HB2 := Lib.hid (HB2.out.trans hbel)
                  clear hown' hgr hd3 hbel ho hfl hz9 HO3 HEQ cc2 cc7
                  go_wp2_with fail
                  go_roundw
                  case rel => first | exact ⟨2, by omega, by go_num, HO2, HB2⟩ | ((repeat apply Exists.intro); (first | exact ⟨⟨2, by omega, by go_num, HO2, HB2⟩, rfl⟩ | exact ⟨by omega, by go_num, HO2, HB2⟩))
                  case measure => simp [intOf]
        · obtain rfl : j = 2 := by omega
          have h11 : (1 : Int) + ((2 : Nat) : Int) = 3 := rfl
          rw [h11]
          clear h11
          have HE := Lib.hid (HB0.out.trans (HB.out.mono HB0.out.size))
          clear d0 d1 d2 d3 d4 d5 d6 d7 d8 d9 d10 d11
          go_wp2_with fail
          go_ret
          exact ⟨_, rfl, by rw [HRG.out]; exact HO.out.down HB0.out.size, HE.out⟩
end Go.Proofs.Ytmkplemdnglhmaa
