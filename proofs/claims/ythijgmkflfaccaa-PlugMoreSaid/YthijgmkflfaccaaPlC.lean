/-
  The walks of plug.cold, Faults, Check.
-/
import Derived.Test.YthijgmkflfaccaaPlB
namespace Go.Proofs.Ythijgmkflfaccaa
open Go.RowKit

theorem run_len_ms {w : World} {b n : Nat} {L : List (Int × Int)} (h : Pairs w b n L) (ty : TypeId) : (Builtin.len_ #[82] ty #[.map (some b)]).run Try.prog w = .ok (.int .i64 (L.length : Nat)) w := MS.len Try.underlying82 h ty
set_option maxRecDepth 100000 in
set_option maxHeartbeats 2000000 in
theorem cold_any (A : Option Addr) (c : Nat) (bs : List Bx) (x : Stw) (w : World) (hb : SlT tBx w (Lt w.heap.size) A bs) (hbl : bs.length ≤ 1000000) :
    Calls Try.prog 33 #[.slice A bs.length c, .agg (stwL x).toArray] w (Ret w (.bool (coldB bs x))) := by
  obtain ⟨xb, xc, xt, xh⟩ := x
  have hb0 := ba1 w (.cells #[.int .i64 xb, .int .i64 xc, .int .i64 xt, .int .u8 (xh : Nat)] 49)
  have HB0 := Lib.hid hb0
  have hv : coldB bs ⟨xb, xc, xt, xh⟩ = (findBx bs xb).1.reefer := rfl
  have KF := Lib.hid (stowFind_any A c bs xb _ ((hb.below hb0).up hb0.size) hbl)
  rw [hv]
  clear hv hb hb0
  unfold stwL
  generalize findBx bs xb = fb at *
  obtain ⟨⟨b0, b1, b2, b3, b4, b5, b6, b7, b8⟩, ok⟩ := fb
  unfold bxL at KF
  simp only at KF ⊢
  go_enter Try.func33, Try.ntmps33
  go_wp2_with fail
  refine KF.out.mono ?_
  rintro e w3 ⟨rfl, hb3⟩
  simp only
  have HB3 := Lib.hid (HB0.out.trans (hb3.mono HB0.out.size))
  clear KF hb3 HB0
  go_wp2_with fail
  go_ret
  exact ⟨rfl, HB3.out.alloc HB3.out.size _⟩
set_option maxRecDepth 100000 in
set_option maxHeartbeats 2000000 in
theorem pfaults1 (A : Option Addr) (c : Nat) (bs : List Bx) (x : Stw) (gb : Nat) (w : World) (hb : SlT tBx w (Lt w.heap.size) A bs) (hbl : bs.length ≤ 1000000) (hg : w.cell? ⟨gb, 0, none⟩ = some (.slice A bs.length c)) :
    Calls Try.prog 40 #[.agg (stwL x).toArray, .pointer (some ⟨gb, 0, none⟩)] w (Ret w (.bool (coldB bs x))) := by
  have hb0 := ba1 w (.cells (stwL x).toArray 49)
  have HB0 := Lib.hid hb0
  have KC := Lib.hid (cold_any A c bs x _ ((hb.below hb0).up hb0.size) hbl)
  have hgl := block_lt_of_cell hg
  simp only at hgl
  clear hb hb0
  generalize coldB bs x = r at *
  obtain ⟨xb, xc, xt, xh⟩ := x
  unfold stwL at *
  simp only at *
  go_enter Try.func40, Try.ntmps40
  go_wp2_with fail
  refine KC.out.mono ?_
  rintro e w3 ⟨rfl, hb3⟩
  simp only
  have HB3 := Lib.hid (HB0.out.trans (hb3.mono HB0.out.size))
  clear KC hb3 HB0
  go_wp2_with fail
  go_ret
  exact ⟨rfl, HB3.out⟩
set_option maxRecDepth 100000 in
set_option maxHeartbeats 2000000 in
theorem pcold1 (A : Option Addr) (c : Nat) (bs : List Bx) (x : Stw) (gb : Nat) (w : World) (hb : SlT tBx w (Lt w.heap.size) A bs) (hbl : bs.length ≤ 1000000) (hg : w.cell? ⟨gb, 0, none⟩ = some (.slice A bs.length c)) :
    Calls Try.prog 32 #[.agg (stwL x).toArray, .pointer (some ⟨gb, 0, none⟩)] w (Ret w (.bool (coldB bs x))) := by
  have hb0 := ba1 w (.cells (stwL x).toArray 49)
  have HB0 := Lib.hid hb0
  have KC := Lib.hid (cold_any A c bs x _ ((hb.below hb0).up hb0.size) hbl)
  have hgl := block_lt_of_cell hg
  simp only at hgl
  clear hb hb0
  generalize coldB bs x = r at *
  obtain ⟨xb, xc, xt, xh⟩ := x
  unfold stwL at *
  simp only at *
  go_enter Try.func32, Try.ntmps32
  go_wp2_with fail
  refine KC.out.mono ?_
  rintro e w3 ⟨rfl, hb3⟩
  simp only
  have HB3 := Lib.hid (HB0.out.trans (hb3.mono HB0.out.size))
  clear KC hb3 HB0
  go_wp2_with fail
  go_ret
  exact ⟨rfl, HB3.out⟩
theorem int_if (q : Bool) : ((if q = true then (1 : Int) else 0) == 0) = !q := by cases q <;> rfl
set_option maxRecDepth 100000 in
set_option maxHeartbeats 4000000 in
theorem pFaults_any (s : Shp) (h : Hd) (A : Option Addr) (c : Nat) (bs : List Bx) (A2 : Option Addr) (c2 : Nat) (st : List Stw) (w : World) (hsh : ShpR w (Lt w.heap.size) s h) (hf : Few s) (hi : Ints s) (hb : SlT tBx w (Lt w.heap.size) A bs) (hbl : bs.length ≤ 1000000)
    (hs : SlT tStw w (Lt w.heap.size) A2 st) (hl : st.length ≤ 1000000) (hx : ∀ x ∈ st, I64 x.slot.col ∧ I64 x.slot.tier) :
    Calls Try.prog 15 #[.agg (shpA s h), .slice A bs.length c, .slice A2 st.length c2] w (OwnL tInt 3 w (pfF s bs st)) := by
  have hb0 := ba2 w (.cells (shpA s h) 37) (.cells #[.slice A bs.length c] 38)
  have KP := Lib.hid (plugs_any s h _ (hsh.on hb0) hf hi)
  have HBB := Lib.hid (Bk.at_ (w := w.alloc (.cells (shpA s h) 37)) (g := w.heap.size + 1) 38 #[.slice A bs.length c] (by simp))
  have HBX := Lib.hid (hb.on hb0)
  have HST := Lib.hid (hs.on hb0)
  have HB0 := Lib.hid hb0
  have HX := Lib.hid hx
  have HLE := Lib.hid (fun p => List.length_filter_le (p : Stw → Bool) st)
  clear hsh hb hs hb0 hx
  unfold shpA at *
  go_enter Try.func15, Try.ntmps15
  go_wp2_with fail
  generalize ((w.alloc _).alloc _) = w0 at *
  refine KP.out.mono ?_
  rintro e w1 ⟨bm, n, rfl, hm, hb1⟩
  simp only
  have HM := Lib.hid hm
  have HB1 := Lib.hid (HB0.out.trans (hb1.mono HB0.out.size))
  have HBX1 := Lib.hid (HBX.out.on hb1)
  have HST1 := Lib.hid (HST.out.on hb1)
  have HBB1 := Lib.hid (HBB.out.below hb1 HBB.out.lt)
  clear KP HBX HST HBB HB0 hm hb1
  have KO := Lib.hid (onlyStw_any A2 c2 st 40 #[.pointer (some ⟨w.heap.size + 1, 0, none⟩)] (coldB bs) w1 HST1.out hl Try.call40 (fun x w' _ hb' => pfaults1 A c bs x _ w' (HBX1.out.on hb') hbl ((HBB1.out.below hb' HBB1.out.lt).cell 0)))
  go_upto_region 3 with fail
  try clear w0
  go_wp2_with fail
  refine KO.out.mono ?_
  rintro e w2 ⟨v, rfl, hv, hb2⟩
  simp only
  obtain ⟨AF, cF, rfl, _, _, hsF⟩ := OwnT.sl hv
  have HSF := Lib.hid hsF
  have HM2 := Lib.hid (HM.out.on hb2)
  have HB2 := Lib.hid (HB1.out.trans (hb2.mono HB1.out.size))
  have HFM : Hid (∀ x ∈ st.filter (coldB bs), I64 x.slot.col ∧ I64 x.slot.tier) := Lib.hid fun x hx => HX.out x ((List.mem_filter.1 hx).1)
  have HVF : Hid (pfF s bs st = ((st.filter (coldB bs)).filter (unfedB s)).map (·.box)) := Lib.hid rfl
  have hfl := HLE.out (coldB bs)
  clear KO HM HB1 HBX1 HST1 HBB1 hv hb2 hsF HX HLE
  try clear w1
  generalize pfF s bs st = R at *
  generalize st.filter (coldB bs) = fl at *
  go_wp2_with fail
  go_loopw [8, 18] (fun v i wr => ∃ (k : Nat) (m : List Int), k ≤ fl.length ∧ i = .int .i64 k ∧ m.length ≤ fl.length ∧ Hid (m = ((fl.take k).filter (unfedB s)).map (·.box)) ∧ OwnT tInt 3 wr w2.heap.size v m ∧ Below w2.heap.size w2 wr) (fun _ i _ => fl.length - (intOf i).toNat)
  case atStart => exact ⟨0, [], Nat.zero_le _, rfl, by simp, Lib.hid (by simp), OwnT.nil, Below.refl _ _⟩
  case round =>
    obtain ⟨k, m, hk, rfl, hm, HMM, hown, hb⟩ := hrel
    obtain ⟨V, rfl⟩ : ∃ V, V = wr := ⟨_, rfl⟩
    by_cases hlt : k < fl.length
    · obtain ⟨b, off, rfl, hbB, c0, c1, c2', c3⟩ := (HSF.out.below hb).stw hlt
      have HP := Lib.hid (filter_take (unfedB s) fl hlt default)
      have HLE := Lib.hid (filter_take_len (unfedB s) fl (k + 1))
      have hk0 : (0 : Int) ≤ (k : Int) := by omega
      have hk1 : (k : Int) < (fl.length : Int) := by omega
      have hmem := HFM.out _ (getD_memD hlt default)
      generalize fl.getD k default = x at *
      obtain ⟨x0, x1, x2, x3⟩ := x
      simp only at c0 c1 c2' c3 hmem
      have HQ : Hid (unfedB s ⟨x0, x1, x2, x3⟩ = !(pairsF s).contains (x1, x2)) := Lib.hid rfl
      have hown' := hown.below (ba2 V (.cells #[.int .i64 x0, .int .i64 x1, .int .i64 x2, .int .u8 (x3 : Nat)] 49) (.cells #[.int .i64 x1, .int .i64 x2, .int .u8 (x3 : Nat)] 47))
      have hx := (Bk.new V 49 #[.int .i64 x0, .int .i64 x1, .int .i64 x2, .int .u8 (x3 : Nat)]).alloc (.cells #[.int .i64 x1, .int .i64 x2, .int .u8 (x3 : Nat)] 47)
      have hy := Bk.at_ (w := V.alloc (.cells #[.int .i64 x0, .int .i64 x1, .int .i64 x2, .int .u8 (x3 : Nat)] 49)) (g := V.heap.size + 1) 47 #[.int .i64 x1, .int .i64 x2, .int .u8 (x3 : Nat)] (by simp)
      have hbW := hb.trans ((ba2 V (.cells #[.int .i64 x0, .int .i64 x1, .int .i64 x2, .int .u8 (x3 : Nat)] 49) (.cells #[.int .i64 x1, .int .i64 x2, .int .u8 (x3 : Nat)] 47)).mono hb.size)
      go_upto_region 7 with fail
      clear hown c0 c1 c2' c3 hb
      generalize V.heap.size = gx at *
      generalize ((V.alloc _).alloc _) = W at *
      try clear V
      have y0 : W.cell? ⟨gx, 0, none⟩ = some (.int .i64 x0) := hx.cell 0
      have z0 : W.cell? ⟨gx + 1, 0, none⟩ = some (.int .i64 x1) := hy.cell 0
      have z1 : W.cell? ⟨gx + 1, 1, none⟩ = some (.int .i64 x2) := hy.cell 1
      have hlk := pairs_look (HM2.out.on hbW) x1 x2 hmem.1 hmem.2
      clear hx hy
      have hz0 := hbW.size
      generalize (pairsF s).contains (x1, x2) = px at *
      cases px with
      | false =>
        have HP2 : Hid (((fl.take (k + 1)).filter (unfedB s)).map (·.box) = m ++ [x0]) := Lib.hid (by rw [HP.out, HQ.out, List.map_append, ← HMM.out]; rfl)
        have HQ2 : m.length + 1 ≤ fl.length := by
          have h1 := HLE.out
          have h2 := congrArg List.length HP2.out
          rw [List.length_map, List.length_append] at h2
          simp at h2
          omega
        clear HQ HP HLE
        obtain ⟨xs, ho, hfl⟩ := hown'
        have hlk0 : (Instr.lookup 82 (.map (some bm)) (.agg #[.int .i64 x1, .int .i64 x2]) false).run Try.prog W = .ok (.int .i64 0) W := by rw [hlk]; rfl
        clear hlk
        go_wp2_with (at_builtin; (refine wpList_append1 el_int rfl (.tmp 32) (.tmp 35) rfl w2.heap.size _ m.length xs rfl ho #[.int .i64 x0] _ rfl rfl rfl ?c1 ?c2 ?c3 ?_))
        case c1 => unfold maxLen; omega
        case c2 => omega
        case c3 => omega
        intro v' w3 hown' hgr hd3 hbel
        go_wp2
        go_roundw
        case rel => (repeat apply Exists.intro); (first | exact ⟨⟨k + 1, m ++ [x0], by omega, by go_num, by simp; omega, Lib.hid HP2.out.symm, OwnT.int1 hfl hown' hgr hd3, hbW.trans hbel⟩, rfl⟩ | exact ⟨by omega, by go_num, by simp; omega, Lib.hid HP2.out.symm, OwnT.int1 hfl hown' hgr hd3, hbW.trans hbel⟩)
        case measure => simp [intOf]; omega
      | true =>
        have HP2 : Hid (m = ((fl.take (k + 1)).filter (unfedB s)).map (·.box)) := Lib.hid (by rw [HP.out, HQ.out, List.map_append, ← HMM.out]; simp)
        have hlk0 : (Instr.lookup 82 (.map (some bm)) (.agg #[.int .i64 x1, .int .i64 x2]) false).run Try.prog W = .ok (.int .i64 1) W := by rw [hlk]; rfl
        clear hlk
        go_wp2_with fail
        go_roundw
        case rel => (repeat apply Exists.intro); (first | exact ⟨⟨k + 1, m, by omega, by go_num, hm, HP2, hown', hbW⟩, rfl⟩ | exact ⟨by omega, by go_num, hm, HP2, hown', hbW⟩)
        case measure => simp [intOf]; omega
    · have hkn : m = R := by rw [HMM.out, HVF.out, List.take_of_length_le (by omega)]
      subst hkn
      go_wp2
      go_ret
      exact ⟨_, rfl, hown.down (by have := HB2.out.size; omega), HB2.out.trans (hb.mono HB2.out.size)⟩
set_option maxRecDepth 100000 in
set_option maxHeartbeats 4000000 in
theorem pCheck_any (s : Shp) (h : Hd) (A : Option Addr) (c : Nat) (bs : List Bx) (A2 : Option Addr) (c2 : Nat) (st : List Stw) (w : World) (hsh : ShpR w (Lt w.heap.size) s h) (hf : Few s) (hi : Ints s) (hcl : s.cols.length ≤ 1000000) (hb : SlT tBx w (Lt w.heap.size) A bs) (hbl : bs.length ≤ 1000000)
    (hs : SlT tStw w (Lt w.heap.size) A2 st) (hl : st.length ≤ 1000000) (hlc : st.length ≤ c2) (hx : ∀ x ∈ st, I64 x.slot.col ∧ I64 x.slot.tier) :
    Calls Try.prog 9 #[.agg (shpA s h), .slice A bs.length c, .slice A2 st.length c2] w (fun e w' => Below w.heap.size w w' ∧ ∃ v, e = .returned (.tuple #[v, .int .i64 (if stowRight s bs st then 0 else 2)]) ∧ OwnT tInt 3 w' w.heap.size v (if stowRight s bs st then pfF s bs st else [])) := by
  have hb0 := ba1 w (.cells (shpA s h) 37)
  have KR := Lib.hid (stowRight_any s h A c bs A2 c2 st _ (hsh.on hb0) hf hi hcl (hb.on hb0) hbl (hs.on hb0) hl hlc (fun x hx' => (hx x hx').2.2))
  have HB0 := Lib.hid hb0
  have SB := Lib.hid (Bk.new w 37 (shpA s h))
  have KF := Lib.hid (fun (W : World) (hW : Below w.heap.size w W) => pFaults_any s h A c bs A2 c2 st W (hsh.on hW) hf hi (hb.on hW) hbl (hs.on hW) hl hx)
  clear hsh hb hs hb0 hx
  generalize stowRight s bs st = r at *
  generalize pfF s bs st = R at *
  unfold shpA at *
  go_enter Try.func9, Try.ntmps9
  go_wp2_with fail
  refine KR.out.mono ?_
  rintro e w1 ⟨rfl, hb1⟩
  simp only
  have HB1 := Lib.hid (HB0.out.trans (hb1.mono HB0.out.size))
  have SC := SB.out.below hb1 SB.out.lt
  clear KR hb1 HB0 SB
  generalize hgg : w.heap.size = g at *
  have HGG := Lib.hid hgg
  clear hgg
  have HB2 : Hid (Below g w w1) := Lib.hid (by first | exact HB1.out | (rw [← HGG.out]; exact HB1.out))
  have e0 : w1.cell? ⟨g, 0, none⟩ = some (.slice h.A1 s.cols.length h.c1) := SC.cell 0
  have e1 : w1.cell? ⟨g, 1, none⟩ = some (.slice h.A2 s.covs.length h.c2) := SC.cell 1
  have e2 : w1.cell? ⟨g, 2, none⟩ = some (.int .i64 s.l0) := SC.cell 2
  have e3 : w1.cell? ⟨g, 3, none⟩ = some (.int .i64 s.l1) := SC.cell 3
  have e4 : w1.cell? ⟨g, 4, none⟩ = some (.int .i64 s.l2) := SC.cell 4
  have e5 : w1.cell? ⟨g, 5, none⟩ = some (.int .i64 s.l3) := SC.cell 5
  have e6 : w1.cell? ⟨g, 6, none⟩ = some (.slice h.A3 s.rows.length h.c3) := SC.cell 6
  have e7 : w1.cell? ⟨g, 7, none⟩ = some (.slice h.A4 s.frames.length h.c4) := SC.cell 7
  have e8 : w1.cell? ⟨g, 8, none⟩ = some (.slice h.A5 s.tanks.length h.c5) := SC.cell 8
  have e9 : w1.cell? ⟨g, 9, none⟩ = some (.int .i64 s.m0) := SC.cell 9
  have e10 : w1.cell? ⟨g, 10, none⟩ = some (.int .i64 s.m1) := SC.cell 10
  have e11 : w1.cell? ⟨g, 11, none⟩ = some (.int .i64 s.m2) := SC.cell 11
  have e12 : w1.cell? ⟨g, 12, none⟩ = some (.int .i64 s.m3) := SC.cell 12
  clear SC
  have KF1 := Lib.hid (KF.out w1 HB1.out)
  clear KF
  cases r with
  | false =>
    go_wp2_with fail
    go_ret2
    exact ⟨by rw [HGG.out]; exact HB2.out, _, rfl, OwnT.nil⟩
  | true =>
    go_wp2_with fail
    refine KF1.out.mono ?_
    rintro e w2 ⟨v, rfl, hv, hb2⟩
    simp only
    go_wp2_with fail
    go_ret2
    exact ⟨by rw [HGG.out]; exact HB2.out.trans (hb2.mono (HGG.out ▸ HB2.out.size)), _, rfl, by rw [HGG.out]; exact hv.down (HGG.out ▸ HB2.out.size)⟩
end Go.Proofs.Ythijgmkflfaccaa
