/-
  The walk of segregate.dangerous: the boxes of a state with a class above 0.
-/
import Derived.Test.YtmhikcleekfbpaaDoorSgP
import Derived.Test.YtmhikcleekfbpaaDoorStC
namespace Go.Proofs.YtmhikcleekfbpaaDoor
open Go.RowKit

def gdL (g : Gd) : List Value := [.int .i64 g.st.box, .int .i64 g.st.slot.col, .int .i64 g.st.slot.tier, .int .u8 (g.st.slot.half : Nat), .int .u8 (g.cls : Nat)]
def tGd : Ty Gd where
  k := 5
  pos := by decide
  rd := fun _ _ cs x => cs = gdL x
  len := by rintro _ _ _ _ rfl; rfl
  one := by rintro _ _ _ _ rfl; rfl
  keep := fun h _ => h
  more := fun h _ => h
theorem el_gd : El Tryd.prog 78 85 5 40 := El.mk' Tryd.underlying78 (by kernel_rfl) (by decide)
theorem SlT.gd {w : World} {S : Nat → Prop} {A : Option Addr} {l : List Gd} (h : SlT tGd w S A l) {j : Nat} (hj : j < l.length) :
    ∃ b off, A = some ⟨b, off, none⟩ ∧ S b ∧ w.cell? ⟨b, off + j * 5, none⟩ = some (.int .i64 (l.getD j default).st.box) ∧ w.cell? ⟨b, off + j * 5 + 1, none⟩ = some (.int .i64 (l.getD j default).st.slot.col) ∧
      w.cell? ⟨b, off + j * 5 + 2, none⟩ = some (.int .i64 (l.getD j default).st.slot.tier) ∧ w.cell? ⟨b, off + j * 5 + 3, none⟩ = some (.int .u8 ((l.getD j default).st.slot.half : Nat)) ∧ w.cell? ⟨b, off + j * 5 + 4, none⟩ = some (.int .u8 ((l.getD j default).cls : Nat)) := by
  obtain ⟨b, off, cs, e, hb, h1, h2⟩ := h.at_ hj default
  rw [show cs = _ from h1] at h2
  exact ⟨b, off, e, hb, h2 0 _ rfl, h2 1 _ rfl, h2 2 _ rfl, h2 3 _ rfl, h2 4 _ rfl⟩
theorem any9_take (boxes : List Bx) {l : List Stw} {k : Nat} (h : k < l.length) : (l.take (k + 1)).any (overB9 boxes) = ((l.take k).any (overB9 boxes) || decide (9 < clsF boxes (l.getD k default).box)) := any_take (overB9 boxes) h default
def DngRet (w : World) (s : Shp) (boxes : List Bx) (l : List Stw) (e : Ending) (w' : World) : Prop :=
  Below w.heap.size w w' ∧ ∃ v, e = .returned (.tuple #[v, .int .i64 (dErr s boxes l : Nat)]) ∧ OwnT tGd 85 w' w.heap.size v (if dErr s boxes l = 0 then goodsF boxes l else [])
set_option maxRecDepth 100000 in
set_option maxHeartbeats 8000000 in
theorem dangerous_any (s : Shp) (h : Hd) (A : Option Addr) (c : Nat) (boxes : List Bx) (A2 : Option Addr) (c2 : Nat) (l : List Stw) (w : World) (hsh : ShpR w (Lt w.heap.size) s h) (hf : Few s) (hi : Ints s) (hcl : s.cols.length ≤ 1000000)
    (hb : SlT tBx w (Lt w.heap.size) A boxes) (hbl : boxes.length ≤ 1000000) (hs : SlT tStw w (Lt w.heap.size) A2 l) (hl : l.length ≤ 1000000) (hlc : l.length ≤ c2) (ht : ∀ x ∈ l, x.slot.tier ≤ 9223372036854775807) (hn : NamesOK w) :
    Calls Tryd.prog 24 #[.agg (shpA s h), .slice A boxes.length c, .slice A2 l.length c2] w (DngRet w s boxes l) := by
  have hb0 := ba1 w (.cells (shpA s h) 32)
  have HB0 := Lib.hid hb0
  have KR := Lib.hid (stowRight_any s h A c boxes A2 c2 l _ (hsh.on hb0) hf hi hcl (hb.on hb0) hbl (hs.on hb0) hl hlc ht)
  have KE := Lib.hid (Bk.new w 32 (shpA s h))
  have HB := Lib.hid hb
  have HS := Lib.hid hs
  have HN := Lib.hid hn
  have HE : Hid (dErr s boxes l = if stowRight s boxes l then (if l.any (overB9 boxes) then 130 else if 200 < (goodsF boxes l).length then 5 else 0) else 2) := Lib.hid rfl
  have HD : Hid (∀ e W, DngRet w s boxes l e W = (Below w.heap.size w W ∧ ∃ v, e = .returned (.tuple #[v, .int .i64 (dErr s boxes l : Nat)]) ∧ OwnT tGd 85 W w.heap.size v (if dErr s boxes l = 0 then goodsF boxes l else []))) := Lib.hid fun _ _ => rfl
  clear hb hs hn hsh hb0 hf hi ht
  generalize stowRight s boxes l = r at *
  generalize DngRet w s boxes l = RET at *
  generalize dErr s boxes l = de at *
  unfold shpA at *
  go_enter Tryd.func24, Tryd.ntmps24
  go_upto_region 1 with fail
  generalize (w.alloc _) = W at *
  have e0 : W.cell? ⟨w.heap.size, 0, none⟩ = some (Value.slice h.A1 s.cols.length h.c1) := KE.out.cell 0
  have e1 : W.cell? ⟨w.heap.size, 1, none⟩ = some (Value.slice h.A2 s.covs.length h.c2) := KE.out.cell 1
  have e2 : W.cell? ⟨w.heap.size, 2, none⟩ = some (.int .i64 s.l0) := KE.out.cell 2
  have e3 : W.cell? ⟨w.heap.size, 3, none⟩ = some (.int .i64 s.l1) := KE.out.cell 3
  have e4 : W.cell? ⟨w.heap.size, 4, none⟩ = some (.int .i64 s.l2) := KE.out.cell 4
  have e5 : W.cell? ⟨w.heap.size, 5, none⟩ = some (.int .i64 s.l3) := KE.out.cell 5
  have e6 : W.cell? ⟨w.heap.size, 6, none⟩ = some (Value.slice h.A3 s.rows.length h.c3) := KE.out.cell 6
  have e7 : W.cell? ⟨w.heap.size, 7, none⟩ = some (Value.slice h.A4 s.frames.length h.c4) := KE.out.cell 7
  have e8 : W.cell? ⟨w.heap.size, 8, none⟩ = some (Value.slice h.A5 s.tanks.length h.c5) := KE.out.cell 8
  have e9 : W.cell? ⟨w.heap.size, 9, none⟩ = some (.int .i64 s.m0) := KE.out.cell 9
  have e10 : W.cell? ⟨w.heap.size, 10, none⟩ = some (.int .i64 s.m1) := KE.out.cell 10
  have e11 : W.cell? ⟨w.heap.size, 11, none⟩ = some (.int .i64 s.m2) := KE.out.cell 11
  have e12 : W.cell? ⟨w.heap.size, 12, none⟩ = some (.int .i64 s.m3) := KE.out.cell 12
  go_wp2_with fail
  refine KR.out.mono ?_
  rintro e w1 ⟨rfl, hb⟩
  simp only
  have HB1 := Lib.hid (HB0.out.trans (hb.mono HB0.out.size))
  clear hb KR KE HB0 e0 e1 e2 e3 e4 e5 e6 e7 e8 e9 e10 e11 e12
  try clear W
  cases r with
  | false =>
    have HE2 := Lib.hid (show de = 2 by rw [HE.out]; rfl)
    go_wp2_with fail
    (try go_ret2)
    rw [HD.out]
    exact ⟨HB1.out, _, by rw [HE2.out]; rfl, by rw [HE2.out]; exact OwnT.nil⟩
  | true =>
    have HBX := Lib.hid (HB.out.on HB1.out)
    have HST := Lib.hid (HS.out.on HB1.out)
    have HNM := Lib.hid (HN.out.below HB1.out HN.out.lt)
    clear HB HS HN
    go_wp2_with fail
    go_loopw [8, 9, 23] (fun v wr i wz => ∃ (k : Nat) (b : Bool) (m : List Gd), k ≤ l.length ∧ i = .int .i64 k ∧ wr = .bool b ∧ m.length ≤ k ∧ Hid (b = (l.take k).any (overB9 boxes)) ∧ Hid (m = goodsF boxes (l.take k)) ∧ Hid (OwnT tGd 85 wz w1.heap.size v m) ∧ Hid (Below w1.heap.size w1 wz)) (fun _ _ i _ => l.length - (intOf i).toNat)
    case atStart => exact ⟨0, false, [], Nat.zero_le _, rfl, rfl, by simp, Lib.hid rfl, Lib.hid rfl, Lib.hid OwnT.nil, Lib.hid (Below.refl _ _)⟩
    case round =>
      obtain ⟨k, wrong, m, hk, rfl, rfl, hm, HW, HM, HO, HBZ⟩ := hrel
      obtain ⟨V, rfl⟩ : ∃ V, V = wr := ⟨_, rfl⟩
      by_cases hlt : k < l.length
      · obtain ⟨b, off, rfl, hbB, c0, c1, c2', c3⟩ := (HST.out.on HBZ.out).stw hlt
        have HGS := Lib.hid (goodsF_succ boxes hlt)
        have HAS := Lib.hid (any9_take boxes hlt)
        rw [← HM.out] at HGS
        rw [← HW.out] at HAS
        have i0 : (0 : Int) ≤ (k : Int) := by omega
        have i1 : (k : Int) < (l.length : Int) := by omega
        clear HW HM
        generalize l.getD k default = x at *
        have HCL : Hid (clsF boxes x.box = (findBx boxes x.box).1.cls) := Lib.hid rfl
        have KF := Lib.hid (fun (U : World) (hU : Below w1.heap.size w1 U) => stowFind_any A c boxes x.box U (HBX.out.on hU) hbl)
        obtain ⟨x0, x1, x2, x3⟩ := x
        simp only at c0 c1 c2' c3 HCL KF HGS HAS
        generalize clsF boxes x0 = cx at *
        generalize findBx boxes x0 = fb at *
        obtain ⟨⟨b0, b1, b2, b3, b4, b5, b6, b7, b8⟩, ok⟩ := fb
        unfold bxL at KF
        simp only at KF
        obtain rfl : cx = b7 := HCL.out
        clear HCL
        have HBW := Lib.hid (HBZ.out.trans ((ba1 V (.cells #[.int .i64 x0, .int .i64 x1, .int .i64 x2, .int .u8 (x3 : Nat)] 44)).mono HBZ.out.size))
        have HX := Lib.hid (Bk.new V 44 #[.int .i64 x0, .int .i64 x1, .int .i64 x2, .int .u8 (x3 : Nat)])
        have HOW := Lib.hid (HO.out.below (ba1 V (.cells #[.int .i64 x0, .int .i64 x1, .int .i64 x2, .int .u8 (x3 : Nat)] 44)))
        clear HO HBZ
        go_upto_region 8 with fail
        clear c0 c1 c2' c3
        generalize V.heap.size = gx at *
        generalize (V.alloc _) = U at *
        try clear V
        have y0 : U.cell? ⟨gx, 0, none⟩ = some (.int .i64 x0) := HX.out.cell 0
        have KF1 := Lib.hid (KF.out U HBW.out)
        go_wp2_with fail
        refine KF1.out.mono ?_
        rintro e Y ⟨rfl, hbY⟩
        simp only
        have hy := hbY.trans ((ba1 Y (.cells #[.int .i64 b0, .string b1, .int .u8 (b2 : Nat), .bool b3, .int .i64 b4, .int .i64 b5, .int .i64 b6, .int .u8 (cx : Nat), .bool b8] 41)).mono hbY.size)
        have HX2 := Lib.hid (HX.out.below hy HX.out.lt)
        have HBB := Lib.hid (Bk.new Y 41 #[.int .i64 b0, .string b1, .int .u8 (b2 : Nat), .bool b3, .int .i64 b4, .int .i64 b5, .int .i64 b6, .int .u8 (cx : Nat), .bool b8])
        have HB2 := Lib.hid (HBW.out.trans (hy.mono HBW.out.size))
        have HO2 := Lib.hid (HOW.out.below hy)
        clear KF KF1 y0 hy hbY HX HBW HOW
        go_upto_region 9 with fail
        generalize Y.heap.size = gb at *
        generalize (Y.alloc _) = Z at *
        try clear Y
        try clear U
        have z7 : Z.cell? ⟨gb, 7, none⟩ = some (.int .u8 (cx : Nat)) := HBB.out.cell 7
        have HNZ := Lib.hid (HNM.out.below HB2.out HNM.out.lt)
        by_cases h9 : 9 < cx
        · have KN := Lib.hid (name_bad cx Z h9)
          go_wp2_with fail
          refine KN.out.mono ?_
          rintro e Z' ⟨rfl, rfl⟩
          simp only
          have hpos : (0 : Int) < (cx : Int) := by omega
          have hposn : 0 < cx := by omega
          clear KN
          have HGS' := Lib.hid (HGS.out.trans (by rw [if_pos (show 0 < cx by omega)]))
          have HAS' := Lib.hid (show (l.take (k + 1)).any (overB9 boxes) = true by rw [HAS.out, decide_eq_true h9, Bool.or_true])
          clear HGS HAS
          cases wrong with
          | true =>
            have z3 : Z.cell? ⟨gx, 0, none⟩ = some (.int .i64 x0) := HX2.out.cell 0
            have z4 : Z.cell? ⟨gx, 1, none⟩ = some (.int .i64 x1) := HX2.out.cell 1
            have z5 : Z.cell? ⟨gx, 2, none⟩ = some (.int .i64 x2) := HX2.out.cell 2
            have z6 : Z.cell? ⟨gx, 3, none⟩ = some (.int .u8 (x3 : Nat)) := HX2.out.cell 3
            obtain ⟨xs, ho, hfl⟩ := HO2.out
            have hb2s := HB2.out.size
            clear HX2 HBB
            go_wp2_with (at_builtin; (refine wpList_append1 el_gd rfl (.tmp 48) (.tmp 53) rfl w1.heap.size _ m.length xs rfl ho #[.int .i64 x0, .int .i64 x1, .int .i64 x2, .int .u8 (x3 : Nat), .int .u8 (cx : Nat)] _ rfl rfl rfl ?c1 ?c2 ?c3 ?_))
            case c1 => unfold maxLen; omega
            case c2 => omega
            case c3 => omega
            intro v' w3 hown' hgr hd3 hbel
            have HBF := Lib.hid (HB2.out.trans hbel)
            have HOF := Lib.hid (OwnT.append1 (T := tGd) (x := ⟨⟨x0, ⟨x1, x2, x3⟩⟩, cx⟩) hfl (cs := gdL ⟨⟨x0, ⟨x1, x2, x3⟩⟩, cx⟩) rfl hown' hgr hd3)
            have HGS'' := Lib.hid HGS'.out.symm
            have HAS'' := Lib.hid HAS'.out.symm
            clear hown' hgr hd3 hbel hfl ho
            go_wp2
            go_roundw
            case rel => (first | exact ⟨k + 1, true, m ++ [⟨⟨x0, ⟨x1, x2, x3⟩⟩, cx⟩], by omega, by go_num, rfl, by first | (simp; omega) | omega, HAS'', HGS'', HOF, HBF⟩ | ((repeat apply Exists.intro); (first | exact ⟨⟨k + 1, true, m ++ [⟨⟨x0, ⟨x1, x2, x3⟩⟩, cx⟩], by omega, by go_num, rfl, by first | (simp; omega) | omega, HAS'', HGS'', HOF, HBF⟩, rfl⟩ | exact ⟨by omega, by go_num, rfl, by first | (simp; omega) | omega, HAS'', HGS'', HOF, HBF⟩)))
            case measure => simp [intOf]; omega
          | false =>
            have z3 : Z.cell? ⟨gx, 0, none⟩ = some (.int .i64 x0) := HX2.out.cell 0
            have z4 : Z.cell? ⟨gx, 1, none⟩ = some (.int .i64 x1) := HX2.out.cell 1
            have z5 : Z.cell? ⟨gx, 2, none⟩ = some (.int .i64 x2) := HX2.out.cell 2
            have z6 : Z.cell? ⟨gx, 3, none⟩ = some (.int .u8 (x3 : Nat)) := HX2.out.cell 3
            obtain ⟨xs, ho, hfl⟩ := HO2.out
            have hb2s := HB2.out.size
            clear HX2 HBB
            go_wp2_with (at_builtin; (refine wpList_append1 el_gd rfl (.tmp 48) (.tmp 53) rfl w1.heap.size _ m.length xs rfl ho #[.int .i64 x0, .int .i64 x1, .int .i64 x2, .int .u8 (x3 : Nat), .int .u8 (cx : Nat)] _ rfl rfl rfl ?c1 ?c2 ?c3 ?_))
            case c1 => unfold maxLen; omega
            case c2 => omega
            case c3 => omega
            intro v' w3 hown' hgr hd3 hbel
            have HBF := Lib.hid (HB2.out.trans hbel)
            have HOF := Lib.hid (OwnT.append1 (T := tGd) (x := ⟨⟨x0, ⟨x1, x2, x3⟩⟩, cx⟩) hfl (cs := gdL ⟨⟨x0, ⟨x1, x2, x3⟩⟩, cx⟩) rfl hown' hgr hd3)
            have HGS'' := Lib.hid HGS'.out.symm
            have HAS'' := Lib.hid HAS'.out.symm
            clear hown' hgr hd3 hbel hfl ho
            go_wp2
            go_roundw
            case rel => (first | exact ⟨k + 1, true, m ++ [⟨⟨x0, ⟨x1, x2, x3⟩⟩, cx⟩], by omega, by go_num, rfl, by first | (simp; omega) | omega, HAS'', HGS'', HOF, HBF⟩ | ((repeat apply Exists.intro); (first | exact ⟨⟨k + 1, true, m ++ [⟨⟨x0, ⟨x1, x2, x3⟩⟩, cx⟩], by omega, by go_num, rfl, by first | (simp; omega) | omega, HAS'', HGS'', HOF, HBF⟩, rfl⟩ | exact ⟨by omega, by go_num, rfl, by first | (simp; omega) | omega, HAS'', HGS'', HOF, HBF⟩)))
            case measure => simp [intOf]; omega
        · have KN := Lib.hid (name_ok cx Z (by omega) HNZ.out)
          generalize strN (Dg.nameL.getD cx []) = nm at *
          go_wp2_with fail
          refine KN.out.mono ?_
          rintro e Z' ⟨rfl, rfl⟩
          simp only
          clear KN
          have HAS' := Lib.hid (show (l.take (k + 1)).any (overB9 boxes) = wrong by rw [HAS.out, decide_eq_false h9, Bool.or_false])
          clear HAS
          by_cases hposn : 0 < cx
          · have hpos : (0 : Int) < (cx : Int) := by omega
            have HGS' := Lib.hid (HGS.out.trans (by rw [if_pos hposn]))
            clear HGS
            cases wrong with
            | true =>
              have z3 : Z.cell? ⟨gx, 0, none⟩ = some (.int .i64 x0) := HX2.out.cell 0
              have z4 : Z.cell? ⟨gx, 1, none⟩ = some (.int .i64 x1) := HX2.out.cell 1
              have z5 : Z.cell? ⟨gx, 2, none⟩ = some (.int .i64 x2) := HX2.out.cell 2
              have z6 : Z.cell? ⟨gx, 3, none⟩ = some (.int .u8 (x3 : Nat)) := HX2.out.cell 3
              obtain ⟨xs, ho, hfl⟩ := HO2.out
              have hb2s := HB2.out.size
              clear HX2 HBB
              go_wp2_with (at_builtin; (refine wpList_append1 el_gd rfl (.tmp 48) (.tmp 53) rfl w1.heap.size _ m.length xs rfl ho #[.int .i64 x0, .int .i64 x1, .int .i64 x2, .int .u8 (x3 : Nat), .int .u8 (cx : Nat)] _ rfl rfl rfl ?c1 ?c2 ?c3 ?_))
              case c1 => unfold maxLen; omega
              case c2 => omega
              case c3 => omega
              intro v' w3 hown' hgr hd3 hbel
              have HBF := Lib.hid (HB2.out.trans hbel)
              have HOF := Lib.hid (OwnT.append1 (T := tGd) (x := ⟨⟨x0, ⟨x1, x2, x3⟩⟩, cx⟩) hfl (cs := gdL ⟨⟨x0, ⟨x1, x2, x3⟩⟩, cx⟩) rfl hown' hgr hd3)
              have HGS'' := Lib.hid HGS'.out.symm
              have HAS'' := Lib.hid HAS'.out.symm
              clear hown' hgr hd3 hbel hfl ho
              go_wp2
              go_roundw
              case rel => (first | exact ⟨k + 1, true, m ++ [⟨⟨x0, ⟨x1, x2, x3⟩⟩, cx⟩], by omega, by go_num, rfl, by first | (simp; omega) | omega, HAS'', HGS'', HOF, HBF⟩ | ((repeat apply Exists.intro); (first | exact ⟨⟨k + 1, true, m ++ [⟨⟨x0, ⟨x1, x2, x3⟩⟩, cx⟩], by omega, by go_num, rfl, by first | (simp; omega) | omega, HAS'', HGS'', HOF, HBF⟩, rfl⟩ | exact ⟨by omega, by go_num, rfl, by first | (simp; omega) | omega, HAS'', HGS'', HOF, HBF⟩)))
              case measure => simp [intOf]; omega
            | false =>
              have z3 : Z.cell? ⟨gx, 0, none⟩ = some (.int .i64 x0) := HX2.out.cell 0
              have z4 : Z.cell? ⟨gx, 1, none⟩ = some (.int .i64 x1) := HX2.out.cell 1
              have z5 : Z.cell? ⟨gx, 2, none⟩ = some (.int .i64 x2) := HX2.out.cell 2
              have z6 : Z.cell? ⟨gx, 3, none⟩ = some (.int .u8 (x3 : Nat)) := HX2.out.cell 3
              obtain ⟨xs, ho, hfl⟩ := HO2.out
              have hb2s := HB2.out.size
              clear HX2 HBB
              go_wp2_with (at_builtin; (refine wpList_append1 el_gd rfl (.tmp 48) (.tmp 53) rfl w1.heap.size _ m.length xs rfl ho #[.int .i64 x0, .int .i64 x1, .int .i64 x2, .int .u8 (x3 : Nat), .int .u8 (cx : Nat)] _ rfl rfl rfl ?c1 ?c2 ?c3 ?_))
              case c1 => unfold maxLen; omega
              case c2 => omega
              case c3 => omega
              intro v' w3 hown' hgr hd3 hbel
              have HBF := Lib.hid (HB2.out.trans hbel)
              have HOF := Lib.hid (OwnT.append1 (T := tGd) (x := ⟨⟨x0, ⟨x1, x2, x3⟩⟩, cx⟩) hfl (cs := gdL ⟨⟨x0, ⟨x1, x2, x3⟩⟩, cx⟩) rfl hown' hgr hd3)
              have HGS'' := Lib.hid HGS'.out.symm
              have HAS'' := Lib.hid HAS'.out.symm
              clear hown' hgr hd3 hbel hfl ho
              go_wp2
              go_roundw
              case rel => (first | exact ⟨k + 1, false, m ++ [⟨⟨x0, ⟨x1, x2, x3⟩⟩, cx⟩], by omega, by go_num, rfl, by first | (simp; omega) | omega, HAS'', HGS'', HOF, HBF⟩ | ((repeat apply Exists.intro); (first | exact ⟨⟨k + 1, false, m ++ [⟨⟨x0, ⟨x1, x2, x3⟩⟩, cx⟩], by omega, by go_num, rfl, by first | (simp; omega) | omega, HAS'', HGS'', HOF, HBF⟩, rfl⟩ | exact ⟨by omega, by go_num, rfl, by first | (simp; omega) | omega, HAS'', HGS'', HOF, HBF⟩)))
              case measure => simp [intOf]; omega
          · have hpos : ¬ (0 : Int) < (cx : Int) := by omega
            have hpd : decide ((0 : Int) < (cx : Int)) = false := decide_eq_false hpos
            have HGS' := Lib.hid (HGS.out.trans (by rw [if_neg hposn, List.append_nil]))
            clear HGS
            cases wrong with
            | true =>
              have HGS'' := Lib.hid HGS'.out.symm
              have HAS'' := Lib.hid HAS'.out.symm
              have HBF := HB2
              clear HX2 HBB
              go_wp2_with fail
              go_roundw
              case rel => (first | exact ⟨k + 1, true, m, by omega, by go_num, rfl, by first | (simp; omega) | omega, HAS'', HGS'', HO2, HBF⟩ | ((repeat apply Exists.intro); (first | exact ⟨⟨k + 1, true, m, by omega, by go_num, rfl, by first | (simp; omega) | omega, HAS'', HGS'', HO2, HBF⟩, rfl⟩ | exact ⟨by omega, by go_num, rfl, by first | (simp; omega) | omega, HAS'', HGS'', HO2, HBF⟩)))
              case measure => simp [intOf]; omega
            | false =>
              have HGS'' := Lib.hid HGS'.out.symm
              have HAS'' := Lib.hid HAS'.out.symm
              have HBF := HB2
              clear HX2 HBB
              go_wp2_with fail
              go_roundw
              case rel => (first | exact ⟨k + 1, false, m, by omega, by go_num, rfl, by first | (simp; omega) | omega, HAS'', HGS'', HO2, HBF⟩ | ((repeat apply Exists.intro); (first | exact ⟨⟨k + 1, false, m, by omega, by go_num, rfl, by first | (simp; omega) | omega, HAS'', HGS'', HO2, HBF⟩, rfl⟩ | exact ⟨by omega, by go_num, rfl, by first | (simp; omega) | omega, HAS'', HGS'', HO2, HBF⟩)))
              case measure => simp [intOf]; omega
      · obtain rfl : k = l.length := by omega
        rw [List.take_length] at HW HM
        have HBE := Lib.hid (HB1.out.trans (HBZ.out.mono HB1.out.size))
        have HOE := Lib.hid (HO.out.down HB1.out.size)
        rw [← HW.out, ← HM.out] at HE
        clear HBX HST HNM HB1 HO HBZ hlt hk
        cases wrong with
        | true =>
          have HE2 := Lib.hid (show de = 130 by rw [HE.out]; rfl)
          go_wp2_with fail
          (try go_ret2)
          rw [HD.out]
          exact ⟨HBE.out, _, by rw [HE2.out]; rfl, by rw [HE2.out]; exact OwnT.nil⟩
        | false =>
          obtain ⟨Ao, co, rfl, _, _, _⟩ := HOE.out.sl
          by_cases h200 : 200 < m.length
          · have HE2 := Lib.hid (show de = 5 by rw [HE.out]; simp [h200])
            have h200i : (200 : Int) < (m.length : Int) := by omega
            go_wp2_with fail
            (try go_ret2)
            rw [HD.out]
            exact ⟨HBE.out, _, by rw [HE2.out]; rfl, by rw [HE2.out]; exact OwnT.nil⟩
          · have HE2 := Lib.hid (show de = 0 by rw [HE.out]; simp [h200])
            have h200i : ¬ (200 : Int) < (m.length : Int) := by omega
            have h200d : decide ((200 : Int) < (m.length : Int)) = false := decide_eq_false h200i
            have h200e : decide (200 < m.length) = false := decide_eq_false h200
            go_wp2_with fail
            (try go_ret2)
            rw [HD.out]
            exact ⟨HBE.out, _, by rw [HE2.out]; rfl, by rw [HE2.out, if_pos rfl, ← HM.out]; exact HOE.out⟩
end Go.Proofs.YtmhikcleekfbpaaDoor
