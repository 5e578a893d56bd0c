/-
  The walk of the statement DangerGrows.
-/
import Derived.Test.YtcjnabbggmbfgaaDoorDgG
import Derived.Test.YtcjnabbggmbfgaaDoorLib3
import Derived.Test.YtcjnabbggmbfgaaDoorDgPlain7
import Derived.Deep.DeepCutAuto
namespace Go.Proofs.YtcjnabbggmbfgaaDoor
open Go.RowKit

theorem own_apart {w w1 : World} {base : Nat} {e : TypeId} {n : Nat} {v u v' : Value} {xs : List Value} (hu : w.ownsRow base e 1 u n xs) (hap : u.ownBlock = none ∨ u.ownBlock ≠ v.ownBlock)
    (hd : v'.ownBlock = v.ownBlock ∨ ∃ g, v'.ownBlock = some g ∧ w.heap.size ≤ g) : u.ownBlock = none ∨ u.ownBlock ≠ v'.ownBlock := by
  rcases hap with h | h
  · exact .inl h
  · rcases hd with hd | ⟨g, hd, hg⟩
    · rw [hd]; exact .inr h
    · refine .inr ?_
      rw [hd]
      intro e
      have := (hu.lt g e).2
      omega
theorem apart_symm {u v : Value} (h : u.ownBlock = none ∨ u.ownBlock ≠ v.ownBlock) : v.ownBlock = none ∨ v.ownBlock ≠ u.ownBlock := by
  rcases h with h | h
  · rw [h]
    cases v.ownBlock with
    | none => exact .inl rfl
    | some g => exact .inr (by simp)
  · exact .inr (Ne.symm h)
theorem cl_cell {w : World} {base : Nat} {v : Value} {l : List (Nat × Nat × Nat)} (h : w.ownsRow base 39 3 v l.length (clCs l)) :
    ∃ A c, v = .slice A l.length c ∧ ∀ k, k < l.length → ∃ b, A = some ⟨b, 0, none⟩ ∧ b < w.heap.size ∧ w.cell? ⟨b, k * 3, none⟩ = some (.int .u8 (l.getD k (0, 0, 0)).1) ∧ w.cell? ⟨b, k * 3 + 1, none⟩ = some (.int .u8 (l.getD k (0, 0, 0)).2.1) ∧ w.cell? ⟨b, k * 3 + 2, none⟩ = some (.int .u8 (l.getD k (0, 0, 0)).2.2) := by
  obtain ⟨hl, h | ⟨g, cap, cur, rfl, hb, hh, hn, hm, hsz, ht⟩⟩ := h
  · exact ⟨none, 0, by rw [h.1, h.2], fun k hk => by omega⟩
  · refine ⟨_, _, rfl, fun k hk => ⟨g, rfl, Bk.lt hh, ?_⟩⟩
    have key : ∀ (l : List (Nat × Nat × Nat)) (k j : Nat), k < l.length → j < 3 → (clCs l)[k * 3 + j]? = (clC (l.getD k (0, 0, 0)))[j]? := by
      intro l
      induction l with
      | nil => intro k j hk; simp at hk
      | cons t l ih =>
        intro k j hk hj
        have e : clCs (t :: l) = clC t ++ clCs l := by simp [clCs]
        rw [e]
        cases k with
        | zero => rw [List.getElem?_append_left (by simp [clC]; omega)]; simp
        | succ k =>
          rw [List.getElem?_append_right (by simp [clC]; omega)]
          have := ih k j (by simpa using hk) hj
          rw [show (k + 1) * 3 + j - (clC t).length = k * 3 + j by simp [clC]; omega, this]
          simp
    have cell : ∀ j, j < 3 → w.cell? ⟨g, k * 3 + j, none⟩ = (clC (l.getD k (0, 0, 0)))[j]? := by
      intro j hj
      rw [Bk.cell hh, ← key l k j hk hj, ← ht, List.getElem?_take_of_lt (by omega)]
      simp
    exact ⟨cell 0 (by omega), cell 1 (by omega), cell 2 (by omega)⟩

set_option maxRecDepth 100000 in
set_option maxHeartbeats 8000000 in
theorem grows_any (A : Option Addr) (n c : Nat) (l : List Nat) (mask : Nat) (hmask : mask < 18446744073709551616) (w : World) (ht : TabOK w) (hs : Sl w w.heap.size 1 A n (u8s l)) (hl : ∀ x ∈ l, x < 256) (hn : n ≤ maxLen) :
    Calls Tryd.prog 5 #[.slice A n c, .int .u64 mask] w (TrueRet w) := by
  have HMk := Lib.hid hmask; clear hmask
  have HT := Lib.hid ht; clear ht
  have Hs := Lib.hid hs; clear hs
  have HL := Lib.hid hl; clear hl
  go_enter Tryd.func5, Tryd.ntmps5
  go_wp2_with fail
  refine (awake_true _ HT.out).mono ?_
  rintro e w1 ⟨rfl, hb1⟩
  go_wp2_with fail
  refine (classes_any A n c l w1 ((Hs.out.below hb1).more hb1.size) HL.out hn).mono ?_
  rintro e w2 ⟨v2, rfl, ho2, hb2⟩
  obtain ⟨A2, c2, rfl, hc21, hc22, hs2⟩ := own_sl ho2
  have hL10 := mods_lt l 100
  have hLl := mods_len l 100
  generalize mods l 100 = L at *
  have hpe := Dg.pre_all (l := L) (by omega) (fun y hy => by have := hL10 y hy; omega)
  have HT2 := Lib.hid ((HT.out.below hb1 HT.out.lt).below hb2 (by have := HT.out.lt; have := hb1.size; omega))
  have HPE := Lib.hid hpe; clear hpe
  have H10 := Lib.hid hL10; clear hL10
  have Hs2 := Lib.hid hs2; clear hs2
  clear ho2
  have hbw2 := hb1.trans (hb2.mono hb1.size)
  go_wp2
  go_loopw [5, 6, 27] (fun vf vq i wr => ∃ (k : Nat) (F Q : List Nat), k ≤ L.length ∧ i = .int .i64 k ∧ wr.ownsRow w2.heap.size 5 1 vf F.length (u8s F) ∧ wr.ownsRow w2.heap.size 5 1 vq Q.length (u8s Q) ∧
      Hid (vq.ownBlock = none ∨ vq.ownBlock ≠ vf.ownBlock) ∧ F.length ≤ k ∧ Q.length ≤ k ∧ Hid (∀ x ∈ F, x ∈ L) ∧ Hid (Dg.Clique L Q) ∧ Below w2.heap.size w2 wr) (fun _ _ i _ => L.length - (intOf i).toNat)
  case atStart => exact ⟨0, [], [], Nat.zero_le _, rfl, World.ownsRow_nil _ _ _ _, World.ownsRow_nil _ _ _ _, Lib.hid (.inl rfl), by simp, by simp, Lib.hid (by simp), Lib.hid ⟨by simp, by simp, by simp⟩, Below.refl _ _⟩
  case round =>
    obtain ⟨k, F, Q, hk, rfl, hF, hQ, HAP, hFl, hQl, HFL, HCQ, hb⟩ := hrel
    by_cases hlt : k < L.length
    · obtain ⟨b, off, rfl, hbB, hc⟩ := (Hs2.out.below hb).u8 hlt
      have hx10 := H10.out _ (getD_mem hlt)
      have HMEM := Lib.hid (getD_mem hlt)
      generalize L.getD k 0 = x at *
      have hbz := hb.size
      go_upto_if 37 with fail
      go_cut [5] (fun vf wx => ∃ F' : List Nat, wx.ownsRow w2.heap.size 5 1 vf F'.length (u8s F') ∧ wx.ownsRow w2.heap.size 5 1 u6 Q.length (u8s Q) ∧ Hid (u6.ownBlock = none ∨ u6.ownBlock ≠ vf.ownBlock) ∧ F'.length ≤ k + 1 ∧ Hid (∀ x ∈ F', x ∈ L) ∧ Below w2.heap.size w2 wx)
      case first =>
        go_wp2_with (at_builtin; (refine wpList_append1 el_u8 rfl (.tmp 38) (.tmp 40) rfl w2.heap.size _ F.length (u8s F) rfl hF #[.int .u8 x] _ rfl rfl rfl ?c1 ?c2 ?c3 ?_))
        case c1 => unfold maxLen; omega
        case c2 => omega
        case c3 => omega
        · intro v' w3 hown' hgr hd3 hbel
          go_wp2_with fail
          go_meet
          exact ⟨F ++ [x], by simpa [u8s] using hown', hQ.kept hgr HAP.out, Lib.hid (own_apart (w1 := wr) hQ HAP.out hd3), by simp; omega, Lib.hid (fun y hy => by
            rcases List.mem_append.1 hy with h | h
            · exact HFL.out y h
            · simp at h; subst h; exact HMEM.out), hb.trans hbel⟩
        · go_meet
          exact ⟨F, hF, hQ, HAP, by omega, HFL, hb⟩
      case rest =>
        obtain ⟨F', hF', hQ', HAP', hFl', HFL', hb'⟩ := hcut
        clear hF hQ HAP hFl HFL hb hbz hc
        have hbz := hb'.size
        obtain ⟨AQ, cQ, rfl, hcQ1, hcQ2, hsQ⟩ := own_sl hQ'
        have HsQ := Lib.hid hsQ; clear hsQ
        have HTc := Lib.hid (HT2.out.below hb' HT2.out.lt)
        go_wp2
        go_loop [9, 44] (fun cl j => ∃ m : Nat, m ≤ Q.length ∧ j = .int .i64 m ∧ cl = .bool (Dg.joins x (Q.take m))) (fun _ j => Q.length - (intOf j).toNat)
        case atStart => exact ⟨0, Nat.zero_le _, rfl, rfl⟩
        case round =>
          obtain ⟨m, hm, rfl, rfl⟩ := hrel
          by_cases hmlt : m < Q.length
          · obtain ⟨bq, oq, rfl, hbq, hcq⟩ := HsQ.out.u8 hmlt
            have HJ := Lib.hid (Dg.joins_take (x := x) hmlt)
            have hd10 : Q.getD m 0 < 10 := H10.out _ (HCQ.out.2.1 _ (getD_mem hmlt)).1
            generalize Q.getD m 0 = d at *
            generalize Dg.joins x (Q.take m) = jn at *
            cases jn with
            | false =>
              go_wp2
              go_round
              case rel => exact ⟨m + 1, by omega, by go_num, by rw [HJ.out]; rfl⟩
              case measure => simp [intOf]; omega
            | true =>
              by_cases hxd : x = d
              · have hxb : ((x : Int) != (d : Int)) = false := by simp; omega
                have HXD := Lib.hid hxd; clear hxd
                go_wp2
                go_round
                case rel => exact ⟨m + 1, by omega, by go_num, by rw [HJ.out, HXD.out]; simp⟩
                case measure => simp [intOf]; omega
              · have hxb : ((x : Int) != (d : Int)) = true := by simp; omega
                have hxb2 : (x != d) = true := by simpa using hxd
                go_wp2_with (go_at_call 12; refine (lcode_ok x d _ hx10 hd10 HTc.out).mono ?_; rintro e w' ⟨rfl, rfl⟩)
                go_round
                case rel => exact ⟨m + 1, by omega, by go_num, by rw [HJ.out, hxb2]; simp⟩
                case measure => simp [intOf]; omega
          · obtain rfl : m = Q.length := by omega
            have HJT : Hid (Dg.joins x (Q.take Q.length) = Dg.joins x Q) := Lib.hid (by rw [List.take_length])
            rw [HJT.out]
            clear HJT
            by_cases hj : Dg.joins x Q = true ∧ 0 < x
            · obtain ⟨hj, hx0⟩ := hj
              have HJ := Lib.hid hj
              rw [hj]
              clear hj
              have hxd : decide ((0 : Int) < (x : Int)) = true := by simp; omega
              go_wp2_with (at_builtin; (refine wpList_append1 el_u8 rfl (.tmp 66) (.tmp 68) rfl w2.heap.size _ Q.length (u8s Q) rfl hQ' #[.int .u8 x] _ rfl rfl rfl ?d1 ?d2 ?d3 ?_))
              case d1 => unfold maxLen; omega
              case d2 => omega
              intro v' w3 hown' hgr hd3 hbel
              go_wp2
              go_roundw
              case rel => exact ⟨k + 1, F', Q ++ [x], by omega, by go_num, hF'.kept hgr (apart_symm HAP'.out), by simpa [u8s] using hown', Lib.hid (apart_symm (own_apart (w1 := w3) hF' (apart_symm HAP'.out) hd3)), by omega, by simp; omega, HFL', Lib.hid (Dg.clique_add H10.out HCQ.out HMEM.out hx0 HJ.out), hb'.trans hbel⟩
              case measure => simp [intOf]; omega
            · have hor : Dg.joins x Q = false ∨ (Dg.joins x Q = true ∧ x = 0) := by
                cases hj2 : Dg.joins x Q with
                | false => exact .inl rfl
                | true => exact .inr ⟨rfl, by apply Classical.byContradiction; intro h; exact hj ⟨hj2, by omega⟩⟩
              clear hj
              rcases hor with h | ⟨h, rfl⟩
              · rw [h]
                clear h
                go_wp2
                go_roundw
                case rel => exact ⟨k + 1, F', Q, by omega, by go_num, hF', hQ', HAP', by omega, by omega, HFL', HCQ, hb'⟩
                case measure => simp [intOf]; omega
              · rw [h]
                clear h
                go_wp2
                go_roundw
                case rel => exact ⟨k + 1, F', Q, by omega, by go_num, hF', hQ', HAP', by omega, by omega, HFL', HCQ, hb'⟩
                case measure => simp [intOf]; omega
    · obtain rfl : k = L.length := by omega
      obtain ⟨AF, cF, rfl, hcF1, hcF2, hsF⟩ := own_sl hF
      obtain ⟨AQ, cQ, rfl, hcQ1, hcQ2, hsQ⟩ := own_sl hQ
      have hbw := hbw2.trans (hb.mono hbw2.size)
      have HTr := Lib.hid (HT2.out.below hb HT2.out.lt)
      have h1 := divide_ok A2 L.length c2 L wr HTr.out ((Hs2.out.below hb).more hb.size) HPE.out.2
      rw [HPE.out.1] at h1
      have hpf := Dg.pre_all (l := F) (by omega) (fun y hy => by have := H10.out y (HFL.out y hy); omega)
      have HPF := Lib.hid hpf; clear hpf
      have HFIN := Lib.hid (And.intro (Dg.grows_fewer HFL.out) (And.intro (Dg.grows_one H10.out) (Dg.grows_clique H10.out HCQ.out)))
      have HD1 := Lib.hid h1; clear h1
      clear hF hQ hsQ HAP HCQ
      have HSF := Lib.hid hsF; clear hsF
      go_wp2_with fail
      refine HD1.out.mono ?_
      rintro e w3 ⟨v3, rfl, hG3, hb3⟩
      obtain ⟨A3, c3, rfl, _⟩ := groups_sl2 hG3
      clear hG3 HD1
      have HT3 := Lib.hid (HTr.out.below hb3 HTr.out.lt)
      have h2 := divide_ok AF F.length cF F w3 HT3.out ((HSF.out.below hb3).more hb3.size) HPF.out.2
      rw [HPF.out.1] at h2
      have HD2 := Lib.hid h2; clear h2
      go_wp2_with fail
      refine HD2.out.mono ?_
      rintro e w4 ⟨v4, rfl, hG4, hb4⟩
      obtain ⟨A4, c4, rfl, _⟩ := groups_sl2 hG4
      clear hG4 HD2
      have HT4 := Lib.hid (HT3.out.below hb4 HT3.out.lt)
      have h3 := clashes_ok A2 L.length c2 L w4 HT4.out ((((Hs2.out.below hb).more hb.size).below hb3).below (hb4.mono hb3.size) |>.more (by have := hb3.size; have := hb4.size; omega)) HPE.out.2
      rw [HPE.out.1] at h3
      have HD3 := Lib.hid h3; clear h3
      go_wp2_with fail
      refine HD3.out.mono ?_
      rintro e w5 ⟨v5, rfl, ho5, hb5⟩
      obtain ⟨A5, c5, rfl, hat5⟩ := cl_cell ho5
      clear HD3 ho5
      have HAT5 := Lib.hid hat5; clear hat5
      have hcl : (Dg.clashes L).length ≤ 100 := Dg.clTo_len L 10
      generalize Dg.clashes L = C at *
      generalize (Dg.divide L).length = dL at *
      generalize (Dg.divide F).length = dF at *
      have hbw5 := hbw.trans ((hb3.mono hbw.size).trans ((hb4.mono (by have := hbw.size; have := hb3.size; omega)).trans (hb5.mono (by have := hbw.size; have := hb3.size; have := hb4.size; omega))))
      go_wp2
      go_loopw [18, 88] (fun ap j wx => ∃ m : Nat, m ≤ C.length ∧ j = .int .i64 m ∧ ap = .int .i64 (Dg.apartC (C.take m)) ∧ Below w5.heap.size w5 wx) (fun _ j _ => C.length - (intOf j).toNat)
      case atStart => exact ⟨0, Nat.zero_le _, rfl, rfl, Below.refl _ _⟩
      case round =>
        obtain ⟨m, hm, rfl, rfl, hbx⟩ := hrel
        by_cases hmlt : m < C.length
        · obtain ⟨b5, rfl, hb5l, p0, p1, p2⟩ := HAT5.out m hmlt
          have HA := Lib.hid (Dg.apartC_take hmlt)
          have hal := Dg.apartC_le (C.take m)
          have htl : (C.take m).length ≤ m := List.length_take_le _ _
          generalize C.getD m (0, 0, 0) = t at *
          obtain ⟨ta, tb, tc⟩ := t
          simp only at p0 p1 p2
          have q0 := (hbx.cell (p := ⟨b5, m * 3, none⟩) hb5l).trans p0
          have q1 := (hbx.cell (p := ⟨b5, m * 3 + 1, none⟩) hb5l).trans p1
          have q2 := (hbx.cell (p := ⟨b5, m * 3 + 2, none⟩) hb5l).trans p2
          clear p0 p1 p2
          generalize Dg.apartC (C.take m) = ac at *
          go_wp2
          all_goals
            go_roundw
            case rel =>
              refine ⟨m + 1, by omega, by go_num, ?_, hbx.alloc hbx.size _⟩
              rw [HA.out]
              refine vint ?_
              first
                | (have hne : ((ta : Int) != (tb : Int)) = true := by assumption
                   have : (ta != tb) = true := by simp at hne ⊢; omega
                   rw [if_pos this]; omega)
                | (have hne : ((ta : Int) != (tb : Int)) = false := by assumption
                   have : ¬ (ta != tb) = true := by simp at hne ⊢; omega
                   rw [if_neg this]; omega)
            case measure => simp [intOf]; omega
        · obtain rfl : m = C.length := by omega
          have hal := Dg.apartC_le C
          obtain ⟨f1, f2, f3⟩ := HFIN.out
          have f4 := f2.trans (Dg.apartC_zero C).symm
          rw [List.take_length]
          generalize Dg.apartC C = ac at *
          clear f2
          have d1 : decide (dF ≤ dL) = true := by simpa using f1
          have d2 : decide (Q.length ≤ dL) = true := by simpa using f3
          have d3 : (decide ((dL : Int) ≤ 1) == ((ac : Int) == 0)) = true := by
            rw [beq_iff_eq, Bool.eq_iff_iff]; simp; omega
          clear f1 f3 f4
          go_wp2
          go_ret
          exact ⟨rfl, hbw5.trans (hbx.mono hbw5.size)⟩
end Go.Proofs.YtcjnabbggmbfgaaDoor
