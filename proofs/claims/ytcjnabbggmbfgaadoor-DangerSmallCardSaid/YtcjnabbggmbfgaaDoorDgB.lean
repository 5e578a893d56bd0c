/-
  Walks of package danger: fits, Strictest, Clashes.
-/
import Derived.Test.YtcjnabbggmbfgaaDoorDgA
namespace Go.Proofs.YtcjnabbggmbfgaaDoor
open Go.RowKit

theorem TabOK.below {w w' : World} {B : Nat} (h : TabOK w) (hb : Below B w w') (hB : 0 < B) : TabOK w' :=
  fun a b ha hb' => (hb.cell (p := ⟨0, a * 10 + b, none⟩) hB).trans (h a b ha hb')
theorem TabOK.lt {w : World} (h : TabOK w) : 0 < w.heap.size := block_lt_of_cell (h 0 0 (by omega) (by omega))
theorem getD_mem {l : List Nat} {k : Nat} (h : k < l.length) : l.getD k 0 ∈ l := by
  simp only [List.getD_eq_getElem?_getD, List.getElem?_eq_getElem h, Option.getD_some]; exact List.getElem_mem _
theorem fits_take {l : List Nat} {k c : Nat} (h : k < l.length) : Dg.fits (l.take (k + 1)) c = (Dg.fits (l.take k) c && (Dg.tab (l.getD k 0) c == 0)) := by
  rw [count_take_succ h rfl]; simp [Dg.fits, List.all_append]
theorem fits_false {l : List Nat} {k c : Nat} (h : k < l.length) (ht : Dg.tab (l.getD k 0) c ≠ 0) : Dg.fits l c = false := by
  unfold Dg.fits
  rw [List.all_eq_false]
  exact ⟨_, getD_mem h, by simp only [beq_iff_eq]; exact ht⟩

set_option maxHeartbeats 1000000 in
theorem fits_any (A : Option Addr) (n c : Nat) (l : List Nat) (cls : Nat) (w : World) (ht : TabOK w) (hn : n ≤ 1000) (hs : Sl w w.heap.size 1 A n (u8s l)) (hl : ∀ x ∈ l, x < 10) (hcls : cls < 10) :
    Calls Tryd.prog 23 #[.slice A n c, .int .u8 cls] w fun e w' => e = .returned (.bool (Dg.fits l cls)) ∧ w = w' := by
  have hll : l.length = n := by have := hs.len; rw [u8s_len] at this; omega
  have HL := Lib.hid hll; clear hll
  have HA := Lib.hid hl; clear hl
  have HT := Lib.hid ht; clear ht
  go_enter Tryd.func23, Tryd.ntmps23
  go_wp2
  go_loop [9] (fun i => ∃ k : Nat, k ≤ n ∧ i = .int .i64 k ∧ Hid (Dg.fits (l.take k) cls = true)) (fun i => n - (intOf i).toNat)
  case atStart => exact ⟨0, Nat.zero_le _, rfl, Lib.hid (by simp [Dg.fits])⟩
  case round =>
    obtain ⟨k, hk, rfl, HF⟩ := hrel
    by_cases hlt : k < n
    · obtain ⟨b, off, rfl, hbB, hc⟩ := hs.u8 hlt
      have hkl : k < l.length := by rw [HL.out]; exact hlt
      have hx10 : l.getD k 0 < 10 := HA.out _ (getD_mem hkl)
      have hcell := HT.out _ cls hx10 hcls
      have h3 := Dg.tab_le _ cls hx10 hcls
      have HG := Lib.hid (fits_take (c := cls) hkl)
      have HN := Lib.hid (fits_false (c := cls) hkl)
      generalize l.getD k 0 = x at *
      generalize Dg.tab x cls = q at *
      by_cases hq : 0 < q
      · have hqd : decide ((0 : Int) < (q : Int)) = true := by simp; omega
        go_wp2
        go_ret
        exact ⟨by rw [HN.out (by omega)]; rfl, rfl⟩
      · have hq0 : q = 0 := by omega
        subst hq0
        go_wp2
        go_round
        case rel => exact ⟨k + 1, by omega, by go_num, Lib.hid (by rw [HG.out, HF.out]; rfl)⟩
        case measure => simp [intOf]; omega
    · have hkn : l.take k = l := List.take_of_length_le (by rw [HL.out]; omega)
      rw [hkn] at HF
      clear hkn
      go_wp2
      go_ret
      exact ⟨by rw [HF.out]; rfl, rfl⟩

set_option maxHeartbeats 1000000 in
theorem strictest_err (cls : Nat) (A : Option Addr) (n c : Nat) (l : List Nat) (w : World) (hs : Sl w w.heap.size 1 A n (u8s l)) (he : Dg.err l ≠ 0) :
    Calls Tryd.prog 15 #[.int .u8 cls, .slice A n c] w fun e w' => e = .returned (.tuple #[.int .u8 0, .int .i64 (Dg.err l)]) ∧ Below w.heap.size w w' := by
  have hne : (Dg.err l != 0) = true := by simpa using he
  go_enter Tryd.func15, Tryd.ntmps15
  go_wp2_with (first
    | (go_at_call 21; refine (counted_any A n c l _ hs).mono ?_; rintro e w1 ⟨rfl, hb⟩)
    | (refine wpList_store_abs rfl 29 (.tmp 6) (.tmp 13) rfl w1.heap.size (cntA (Dg.pre l)) rfl rfl 29 zer10 (Bk.new _ _ _) (by rw [cntA_size]; exact info_arr10) (by rw [cntA_size]; rfl) (cntA_one _) ?_; intro w2 hk hg))
  go_ret2
  exact ⟨rfl, below_store hb hb.size hg⟩

set_option maxHeartbeats 1000000 in
theorem strictest_cls (cls : Nat) (A : Option Addr) (n c : Nat) (l : List Nat) (w : World) (hs : Sl w w.heap.size 1 A n (u8s l)) (he : Dg.err l = 0) (h9 : 9 < cls) :
    Calls Tryd.prog 15 #[.int .u8 cls, .slice A n c] w fun e w' => e = .returned (.tuple #[.int .u8 0, .int .i64 130]) ∧ Below w.heap.size w w' := by
  have hC := counted_any A n c l w hs
  rw [he] at hC
  have HC := Lib.hid hC; clear hC he
  go_enter Tryd.func15, Tryd.ntmps15
  go_wp2_with (first
    | (go_at_call 21; refine HC.out.mono ?_; rintro e w1 ⟨rfl, hb⟩)
    | (refine wpList_store_abs rfl 29 (.tmp 6) (.tmp 13) rfl w1.heap.size (cntA (Dg.pre l)) rfl rfl 29 zer10 (Bk.new _ _ _) (by rw [cntA_size]; exact info_arr10) (by rw [cntA_size]; rfl) (cntA_one _) ?_; intro w2 hk hg))
  go_ret2
  exact ⟨rfl, below_store hb hb.size hg⟩

set_option maxHeartbeats 1000000 in
theorem strictest_ok (cls : Nat) (A : Option Addr) (n c : Nat) (l : List Nat) (w : World) (ht : TabOK w) (hs : Sl w w.heap.size 1 A n (u8s l)) (he : Dg.err l = 0) (h9 : cls < 10) :
    Calls Tryd.prog 15 #[.int .u8 cls, .slice A n c] w fun e w' => e = .returned (.tuple #[.int .u8 (Dg.strictTo cls (Dg.pre l) 10), .int .i64 0]) ∧ Below w.heap.size w w' := by
  have hC := counted_any A n c l w hs
  rw [he] at hC
  generalize Dg.pre l = p at *
  have HC := Lib.hid hC; clear hC he
  have HT := Lib.hid ht; clear ht
  go_enter Tryd.func15, Tryd.ntmps15
  go_wp2_with (first
    | (go_at_call 21; refine HC.out.mono ?_; rintro e w1 ⟨rfl, hb⟩)
    | (refine wpList_store_abs rfl 29 (.tmp 6) (.tmp 13) rfl w1.heap.size (cntA p) rfl rfl 29 zer10 (Bk.new _ _ _) (by rw [cntA_size]; exact info_arr10) (by rw [cntA_size]; rfl) (cntA_one _) ?_; intro w2 hK hg))
  have hb2 := below_store hb hb.size hg
  have HT2 := Lib.hid (HT.out.below hb2 HT.out.lt)
  clear HC hg
  generalize w1.heap.size = g at *
  go_loop [8, 22] (fun m i => ∃ k : Nat, k ≤ 10 ∧ i = .int .i64 k ∧ m = .int .u8 (Dg.strictTo cls p k)) (fun _ i => 10 - (intOf i).toNat)
  case atStart => exact ⟨0, Nat.zero_le _, rfl, rfl⟩
  case round =>
    obtain ⟨k, hk, rfl, rfl⟩ := hrel
    by_cases hlt : k < 10
    · have hcell := HT2.out cls k h9 hlt
      have hcnt := (hK.cell k).trans (cntA_at p k hlt)
      have h3 := Dg.tab_le cls k h9 hlt
      have hs3 := Dg.strictTo_le cls p h9 k (by omega)
      have HS : Hid (Dg.strictTo cls p (k + 1) = if 0 < p.count k then max (Dg.strictTo cls p k) (Dg.tab cls k) else Dg.strictTo cls p k) := Lib.hid rfl
      generalize p.count k = q at *
      generalize Dg.tab cls k = x at *
      generalize Dg.strictTo cls p k = y at *
      go_wp2
      all_goals
        go_round
        case rel =>
          refine ⟨k + 1, by omega, by go_num, ?_⟩
          rw [HS.out]
          refine vint ?_
          split <;> omega
        case measure => simp [intOf]; omega
    · have hk10 : k = 10 := by omega
      subst hk10
      go_wp2
      go_ret2
      exact ⟨rfl, hb2⟩

/-- The cells of clashes. -/
def clC (x : Nat × Nat × Nat) : List Value := [.int .u8 x.1, .int .u8 x.2.1, .int .u8 x.2.2]
def clCs (l : List (Nat × Nat × Nat)) : List Value := l.flatMap clC
theorem clCs_append (l m : List (Nat × Nat × Nat)) : clCs (l ++ m) = clCs l ++ clCs m := by simp [clCs]
def ClRet (w : World) (l : List (Nat × Nat × Nat)) (er : Int) (e : Ending) (w' : World) : Prop :=
  ∃ v, e = .returned (.tuple #[v, .int .i64 er]) ∧ w'.ownsRow w.heap.size 39 3 v l.length (clCs l) ∧ Below w.heap.size w w'
theorem el_clash : El Tryd.prog 33 39 3 3 := El.mk' Tryd.underlying33 (by kernel_rfl) (by decide)

set_option maxHeartbeats 1000000 in
theorem clashes_err (A : Option Addr) (n c : Nat) (l : List Nat) (w : World) (hs : Sl w w.heap.size 1 A n (u8s l)) (he : Dg.err l ≠ 0) :
    Calls Tryd.prog 14 #[.slice A n c] w (ClRet w [] (Dg.err l)) := by
  have hne : (Dg.err l != 0) = true := by simpa using he
  go_enter Tryd.func14, Tryd.ntmps14
  go_wp2_with (first
    | (go_at_call 21; refine (counted_any A n c l _ hs).mono ?_; rintro e w1 ⟨rfl, hb⟩)
    | (refine wpList_store_abs rfl 29 (.tmp 4) (.tmp 12) rfl w1.heap.size (cntA (Dg.pre l)) rfl rfl 29 zer10 (Bk.new _ _ _) (by rw [cntA_size]; exact info_arr10) (by rw [cntA_size]; rfl) (cntA_one _) ?_; intro w2 hk hg))
  go_ret2
  exact ⟨_, rfl, World.ownsRow_nil _ _ _ _, below_store hb hb.size hg⟩

set_option maxRecDepth 100000 in
set_option maxHeartbeats 2000000 in
theorem clashes_ok (A : Option Addr) (n c : Nat) (l : List Nat) (w : World) (ht : TabOK w) (hs : Sl w w.heap.size 1 A n (u8s l)) (he : Dg.err l = 0) :
    Calls Tryd.prog 14 #[.slice A n c] w (ClRet w (Dg.clashes (Dg.pre l)) 0) := by
  have hC := counted_any A n c l w hs
  rw [he] at hC
  generalize Dg.pre l = p at *
  have HC := Lib.hid hC; clear hC he
  have HT := Lib.hid ht; clear ht
  go_enter Tryd.func14, Tryd.ntmps14
  go_wp2_with (first
    | (go_at_call 21; refine HC.out.mono ?_; rintro e w1 ⟨rfl, hb⟩)
    | (refine wpList_store_abs rfl 29 (.tmp 4) (.tmp 12) rfl w1.heap.size (cntA p) rfl rfl 29 zer10 (Bk.new _ _ _) (by rw [cntA_size]; exact info_arr10) (by rw [cntA_size]; rfl) (cntA_one _) ?_; intro w2 hK hg))
  have hb2 := below_store hb hb.size hg
  have hgl := hK.lt
  have hw2 : w.heap.size ≤ w2.heap.size := hb2.size
  clear HC hg hb hs
  generalize w1.heap.size = g at *
  go_loopw [6, 17] (fun v i wr => ∃ a : Nat, a ≤ 10 ∧ i = .int .i64 a ∧ wr.ownsRow w2.heap.size 39 3 v (Dg.clTo p a).length (clCs (Dg.clTo p a)) ∧ Bk wr g 29 (cntA p) ∧ Below w2.heap.size w2 wr) (fun _ i _ => 10 - (intOf i).toNat)
  case atStart => exact ⟨0, Nat.zero_le _, rfl, World.ownsRow_nil _ _ _ _, hK, Below.refl _ _⟩
  case round =>
    obtain ⟨a, ha, rfl, hown, hKr, hbr⟩ := hrel
    by_cases hlt : a < 10
    · have hda : decide ((a : Int) < 10) = true := by simp; omega
      go_wp2
      obtain ⟨wo, rfl⟩ : ∃ wo : World, wo = wr := ⟨_, rfl⟩
      go_loopw [6, 8] (fun v i wi => ∃ k : Nat, k ≤ 10 - a ∧ i = .int .i64 (a + k) ∧ wi.ownsRow w2.heap.size 39 3 v (Dg.clTo p a ++ Dg.clRow p a k).length (clCs (Dg.clTo p a ++ Dg.clRow p a k)) ∧ Bk wi g 29 (cntA p) ∧ Below w2.heap.size w2 wi) (fun _ i _ => 10 - (intOf i).toNat)
      case atStart => exact ⟨0, Nat.zero_le _, by simp, by simpa [Dg.clRow] using hown, hKr, hbr⟩
      case round =>
        obtain ⟨k, hk, rfl, hown, hKr, hbr⟩ := hrel
        by_cases hkl : a + k ≤ 9
        · have ca := (hKr.cell a).trans (cntA_at p a (by omega))
          have cb := (hKr.cell (a + k)).trans (cntA_at p (a + k) (by omega))
          have hcell := (HT.out.below (hb2.trans (hbr.mono hw2)) HT.out.lt) a (a + k) (by omega) (by omega)
          have h3 := Dg.tab_le a (a + k) (by omega) (by omega)
          have hlen1 := Dg.clTo_len p a
          have hlen2 := Dg.clRow_len p a k
          have HS : Hid (Dg.clTo p a ++ Dg.clRow p a (k + 1) = (Dg.clTo p a ++ Dg.clRow p a k) ++ if (decide (0 < Dg.tab a (a + k)) && decide (0 < p.count a) && decide (0 < p.count (a + k)) && (a != a + k || decide (1 < p.count a))) = true then [(a, a + k, Dg.tab a (a + k))] else []) := Lib.hid (by rw [List.append_assoc]; rfl)
          generalize p.count a = qa at *
          generalize p.count (a + k) = qb at *
          generalize Dg.tab a (a + k) = x at *
          generalize hL : Dg.clTo p a ++ Dg.clRow p a k = L at *
          have hLl : L.length ≤ 200 := by rw [← hL]; simp; omega
          clear hL hlen1 hlen2
          have hcases : (x = 0) ∨ (0 < x ∧ qa = 0) ∨ (0 < x ∧ 0 < qa ∧ qb = 0) ∨ (0 < x ∧ 0 < qa ∧ 0 < qb ∧ ¬ 0 < k ∧ qa ≤ 1) ∨ (0 < x ∧ 0 < qa ∧ 0 < qb ∧ 0 < k) ∨ (0 < x ∧ 0 < qa ∧ 0 < qb ∧ ¬ 0 < k ∧ 1 < qa) := by omega
          rcases hcases with rfl | ⟨h1, rfl⟩ | ⟨h1, h2, rfl⟩ | ⟨h1, h2, h4, h5, h6⟩ | ⟨h1, h2, h4, h5⟩ | ⟨h1, h2, h4, h5, h6⟩
          · go_wp2_with fail
            go_roundw
            case rel => exact ⟨k + 1, by omega, by go_num, by rw [HS.out]; simpa using hown, hKr, hbr⟩
            case measure => simp [intOf]; omega
          · go_wp2_with fail
            go_roundw
            case rel => exact ⟨k + 1, by omega, by go_num, by rw [HS.out]; simpa using hown, hKr, hbr⟩
            case measure => simp [intOf]; omega
          · go_wp2_with fail
            go_roundw
            case rel => exact ⟨k + 1, by omega, by go_num, by rw [HS.out]; simpa using hown, hKr, hbr⟩
            case measure => simp [intOf]; omega
          · have hne : ((a : Int) != (a : Int) + (k : Int)) = false := by simp; omega
            go_wp2_with fail
            go_roundw
            case rel => exact ⟨k + 1, by omega, by go_num, by rw [HS.out, if_neg (by simp; omega)]; simpa using hown, hKr, hbr⟩
            case measure => simp [intOf]; omega
          · have hne : ((a : Int) != (a : Int) + (k : Int)) = true := by simp; omega
            go_wp2_with (at_builtin; (refine wpList_append1 el_clash rfl (.tmp 54) (.tmp 65) rfl w2.heap.size _ L.length (clCs L) rfl hown #[.int .u8 a, .int .u8 (a + k), .int .u8 x] _ rfl rfl rfl ?c1 ?c2 ?c3 ?_))
            case c1 => unfold maxLen; omega
            case c2 => omega
            case c3 => exact hbr.size
            intro v' w3 hown' hgr _ hbel
            go_wp2
            go_roundw
            case rel => exact ⟨k + 1, by omega, by go_num, by rw [HS.out, if_pos (by simp; omega)]; simpa [clCs, clC] using hown', hKr.kept hown hgr hgl, hbr.trans hbel⟩
            case measure => simp [intOf]; omega
          · have hne : ((a : Int) != (a : Int) + (k : Int)) = false := by simp; omega
            go_wp2_with (at_builtin; (refine wpList_append1 el_clash rfl (.tmp 54) (.tmp 65) rfl w2.heap.size _ L.length (clCs L) rfl hown #[.int .u8 a, .int .u8 (a + k), .int .u8 x] _ rfl rfl rfl ?c1 ?c2 ?c3 ?_))
            case c1 => unfold maxLen; omega
            case c2 => omega
            case c3 => exact hbr.size
            intro v' w3 hown' hgr _ hbel
            go_wp2
            go_roundw
            case rel => exact ⟨k + 1, by omega, by go_num, by rw [HS.out, if_pos (by simp; omega)]; simpa [clCs, clC] using hown', hKr.kept hown hgr hgl, hbr.trans hbel⟩
            case measure => simp [intOf]; omega

        · have hk' : k = 10 - a := by omega
          subst hk'
          go_wp2
          go_roundw
          case rel => exact ⟨a + 1, by omega, by go_num, hown, hKr, hbr⟩
          case measure => simp [intOf]; omega
    · have ha10 : a = 10 := by omega
      subst ha10
      go_wp2
      go_ret2
      exact ⟨_, rfl, own_mono hown hw2, hb2.trans (hbr.mono hw2)⟩
end Go.Proofs.YtcjnabbggmbfgaaDoor
