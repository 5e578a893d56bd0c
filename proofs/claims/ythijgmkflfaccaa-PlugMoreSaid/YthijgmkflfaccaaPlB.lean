/-
  The walks of plug.only: elements that a closure chooses.
-/
import Derived.Test.YthijgmkflfaccaaPlA
import Derived.Test.YthijgmkflfaccaaStO
namespace Go.Proofs.Ythijgmkflfaccaa
open Go.RowKit

/-- A closure on the elements of a list that reports p. -/
def ElFn {α : Type} (L : α → List Value) (w : World) (l : List α) (fid : FuncId) (caps : Array Value) (p : α → Bool) : Prop :=
  ∀ (x : α) (w' : World), x ∈ l → Below w.heap.size w w' → Calls Try.prog fid (#[.agg (L x).toArray] ++ caps) w' (Ret w' (.bool (p x)))
/-- A slice of the call's own is returned. -/
def OwnL {α : Type} (T : Ty α) (t : TypeId) (w : World) (l : List α) (e : Ending) (w' : World) : Prop := ∃ v, e = .returned v ∧ OwnT T t w' w.heap.size v l ∧ Below w.heap.size w w'
set_option maxRecDepth 100000 in
set_option maxHeartbeats 2000000 in
theorem onlyStw_any (A : Option Addr) (c : Nat) (l : List Stw) (fid : FuncId) (caps : Array Value) (p : Stw → Bool) (w : World) (hs : SlT tStw w (Lt w.heap.size) A l) (hl : l.length ≤ 1000000) (hent : ∀ (args : Array Value) (w : World), (callFunc fid args).run Try.prog w = .ok (.enter fid args) w) (hf : ElFn stwL w l fid caps p) :
    Calls Try.prog 31 #[.slice A l.length c, .func (.func fid) #[] caps] w (OwnL tStw 49 w (l.filter p)) := by
  have HF := Lib.hid hf; clear hf
  have HS := Lib.hid hs; clear hs
  go_enter Try.func31, Try.ntmps31
  go_wp2
  go_loopw [5, 10] (fun v i wr => ∃ (k : Nat) (m : List Stw), k ≤ l.length ∧ i = .int .i64 k ∧ m.length ≤ l.length ∧ Hid (m = (l.take k).filter p) ∧ OwnT tStw 49 wr w.heap.size v m ∧ Below w.heap.size w wr) (fun _ i _ => l.length - (intOf i).toNat)
  case atStart => exact ⟨0, [], Nat.zero_le _, rfl, by simp, Lib.hid (by simp), OwnT.nil, Below.refl _ _⟩
  case round =>
    obtain ⟨k, m, hk, rfl, hm, HM, hown, hb⟩ := hrel
    by_cases hlt : k < l.length
    · obtain ⟨b, off, rfl, hbB, c0, c1, c2, c3⟩ := (HS.out.below hb).stw hlt
      have HP := Lib.hid (filter_take p l hlt default)
      have HLE := Lib.hid (filter_take_len p l (k + 1))
      have hk0 : (0 : Int) ≤ (k : Int) := by omega
      have hk1 : (k : Int) < (l.length : Int) := by omega
      have HMEM := Lib.hid (getD_memD hlt default)
      generalize l.getD k default = x at *
      obtain ⟨x0, x1, x2, x3⟩ := x
      simp only at c0 c1 c2 c3
      have hown' := hown.below (ba1 wr (.cells #[.int .i64 x0, .int .i64 x1, .int .i64 x2, .int .u8 (x3 : Nat)] 49))
      have hx := Bk.new wr 49 #[.int .i64 x0, .int .i64 x1, .int .i64 x2, .int .u8 (x3 : Nat)]
      have hbW := hb.alloc hb.size (.cells #[.int .i64 x0, .int .i64 x1, .int .i64 x2, .int .u8 (x3 : Nat)] 49)
      go_upto_region 5 with fail
      clear hown c0 c1 c2 c3 hb
      generalize wr.heap.size = gx at *
      generalize (wr.alloc _) = W at *
      have HX := Lib.hid hx
      have y0 : W.cell? ⟨gx, 0, none⟩ = some (.int .i64 x0) := hx.cell 0
      have y1 : W.cell? ⟨gx, 1, none⟩ = some (.int .i64 x1) := hx.cell 1
      have y2 : W.cell? ⟨gx, 2, none⟩ = some (.int .i64 x2) := hx.cell 2
      have y3 : W.cell? ⟨gx, 3, none⟩ = some (.int .u8 (x3 : Nat)) := hx.cell 3
      have HC := Lib.hid (HF.out ⟨x0, ⟨x1, x2, x3⟩⟩ W HMEM.out hbW)
      unfold stwL at HC
      simp only at HC
      generalize hpx : p ⟨x0, ⟨x1, x2, x3⟩⟩ = px at *
      have HPX := Lib.hid hpx
      clear hpx hx
      go_wp2_with fail
      refine HC.out.mono ?_
      rintro e w1 ⟨rfl, hb1⟩
      simp only
      clear HC y0 y1 y2 y3
      have hown1 := hown'.below hb1
      have hb2 := hbW.trans (hb1.mono hbW.size)
      have HX1 := HX.out.below hb1 HX.out.lt
      clear hown' hb1 HX
      have hz0 := hb2.size
      cases px with
      | true =>
        obtain ⟨xs, ho, hfl⟩ := hown1
        have y0 : w1.cell? ⟨gx, 0, none⟩ = some (.int .i64 x0) := HX1.cell 0
        have y1 : w1.cell? ⟨gx, 1, none⟩ = some (.int .i64 x1) := HX1.cell 1
        have y2 : w1.cell? ⟨gx, 2, none⟩ = some (.int .i64 x2) := HX1.cell 2
        have y3 : w1.cell? ⟨gx, 3, none⟩ = some (.int .u8 (x3 : Nat)) := HX1.cell 3
        clear HX1
        have HQ := HLE.out
        rw [HP.out, ← HM.out] at HQ
        simp at HQ
        go_wp2_with (at_builtin; (refine wpList_append1 el_stw rfl (.tmp 17) (.tmp 19) rfl w.heap.size _ m.length xs rfl ho #[.int .i64 x0, .int .i64 x1, .int .i64 x2, .int .u8 (x3 : Nat)] _ rfl rfl rfl ?c1 ?c2 ?c3 ?_))
        case c1 => unfold maxLen; omega
        case c2 => omega
        intro v' w3 hown' hgr hd3 hbel
        go_wp2
        go_roundw
        case rel => exact ⟨k + 1, m ++ [⟨x0, ⟨x1, x2, x3⟩⟩], by omega, by go_num, by simp; omega, Lib.hid (by rw [HP.out, HM.out]; rfl), OwnT.append1 (T := tStw) (x := ⟨x0, ⟨x1, x2, x3⟩⟩) hfl (cs := stwL ⟨x0, ⟨x1, x2, x3⟩⟩) rfl hown' hgr hd3, hb2.trans hbel⟩
        case measure => simp [intOf]; omega
      | false =>
        have HM2 : Hid (m = (l.take (k + 1)).filter p) := Lib.hid (by rw [HP.out, HM.out]; simp)
        go_wp2
        go_roundw
        case rel => exact ⟨k + 1, m, by omega, by go_num, hm, HM2, hown1, hb2⟩
        case measure => simp [intOf]; omega
    · have hkn : m = l.filter p := by rw [HM.out, List.take_of_length_le (by omega)]
      subst hkn
      go_wp2
      go_ret
      exact ⟨_, rfl, hown, hb⟩
set_option maxRecDepth 100000 in
set_option maxHeartbeats 2000000 in
theorem onlySlt_any (A : Option Addr) (c : Nat) (l : List Slt) (fid : FuncId) (caps : Array Value) (p : Slt → Bool) (w : World) (hs : SlT tSlt w (Lt w.heap.size) A l) (hl : l.length ≤ 1000000) (hent : ∀ (args : Array Value) (w : World), (callFunc fid args).run Try.prog w = .ok (.enter fid args) w) (hf : ElFn sltL w l fid caps p) :
    Calls Try.prog 36 #[.slice A l.length c, .func (.func fid) #[] caps] w (OwnL tSlt 47 w (l.filter p)) := by
  have HF := Lib.hid hf; clear hf
  have HS := Lib.hid hs; clear hs
  go_enter Try.func36, Try.ntmps36
  go_wp2
  go_loopw [5, 10] (fun v i wr => ∃ (k : Nat) (m : List Slt), k ≤ l.length ∧ i = .int .i64 k ∧ m.length ≤ l.length ∧ Hid (m = (l.take k).filter p) ∧ OwnT tSlt 47 wr w.heap.size v m ∧ Below w.heap.size w wr) (fun _ i _ => l.length - (intOf i).toNat)
  case atStart => exact ⟨0, [], Nat.zero_le _, rfl, by simp, Lib.hid (by simp), OwnT.nil, Below.refl _ _⟩
  case round =>
    obtain ⟨k, m, hk, rfl, hm, HM, hown, hb⟩ := hrel
    by_cases hlt : k < l.length
    · obtain ⟨b, off, rfl, hbB, c0, c1, c2⟩ := (HS.out.below hb).slt hlt
      have HP := Lib.hid (filter_take p l hlt default)
      have HLE := Lib.hid (filter_take_len p l (k + 1))
      have hk0 : (0 : Int) ≤ (k : Int) := by omega
      have hk1 : (k : Int) < (l.length : Int) := by omega
      have HMEM := Lib.hid (getD_memD hlt default)
      generalize l.getD k default = x at *
      obtain ⟨x0, x1, x2⟩ := x
      simp only at c0 c1 c2
      have hown' := hown.below (ba1 wr (.cells #[.int .i64 x0, .int .i64 x1, .int .u8 (x2 : Nat)] 47))
      have hx := Bk.new wr 47 #[.int .i64 x0, .int .i64 x1, .int .u8 (x2 : Nat)]
      have hbW := hb.alloc hb.size (.cells #[.int .i64 x0, .int .i64 x1, .int .u8 (x2 : Nat)] 47)
      go_upto_region 5 with fail
      clear hown c0 c1 c2 hb
      generalize wr.heap.size = gx at *
      generalize (wr.alloc _) = W at *
      have HX := Lib.hid hx
      have y0 : W.cell? ⟨gx, 0, none⟩ = some (.int .i64 x0) := hx.cell 0
      have y1 : W.cell? ⟨gx, 1, none⟩ = some (.int .i64 x1) := hx.cell 1
      have y2 : W.cell? ⟨gx, 2, none⟩ = some (.int .u8 (x2 : Nat)) := hx.cell 2
      have HC := Lib.hid (HF.out ⟨x0, x1, x2⟩ W HMEM.out hbW)
      unfold sltL at HC
      simp only at HC
      generalize hpx : p ⟨x0, x1, x2⟩ = px at *
      have HPX := Lib.hid hpx
      clear hpx hx
      go_wp2_with fail
      refine HC.out.mono ?_
      rintro e w1 ⟨rfl, hb1⟩
      simp only
      clear HC y0 y1 y2
      have hown1 := hown'.below hb1
      have hb2 := hbW.trans (hb1.mono hbW.size)
      have HX1 := HX.out.below hb1 HX.out.lt
      clear hown' hb1 HX
      have hz0 := hb2.size
      cases px with
      | true =>
        obtain ⟨xs, ho, hfl⟩ := hown1
        have y0 : w1.cell? ⟨gx, 0, none⟩ = some (.int .i64 x0) := HX1.cell 0
        have y1 : w1.cell? ⟨gx, 1, none⟩ = some (.int .i64 x1) := HX1.cell 1
        have y2 : w1.cell? ⟨gx, 2, none⟩ = some (.int .u8 (x2 : Nat)) := HX1.cell 2
        clear HX1
        have HQ := HLE.out
        rw [HP.out, ← HM.out] at HQ
        simp at HQ
        go_wp2_with (at_builtin; (refine wpList_append1 el_slt rfl (.tmp 17) (.tmp 19) rfl w.heap.size _ m.length xs rfl ho #[.int .i64 x0, .int .i64 x1, .int .u8 (x2 : Nat)] _ rfl rfl rfl ?c1 ?c2 ?c3 ?_))
        case c1 => unfold maxLen; omega
        case c2 => omega
        intro v' w3 hown' hgr hd3 hbel
        go_wp2
        go_roundw
        case rel => exact ⟨k + 1, m ++ [⟨x0, x1, x2⟩], by omega, by go_num, by simp; omega, Lib.hid (by rw [HP.out, HM.out]; rfl), OwnT.append1 (T := tSlt) (x := ⟨x0, x1, x2⟩) hfl (cs := sltL ⟨x0, x1, x2⟩) rfl hown' hgr hd3, hb2.trans hbel⟩
        case measure => simp [intOf]; omega
      | false =>
        have HM2 : Hid (m = (l.take (k + 1)).filter p) := Lib.hid (by rw [HP.out, HM.out]; simp)
        go_wp2
        go_roundw
        case rel => exact ⟨k + 1, m, by omega, by go_num, hm, HM2, hown1, hb2⟩
        case measure => simp [intOf]; omega
    · have hkn : m = l.filter p := by rw [HM.out, List.take_of_length_le (by omega)]
      subst hkn
      go_wp2
      go_ret
      exact ⟨_, rfl, hown, hb⟩
set_option maxRecDepth 100000 in
set_option maxHeartbeats 2000000 in
theorem onlyBx_any (A : Option Addr) (c : Nat) (l : List Bx) (fid : FuncId) (caps : Array Value) (p : Bx → Bool) (w : World) (hs : SlT tBx w (Lt w.heap.size) A l) (hl : l.length ≤ 1000000) (hent : ∀ (args : Array Value) (w : World), (callFunc fid args).run Try.prog w = .ok (.enter fid args) w) (hf : ElFn bxL w l fid caps p) :
    Calls Try.prog 49 #[.slice A l.length c, .func (.func fid) #[] caps] w (OwnL tBx 51 w (l.filter p)) := by
  have HF := Lib.hid hf; clear hf
  have HS := Lib.hid hs; clear hs
  go_enter Try.func49, Try.ntmps49
  go_wp2
  go_loopw [5, 10] (fun v i wr => ∃ (k : Nat) (m : List Bx), k ≤ l.length ∧ i = .int .i64 k ∧ m.length ≤ l.length ∧ Hid (m = (l.take k).filter p) ∧ OwnT tBx 51 wr w.heap.size v m ∧ Below w.heap.size w wr) (fun _ i _ => l.length - (intOf i).toNat)
  case atStart => exact ⟨0, [], Nat.zero_le _, rfl, by simp, Lib.hid (by simp), OwnT.nil, Below.refl _ _⟩
  case round =>
    obtain ⟨k, m, hk, rfl, hm, HM, hown, hb⟩ := hrel
    by_cases hlt : k < l.length
    · obtain ⟨b, off, rfl, hbB, hc⟩ := (HS.out.below hb).bx hlt
      have HP := Lib.hid (filter_take p l hlt zBx)
      have HLE := Lib.hid (filter_take_len p l (k + 1))
      have hk0 : (0 : Int) ≤ (k : Int) := by omega
      have hk1 : (k : Int) < (l.length : Int) := by omega
      have HMEM := Lib.hid (getD_memD hlt zBx)
      generalize l.getD k zBx = x at *
      obtain ⟨x0, x1, x2, x3, x4, x5, x6, x7, x8⟩ := x
      unfold bxL at hc
      simp only at hc
      have c0 : wr.cell? ⟨b, off + k * 9, none⟩ = some (.int .i64 x0) := hc 0 _ rfl
      have c1 : wr.cell? ⟨b, off + k * 9 + 1, none⟩ = some (.string x1) := hc 1 _ rfl
      have c2 : wr.cell? ⟨b, off + k * 9 + 2, none⟩ = some (.int .u8 (x2 : Nat)) := hc 2 _ rfl
      have c3 : wr.cell? ⟨b, off + k * 9 + 3, none⟩ = some (.bool x3) := hc 3 _ rfl
      have c4 : wr.cell? ⟨b, off + k * 9 + 4, none⟩ = some (.int .i64 x4) := hc 4 _ rfl
      have c5 : wr.cell? ⟨b, off + k * 9 + 5, none⟩ = some (.int .i64 x5) := hc 5 _ rfl
      have c6 : wr.cell? ⟨b, off + k * 9 + 6, none⟩ = some (.int .i64 x6) := hc 6 _ rfl
      have c7 : wr.cell? ⟨b, off + k * 9 + 7, none⟩ = some (.int .u8 (x7 : Nat)) := hc 7 _ rfl
      have c8 : wr.cell? ⟨b, off + k * 9 + 8, none⟩ = some (.bool x8) := hc 8 _ rfl
      clear hc
      have hown' := hown.below (ba1 wr (.cells #[.int .i64 x0, .string x1, .int .u8 (x2 : Nat), .bool x3, .int .i64 x4, .int .i64 x5, .int .i64 x6, .int .u8 (x7 : Nat), .bool x8] 51))
      have hx := Bk.new wr 51 #[.int .i64 x0, .string x1, .int .u8 (x2 : Nat), .bool x3, .int .i64 x4, .int .i64 x5, .int .i64 x6, .int .u8 (x7 : Nat), .bool x8]
      have hbW := hb.alloc hb.size (.cells #[.int .i64 x0, .string x1, .int .u8 (x2 : Nat), .bool x3, .int .i64 x4, .int .i64 x5, .int .i64 x6, .int .u8 (x7 : Nat), .bool x8] 51)
      go_upto_region 5 with fail
      clear hown c0 c1 c2 c3 c4 c5 c6 c7 c8 hb
      generalize wr.heap.size = gx at *
      generalize (wr.alloc _) = W at *
      have HX := Lib.hid hx
      have y0 : W.cell? ⟨gx, 0, none⟩ = some (.int .i64 x0) := hx.cell 0
      have y1 : W.cell? ⟨gx, 1, none⟩ = some (.string x1) := hx.cell 1
      have y2 : W.cell? ⟨gx, 2, none⟩ = some (.int .u8 (x2 : Nat)) := hx.cell 2
      have y3 : W.cell? ⟨gx, 3, none⟩ = some (.bool x3) := hx.cell 3
      have y4 : W.cell? ⟨gx, 4, none⟩ = some (.int .i64 x4) := hx.cell 4
      have y5 : W.cell? ⟨gx, 5, none⟩ = some (.int .i64 x5) := hx.cell 5
      have y6 : W.cell? ⟨gx, 6, none⟩ = some (.int .i64 x6) := hx.cell 6
      have y7 : W.cell? ⟨gx, 7, none⟩ = some (.int .u8 (x7 : Nat)) := hx.cell 7
      have y8 : W.cell? ⟨gx, 8, none⟩ = some (.bool x8) := hx.cell 8
      have HC := Lib.hid (HF.out ⟨x0, x1, x2, x3, x4, x5, x6, x7, x8⟩ W HMEM.out hbW)
      unfold bxL at HC
      simp only at HC
      generalize hpx : p ⟨x0, x1, x2, x3, x4, x5, x6, x7, x8⟩ = px at *
      have HPX := Lib.hid hpx
      clear hpx hx
      go_wp2_with fail
      refine HC.out.mono ?_
      rintro e w1 ⟨rfl, hb1⟩
      simp only
      clear HC y0 y1 y2 y3 y4 y5 y6 y7 y8
      have hown1 := hown'.below hb1
      have hb2 := hbW.trans (hb1.mono hbW.size)
      have HX1 := HX.out.below hb1 HX.out.lt
      clear hown' hb1 HX
      have hz0 := hb2.size
      cases px with
      | true =>
        obtain ⟨xs, ho, hfl⟩ := hown1
        have y0 : w1.cell? ⟨gx, 0, none⟩ = some (.int .i64 x0) := HX1.cell 0
        have y1 : w1.cell? ⟨gx, 1, none⟩ = some (.string x1) := HX1.cell 1
        have y2 : w1.cell? ⟨gx, 2, none⟩ = some (.int .u8 (x2 : Nat)) := HX1.cell 2
        have y3 : w1.cell? ⟨gx, 3, none⟩ = some (.bool x3) := HX1.cell 3
        have y4 : w1.cell? ⟨gx, 4, none⟩ = some (.int .i64 x4) := HX1.cell 4
        have y5 : w1.cell? ⟨gx, 5, none⟩ = some (.int .i64 x5) := HX1.cell 5
        have y6 : w1.cell? ⟨gx, 6, none⟩ = some (.int .i64 x6) := HX1.cell 6
        have y7 : w1.cell? ⟨gx, 7, none⟩ = some (.int .u8 (x7 : Nat)) := HX1.cell 7
        have y8 : w1.cell? ⟨gx, 8, none⟩ = some (.bool x8) := HX1.cell 8
        clear HX1
        have HQ := HLE.out
        rw [HP.out, ← HM.out] at HQ
        simp at HQ
        go_wp2_with (at_builtin; (refine wpList_append1 el_bx rfl (.tmp 17) (.tmp 19) rfl w.heap.size _ m.length xs rfl ho #[.int .i64 x0, .string x1, .int .u8 (x2 : Nat), .bool x3, .int .i64 x4, .int .i64 x5, .int .i64 x6, .int .u8 (x7 : Nat), .bool x8] _ rfl rfl rfl ?c1 ?c2 ?c3 ?_))
        case c1 => unfold maxLen; omega
        case c2 => omega
        intro v' w3 hown' hgr hd3 hbel
        go_wp2
        go_roundw
        case rel => exact ⟨k + 1, m ++ [⟨x0, x1, x2, x3, x4, x5, x6, x7, x8⟩], by omega, by go_num, by simp; omega, Lib.hid (by rw [HP.out, HM.out]; rfl), OwnT.append1 (T := tBx) (x := ⟨x0, x1, x2, x3, x4, x5, x6, x7, x8⟩) hfl (cs := bxL ⟨x0, x1, x2, x3, x4, x5, x6, x7, x8⟩) rfl hown' hgr hd3, hb2.trans hbel⟩
        case measure => simp [intOf]; omega
      | false =>
        have HM2 : Hid (m = (l.take (k + 1)).filter p) := Lib.hid (by rw [HP.out, HM.out]; simp)
        go_wp2
        go_roundw
        case rel => exact ⟨k + 1, m, by omega, by go_num, hm, HM2, hown1, hb2⟩
        case measure => simp [intOf]; omega
    · have hkn : m = l.filter p := by rw [HM.out, List.take_of_length_le (by omega)]
      subst hkn
      go_wp2
      go_ret
      exact ⟨_, rfl, hown, hb⟩
end Go.Proofs.Ythijgmkflfaccaa
