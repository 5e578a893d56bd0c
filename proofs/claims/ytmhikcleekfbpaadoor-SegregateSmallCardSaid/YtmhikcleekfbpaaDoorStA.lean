/-
  Boxes and what is stowed as structures; walks of package stow: Find, tall; slices.IndexFunc over boxes.
-/
import Derived.Test.YtmhikcleekfbpaaDoorB4
namespace Go.Proofs.YtmhikcleekfbpaaDoor
open Go.RowKit

structure Bx where
  id : Int
  num : ByteArray
  size : Nat
  high : Bool
  kilos : Int
  load : Int
  disch : Int
  cls : Nat
  reefer : Bool
def zBx : Bx := ⟨0, ⟨#[]⟩, 0, false, 0, 0, 0, 0, false⟩
instance : Inhabited Bx := ⟨zBx⟩
def bxL (b : Bx) : List Value := [.int .i64 b.id, .string b.num, .int .u8 (b.size : Nat), .bool b.high, .int .i64 b.kilos, .int .i64 b.load, .int .i64 b.disch, .int .u8 (b.cls : Nat), .bool b.reefer]
def tBx : Ty Bx where
  k := 9
  pos := by decide
  rd := fun _ _ cs x => cs = bxL x
  len := by rintro _ _ _ _ rfl; rfl
  one := by rintro _ _ _ _ rfl; rfl
  keep := fun h _ => h
  more := fun h _ => h
structure Stw where
  box : Int
  slot : Slt
  deriving DecidableEq, Inhabited
def stwL (x : Stw) : List Value := [.int .i64 x.box, .int .i64 x.slot.col, .int .i64 x.slot.tier, .int .u8 (x.slot.half : Nat)]
def tStw : Ty Stw where
  k := 4
  pos := by decide
  rd := fun _ _ cs x => cs = stwL x
  len := by rintro _ _ _ _ rfl; rfl
  one := by rintro _ _ _ _ rfl; rfl
  keep := fun h _ => h
  more := fun h _ => h
theorem SlT.stw {w : World} {S : Nat → Prop} {A : Option Addr} {l : List Stw} (h : SlT tStw w S A l) {j : Nat} (hj : j < l.length) :
    ∃ b off, A = some ⟨b, off, none⟩ ∧ S b ∧ w.cell? ⟨b, off + j * 4, none⟩ = some (.int .i64 (l.getD j default).box) ∧ w.cell? ⟨b, off + j * 4 + 1, none⟩ = some (.int .i64 (l.getD j default).slot.col) ∧
      w.cell? ⟨b, off + j * 4 + 2, none⟩ = some (.int .i64 (l.getD j default).slot.tier) ∧ w.cell? ⟨b, off + j * 4 + 3, none⟩ = some (.int .u8 ((l.getD j default).slot.half : Nat)) := by
  obtain ⟨b, off, cs, e, hb, h1, h2⟩ := h.at_ hj default
  rw [show cs = _ from h1] at h2
  exact ⟨b, off, e, hb, h2 0 _ rfl, h2 1 _ rfl, h2 2 _ rfl, h2 3 _ rfl⟩
theorem SlT.bx {w : World} {S : Nat → Prop} {A : Option Addr} {l : List Bx} (h : SlT tBx w S A l) {j : Nat} (hj : j < l.length) :
    ∃ b off, A = some ⟨b, off, none⟩ ∧ S b ∧ ∀ i u, (bxL (l.getD j zBx))[i]? = some u → w.cell? ⟨b, off + j * 9 + i, none⟩ = some u := by
  obtain ⟨b, off, cs, e, hb, h1, h2⟩ := h.at_ hj zBx
  rw [show cs = _ from h1] at h2
  exact ⟨b, off, e, hb, h2⟩
/-- The first box with an ID. -/
def idB (id : Int) (b : Bx) : Bool := b.id == id
def findBx (l : List Bx) (id : Int) : Bx × Bool := if idxF (idB id) l < 0 then (zBx, false) else (l.getD (idxF (idB id) l).toNat zBx, true)
def tallB (b : Bx) : Int := if b.high then 2896 else 2591
theorem find_some {l : List Bx} {id : Int} {b : Bx} (h : findBx l id = (b, true)) : b ∈ l ∧ b.id = id := by
  unfold findBx at h
  split at h
  · cases h
  · rename_i hn
    injection h with h1 _
    unfold idxF at hn h1
    cases h2 : l.findIdx? (idB id) with
    | none => rw [h2] at hn; exact absurd (by decide) hn
    | some i =>
      rw [h2] at h1
      obtain ⟨hi, hp, _⟩ := List.findIdx?_eq_some_iff_getElem.1 h2
      simp only [Int.toNat_natCast] at h1
      rw [List.getD_eq_getElem?_getD, List.getElem?_eq_getElem hi] at h1
      simp only [Option.getD_some] at h1
      subst h1
      exact ⟨List.getElem_mem hi, by simpa [idB] using hp⟩
theorem find_of_mem {l : List Bx} (hn : (l.map (·.id)).Nodup) {b : Bx} (hb : b ∈ l) : findBx l b.id = (b, true) := by
  obtain ⟨i, hi, rfl⟩ := List.getElem_of_mem hb
  have h2 : l.findIdx? (idB l[i].id) = some i := by
    rw [List.findIdx?_eq_some_iff_getElem]
    refine ⟨hi, by simp [idB], fun j hj => ?_⟩
    simp only [idB, Bool.not_eq_true, beq_eq_false_iff_ne]
    intro e
    exact (List.pairwise_iff_getElem.1 hn) j i (by simp; omega) (by simpa using hi) hj (by simpa using e)
  unfold findBx idxF
  rw [h2]
  simp [hi, List.getD_eq_getElem?_getD]
theorem idx_cases {α : Type} (p : α → Bool) (l : List α) : idxF p l = -1 ∨ ∃ k : Nat, k < l.length ∧ idxF p l = (k : Int) := by
  unfold idxF
  cases h : l.findIdx? p with
  | none => exact .inl rfl
  | some i => exact .inr ⟨i, (List.findIdx?_eq_some_iff_getElem.1 h).1, rfl⟩
/-- A closure on boxes that reports p. -/
def BxFn (w : World) (l : List Bx) (fid : FuncId) (caps : Array Value) (p : Bx → Bool) : Prop :=
  ∀ (b : Bx) (w' : World), b ∈ l → Below w.heap.size w w' → Calls Tryd.prog fid (#[.agg (bxL b).toArray] ++ caps) w' (Ret w' (.bool (p b)))
set_option maxRecDepth 100000 in
set_option maxHeartbeats 2000000 in
theorem indexFuncBx_any (A : Option Addr) (c : Nat) (l : List Bx) (fid : FuncId) (caps : Array Value) (p : Bx → Bool) (w : World) (hs : SlT tBx w (Lt w.heap.size) A l) (hl : l.length ≤ 1000000) (hent : ∀ (args : Array Value) (w : World), (callFunc fid args).run Tryd.prog w = .ok (.enter fid args) w) (hf : BxFn w l fid caps p) :
    Calls Tryd.prog 58 #[.slice A l.length c, .func (.func fid) #[] caps] w (Ret w (.int .i64 (idxF p l))) := by
  have HF := Lib.hid hf; clear hf
  have HS := Lib.hid hs; clear hs
  go_enter Tryd.func58, Tryd.ntmps58
  go_wp2
  go_loopw [8] (fun i wr => ∃ k : Nat, k ≤ l.length ∧ i = .int .i64 k ∧ Below w.heap.size w wr ∧ Hid (Before p l zBx k)) (fun i _ => l.length - (intOf i).toNat)
  case atStart => exact ⟨0, Nat.zero_le _, rfl, Below.refl _ _, Lib.hid .zero⟩
  case round =>
    obtain ⟨k, hk, rfl, hb, HB⟩ := hrel
    by_cases hlt : k < l.length
    · obtain ⟨b, off, rfl, hbB, hc⟩ := (HS.out.below hb).bx hlt
      have hk0 : (0 : Int) ≤ (k : Int) := by omega
      have hk1 : (k : Int) < (l.length : Int) := by omega
      have HMEM := Lib.hid (getD_memD hlt zBx)
      have HC := Lib.hid (HF.out (l.getD k zBx) wr HMEM.out hb)
      have HT := Lib.hid (fun hp => idx_some (p := p) zBx hlt hp HB.out)
      have HN := Lib.hid (fun hp => HB.out.succ (k := k) hp)
      clear HB HMEM
      generalize hx : l.getD k zBx = x at *
      clear hx
      obtain ⟨b0, b1, b2, b3, b4, b5, b6, b7, b8⟩ := x
      unfold bxL at HC hc
      simp only at HC hc
      have c0 : wr.cell? ⟨b, off + k * 9, none⟩ = some (.int .i64 b0) := hc 0 _ rfl
      have c1 : wr.cell? ⟨b, off + k * 9 + 1, none⟩ = some (.string b1) := hc 1 _ rfl
      have c2 : wr.cell? ⟨b, off + k * 9 + 2, none⟩ = some (.int .u8 (b2 : Nat)) := hc 2 _ rfl
      have c3 : wr.cell? ⟨b, off + k * 9 + 3, none⟩ = some (.bool b3) := hc 3 _ rfl
      have c4 : wr.cell? ⟨b, off + k * 9 + 4, none⟩ = some (.int .i64 b4) := hc 4 _ rfl
      have c5 : wr.cell? ⟨b, off + k * 9 + 5, none⟩ = some (.int .i64 b5) := hc 5 _ rfl
      have c6 : wr.cell? ⟨b, off + k * 9 + 6, none⟩ = some (.int .i64 b6) := hc 6 _ rfl
      have c7 : wr.cell? ⟨b, off + k * 9 + 7, none⟩ = some (.int .u8 (b7 : Nat)) := hc 7 _ rfl
      have c8 : wr.cell? ⟨b, off + k * 9 + 8, none⟩ = some (.bool b8) := hc 8 _ rfl
      clear hc
      generalize p ⟨b0, b1, b2, b3, b4, b5, b6, b7, b8⟩ = px at *
      go_wp2_with fail
      refine HC.out.mono ?_
      rintro e w1 ⟨rfl, hb1⟩
      clear HC c0 c1 c2 c3 c4 c5 c6 c7 c8
      cases px with
      | true =>
        go_wp2
        go_ret
        exact ⟨by rw [show idxF p l = (k : Int) from by first | exact HT.out rfl | exact HT.out trivial]; rfl, hb.trans (hb1.mono hb.size)⟩
      | false =>
        go_wp2
        go_roundw
        case rel => exact ⟨k + 1, by omega, by go_num, hb.trans (hb1.mono hb.size), Lib.hid (by first | exact HN.out rfl | exact HN.out trivial)⟩
        case measure => simp [intOf]; omega
    · have HE := Lib.hid (idx_none (p := p) zBx (fun i hi => HB.out i (by omega)))
      go_wp2
      go_ret
      exact ⟨by rw [HE.out]; rfl, hb⟩
set_option maxRecDepth 100000 in
theorem stowFind1 (b : Bx) (id : Int) (g : Nat) (w : World) (h : w.cell? ⟨g, 0, none⟩ = some (.int .i64 id)) :
    Calls Tryd.prog 59 #[.agg (bxL b).toArray, .pointer (some ⟨g, 0, none⟩)] w (Ret w (.bool (idB id b))) := by
  obtain ⟨b0, b1, b2, b3, b4, b5, b6, b7, b8⟩ := b
  unfold idB bxL
  simp only
  have hg := block_lt_of_cell h
  simp only at hg
  go_enter Tryd.func59, Tryd.ntmps59
  go_wp2
  go_ret
  exact ⟨rfl, ba1 w _⟩
theorem info_bx : (Tryd.prog.info? 41).map (·.size) = some 9 := by kernel_rfl
theorem set9 {W : World} {g : Nat} {t : TypeId} {cs : Array Value} (h : Bk W g t cs) (v0 v1 v2 v3 v4 v5 v6 v7 v8 : Value) (hz : cs.size = 9) : Bk (((((((((W.setCell ⟨g, 0, none⟩ v0).setCell ⟨g, 1, none⟩ v1).setCell ⟨g, 2, none⟩ v2).setCell ⟨g, 3, none⟩ v3).setCell ⟨g, 4, none⟩ v4).setCell ⟨g, 5, none⟩ v5).setCell ⟨g, 6, none⟩ v6).setCell ⟨g, 7, none⟩ v7).setCell ⟨g, 8, none⟩ v8) g t #[v0, v1, v2, v3, v4, v5, v6, v7, v8] := by
  have h9 := ((((((((h.set_ 0 v0).set_ 1 v1).set_ 2 v2).set_ 3 v3).set_ 4 v4).set_ 5 v5).set_ 6 v6).set_ 7 v7).set_ 8 v8
  have e : ∀ cs : Array Value, cs.size = 9 → ((((((((cs.setIfInBounds 0 v0).setIfInBounds 1 v1).setIfInBounds 2 v2).setIfInBounds 3 v3).setIfInBounds 4 v4).setIfInBounds 5 v5).setIfInBounds 6 v6).setIfInBounds 7 v7).setIfInBounds 8 v8 = #[v0, v1, v2, v3, v4, v5, v6, v7, v8] := by
    rintro ⟨l⟩ hz
    match l, hz with
    | [_, _, _, _, _, _, _, _, _], _ => simp
  rw [e cs hz] at h9
  exact h9
theorem be_set9 {w W : World} {B g : Nat} (h : Below B w W) (hg : B ≤ g) (v0 v1 v2 v3 v4 v5 v6 v7 v8 : Value) : Below B w (((((((((W.setCell ⟨g, 0, none⟩ v0).setCell ⟨g, 1, none⟩ v1).setCell ⟨g, 2, none⟩ v2).setCell ⟨g, 3, none⟩ v3).setCell ⟨g, 4, none⟩ v4).setCell ⟨g, 5, none⟩ v5).setCell ⟨g, 6, none⟩ v6).setCell ⟨g, 7, none⟩ v7).setCell ⟨g, 8, none⟩ v8) :=
  ((((((((h.setCell (p := ⟨g, 0, none⟩) hg v0).setCell (p := ⟨g, 1, none⟩) hg v1).setCell (p := ⟨g, 2, none⟩) hg v2).setCell (p := ⟨g, 3, none⟩) hg v3).setCell (p := ⟨g, 4, none⟩) hg v4).setCell (p := ⟨g, 5, none⟩) hg v5).setCell (p := ⟨g, 6, none⟩) hg v6).setCell (p := ⟨g, 7, none⟩) hg v7).setCell (p := ⟨g, 8, none⟩) hg v8
set_option maxRecDepth 100000 in
set_option maxHeartbeats 2000000 in
theorem stowFind_any (A : Option Addr) (c : Nat) (l : List Bx) (id : Int) (w : World) (hs : SlT tBx w (Lt w.heap.size) A l) (hl : l.length ≤ 1000000) :
    Calls Tryd.prog 42 #[.slice A l.length c, .int .i64 id] w (Ret w (.tuple #[.agg (bxL (findBx l id).1).toArray, .bool (findBx l id).2])) := by
  have HS := Lib.hid hs; clear hs
  have HV : Hid (findBx l id = if idxF (idB id) l < 0 then (zBx, false) else (l.getD (idxF (idB id) l).toNat zBx, true)) := Lib.hid rfl
  go_enter Tryd.func42, Tryd.ntmps42
  go_wp2_with fail
  have hb0 := ba2 w (.cells #[.int .i64 id] 3) (.cells (bxL zBx).toArray 41)
  refine (indexFuncBx_any A c l 59 _ (idB id) _ ?_ hl Tryd.call59 ?_).mono ?_
  · exact (HS.out.below hb0).up hb0.size
  · intro b w' _ hb'
    have k1 := (Bk.new w 3 #[.int .i64 id]).alloc (.cells (bxL zBx).toArray 41)
    exact stowFind1 b id _ w' ((k1.below hb' k1.lt).cell 0)
  · rintro e w1 ⟨rfl, hb1⟩
    have kz : Bk w1 (w.heap.size + 1) 41 (bxL zBx).toArray := by
      have := Bk.new (w.alloc (.cells #[.int .i64 id] 3)) 41 (bxL zBx).toArray
      rw [World.size_alloc] at this
      exact this.below hb1 (by simp)
    have hb := hb0.trans (hb1.mono hb0.size)
    have HSW := Lib.hid (HS.out.below hb)
    clear hb0 hb1 HS
    have z0 : w1.cell? ⟨w.heap.size + 1, 0, none⟩ = some (.int .i64 0) := kz.cell 0
    have f0 := kz.frozen 0
    have z1 : w1.cell? ⟨w.heap.size + 1, 1, none⟩ = some (.string ⟨#[]⟩) := kz.cell 1
    have f1 := kz.frozen 1
    have z2 : w1.cell? ⟨w.heap.size + 1, 2, none⟩ = some (.int .u8 0) := kz.cell 2
    have f2 := kz.frozen 2
    have z3 : w1.cell? ⟨w.heap.size + 1, 3, none⟩ = some (.bool false) := kz.cell 3
    have f3 := kz.frozen 3
    have z4 : w1.cell? ⟨w.heap.size + 1, 4, none⟩ = some (.int .i64 0) := kz.cell 4
    have f4 := kz.frozen 4
    have z5 : w1.cell? ⟨w.heap.size + 1, 5, none⟩ = some (.int .i64 0) := kz.cell 5
    have f5 := kz.frozen 5
    have z6 : w1.cell? ⟨w.heap.size + 1, 6, none⟩ = some (.int .i64 0) := kz.cell 6
    have f6 := kz.frozen 6
    have z7 : w1.cell? ⟨w.heap.size + 1, 7, none⟩ = some (.int .u8 0) := kz.cell 7
    have f7 := kz.frozen 7
    have z8 : w1.cell? ⟨w.heap.size + 1, 8, none⟩ = some (.bool false) := kz.cell 8
    have f8 := kz.frozen 8
    rcases idx_cases (idB id) l with hn | ⟨k, hk, hn⟩
    · rw [hn]
      have HVN : Hid (findBx l id = (zBx, false)) := Lib.hid (by rw [HV.out, if_pos (by rw [hn]; decide)])
      clear HV hn
      go_wp2
      refine bodyPost_ret (results_row_tmp rfl _ _ (w.heap.size + 1) 41 #[.int .i64 0, .string ⟨#[]⟩, .int .u8 0, .bool false, .int .i64 0, .int .i64 0, .int .i64 0, .int .u8 0, .bool false] _ rfl (set9 kz _ _ _ _ _ _ _ _ _ rfl) Tryd.underlying41 rfl info_bx) rfl ?_
      exact ⟨by rw [HVN.out]; rfl, be_set9 hb (Nat.le_succ _) _ _ _ _ _ _ _ _ _⟩
    · rw [hn]
      obtain ⟨b, off, rfl, hbB, hc⟩ := HSW.out.bx hk
      have HVN : Hid (findBx l id = (l.getD k zBx, true)) := Lib.hid (by rw [HV.out, if_neg (by rw [hn]; omega), hn]; rfl)
      clear HV hn
      have hk0 : (0 : Int) ≤ (k : Int) := by omega
      have hk1 : (k : Int) < (l.length : Int) := by omega
      generalize l.getD k zBx = x at *
      obtain ⟨b0, b1, b2, b3, b4, b5, b6, b7, b8⟩ := x
      unfold bxL at hc
      simp only at hc
      have c0 : w1.cell? ⟨b, off + k * 9, none⟩ = some (.int .i64 b0) := hc 0 _ rfl
      have c1 : w1.cell? ⟨b, off + k * 9 + 1, none⟩ = some (.string b1) := hc 1 _ rfl
      have c2 : w1.cell? ⟨b, off + k * 9 + 2, none⟩ = some (.int .u8 (b2 : Nat)) := hc 2 _ rfl
      have c3 : w1.cell? ⟨b, off + k * 9 + 3, none⟩ = some (.bool b3) := hc 3 _ rfl
      have c4 : w1.cell? ⟨b, off + k * 9 + 4, none⟩ = some (.int .i64 b4) := hc 4 _ rfl
      have c5 : w1.cell? ⟨b, off + k * 9 + 5, none⟩ = some (.int .i64 b5) := hc 5 _ rfl
      have c6 : w1.cell? ⟨b, off + k * 9 + 6, none⟩ = some (.int .i64 b6) := hc 6 _ rfl
      have c7 : w1.cell? ⟨b, off + k * 9 + 7, none⟩ = some (.int .u8 (b7 : Nat)) := hc 7 _ rfl
      have c8 : w1.cell? ⟨b, off + k * 9 + 8, none⟩ = some (.bool b8) := hc 8 _ rfl
      clear hc
      go_wp2
      refine bodyPost_ret (results_row_tmp rfl _ _ (w.heap.size + 1) 41 #[.int .i64 b0, .string b1, .int .u8 (b2 : Nat), .bool b3, .int .i64 b4, .int .i64 b5, .int .i64 b6, .int .u8 (b7 : Nat), .bool b8] _ rfl (set9 kz _ _ _ _ _ _ _ _ _ rfl) Tryd.underlying41 rfl info_bx) rfl ?_
      exact ⟨by rw [HVN.out]; rfl, be_set9 hb (Nat.le_succ _) _ _ _ _ _ _ _ _ _⟩
set_option maxRecDepth 100000 in
theorem stowTall_any (b : Bx) (w : World) : Calls Tryd.prog 81 #[.agg (bxL b).toArray] w (Ret w (.int .i64 (tallB b))) := by
  obtain ⟨b0, b1, b2, b3, b4, b5, b6, b7, b8⟩ := b
  unfold bxL tallB
  simp only
  cases b3
  all_goals
    go_enter Tryd.func81, Tryd.ntmps81
    go_wp2
    go_ret
    exact ⟨rfl, ba1 w _⟩
end Go.Proofs.YtmhikcleekfbpaaDoor
