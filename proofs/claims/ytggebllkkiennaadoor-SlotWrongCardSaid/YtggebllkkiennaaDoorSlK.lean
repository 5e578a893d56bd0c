/-
  Walks of package slot: Find.
-/
import Derived.Test.YtggebllkkiennaaDoorSlH
namespace Go.Proofs.YtggebllkkiennaaDoor
open Go.RowKit

def digA (M : Nat → Nat) : Array Value := ((List.range 7).map fun c => Value.int .i64 (M c : Nat)).toArray
theorem digA_at (M : Nat → Nat) (c : Nat) (h : c < 7) : (digA M)[c]? = some (.int .i64 (M c : Nat)) := by simp [digA, h]
theorem digA_set (M : Nat → Nat) (c v : Nat) (_ : c < 7) : (digA M).setIfInBounds c (.int .i64 (v : Nat)) = digA (fun x => if x = c then v else M x) := by
  apply Array.ext_getElem?
  intro i
  by_cases hi : i < 7
  · rw [digA_at _ i hi, Array.getElem?_setIfInBounds]
    have hsz : (digA M).size = 7 := by simp [digA]
    by_cases e : c = i
    · subst e; simp [hsz, hi]
    · rw [if_neg e, digA_at _ i hi, if_neg (fun h => e h.symm)]
  · rw [Array.getElem?_eq_none (by simp [digA]; omega), Array.getElem?_eq_none (by simp [digA]; omega)]

def byteAt (nm : ByteArray) (i : Nat) : Nat := (nm.data.getD i 0).toNat
def digOK (nm : ByteArray) (i : Nat) : Bool := decide (48 ≤ byteAt nm i) && decide (byteAt nm i ≤ 57)
def dN (nm : ByteArray) (i : Nat) : Nat := byteAt nm i - 48
def digTo (nm : ByteArray) (k : Nat) : Array Value := digA fun i => if i < k then dN nm i else 0
theorem digTo_succ (nm : ByteArray) (k v : Nat) (hk : k < 7) (hv : v = dN nm k) : (digTo nm k).setIfInBounds k (.int .i64 (v : Nat)) = digTo nm (k + 1) := by
  unfold digTo
  rw [digA_set _ _ _ hk]
  congr 1
  funext i
  by_cases e : i = k
  · subst e; simp [hv]
  · simp only [e, if_false]
    by_cases h : i < k
    · rw [if_pos h, if_pos (by omega)]
    · rw [if_neg h, if_neg (by omega)]
def placeN (nm : ByteArray) : Nat := 100 * dN nm 0 + 10 * dN nm 1 + dN nm 2
def rowN (nm : ByteArray) : Nat := 10 * dN nm 3 + dN nm 4
def lastN (nm : ByteArray) : Nat := 10 * dN nm 5 + dN nm 6
def tierN (nm : ByteArray) : Nat := if lastN nm = 0 then 100 else lastN nm
def badN (nm : ByteArray) : Prop := placeN nm % 4 = 0 ∨ tierN nm % 2 = 1 ∨ (20 < tierN nm ∧ tierN nm < 82)
instance (nm : ByteArray) : Decidable (badN nm) := by unfold badN; infer_instance
def levN (nm : ByteArray) : Nat := (if 80 < tierN nm then tierN nm - 80 else tierN nm) / 2 - 1
def hOf (q : Nat) : Nat := if q = 2 then 0 else if q = 1 then 1 else 2
def zS : Slt := ⟨0, 0, 0⟩
/-- What Find answers where the text is seven digits that can be a name. -/
def findGood (s : Shp) (nm : ByteArray) : Slt × Int :=
  let r := findF s (placeN nm / 4 : Nat) (rowN nm : Nat) (decide (80 < tierN nm))
  if r.2 = false ∨ (s.cols.getD r.1.toNat default).tiers ≤ levN nm then (zS, 6) else (⟨r.1, levN nm, hOf (placeN nm % 4)⟩, 0)
def findSF (s : Shp) (nm : ByteArray) : Slt × Int :=
  if rightF s = false then (zS, 2) else if nm.size ≠ 7 then (zS, 80) else if (List.range 7).all (digOK nm) = false then (zS, 80) else if badN nm then (zS, 80) else findGood s nm
def FindRet (w : World) (r : Slt × Int) (e : Ending) (w' : World) : Prop := Ret w (.tuple #[.agg (sltL r.1).toArray, .int .i64 r.2]) e w'

/-- What Find keeps: the ship in its box, the slot that it returns, the table. -/
structure FS (w W : World) (s : Shp) (h : Hd) : Prop where
  rd : ShpR W (Lt w.heap.size) s h
  bk : Bk W w.heap.size 32 (shpA s h)
  x : Bk W (w.heap.size + 1) 34 (sltL ⟨0, 0, 0⟩).toArray
  q : QuarOK W
  q0 : 0 < w.heap.size
  be : Below w.heap.size w W
theorem FS.sh {w W : World} {s : Shp} {h : Hd} (r : FS w W s h) : Sh w W w.heap.size s h := ⟨r.rd.up r.be.size, r.bk, r.be⟩
theorem FS.on {w W W' : World} {s : Shp} {h : Hd} (r : FS w W s h) (hb : Below W.heap.size W W') : FS w W' s h :=
  ⟨r.rd.below (hb.mono r.be.size), r.bk.below hb r.bk.lt, r.x.below hb r.x.lt, r.q.below hb, r.q0, r.be.trans (hb.mono r.be.size)⟩
theorem FS.far {w W : World} {s : Shp} {h : Hd} (r : FS w W s h) (g k : Nat) (hg : w.heap.size + 1 < g) (u : Value) : FS w (W.setCell ⟨g, k, none⟩ u) s h := by
  have q0 := r.q0
  refine ⟨r.rd.keep fun b o hb => World.cell?_setCell_other _ _ _ _ (by intro e; injection e with e; have hb : b < w.heap.size := hb; omega), r.bk.far (by show w.heap.size ≠ g; omega) _, r.x.far (by show w.heap.size + 1 ≠ g; omega) _, fun a ha => ?_, q0, r.be.setCell (by show w.heap.size ≤ g; omega) _⟩
  rw [World.cell?_setCell_other _ _ _ _ (by intro e; injection e with e; omega)]
  exact r.q a ha
theorem FS.mk' {w : World} {s : Shp} {h : Hd} (hs : ShpR w (Lt w.heap.size) s h) (hq : QuarOK w) : FS w ((w.alloc (.cells (shpA s h) 32)).alloc (.cells (sltL ⟨0, 0, 0⟩).toArray 34)) s h := by
  have hX := Bk.new (w.alloc (.cells (shpA s h) 32)) 34 (sltL ⟨0, 0, 0⟩).toArray
  simp only [World.size_alloc] at hX
  exact ⟨hs.below (ba2 w _ _), (Bk.new w _ _).alloc _, hX, hq.below (ba2 w _ _), block_lt_of_cell (hq 0 (by omega)), ba2 w _ _⟩
theorem wrap_u8 (n : Int) (h0 : 0 ≤ n) (h1 : n < 256) : IntKind.u8.wrap n = n := by
  unfold IntKind.wrap
  simp [IntKind.bits, IntKind.signed]
  omega
theorem info_slt : (Tryd.prog.info? 34).map (·.size) = some 3 := by kernel_rfl
theorem slt_set {W : World} {g : Nat} {y : Slt} (h : Bk W g 34 (sltL y).toArray) (x : Slt) : Bk (((W.setCell ⟨g, 0, none⟩ (.int .i64 x.col)).setCell ⟨g, 1, none⟩ (.int .i64 x.tier)).setCell ⟨g, 2, none⟩ (.int .u8 (x.half : Nat))) g 34 (sltL x).toArray :=
  ((h.set_ 0 (.int .i64 x.col)).set_ 1 (.int .i64 x.tier)).set_ 2 (.int .u8 (x.half : Nat))
theorem be_set {w W : World} {g : Nat} (h : Below w.heap.size w W) (hg : w.heap.size ≤ g) (a b c : Value) : Below w.heap.size w (((W.setCell ⟨g, 0, none⟩ a).setCell ⟨g, 1, none⟩ b).setCell ⟨g, 2, none⟩ c) :=
  ((h.setCell (p := ⟨g, 0, none⟩) hg a).setCell (p := ⟨g, 1, none⟩) hg b).setCell (p := ⟨g, 2, none⟩) hg c
theorem pickFrom_head {α : Type} (p : α → Bool) (i : Int) (L : List Int) : ∀ (l : List α) (k : Nat), pickFrom p l k = i :: L → ∃ m : Nat, m < l.length ∧ i = ((k + m : Nat) : Int)
  | [], k, h => by simp [pickFrom] at h
  | x :: l, k, h => by
    unfold pickFrom at h
    split at h
    · injection h with h1 h2
      exact ⟨0, by simp, by rw [← h1]; rfl⟩
    · obtain ⟨m, h1, h2⟩ := pickFrom_head p i L l (k + 1) h
      exact ⟨m + 1, by simp; omega, by rw [h2]; omega⟩
theorem findF_in {s : Shp} {a b : Int} {d : Bool} (h : (findF s a b d).2 = true) : ∃ k : Nat, k < s.cols.length ∧ (findF s a b d).1 = (k : Int) := by
  unfold findF at h ⊢
  cases hp : pick (findB a b d) s.cols with
  | nil => rw [hp] at h; cases h
  | cons i L =>
    obtain ⟨m, h1, h2⟩ := pickFrom_head _ _ _ _ _ hp
    exact ⟨m, h1, by simpa using h2⟩
theorem hOf_le (x : Nat) : hOf x < 3 := by
  unfold hOf
  split
  · omega
  · split <;> omega
theorem hOf_q (k : Nat) (h : k < 3) : hOf (qOf k) = k := by
  rcases (by omega : k = 0 ∨ k = 1 ∨ k = 2) with rfl | rfl | rfl <;> rfl
set_option maxHeartbeats 1000000 in
theorem indexQ_any (x : Nat) (w : World) (hq : QuarOK w) (h1 : 1 ≤ x) (h3 : x ≤ 3) :
    Calls Tryd.prog 47 #[.slice (some ⟨0, 0, none⟩) 3 3, .int .i64 (x : Nat)] w fun e w' => e = .returned (.int .i64 (hOf x : Nat)) ∧ w = w' := by
  have HS := Lib.hid hq; clear hq
  go_enter Tryd.func47, Tryd.ntmps47
  go_wp2
  go_loop [8] (fun i => ∃ k : Nat, k ≤ 3 ∧ i = .int .i64 k ∧ Hid (∀ i, i < k → qOf i ≠ x)) (fun i => 3 - (intOf i).toNat)
  case atStart => exact ⟨0, Nat.zero_le _, rfl, Lib.hid fun i h => absurd h (by omega)⟩
  case round =>
    obtain ⟨k, hk, rfl, HB⟩ := hrel
    by_cases hlt : k < 3
    · have c0 : w.cell? ⟨0, k, none⟩ = some (.int .i64 (qOf k : Nat)) := HS.out k hlt
      have hk0 : (0 : Int) ≤ (k : Int) := by omega
      have hk1 : (k : Int) < 3 := by omega
      by_cases hp : qOf k = x
      · have HV := Lib.hid (show hOf x = k by rw [← hp]; exact hOf_q k hlt)
        clear HB
        rw [hp] at c0
        clear hp
        go_wp2
        go_ret
        exact ⟨by rw [HV.out]; rfl, rfl⟩
      · have HN : Hid (∀ i, i < k + 1 → qOf i ≠ x) := Lib.hid fun i hi => by
          rcases Nat.lt_succ_iff_lt_or_eq.1 hi with h' | h'
          · exact HB.out i h'
          · rw [h']; exact hp
        clear HB
        have hne : ((x : Int) == ((qOf k : Nat) : Int)) = false := by simp; omega
        clear hp
        generalize qOf k = y at *
        go_wp2
        go_round
        case rel => exact ⟨k + 1, by omega, by go_num, HN⟩
        case measure => simp [intOf]; omega
    · obtain rfl : k = 3 := by omega
      have e0 := HB.out 0 (by omega)
      have e1 := HB.out 1 (by omega)
      have e2 := HB.out 2 (by omega)
      unfold qOf at e0 e1 e2
      simp at e0 e1 e2
      omega

set_option maxRecDepth 100000 in
set_option maxHeartbeats 4000000 in
theorem find_try (s : Shp) (h : Hd) (nm : ByteArray) (w : World) (hs : ShpR w (Lt w.heap.size) s h) (hf : Few s) (hi : Ints s) (hq : QuarOK w) (hsz : nm.size = 7) (hr : rightF s = true) :
    Calls Tryd.prog 15 #[.agg (shpA s h), .string nm] w (FindRet w (findSF s nm)) := by
  have HV80 : Hid (∀ i, i < 7 → digOK nm i = false → findSF s nm = (zS, 80)) := Lib.hid fun i hi hd => by
    unfold findSF
    rw [if_neg (by rw [hr]; simp), if_neg (by omega), if_pos]
    rw [List.all_eq_false]
    exact ⟨i, by simpa using hi, by simp [hd]⟩
  have HVB : Hid ((∀ i, i < 7 → digOK nm i = true) → findSF s nm = if badN nm then (zS, 80) else findGood s nm) := Lib.hid fun hd => by
    unfold findSF
    rw [if_neg (by rw [hr]; simp), if_neg (by omega), if_neg]
    have : (List.range 7).all (digOK nm) = true := by rw [List.all_eq_true]; intro i hi; exact hd i (by simpa using hi)
    rw [this]; simp
  have HR : Hid (∀ (V : World), Sh w V w.heap.size s h → Calls Tryd.prog 44 #[.agg (shpA s h)] V (Ret V (.bool (rightF s)))) := Lib.hid fun V hV => shipRight_any s h V hV.rd hf hi
  have hS := FS.mk' hs hq
  have HFW := Lib.hid hf.cols
  rw [hr] at HR
  clear hr hf hi hq hs
  unfold shpA at *
  go_enter Tryd.func15, Tryd.ntmps15
  go_wp2_with fail
  refine (HR.out _ hS.sh).mono ?_
  rintro e w1 ⟨rfl, hq⟩
  have hnz : ((nm.size : Int) != 7) = false := by simp; omega
  go_wp2
  have hq2 := hq.trans ((ba1 w1 (.cells #[.int .i64 0, .int .i64 0, .int .i64 0, .int .i64 0, .int .i64 0, .int .i64 0, .int .i64 0] 90)).mono hq.size)
  have hD := Bk.new w1 90 #[.int .i64 0, .int .i64 0, .int .i64 0, .int .i64 0, .int .i64 0, .int .i64 0, .int .i64 0]
  replace hS := hS.on hq2
  have hlt : w.heap.size + 1 < w1.heap.size := by have := hq.size; simp at this; omega
  clear hq hq2 HR
  generalize w1.heap.size = gd at *
  generalize (w1.alloc _) = W at *
  have HI := Lib.hid hS
  have HD : Hid (Bk W gd 90 (digTo nm 0)) := Lib.hid hD
  clear hS hD
  clear w1
  go_loopw [23] (fun q wr => ∃ k : Nat, k ≤ 7 ∧ q = .int .i64 k ∧ Hid (∀ i, i < k → digOK nm i = true) ∧ Hid (FS w wr s h) ∧ Hid (Bk wr gd 90 (digTo nm k))) (fun q _ => 7 - (intOf q).toNat)
  case atStart => exact ⟨0, by omega, rfl, Lib.hid fun i h => absurd h (by omega), HI, HD⟩
  case round =>
    clear HI HD
    obtain ⟨k, hk, rfl, HB, HI, HD⟩ := hrel
    clear W
    obtain ⟨W, rfl⟩ : ∃ W, W = wr := ⟨_, rfl⟩
    by_cases hk7 : k < 7
    · have hks : k < nm.size := by omega
      have hby : nm[k].toNat = byteAt nm k := by
        unfold byteAt Array.getD
        rw [dif_pos (show k < nm.data.size from hks)]
        rfl
      have hc256 : byteAt nm k < 256 := by unfold byteAt; exact (nm.data.getD k 0).toBitVec.isLt
      have hk0 : (0 : Int) ≤ (k : Int) := by omega
      have hk1 : (k : Int) < 7 := by omega
      have HOK : Hid (digOK nm k = (decide (48 ≤ byteAt nm k) && decide (byteAt nm k ≤ 57))) := Lib.hid rfl
      have HDN : Hid (dN nm k = byteAt nm k - 48) := Lib.hid rfl
      have x0 : W.cell? ⟨w.heap.size + 1, 0, none⟩ = some (.int .i64 0) := HI.out.x.cell 0
      have x1 : W.cell? ⟨w.heap.size + 1, 1, none⟩ = some (.int .i64 0) := HI.out.x.cell 1
      have x2 : W.cell? ⟨w.heap.size + 1, 2, none⟩ = some (.int .u8 0) := HI.out.x.cell 2
      have y0 := HI.out.x.frozen 0
      have y1 := HI.out.x.frozen 1
      have y2 := HI.out.x.frozen 2
      have HVK := Lib.hid (HV80.out k hk7)
      generalize byteAt nm k = c at *
      by_cases hA : c < 48
      · have d1 : decide ((c : Int) < 48) = true := by simp; omega
        go_wp2
        refine bodyPost_ret (results_row_tmp rfl _ _ (w.heap.size + 1) 34 (sltL ⟨0, 0, 0⟩).toArray _ rfl (slt_set HI.out.x ⟨0, 0, 0⟩) Tryd.underlying34 rfl info_slt) rfl ?_
        exact ⟨by rw [HVK.out (by rw [HOK.out]; simp; omega)]; rfl, be_set HI.out.be (by omega) _ _ _⟩
      · by_cases hB : 57 < c
        · have d1 : decide ((c : Int) < 48) = false := by simp; omega
          have d2 : decide (57 < (c : Int)) = true := by simp; omega
          go_wp2
          refine bodyPost_ret (results_row_tmp rfl _ _ (w.heap.size + 1) 34 (sltL ⟨0, 0, 0⟩).toArray _ rfl (slt_set HI.out.x ⟨0, 0, 0⟩) Tryd.underlying34 rfl info_slt) rfl ?_
          exact ⟨by rw [HVK.out (by rw [HOK.out]; simp; omega)]; rfl, be_set HI.out.be (by omega) _ _ _⟩
        · have d1 : decide ((c : Int) < 48) = false := by simp; omega
          have d2 : decide (57 < (c : Int)) = false := by simp; omega
          have z0 : W.cell? ⟨gd, k, none⟩ = some (.int .i64 0) := by
            rw [HD.out.cell k]; unfold digTo; rw [digA_at _ k hk7]; simp
          have z1 := HD.out.frozen k
          have s1 : IntKind.u8.wrap ((c : Int) - 48) = ((c - 48 : Nat) : Int) := by
            rw [wrap_u8 _ (by omega) (by omega)]; omega
          go_wp2
          go_roundw
          case rel =>
            refine ⟨k + 1, by omega, by go_num, Lib.hid fun i hi => ?_, ?_, ?_⟩
            · rcases Nat.lt_succ_iff_lt_or_eq.1 hi with h' | h'
              · exact HB.out i h'
              · rw [h', HOK.out]; simp; omega
            · exact Lib.hid (HI.out.far gd k hlt _)
            · have := HD.out.set_ k (.int .i64 ((c - 48 : Nat) : Int))
              rw [digTo_succ nm k (c - 48) hk7 HDN.out.symm] at this
              exact Lib.hid this
          case measure => simp [intOf]; omega
    · obtain rfl : k = 7 := by omega
      have hV := HVB.out HB.out
      have hd : ∀ i, i < 7 → dN nm i ≤ 9 := fun i hi => by
        have := HB.out i hi
        unfold digOK at this
        simp only [Bool.and_eq_true, decide_eq_true_eq] at this
        unfold dN; omega
      have hcell : ∀ i, i < 7 → W.cell? ⟨gd, i, none⟩ = some (.int .i64 (dN nm i : Nat)) := fun i hi => by
        rw [HD.out.cell i]; unfold digTo; rw [digA_at _ i hi]; simp [hi]
      have a0 := hd 0 (by omega)
      have a1 := hd 1 (by omega)
      have a2 := hd 2 (by omega)
      have a3 := hd 3 (by omega)
      have a4 := hd 4 (by omega)
      have a5 := hd 5 (by omega)
      have a6 := hd 6 (by omega)
      have q0 := hcell 0 (by omega)
      have q1 := hcell 1 (by omega)
      have q2 := hcell 2 (by omega)
      have q3 := hcell 3 (by omega)
      have q4 := hcell 4 (by omega)
      have q5 := hcell 5 (by omega)
      have q6 := hcell 6 (by omega)
      have hp : placeN nm = 100 * dN nm 0 + 10 * dN nm 1 + dN nm 2 := rfl
      have hrw : rowN nm = 10 * dN nm 3 + dN nm 4 := rfl
      have hla : lastN nm = 10 * dN nm 5 + dN nm 6 := rfl
      have hti : tierN nm = if lastN nm = 0 then 100 else lastN nm := rfl
      have HVF := Lib.hid hV
      clear hV HVB HV80 hd hcell HB HD
      generalize dN nm 0 = b0 at *
      generalize dN nm 1 = b1 at *
      generalize dN nm 2 = b2 at *
      generalize dN nm 3 = b3 at *
      generalize dN nm 4 = b4 at *
      generalize dN nm 5 = b5 at *
      generalize dN nm 6 = b6 at *
      have HP := Lib.hid hp
      have HRW := Lib.hid hrw
      have HLA := Lib.hid hla
      have HTI := Lib.hid hti
      clear hp hrw hla hti
      go_wp2
      go_quiet (fail)
      replace HI := Lib.hid (HI.out.on (below_drewN (Below.refl _ _) nq))
      clear q0 q1 q2 q3 q4 q5 q6
      generalize W.drewN nq = V at *
      clear W
      go_upto_if 68 with fail
      rw [show (100 * (b0 : Int) + 10 * (b1 : Int) + (b2 : Int)) = ((placeN nm : Nat) : Int) from by rw [HP.out]; omega]
      rw [show (10 * (b3 : Int) + (b4 : Int)) = ((rowN nm : Nat) : Int) from by rw [HRW.out]; omega]
      rw [show (10 * (b5 : Int) + (b6 : Int)) = ((lastN nm : Nat) : Int) from by rw [HLA.out]; omega]
      have n1 : placeN nm ≤ 999 := by rw [HP.out]; omega
      have n2 : rowN nm ≤ 99 := by rw [HRW.out]; omega
      have n3 : lastN nm ≤ 99 := by rw [HLA.out]; omega
      have hV := HVF.out
      unfold findGood levN at hV
      have hbad : badN nm ↔ (placeN nm % 4 = 0 ∨ tierN nm % 2 = 1 ∨ (20 < tierN nm ∧ tierN nm < 82)) := Iff.rfl
      have hti := HTI.out
      clear HVF HP HRW HLA HTI a0 a1 a2 a3 a4 a5 a6
      generalize placeN nm = pl at *
      generalize rowN nm = ro at *
      generalize lastN nm = la at *
      generalize tierN nm = ti at *
      have n4 : ti ≤ 100 ∧ 1 ≤ ti := by rw [hti]; split <;> omega
      have HTI := Lib.hid hti
      have HV := Lib.hid hV
      have HBAD := Lib.hid hbad
      clear hti hV hbad
      go_cut [10] (fun x wx => x = .int .i64 (ti : Nat) ∧ V = wx)
      case first =>
        by_cases h0 : la = 0
        · have hti := HTI.out
          rw [if_pos h0] at hti
          subst h0 hti
          go_wp2_with fail
          go_meet
          exact ⟨rfl, rfl⟩
        · have hti := HTI.out
          rw [if_neg h0] at hti
          subst hti
          have d0 : ((ti : Int) == 0) = false := by simp; omega
          go_wp2_with fail
          go_meet
          exact ⟨rfl, rfl⟩
      case rest =>
        obtain ⟨rfl, rfl⟩ := hcut
        clear n3 HTI
        go_upto_region 17 with fail
        have p4 : ((pl : Int) % 4) = ((pl % 4 : Nat) : Int) := by omega
        have t2 : ((ti : Int) % 2) = ((ti % 2 : Nat) : Int) := by omega
        go_cut [84] (fun x wx => x = .bool (decide (pl % 4 = 0 ∨ ti % 2 = 1 ∨ (20 < ti ∧ ti < 82))) ∧ V = wx)
        case first =>
          clear p4 t2
          by_cases h1 : pl % 4 = 0
          · have e1 : (((pl : Int) % 4) == 0) = true := by simp; omega
            go_wp2_with fail
            go_meet
            exact ⟨by rw [decide_eq_true (Or.inl h1)], rfl⟩
          · have e1 : (((pl : Int) % 4) == 0) = false := by simp; omega
            by_cases h2 : ti % 2 = 1
            · have e2 : (((ti : Int) % 2) == 1) = true := by simp; omega
              go_wp2_with fail
              go_meet
              exact ⟨by rw [decide_eq_true (Or.inr (Or.inl h2))], rfl⟩
            · have e2 : (((ti : Int) % 2) == 1) = false := by simp; omega
              by_cases h3 : 20 < ti
              · have e3 : decide ((20 : Int) < (ti : Int)) = true := by simp; omega
                by_cases h4 : ti < 82
                · have e4 : decide ((ti : Int) < 82) = true := by simp; omega
                  go_wp2_with fail
                  go_meet
                  exact ⟨by rw [decide_eq_true (Or.inr (Or.inr ⟨h3, h4⟩))], rfl⟩
                · have e4 : decide ((ti : Int) < 82) = false := by simp; omega
                  go_wp2_with fail
                  go_meet
                  exact ⟨by rw [decide_eq_false (by omega)], rfl⟩
              · have e3 : decide ((20 : Int) < (ti : Int)) = false := by simp; omega
                go_wp2_with fail
                go_meet
                exact ⟨by rw [decide_eq_false (by omega)], rfl⟩
        case rest =>
          obtain ⟨rfl, rfl⟩ := hcut
          by_cases hbd : pl % 4 = 0 ∨ ti % 2 = 1 ∨ (20 < ti ∧ ti < 82)
          · have hV := HV.out
            rw [if_pos (HBAD.out.2 hbd)] at hV
            have HVZ := Lib.hid hV
            rw [decide_eq_true hbd]
            have x0 : V.cell? ⟨w.heap.size + 1, 0, none⟩ = some (.int .i64 0) := HI.out.x.cell 0
            have x1 : V.cell? ⟨w.heap.size + 1, 1, none⟩ = some (.int .i64 0) := HI.out.x.cell 1
            have x2 : V.cell? ⟨w.heap.size + 1, 2, none⟩ = some (.int .u8 0) := HI.out.x.cell 2
            have y0 := HI.out.x.frozen 0
            have y1 := HI.out.x.frozen 1
            have y2 := HI.out.x.frozen 2
            clear hV hbd
            go_wp2
            refine bodyPost_ret (results_row_tmp rfl _ _ (w.heap.size + 1) 34 (sltL ⟨0, 0, 0⟩).toArray _ rfl (slt_set HI.out.x ⟨0, 0, 0⟩) Tryd.underlying34 rfl info_slt) rfl ?_
            exact ⟨by rw [HVZ.out]; rfl, be_set HI.out.be (by omega) _ _ _⟩
          · have hV := HV.out
            rw [if_neg (fun h => hbd (HBAD.out.1 h))] at hV
            rw [decide_eq_false hbd]
            have HVG := Lib.hid hV
            clear hV HV HBAD
            have HP : Hid (1 ≤ pl % 4 ∧ pl % 4 ≤ 3) := Lib.hid (by omega)
            have HT : Hid (¬ (ti % 2 = 1 ∨ (20 < ti ∧ ti < 82))) := Lib.hid (by omega)
            clear hbd
            go_upto_if 88 with fail
            go_cut [10, 11] (fun x y wx => x = .int .i64 ((if 80 < ti then ti - 80 else ti : Nat) : Int) ∧ y = .bool (decide (80 < ti)) ∧ V = wx)
            case first =>
              by_cases h0 : 80 < ti
              · have d0 : decide ((80 : Int) < (ti : Int)) = true := by simp; omega
                go_wp2_with fail
                go_meet
                exact ⟨by rw [if_pos h0, Int.ofNat_sub (by omega)]; rfl, by rw [decide_eq_true h0], rfl⟩
              · have d0 : decide ((80 : Int) < (ti : Int)) = false := by simp; omega
                go_wp2_with fail
                go_meet
                exact ⟨by rw [if_neg h0], by rw [decide_eq_false h0], rfl⟩
            case rest =>
              obtain ⟨rfl, rfl, rfl⟩ := hcut
              have htv : (if 80 < ti then ti - 80 else ti) % 2 = 0 ∧ (if 80 < ti then ti - 80 else ti) ≤ 100 ∧ 1 ≤ (if 80 < ti then ti - 80 else ti) := by
                have := HT.out
                split <;> omega
              clear HT n4
              generalize (if 80 < ti then ti - 80 else ti) = ty at *
              generalize decide (80 < ti) = dk at *
              have n5 := htv.2.1
              have HTV := Lib.hid htv
              clear htv
              have HPI : Hid (∀ z : Int, z = ((pl % 4 : Nat) : Int) → Calls Tryd.prog 47 #[.slice (some ⟨0, 0, none⟩) 3 3, .int .i64 z] V fun e w' => e = .returned (.int .i64 (hOf (pl % 4) : Nat)) ∧ V = w') := Lib.hid (fun z hz => by
                subst hz
                exact indexQ_any (pl % 4) _ HI.out.q HP.out.1 HP.out.2)
              have HHO := Lib.hid (hOf_le (pl % 4))
              have hh := hOf_le (pl % 4)
              generalize hOf (pl % 4) = ho at *
              go_wp2_with fail
              generalize ((pl : Int) % 4) = pq at *
              generalize htz : ((ty : Int) / 2 - 1) = tz at *
              have HTZ := Lib.hid htz
              clear htz
              have HN := Lib.hid (And.intro n1 (And.intro n2 (And.intro n5 HTV.out)))
              clear n1 n2 n5 hh hsz hnz
              go_big_op
              refine (HPI.out _ (by omega)).mono ?_
              rintro e V2 ⟨rfl, rfl⟩
              clear HPI
              have hh := HHO.out
              obtain ⟨n1, n2, n5, n6⟩ := HN.out
              have n7 : 2 ≤ ty := by omega
              obtain ⟨r, hr⟩ : ∃ r, findF s ((pl / 4 : Nat) : Int) ((ro : Nat) : Int) dk = r := ⟨_, rfl⟩
              have HFI : Hid (r.2 = true → ∃ k : Nat, k < s.cols.length ∧ r.1 = (k : Int)) := Lib.hid (fun h => by rw [← hr] at h ⊢; exact findF_in h)
              have FA : Hid (∀ (V' : World) (z : Int), z = ((pl / 4 : Nat) : Int) → Sh w V' w.heap.size s h → Calls Tryd.prog 48 #[.agg (shpA s h), .int .i64 z, .int .i64 (ro : Nat), .bool dk] V' (Ret V' (.tuple #[.int .i64 r.1, .bool r.2]))) :=
                Lib.hid (fun V' z hz hV' => by subst hz; rw [← hr]; exact find_any s h _ _ _ V' hV'.rd HFW.out)
              have HG : Hid (findSF s nm = if r.2 = false ∨ (s.cols.getD r.1.toNat default).tiers ≤ ((ty / 2 - 1 : Nat) : Int) then (zS, 6) else (⟨r.1, ((ty / 2 - 1 : Nat) : Int), ho⟩, 0)) := Lib.hid (by have := HVG.out; rw [hr] at this; exact this)
              clear hr HVG
              obtain ⟨r1, rb⟩ := r
              simp only at HFI FA HG
              have hS := HI.out.sh
              obtain ⟨e0, e1, e2, e3, e4, e5, e6, e7, e8, e9, e10, e11, e12⟩ := hS.cells
              have hlS := hS.bk.lt
              have HS := Lib.hid hS
              clear hS n6
              unfold shpA at FA
              go_wp2_with fail
              refine (FA.out _ _ ?_ ?_).mono ?_
              · omega
              · exact HS.out.on (ba1 V _)
              rintro e w2 ⟨rfl, hq⟩
              clear FA e0 e1 e2 e3 e4 e5 e6 e7 e8 e9 e10 e11 e12
              have hX := (Bk.new V 34 #[.int .i64 0, .int .i64 tz, .int .u8 (ho : Nat)]).below hq (by simp)
              have hbV := (ba1 V (.cells #[.int .i64 0, .int .i64 tz, .int .u8 (ho : Nat)] 34)).trans (hq.mono (by simp))
              have hI2 := HI.out.on hbV
              have hgx : w.heap.size + 1 < V.heap.size := HI.out.x.lt
              clear hq HS HI
              generalize V.heap.size = gx at *
              have c0 := hX.cell 0
              have c1 := hX.cell 1
              have c2 := hX.cell 2
              have f0 := hX.frozen 0
              simp at c0 c1 c2
              have HX := Lib.hid hX
              have HI := Lib.hid hI2
              clear hX hI2 hbV
              go_upto_region 25 with fail
              have hX3 := HX.out.set_ 0 (.int .i64 r1)
              have hI3 := HI.out.far gx 0 hgx (.int .i64 r1)
              clear c0 c1 c2 f0 HX HI
              generalize (w2.setCell _ _) = Y at *
              clear V w2
              have c0 : Y.cell? ⟨gx, 0, none⟩ = some (.int .i64 r1) := hX3.cell 0
              have c1 : Y.cell? ⟨gx, 1, none⟩ = some (.int .i64 tz) := hX3.cell 1
              have c2 : Y.cell? ⟨gx, 2, none⟩ = some (.int .u8 (ho : Nat)) := hX3.cell 2
              have x0 : Y.cell? ⟨w.heap.size + 1, 0, none⟩ = some (.int .i64 0) := hI3.x.cell 0
              have x1 : Y.cell? ⟨w.heap.size + 1, 1, none⟩ = some (.int .i64 0) := hI3.x.cell 1
              have x2 : Y.cell? ⟨w.heap.size + 1, 2, none⟩ = some (.int .u8 0) := hI3.x.cell 2
              have y0 := hI3.x.frozen 0
              have y1 := hI3.x.frozen 1
              have y2 := hI3.x.frozen 2
              have s0 : Y.cell? ⟨w.heap.size, 0, none⟩ = some (.slice h.A1 s.cols.length h.c1) := hI3.bk.cell 0
              have HI := Lib.hid hI3
              clear hI3 hX3
              cases rb with
              | false =>
                have HVZ : Hid (findSF s nm = (zS, 6)) := Lib.hid (by rw [HG.out, if_pos (Or.inl rfl)])
                clear HG HFI
                go_quiet (fail)
                go_wp2
                refine bodyPost_ret (results_row_tmp rfl _ _ (w.heap.size + 1) 34 (sltL ⟨0, 0, 0⟩).toArray _ rfl (slt_set HI.out.x ⟨0, 0, 0⟩) Tryd.underlying34 rfl info_slt) rfl ?_
                exact ⟨by rw [HVZ.out]; rfl, be_set (below_drewN HI.out.be nq) (by omega) _ _ _⟩
              | true =>
                obtain ⟨k, hkl, rfl⟩ := HFI.out rfl
                obtain ⟨gb, off, Ap, q, hA1, hgb, _, _, d0, d1, d2, d3, d4, d5, d6, d7, d8, d9, d10, d11⟩ := HI.out.rd.cols.col hkl
                clear d0 d1 d2 d4 d5 d6 d7 d8 d9 d10 d11 HFI
                rw [hA1] at s0
                have HG2 : Hid (findSF s nm = if (s.cols.getD k default).tiers ≤ ((ty / 2 - 1 : Nat) : Int) then (zS, 6) else (⟨(k : Int), ((ty / 2 - 1 : Nat) : Int), ho⟩, 0)) := Lib.hid (by rw [HG.out]; simp)
                clear HG
                generalize (s.cols.getD k default).tiers = tk at *
                have i1 : (0 : Int) ≤ (k : Int) := by omega
                have i2 : (k : Int) < (s.cols.length : Int) := by omega
                by_cases hle : tk ≤ ((ty / 2 - 1 : Nat) : Int)
                · have HVZ : Hid (findSF s nm = (zS, 6)) := Lib.hid (by rw [HG2.out, if_pos hle])
                  have dle : decide (tk ≤ tz) = true := by have := HTZ.out; simp; omega
                  clear HG2 hle
                  go_quiet (fail)
                  go_wp2
                  refine bodyPost_ret (results_row_tmp rfl _ _ (w.heap.size + 1) 34 (sltL ⟨0, 0, 0⟩).toArray _ rfl (slt_set HI.out.x ⟨0, 0, 0⟩) Tryd.underlying34 rfl info_slt) rfl ?_
                  exact ⟨by rw [HVZ.out]; rfl, be_set (below_drewN HI.out.be nq) (by omega) _ _ _⟩
                · have HVZ : Hid (findSF s nm = (⟨(k : Int), ((ty / 2 - 1 : Nat) : Int), ho⟩, 0)) := Lib.hid (by rw [HG2.out, if_neg hle])
                  have dle : decide (tk ≤ tz) = false := by have := HTZ.out; simp; omega
                  clear HG2 hle
                  go_quiet (fail)
                  go_wp2
                  have htz := HTZ.out
                  obtain rfl : tz = ((ty / 2 - 1 : Nat) : Int) := by omega
                  refine bodyPost_ret (results_row_tmp rfl _ _ (w.heap.size + 1) 34 (sltL ⟨(k : Int), ((ty / 2 - 1 : Nat) : Int), ho⟩).toArray _ rfl (slt_set HI.out.x ⟨(k : Int), ((ty / 2 - 1 : Nat) : Int), ho⟩) Tryd.underlying34 rfl info_slt) rfl ?_
                  exact ⟨by rw [HVZ.out]; rfl, be_set (below_drewN HI.out.be nq) (by omega) _ _ _⟩
set_option maxRecDepth 100000 in
set_option maxHeartbeats 2000000 in
theorem find_wrong (s : Shp) (h : Hd) (nm : ByteArray) (w : World) (hs : ShpR w (Lt w.heap.size) s h) (hf : Few s) (hi : Ints s) (hq : QuarOK w) (hr : rightF s = false) :
    Calls Tryd.prog 15 #[.agg (shpA s h), .string nm] w (FindRet w (findSF s nm)) := by
  have HR : Hid (∀ (V : World), Sh w V w.heap.size s h → Calls Tryd.prog 44 #[.agg (shpA s h)] V (Ret V (.bool (rightF s)))) := Lib.hid fun V hV => shipRight_any s h V hV.rd hf hi
  have HVZ : Hid (findSF s nm = (zS, 2)) := Lib.hid (by unfold findSF; rw [if_pos hr])
  have HS := Lib.hid (FS.mk' hs hq)
  rw [hr] at HR
  clear hr hf hi hq hs
  unfold shpA at *
  go_enter Tryd.func15, Tryd.ntmps15
  go_wp2_with fail
  refine (HR.out _ HS.out.sh).mono ?_
  rintro e w1 ⟨rfl, hq⟩
  have HI := Lib.hid (HS.out.on hq)
  clear hq HS HR
  have x0 : w1.cell? ⟨w.heap.size + 1, 0, none⟩ = some (.int .i64 0) := HI.out.x.cell 0
  have x1 : w1.cell? ⟨w.heap.size + 1, 1, none⟩ = some (.int .i64 0) := HI.out.x.cell 1
  have x2 : w1.cell? ⟨w.heap.size + 1, 2, none⟩ = some (.int .u8 0) := HI.out.x.cell 2
  have y0 := HI.out.x.frozen 0
  have y1 := HI.out.x.frozen 1
  have y2 := HI.out.x.frozen 2
  go_wp2
  refine bodyPost_ret (results_row_tmp rfl _ _ (w.heap.size + 1) 34 (sltL ⟨0, 0, 0⟩).toArray _ rfl (slt_set HI.out.x ⟨0, 0, 0⟩) Tryd.underlying34 rfl info_slt) rfl ?_
  exact ⟨by rw [HVZ.out]; rfl, be_set HI.out.be (by omega) _ _ _⟩
set_option maxRecDepth 100000 in
set_option maxHeartbeats 2000000 in
theorem find_long (s : Shp) (h : Hd) (nm : ByteArray) (w : World) (hs : ShpR w (Lt w.heap.size) s h) (hf : Few s) (hi : Ints s) (hq : QuarOK w) (hr : rightF s = true) (hl : nm.size ≠ 7) :
    Calls Tryd.prog 15 #[.agg (shpA s h), .string nm] w (FindRet w (findSF s nm)) := by
  have HR : Hid (∀ (V : World), Sh w V w.heap.size s h → Calls Tryd.prog 44 #[.agg (shpA s h)] V (Ret V (.bool (rightF s)))) := Lib.hid fun V hV => shipRight_any s h V hV.rd hf hi
  have HVZ : Hid (findSF s nm = (zS, 80)) := Lib.hid (by unfold findSF; rw [if_neg (by rw [hr]; simp), if_pos hl])
  have HS := Lib.hid (FS.mk' hs hq)
  rw [hr] at HR
  have d7 : ((nm.size : Int) != 7) = true := by simp; omega
  clear hr hf hi hq hs hl
  unfold shpA at *
  go_enter Tryd.func15, Tryd.ntmps15
  go_wp2_with fail
  refine (HR.out _ HS.out.sh).mono ?_
  rintro e w1 ⟨rfl, hq⟩
  have HI := Lib.hid (HS.out.on hq)
  clear hq HS HR
  have x0 : w1.cell? ⟨w.heap.size + 1, 0, none⟩ = some (.int .i64 0) := HI.out.x.cell 0
  have x1 : w1.cell? ⟨w.heap.size + 1, 1, none⟩ = some (.int .i64 0) := HI.out.x.cell 1
  have x2 : w1.cell? ⟨w.heap.size + 1, 2, none⟩ = some (.int .u8 0) := HI.out.x.cell 2
  have y0 := HI.out.x.frozen 0
  have y1 := HI.out.x.frozen 1
  have y2 := HI.out.x.frozen 2
  go_wp2
  refine bodyPost_ret (results_row_tmp rfl _ _ (w.heap.size + 1) 34 (sltL ⟨0, 0, 0⟩).toArray _ rfl (slt_set HI.out.x ⟨0, 0, 0⟩) Tryd.underlying34 rfl info_slt) rfl ?_
  exact ⟨by rw [HVZ.out]; rfl, be_set HI.out.be (by omega) _ _ _⟩
theorem findS_any (s : Shp) (h : Hd) (nm : ByteArray) (w : World) (hs : ShpR w (Lt w.heap.size) s h) (hf : Few s) (hi : Ints s) (hq : QuarOK w) :
    Calls Tryd.prog 15 #[.agg (shpA s h), .string nm] w (FindRet w (findSF s nm)) := by
  cases hr : rightF s with
  | false => exact find_wrong s h nm w hs hf hi hq hr
  | true =>
    by_cases hl : nm.size = 7
    · exact find_try s h nm w hs hf hi hq hl hr
    · exact find_long s h nm w hs hf hi hq hr hl
end Go.Proofs.YtggebllkkiennaaDoor
