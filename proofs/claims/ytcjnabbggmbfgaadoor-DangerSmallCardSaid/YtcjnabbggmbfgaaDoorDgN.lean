/-
  The walk of the reference's groups.
-/
import Derived.Test.YtcjnabbggmbfgaaDoorDgM
import Derived.Test.YtcjnabbggmbfgaaDoorDgPlain9
import Derived.Deep.OwnRows
import Derived.Deep.RegionLaw
import Derived.Deep.DeepCutAuto
import Derived.BigRegion
import Derived.BigQuiet
import Derived.Deep.QuietTactic
import Derived.Deep.RegionHeld3
namespace Go.Proofs.YtcjnabbggmbfgaaDoor
open Go.RowKit

def nilsA (n : Nat) : Array Value := (List.replicate n (Value.slice none 0 0)).toArray
theorem made_nils (n : Nat) : madeCells #[Value.slice none 0 0] n = nilsA n := by
  apply Array.ext_getElem?
  intro i
  by_cases hi : i < n
  · simp [madeCells, hi, Nat.mod_one, nilsA]
  · rw [Array.getElem?_eq_none (by rw [size_madeCells]; omega), Array.getElem?_eq_none (by simp [nilsA]; omega)]
theorem make_nils (n : Nat) (hn : n ≤ 1000000) (w : World) : (Instr.makeSlice 25 (.int .i64 (n : Int)) (.int .i64 (n : Int))).run Tryd.prog w = .ok (.slice (some ⟨w.heap.size, 0, none⟩) n n) (w.alloc (.cells (nilsA n) 22)) := by
  rw [← made_nils]
  exact run_make_row' (P := Tryd.prog) 25 22 (.slice none 0 0) 24 Tryd.underlying25 (by kernel_rfl) rfl .i64 .i64 n (by omega) (by omega) w

/-- The groups while they grow: block g holds their slices, each a row of the call's own. -/
structure GInv (w W : World) (g : Nat) (vs : Array Value) (G : List (List Nat)) : Prop where
  kg : Bk W g 22 vs
  sz : vs.size = G.length
  own : ∀ i, i < G.length → W.ownsRow (g + 1) 5 1 (vs.getD i undef) (G.getD i []).length (u8s (G.getD i []))
  apart : ∀ i h, i < G.length → h < G.length → i ≠ h → (vs.getD i undef).ownBlock = none ∨ (vs.getD i undef).ownBlock ≠ (vs.getD h undef).ownBlock
  be : Below w.heap.size w W
  lo : w.heap.size ≤ g
theorem nilsA_at (n i : Nat) (h : i < n) : (nilsA n).getD i undef = .slice none 0 0 := by simp [nilsA, h]
theorem GInv.zero (w : World) (n : Nat) : GInv w (w.alloc (.cells (nilsA n) 22)) w.heap.size (nilsA n) (List.replicate n []) := by
  refine ⟨Bk.new _ _ _, by simp [nilsA], fun i hi => ?_, fun i h hi hh _ => ?_, (Below.refl _ _).alloc (Nat.le_refl _) _, Nat.le_refl _⟩
  · rw [nilsA_at n i (by simpa using hi), show (List.replicate n ([] : List Nat)).getD i [] = [] by simp [show i < n by simpa using hi]]
    exact World.ownsRow_nil _ _ _ _
  · rw [nilsA_at n i (by simpa using hi)]; exact .inl rfl
theorem GInv.on {w W W' : World} {g : Nat} {vs : Array Value} {G : List (List Nat)} (r : GInv w W g vs G) (hb : Below W.heap.size W W') : GInv w W' g vs G :=
  ⟨r.kg.below hb r.kg.lt, r.sz, fun i hi => own_below (r.own i hi) hb (Nat.le_refl _), r.apart, r.be.trans (hb.mono r.be.size), r.lo⟩
theorem GInv.push {w W W1 w3 : World} {g i : Nat} {vs : Array Value} {G : List (List Nat)} {v : Value} {c : Nat}
    (hI : GInv w W g vs G) (hi : i < G.length) (hW1 : Below W.heap.size W W1) (ho : w3.ownsRow (g + 1) 5 1 v ((G.getD i []).length + 1) (u8s (G.getD i []) ++ [.int .u8 c]))
    (hgr : W1.grownBy w3 (vs.getD i undef).ownBlock) (hd : v.ownBlock = (vs.getD i undef).ownBlock ∨ ∃ q, v.ownBlock = some q ∧ W1.heap.size ≤ q) :
    GInv w (w3.setCell ⟨g, i, none⟩ v) g (vs.setIfInBounds i v) (G.set i (G.getD i [] ++ [c])) := by
  have hlt := (hI.own i hi).lt
  have hgl := hI.kg.lt
  have hbel : ∀ k, k < g + 1 → w3.heap[k]? = W.heap[k]? := fun k hk => (hgr.block k (by have := hW1.size; omega) (by intro e; have := hlt k e.symm; omega)).trans (hW1.block k (by omega))
  have hvi : i < vs.size := by rw [hI.sz]; exact hi
  have hoth : ∀ h, h < G.length → h ≠ i → w3.ownsRow (g + 1) 5 1 (vs.getD h undef) (G.getD h []).length (u8s (G.getD h [])) := fun h hh hne =>
    (own_below (hI.own h hh) hW1 (Nat.le_refl _)).kept hgr (hI.apart h i hh hi hne)
  have hap : ∀ h, h < G.length → h ≠ i → v.ownBlock = none ∨ v.ownBlock ≠ (vs.getD h undef).ownBlock := by
    intro h hh hne
    rcases hd with hd | ⟨q, hq, hqs⟩
    · rw [hd]; exact hI.apart i h hi hh (Ne.symm hne)
    · refine .inr ?_
      intro e
      have := (hI.own h hh).lt q (by rw [← e, hq])
      have := hW1.size
      omega
  have k3 : Bk w3 g 22 vs := (hbel g (by omega)).trans hI.kg
  refine ⟨k3.set_ i v, by simp [hI.sz], fun h hh => ?_, fun h k hh hk hne => ?_, ⟨hgr.os.trans (hW1.os.trans hI.be.os), hgr.tape.trans (hW1.tape.trans hI.be.tape), hgr.output.trans (hW1.output.trans hI.be.output), by simp [World.setCell]; exact Nat.le_trans hI.be.size (Nat.le_trans hW1.size hgr.size), fun k hk => ?_⟩, hI.lo⟩
  · have hh' : h < G.length := by simpa using hh
    by_cases e : h = i
    · subst e
      rw [agetD_set_eq _ _ _ _ hvi, getD_set_eq _ _ _ _ hh', show (G.getD h [] ++ [c]).length = (G.getD h []).length + 1 by simp]
      exact ownsRow_setCell_below (by simpa [u8s] using ho) (by simp) v
    · rw [agetD_set_ne _ _ _ _ _ e, getD_set_ne _ _ _ _ _ e]
      exact ownsRow_setCell_below (hoth h hh' e) (by simp) v
  · have hh' : h < G.length := by simpa using hh
    have hk' : k < G.length := by simpa using hk
    by_cases e : h = i
    · subst e
      rw [agetD_set_eq _ _ _ _ hvi, agetD_set_ne _ _ _ _ _ (Ne.symm hne)]
      exact hap k hk' (Ne.symm hne)
    · by_cases e2 : k = i
      · subst e2
        rw [agetD_set_ne _ _ _ _ _ e, agetD_set_eq _ _ _ _ hvi]
        rcases hap h hh' e with h0 | h0
        · cases hob : (vs.getD h undef).ownBlock with
          | none => exact .inl rfl
          | some q => exact .inr (by rw [h0]; simp)
        · exact .inr (Ne.symm h0)
      · rw [agetD_set_ne _ _ _ _ _ e, agetD_set_ne _ _ _ _ _ e2]
        exact hI.apart h k hh' hk' hne
  · have hg : k ≠ g := by have := hI.lo; omega
    exact (Below.heap_setCell w3 ⟨g, i, none⟩ v k hg).trans ((hbel k (by have := hI.lo; omega)).trans (hI.be.block k hk))
def natI (l : List Nat) : List Value := i64s (l.map fun x : Nat => (x : Int))
theorem Sl.natI {w : World} {B n : Nat} {A : Option Addr} {l : List Nat} (h : Sl w B 1 A n (natI l)) {j : Nat} (hj : j < n) :
    ∃ b off, A = some ⟨b, off, none⟩ ∧ b < B ∧ w.cell? ⟨b, off + j, none⟩ = some (.int .i64 (l.getD j 0 : Nat)) := by
  have hl : l.length = n := by have := h.len; simp [Proofs.YtcjnabbggmbfgaaDoor.natI, i64s] at this; omega
  obtain ⟨b, off, h1, h2, h3⟩ := Sl.i64 (l := l.map fun x : Nat => (x : Int)) h hj
  refine ⟨b, off, h1, h2, ?_⟩
  rw [h3]; simp [show j < l.length by omega]
def GRet (w : World) (r : Option (List (List Nat))) (e : Ending) (w' : World) : Prop :=
  ∃ v, e = .returned v ∧ (match r with | none => v = .slice none 0 0 | some R => (∃ g, v = .slice (some ⟨g, 0, none⟩) R.length R.length) ∧ Groups w' w.heap.size v R) ∧ Below w.heap.size w w'
theorem GInv.groups {w W : World} {g : Nat} {vs : Array Value} {G : List (List Nat)} (r : GInv w W g vs G) (h : G.length ≤ 1000) : Groups W w.heap.size (.slice (some ⟨g, 0, none⟩) G.length G.length) G := by
  refine ⟨vs.toList, ⟨by simp [r.sz], .inr ⟨g, G.length, vs, rfl, r.lo, r.kg, Nat.le_refl _, by unfold maxLen; omega, by simp [r.sz], ?_⟩⟩, by simp [r.sz], fun i hi => ?_⟩
  · rw [List.take_of_length_le (by simp [r.sz])]
  · have := own_mono (r.own i hi) (base' := w.heap.size) (by have := r.lo; omega)
    simpa using this
set_option maxRecDepth 100000 in
set_option maxHeartbeats 4000000 in
theorem groups_any (A Ap : Option Addr) (n c cp many : Nat) (cls pat : List Nat) (w : World) (hn : n ≤ 9) (hm : many ≤ 9) (hs : Sl w w.heap.size 1 A n (u8s cls)) (hp : Sl w w.heap.size 1 Ap n (natI pat))
    (hc10 : ∀ x ∈ cls, x < 10) (hpm : ∀ x ∈ pat, x < many) :
    Calls Tryd.prog 34 #[.slice A n c, .slice Ap n cp, .int .i64 many] w (GRet w (Dg.groupsF cls pat many)) := by
  have hll : cls.length = n := by have := hs.len; rw [u8s_len] at this; omega
  have hpl : pat.length = n := by have := hp.len; simp [natI, i64s] at this; omega
  have hmk := make_nils many (by omega)
  have hG := GInv.zero w many
  go_enter Tryd.func34, Tryd.ntmps34
  go_wp2
  clear hmk
  have hwg : w.heap.size < (w.alloc (.cells (nilsA many) 22)).heap.size := hG.kg.lt
  generalize hgg : w.heap.size = g at *
  generalize (w.alloc (.cells (nilsA many) 22)) = W0 at *
  generalize nilsA many = vs0 at *
  have HL := Lib.hid hll; have HPL := Lib.hid hpl; clear hll hpl
  have HC := Lib.hid hc10; have HPM := Lib.hid hpm; clear hc10 hpm
  go_loopw [8] (fun q wr => ∃ (i : Nat) (vs : Array Value), i ≤ n ∧ q = .int .i64 i ∧ GInv w wr g vs (Dg.gTo cls pat many i) ∧ Hid (Dg.okTo cls pat i = true)) (fun q _ => n - (intOf q).toNat)
  case atStart => exact ⟨0, vs0, Nat.zero_le _, rfl, hG, Lib.hid rfl⟩
  case round =>
    clear hG
    obtain ⟨i, vs, hi, rfl, hG, HOK⟩ := hrel
    by_cases hlt : i < n
    · have hbe0 := hG.be
      rw [hgg] at hbe0
      obtain ⟨bp, op, rfl, hbpB, hpi⟩ := (hp.below hbe0).natI hlt
      obtain ⟨b, off, rfl, hbB, hci⟩ := (hs.below hbe0).u8 hlt
      have hil : i < cls.length := by rw [HL.out]; exact hlt
      have hipl : i < pat.length := by rw [HPL.out]; exact hlt
      have hx10 : cls.getD i 0 < 10 := HC.out _ (getD_mem hil)
      have hpm : pat.getD i 0 < many := HPM.out _ (getD_mem hipl)
      obtain ⟨wo, rfl⟩ : ∃ wo : World, wo = wr := ⟨_, rfl⟩
      have HNX := Lib.hid (show Dg.gTo cls pat many (i + 1) = (Dg.gTo cls pat many i).set (pat.getD i 0) ((Dg.gTo cls pat many i).getD (pat.getD i 0) [] ++ [cls.getD i 0]) from rfl)
      have HOKS := Lib.hid (Dg.okTo_succ cls pat i)
      have HNO := Lib.hid (fun h => Dg.okTo_not (n := cls.length) (cls := cls) (pat := pat) hil h)
      have hGl := Dg.gTo_len cls pat many i
      have hGr := Dg.gTo_row cls pat many i
      generalize Dg.gTo cls pat many i = G at *
      generalize hcx : cls.getD i 0 = ci at *
      generalize hpx : pat.getD i 0 = pi at *
      have HCX := Lib.hid hcx; have HPX := Lib.hid hpx; clear hcx hpx
      go_wp2
      clear hpi hci
      go_loopw [9] (fun q wr => ∃ (k : Nat), k ≤ i ∧ q = .int .i64 k ∧ GInv w wr g vs G ∧ Hid (Dg.okRow cls pat i k = true)) (fun q _ => i - (intOf q).toNat)
      case atStart => exact ⟨0, Nat.zero_le _, rfl, hG, Lib.hid rfl⟩
      case round =>
        clear hG hbe0
        obtain ⟨k, hk, rfl, hG, HOR⟩ := hrel
        have hbe := hG.be
        rw [hgg] at hbe
        obtain ⟨bp', op', e1, _, hpi⟩ := (hp.below hbe).natI hlt
        obtain ⟨b', off', e2, _, hci⟩ := (hs.below hbe).u8 hlt
        cases e1
        cases e2
        rw [HPX.out] at hpi
        rw [HCX.out] at hci
        have hgw : g < wr.heap.size := hG.kg.lt
        by_cases hki : k < i
        · obtain ⟨bp', op', e1, _, hpk⟩ := (hp.below hbe).natI (j := k) (by omega)
          obtain ⟨b', off', e2, _, hck⟩ := (hs.below hbe).u8 (j := k) (by omega)
          cases e1
          cases e2
          have hkc : k < cls.length := by rw [HL.out]; omega
          have hk10 : cls.getD k 0 < 10 := HC.out _ (getD_mem hkc)
          have HRS := Lib.hid (Dg.okRow_succ cls pat i k)
          have HRN := Lib.hid (fun h => Dg.okRow_not (n := i) (cls := cls) (pat := pat) (i := i) hki h)
          have HCA := Lib.hid (show Dg.clashAt cls pat i k = ((pat.getD k 0 == pat.getD i 0) && decide (0 < Dg.tab (cls.getD k 0) (cls.getD i 0))) from rfl)
          rw [HCX.out, HPX.out] at HCA
          generalize cls.getD k 0 = ck at *
          generalize pat.getD k 0 = pk at *
          have h3 := Dg.tab_le ck ci hk10 hx10
          have HO := Lib.hid fun W : World => of_any ck ci W hk10 hx10
          generalize Dg.tab ck ci = t at *
          by_cases hpp : pk = pi
          · have hpp2 : ((pk : Int) == (pi : Int)) = true := by simp; omega
            have j1 : (0 : Int) ≤ (k : Int) := by omega
            have j2 : (k : Int) < (n : Int) := by omega
            have j3 : (0 : Int) ≤ (i : Int) := by omega
            have j4 : (i : Int) < (n : Int) := by omega
            have hbw : b < wr.heap.size := by omega
            have hbpw : bp < wr.heap.size := by omega
            by_cases ht : 0 < t
            · have hdt : decide ((0 : Int) < (t : Int)) = true := by simp; omega
              have HN := Lib.hid (HNO.out (HRN.out (by rw [HCA.out]; simp [hpp, ht])))
              go_upto_region 8 with fail
              go_region_held3 (fun w' => w'.cell? ⟨bp, op + k, none⟩ = some (.int .i64 pk) ∧ w'.cell? ⟨bp, op + i, none⟩ = some (.int .i64 pi) ∧ w'.cell? ⟨b, off + k, none⟩ = some (.int .u8 ck) ∧ w'.cell? ⟨b, off + i, none⟩ = some (.int .u8 ci)) (go_keep)
                (first | (go_at_call 29; refine (HO.out _).mono ?_; rintro e w1 ⟨rfl, hb1⟩; have y1 := (hb1.cell (p := ⟨bp, op + k, none⟩) hbpw).trans hpk; have y2 := (hb1.cell (p := ⟨bp, op + i, none⟩) hbpw).trans hpi; have y3 := (hb1.cell (p := ⟨b, off + k, none⟩) hbw).trans hck; have y4 := (hb1.cell (p := ⟨b, off + i, none⟩) hbw).trans hci))
              all_goals
                go_wp2
                go_ret
                exact ⟨_, rfl, by rw [show Dg.groupsF cls pat many = none by unfold Dg.groupsF; rw [HN.out]; rfl]; rfl, hG.be.trans (((Below.refl wr.heap.size wr).drew.trans hb1).mono hG.be.size)⟩
            · have hdt : decide ((0 : Int) < (t : Int)) = false := by simp; omega
              have HR2 := Lib.hid (show Dg.okRow cls pat i (k + 1) = true by rw [HRS.out, HOR.out, HCA.out]; simp [ht])
              go_upto_region 8 with fail
              go_region_held3 (fun w' => w'.cell? ⟨bp, op + k, none⟩ = some (.int .i64 pk) ∧ w'.cell? ⟨bp, op + i, none⟩ = some (.int .i64 pi) ∧ w'.cell? ⟨b, off + k, none⟩ = some (.int .u8 ck) ∧ w'.cell? ⟨b, off + i, none⟩ = some (.int .u8 ci)) (go_keep)
                (first | (go_at_call 29; refine (HO.out _).mono ?_; rintro e w1 ⟨rfl, hb1⟩; have y1 := (hb1.cell (p := ⟨bp, op + k, none⟩) hbpw).trans hpk; have y2 := (hb1.cell (p := ⟨bp, op + i, none⟩) hbpw).trans hpi; have y3 := (hb1.cell (p := ⟨b, off + k, none⟩) hbw).trans hck; have y4 := (hb1.cell (p := ⟨b, off + i, none⟩) hbw).trans hci))
              all_goals
                go_wp2
                go_roundw
                case rel => exact ⟨k + 1, by omega, by go_num, hG.on ((Below.refl wr.heap.size wr).drew.trans hb1), HR2⟩
                case measure => simp [intOf]; omega
          · have hpp2 : ((pk : Int) == (pi : Int)) = false := by simp; omega
            go_wp2
            go_quiet (fail)
            have HR2 := Lib.hid (show Dg.okRow cls pat i (k + 1) = true by rw [HRS.out, HOR.out, HCA.out]; simp [hpp])
            go_wp2
            go_roundw
            case rel => exact ⟨k + 1, by omega, by go_num, hG.on (below_drewN (Below.refl _ _) _), HR2⟩
            case measure => simp [intOf]; omega
        · have hki' : k = i := by omega
          subst hki'
          have HR2 := Lib.hid (show Dg.okTo cls pat (k + 1) = true by rw [HOKS.out, HOK.out, HOR.out]; rfl)
          have hpl : pi < G.length := by omega
          have hown := hG.own pi hpl
          obtain ⟨Ag, cap, hv, hcap, hcm, hsl⟩ := own_sl hown
          have hvz : pi < vs.size := by rw [hG.sz]; exact hpl
          have cg : wr.cell? ⟨g, pi, none⟩ = some (.slice Ag (G.getD pi []).length cap) := by
            rw [hG.kg.cell pi, ← hv]; simp [hvz]
          have hGl9 := hGr pi
          have Hat9 := Lib.hid (show vs[pi]? = some (.slice Ag (G.getD pi []).length cap) by rw [← hv]; simp [hvz])
          rw [hv] at hown
          have Hown := Lib.hid hown; clear hown hsl
          have HV := Lib.hid hv; clear hv
          generalize hGg : G.getD pi [] = Gg at *
          have HGg := Lib.hid hGg; clear hGg
          have j1 : (0 : Int) ≤ (k : Int) := by omega
          have j2 : (k : Int) < (n : Int) := by omega
          have j3 : (0 : Int) ≤ (pi : Int) := by omega
          have j4 : (pi : Int) < (many : Int) := by omega
          have hz1 : b < wr.heap.size := by omega
          have hz2 : bp < wr.heap.size := by omega
          have hz6 : g + 1 ≤ wr.heap.size := by omega
          have HG := Lib.hid hG; clear hG
          have HB := Lib.hid hbe; clear hbe
          go_upto_region 10 with fail
          go_region_law (refine step_append1 el_u8 rfl (.tmp 55) (.tmp 60) rfl (g + 1) (.slice Ag Gg.length cap) Gg.length (u8s Gg) (by simp [Act.eval]) (Hown.out.alloc _) wr.heap.size #[.int .u8 ci] 1 (by simp [Act.eval]) (Bk.new wr _ _) rfl rfl (by unfold maxLen; omega) (by omega) (by simp; omega) ?_; intro v' w3 ho3 hg3 hd3 hb3; obtain ⟨A', c', rfl, hA1, hA2, hS3⟩ := own_sl ho3; have kg3 : Bk w3 g 22 vs := (hb3.block g (by omega)).trans (HG.out.kg.alloc (.cells #[.int .u8 ci] 5)); have cg3 : w3.cell? ⟨g, pi, none⟩ = some (.slice Ag Gg.length cap) := (kg3.cell pi).trans Hat9.out; have fg3 : w3.frozen? ⟨g, pi, none⟩ = false := kg3.frozen pi; have cp3 : w3.cell? ⟨bp, op + k, none⟩ = some (.int .i64 pi) := (hb3.cell (p := ⟨bp, op + k, none⟩) (by show bp < g + 1; omega)).trans (((Below.refl _ wr).alloc (Nat.le_refl _) (.cells #[.int .u8 ci] 5)).cell (p := ⟨bp, op + k, none⟩) hz2 |>.trans hpi); have H3 := Lib.hid (And.intro ho3 (And.intro hg3 (And.intro hd3 hb3))); clear ho3 hg3 hd3 hb3 kg3 hS3)
          all_goals
            go_wp2_with fail
            obtain ⟨ho3, hg3, hd3, hb3⟩ := H3.out
            have PU := HG.out.push (c := ci) (v := .slice A' (Gg.length + 1) c') (W1 := (wr.alloc (.cells #[.int .u8 ci] 5)).drew) hpl ((Below.refl _ _).alloc (Nat.le_refl _) _).drew (by rw [HGg.out]; exact ho3) (by rw [HV.out]; exact hg3) (by rw [HV.out]; exact hd3)
            rw [HGg.out] at PU
            go_roundw
            case rel => exact ⟨k + 1, _, by omega, by go_num, by rw [HNX.out]; exact PU, HR2⟩
            case measure => simp [intOf]; omega
    · have hin : i = n := by omega
      subst hin
      have HR := Lib.hid (show Dg.groupsF cls pat many = some (Dg.gTo cls pat many i) by unfold Dg.groupsF; rw [HL.out, HOK.out]; rfl)
      go_wp2
      go_ret
      refine ⟨_, rfl, ?_, hG.be⟩
      rw [HR.out]
      have hl := Dg.gTo_len cls pat many i
      have := hG.groups (by omega)
      rw [hl] at this
      exact ⟨⟨g, by rw [hl]; rfl⟩, this⟩
end Go.Proofs.YtcjnabbggmbfgaaDoor
