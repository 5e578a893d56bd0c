/-
  The walk of danger.Divide's search (its closure).
-/
import Derived.Test.YtcjnabbggmbfgaaDoorDgB
import Derived.Deep.RegionLaw
import Derived.Deep.DeepCutAuto
import Derived.BigRegion
import Derived.BigQuiet
import Derived.Deep.QuietTactic
namespace Go.Proofs.YtcjnabbggmbfgaaDoor
open Go.RowKit

theorem el_u8 : El Tryd.prog 22 5 1 1 := El.mk' Tryd.underlying22 (by kernel_rfl) (by decide)

def P0 (b : Nat) : Value := .pointer (some ⟨b, 0, none⟩)
theorem quietL {P : Program} {f : FuncId} {args : Array Value} {w : World} {n : Nat} {v : Value} (h : Calls P f args (w.drewN n) fun e w' => e = .returned v ∧ w.drewN n = w') :
    Calls P f args (w.drewN n) fun e w'' => e = .returned v ∧ ∃ m, w'' = w.drewN m := h.mono fun _ _ ⟨he, hm⟩ => ⟨he, n, hm.symm⟩
/-- What the search finds in memory: the classes, the most, the groups G (slices vs of rows of its own, from base on), itself. -/
structure TryInv (w : World) (base bc bm bg bt : Nat) (Ac : Option Addr) (nc cc : Nat) (cls : List Nat) (most : Nat) (vs : Array Value) (G : List (List Nat)) : Prop where
  tab : TabOK w
  kc : Bk w bc 22 #[.slice Ac nc cc]
  sc : Sl w bm 1 Ac nc (u8s cls)
  km : Bk w bm 3 #[.int .i64 most]
  kg : Bk w bg 54 vs
  kt : Bk w bt 55 #[.func (.func 22) #[] #[.pointer (some ⟨bc, 0, none⟩), .pointer (some ⟨bm, 0, none⟩), .pointer (some ⟨bg, 0, none⟩), .pointer (some ⟨bt, 0, none⟩)]]
  sz : vs.size = 9
  gl : G.length = 9
  own : ∀ g, g < 9 → w.ownsRow base 5 1 (vs.getD g undef) (G.getD g []).length (u8s (G.getD g []))
  apart : ∀ g h, g < 9 → h < 9 → g ≠ h → (vs.getD g undef).ownBlock = none ∨ (vs.getD g undef).ownBlock ≠ (vs.getD h undef).ownBlock
  lt : bc < base ∧ bm < base ∧ bg < base ∧ bt < base ∧ base ≤ w.heap.size ∧ 0 < bm ∧ bm < bg ∧ bc < bm ∧ bg < bt
  small : ∀ g, g < 9 → ∀ x ∈ G.getD g [], x < 10
/-- Blocks below base, but for bg, are as they were. -/
structure Fr (base bg : Nat) (w w' : World) : Prop where
  os : w'.os = w.os
  tape : w'.tape = w.tape
  output : w'.output = w.output
  size : w.heap.size ≤ w'.heap.size
  block : ∀ k, k < base → k ≠ bg → w'.heap[k]? = w.heap[k]?
theorem Fr.refl (base bg : Nat) (w : World) : Fr base bg w w := ⟨rfl, rfl, rfl, Nat.le_refl _, fun _ _ _ => rfl⟩
theorem Fr.trans {base bg : Nat} {a b c : World} (h : Fr base bg a b) (k : Fr base bg b c) : Fr base bg a c :=
  ⟨k.os.trans h.os, k.tape.trans h.tape, k.output.trans h.output, Nat.le_trans h.size k.size, fun i hi hn => (k.block i hi hn).trans (h.block i hi hn)⟩
theorem Fr.drew {base bg : Nat} {a w : World} (h : Fr base bg a w) (n : Nat) : Fr base bg a (w.drewN n) := ⟨h.os, h.tape, h.output, h.size, h.block⟩

theorem TryInv.drewN {w : World} {base bc bm bg bt : Nat} {Ac : Option Addr} {nc cc : Nat} {cls : List Nat} {most : Nat} {vs : Array Value} {G : List (List Nat)} (h : TryInv w base bc bm bg bt Ac nc cc cls most vs G) (n : Nat) :
    TryInv (w.drewN n) base bc bm bg bt Ac nc cc cls most vs G := ⟨h.tab, h.kc, h.sc.drewN n, h.km, h.kg, h.kt, h.sz, h.gl, h.own, h.apart, h.lt, h.small⟩
theorem TryInv.drew1 {w : World} {base bc bm bg bt : Nat} {Ac : Option Addr} {nc cc : Nat} {cls : List Nat} {most : Nat} {vs : Array Value} {G : List (List Nat)} (h : TryInv w base bc bm bg bt Ac nc cc cls most vs G) :
    TryInv w.drew base bc bm bg bt Ac nc cc cls most vs G := h.drewN 1
theorem Fr.drew1 {base bg : Nat} {a w : World} (h : Fr base bg a w) : Fr base bg a w.drew := h.drew 1
theorem getD_set_ne {α : Type} (l : List α) (g h : Nat) (x d : α) (hne : h ≠ g) : (l.set g x).getD h d = l.getD h d := by
  simp [List.getElem?_set_ne (Ne.symm hne)]
theorem getD_set_eq {α : Type} (l : List α) (g : Nat) (x d : α) (hg : g < l.length) : (l.set g x).getD g d = x := by
  simp [List.getElem?_set_self hg]
theorem agetD_set_ne (l : Array Value) (g h : Nat) (x d : Value) (hne : h ≠ g) : (l.setIfInBounds g x).getD h d = l.getD h d := by
  simp [Ne.symm hne]
theorem agetD_set_eq (l : Array Value) (g : Nat) (x d : Value) (hg : g < l.size) : (l.setIfInBounds g x).getD g d = x := by
  simp [hg]

theorem TryInv.store {W w3 : World} {base bc bm bg bt : Nat} {Ac : Option Addr} {nc cc : Nat} {cls : List Nat} {most : Nat} {us : Array Value} {G : List (List Nat)} {g : Nat} {v : Value} {l : List Nat}
    (hI : TryInv W base bc bm bg bt Ac nc cc cls most us G) (hg : g < 9) (hbel : ∀ k, k < base → w3.heap[k]? = W.heap[k]?) (hsz : W.heap.size ≤ w3.heap.size)
    (hoth : ∀ h, h < 9 → h ≠ g → w3.ownsRow base 5 1 (us.getD h undef) (G.getD h []).length (u8s (G.getD h [])))
    (hv : w3.ownsRow base 5 1 v l.length (u8s l)) (hap : ∀ h, h < 9 → h ≠ g → v.ownBlock = none ∨ v.ownBlock ≠ (us.getD h undef).ownBlock) (hl : ∀ x ∈ l, x < 10) :
    TryInv (w3.setCell ⟨bg, g, none⟩ v) base bc bm bg bt Ac nc cc cls most (us.setIfInBounds g v) (G.set g l) := by
  obtain ⟨l1, l2, l3, l4, l5, l6, l7, l8, l9⟩ := hI.lt
  have hblk : ∀ k, k < base → k ≠ bg → (w3.setCell ⟨bg, g, none⟩ v).heap[k]? = W.heap[k]? := fun k hk hn => (Below.heap_setCell w3 ⟨bg, g, none⟩ v k hn).trans (hbel k hk)
  have hcell : ∀ b o, b < base → b ≠ bg → (w3.setCell ⟨bg, g, none⟩ v).cell? ⟨b, o, none⟩ = W.cell? ⟨b, o, none⟩ := fun b o hb hn => World.cell?_of_block (hblk b hb hn)
  refine ⟨fun a b ha hb => (hcell _ _ (by omega) (by omega)).trans (hI.tab a b ha hb), (hblk _ l1 (by omega)).trans hI.kc, hI.sc.keep fun b o hb => hcell _ _ (by omega) (by omega), (hblk _ l2 (by omega)).trans hI.km,
    ?_, (hblk _ l4 (by omega)).trans hI.kt, by simp [hI.sz], by simp [hI.gl], fun h hh => ?_, fun h k hh hk hne => ?_, ⟨l1, l2, l3, l4, by simp [World.setCell]; omega, l6, l7, l8, l9⟩, fun h hh => ?_⟩
  · have : Bk w3 bg 54 us := (hbel bg l3).trans hI.kg
    exact this.set_ g v
  · by_cases e : h = g
    · subst e
      rw [agetD_set_eq _ _ _ _ (by rw [hI.sz]; exact hg), getD_set_eq _ _ _ _ (by rw [hI.gl]; exact hg)]
      exact ownsRow_setCell_below hv (by simpa using l3) v
    · rw [agetD_set_ne _ _ _ _ _ e, getD_set_ne _ _ _ _ _ e]
      exact ownsRow_setCell_below (hoth h hh e) (by simpa using l3) v
  · by_cases e : h = g
    · subst e
      rw [agetD_set_eq _ _ _ _ (by rw [hI.sz]; exact hg), agetD_set_ne _ _ _ _ _ (Ne.symm hne)]
      exact hap k hk (Ne.symm hne)
    · by_cases e2 : k = g
      · subst e2
        rw [agetD_set_ne _ _ _ _ _ e, agetD_set_eq _ _ _ _ (by rw [hI.sz]; exact hg)]
        rcases hap h hh e with h0 | h0
        · cases hob : (us.getD h undef).ownBlock with
          | none => exact .inl rfl
          | some q => exact .inr (by rw [h0]; simp)
        · exact .inr (Ne.symm h0)
      · rw [agetD_set_ne _ _ _ _ _ e, agetD_set_ne _ _ _ _ _ e2]
        exact hI.apart h k hh hk hne
  · by_cases e : h = g
    · subst e; rw [getD_set_eq _ _ _ _ (by rw [hI.gl]; exact hg)]; exact hl
    · rw [getD_set_ne _ _ _ _ _ e]; exact hI.small h hh
theorem TryInv.push {W W1 w3 : World} {base bc bm bg bt : Nat} {Ac : Option Addr} {nc cc : Nat} {cls : List Nat} {most : Nat} {us : Array Value} {G : List (List Nat)} {g : Nat} {v : Value} {c : Nat}
    (hI : TryInv W base bc bm bg bt Ac nc cc cls most us G) (hg : g < 9) (hW1 : Below W.heap.size W W1) (ho : w3.ownsRow base 5 1 v ((G.getD g []).length + 1) (u8s (G.getD g []) ++ [.int .u8 c]))
    (hgr : W1.grownBy w3 (us.getD g undef).ownBlock) (hd : v.ownBlock = (us.getD g undef).ownBlock ∨ ∃ q, v.ownBlock = some q ∧ W1.heap.size ≤ q) (hc : c < 10) :
    TryInv (w3.setCell ⟨bg, g, none⟩ v) base bc bm bg bt Ac nc cc cls most (us.setIfInBounds g v) (G.set g (G.getD g [] ++ [c])) ∧ Fr base bg W (w3.setCell ⟨bg, g, none⟩ v) := by
  obtain ⟨l1, l2, l3, l4, l5, l6, l7, l8, l9⟩ := hI.lt
  have hlt := (hI.own g hg).lt
  have hbel : ∀ k, k < base → w3.heap[k]? = W.heap[k]? := fun k hk => (hgr.block k (by have := hW1.size; omega) (by intro e; have := hlt k e.symm; omega)).trans (hW1.block k (by omega))
  have hsz : W.heap.size ≤ w3.heap.size := Nat.le_trans hW1.size hgr.size
  refine ⟨hI.store hg hbel hsz (fun h hh hne => ?_) (by simpa [u8s] using ho) (fun h hh hne => ?_) (fun x hx => ?_), ?_⟩
  · refine (own_below (hI.own h hh) hW1 (Nat.le_refl _)).kept hgr ?_
    exact hI.apart h g hh hg hne
  · rcases hd with hd | ⟨q, hq, hqs⟩
    · rw [hd]; exact hI.apart g h hg hh (Ne.symm hne)
    · refine .inr ?_
      intro e
      have := (hI.own h hh).lt q (by rw [← e, hq])
      have := hW1.size
      omega
  · rcases List.mem_append.1 hx with hx | hx
    · exact hI.small g hg x hx
    · simp at hx; omega
  · exact ⟨hgr.os.trans hW1.os, hgr.tape.trans hW1.tape, hgr.output.trans hW1.output, by simp [World.setCell]; exact hsz, fun k hk hn => (Below.heap_setCell w3 ⟨bg, g, none⟩ v k hn).trans (hbel k hk)⟩
theorem TryInv.pop {W : World} {base bc bm bg bt : Nat} {Ac : Option Addr} {nc cc : Nat} {cls : List Nat} {most : Nat} {us : Array Value} {G : List (List Nat)} {g : Nat} {A : Option Addr} {c x : Nat} {l : List Nat}
    (hI : TryInv W base bc bm bg bt Ac nc cc cls most us (G.set g (l ++ [x]))) (hg : g < 9) (hG : G.getD g [] = l) (hu : us.getD g undef = .slice A (l.length + 1) c) :
    TryInv (W.setCell ⟨bg, g, none⟩ (.slice A l.length c)) base bc bm bg bt Ac nc cc cls most (us.setIfInBounds g (.slice A l.length c)) G ∧ Fr base bg W (W.setCell ⟨bg, g, none⟩ (.slice A l.length c)) := by
  have hgl : G.length = 9 := by simpa using hI.gl
  have e1 : (G.set g (l ++ [x])).getD g [] = l ++ [x] := getD_set_eq _ _ _ _ (by omega)
  have ho := hI.own g hg
  rw [e1, hu] at ho
  have hown : W.ownsRow base 5 1 (.slice A l.length c) l.length (u8s l) := by
    obtain ⟨h1, ⟨h2, _⟩ | ⟨q, cap, cur, hv, hb, hh, hn, hm, hs, ht⟩⟩ := ho
    · injection h2 with _ h3; omega
    · injection hv with hv1 hv2 hv3
      refine ⟨by simp [u8s], .inr ⟨q, c, cur, by rw [hv1], hb, hh, by simp at hn; omega, by omega, by rw [hv3]; exact hs, ?_⟩⟩
      have := congrArg (List.take l.length) ht
      rw [List.take_take] at this
      simpa [u8s, List.take_append] using this
  have hs := hI.store (v := .slice A l.length c) (l := l) hg (fun _ _ => rfl) (Nat.le_refl _) (fun h hh hne => hI.own h hh) hown (fun h hh hne => by
      have := hI.apart g h hg hh (Ne.symm hne)
      rw [hu] at this
      cases A with
      | none => exact .inl rfl
      | some a => exact this) (fun y hy => hI.small g hg y (by rw [e1]; exact List.mem_append_left _ hy))
  rw [List.set_set] at hs
  have e2 : G.set g l = G := by
    apply List.ext_getElem?
    intro i
    by_cases e : i = g
    · subst e
      rw [List.getElem?_set_self (by omega)]
      rw [← hG]; simp [show i < G.length by omega]
    · rw [List.getElem?_set_ne (Ne.symm e)]
  rw [e2] at hs
  exact ⟨hs, ⟨rfl, rfl, rfl, by simp [World.setCell], fun k hk hn => Below.heap_setCell W ⟨bg, g, none⟩ _ k hn⟩⟩
def TryPost (w : World) (base bc bm bg bt : Nat) (Ac : Option Addr) (nc cc : Nat) (cls : List Nat) (most : Nat) (G : List (List Nat)) (r : Option (List (List Nat))) (e : Ending) (w' : World) : Prop :=
  ∃ vs, e = .returned (.bool r.isSome) ∧ TryInv w' base bc bm bg bt Ac nc cc cls most vs (r.getD G) ∧ Fr base bg w w'

set_option maxRecDepth 100000 in
set_option maxHeartbeats 2000000 in
theorem try_end (w : World) (base bc bm bg bt : Nat) (Ac : Option Addr) (nc cc : Nat) (cls : List Nat) (most used : Nat) (vs : Array Value) (G : List (List Nat))
    (hI : TryInv w base bc bm bg bt Ac nc cc cls most vs G) :
    Calls Tryd.prog 22 #[.int .i64 nc, .int .i64 used, .pointer (some ⟨bc, 0, none⟩), .pointer (some ⟨bm, 0, none⟩), .pointer (some ⟨bg, 0, none⟩), .pointer (some ⟨bt, 0, none⟩)] w
      (TryPost w base bc bm bg bt Ac nc cc cls most G (some G)) := by
  have c1 := hI.kc.cell 0
  simp at c1
  go_enter Tryd.func22, Tryd.ntmps22
  go_wp2
  go_ret
  exact ⟨vs, rfl, hI, Fr.refl _ _ _⟩

theorem tryF_cons (most c : Nat) (cs : List Nat) (used : Nat) (G : List (List Nat)) : Dg.tryF most (c :: cs) used G = (List.range (min (used + 1) most)).findSome? fun g =>
      if Dg.fits (G.getD g []) c then Dg.tryF most cs (max used (g + 1)) (G.set g (G.getD g [] ++ [c])) else none := rfl

set_option maxRecDepth 100000 in
set_option maxHeartbeats 4000000 in
theorem try_any (base bc bm bg bt : Nat) (Ac : Option Addr) (nc cc : Nat) (cls : List Nat) (most : Nat) (hcl : ∀ x ∈ cls, x < 10) (hm9 : most ≤ 9) (hn9 : nc ≤ 9) :
    ∀ (m at_ used : Nat) (w : World) (vs : Array Value) (G : List (List Nat)), at_ + m = nc → used ≤ at_ → (∀ g, g < 9 → (G.getD g []).length ≤ at_) → TryInv w base bc bm bg bt Ac nc cc cls most vs G →
    Calls Tryd.prog 22 #[.int .i64 at_, .int .i64 used, .pointer (some ⟨bc, 0, none⟩), .pointer (some ⟨bm, 0, none⟩), .pointer (some ⟨bg, 0, none⟩), .pointer (some ⟨bt, 0, none⟩)] w
      (TryPost w base bc bm bg bt Ac nc cc cls most G (Dg.tryF most (cls.drop at_) used G)) := by
  intro m
  induction m with
  | zero =>
    intro at_ used w vs G hat hus hlen hI
    have hll : cls.length = nc := by have := hI.sc.len; rw [u8s_len] at this; omega
    obtain rfl : at_ = nc := by omega
    rw [List.drop_of_length_le (by omega)]
    exact try_end w base bc bm bg bt Ac at_ cc cls most used vs G hI
  | succ m ih =>
    intro at_ used w vs G hat hus hlen hI
    have hll : cls.length = nc := by have := hI.sc.len; rw [u8s_len] at this; omega
    have hal : at_ < cls.length := by omega
    have hdrop : cls.drop at_ = cls.getD at_ 0 :: cls.drop (at_ + 1) := by
      rw [List.drop_eq_getElem_cons hal]; simp [hal]
    rw [hdrop, tryF_cons]
    have hc10 : cls.getD at_ 0 < 10 := hcl _ (getD_mem hal)
    generalize hcv : cls.getD at_ 0 = cv at *
    have HCV := Lib.hid hcv; clear hcv
    have HIH := Lib.hid ih; clear ih
    have HCL := Lib.hid hcl; clear hcl
    have HLEN := Lib.hid hlen; clear hlen
    generalize hf : (fun g => if Dg.fits (G.getD g []) cv then Dg.tryF most (cls.drop (at_ + 1)) (max used (g + 1)) (G.set g (G.getD g [] ++ [cv])) else none) = f at *
    have HF := Lib.hid hf; clear hf hdrop hll
    have c1 := hI.kc.cell 0
    simp at c1
    have hb1 : ((at_ : Int) == (nc : Int)) = false := by simp; omega
    go_enter Tryd.func22, Tryd.ntmps22
    go_wp2
    clear c1
    go_loopw [9] (fun i wr => ∃ (g : Nat) (us : Array Value), g ≤ min (used + 1) most ∧ i = .int .i64 g ∧ TryInv wr base bc bm bg bt Ac nc cc cls most us G ∧ Fr base bg w wr ∧ Hid ((List.range g).findSome? f = none)) (fun i _ => 10 - (intOf i).toNat)
    case atStart => exact ⟨0, vs, Nat.zero_le _, rfl, hI, Fr.refl _ _ _, Lib.hid rfl⟩
    case round =>
      obtain ⟨g, us, hg, rfl, hJ, hfr, HN⟩ := hrel
      have cm := hJ.km.cell 0
      simp at cm
      by_cases hgu : g ≤ used
      · by_cases hgm : g < most
        · have hg9 : g < 9 := by omega
          have cc1 := hJ.kc.cell 0
          simp at cc1
          have hown := hJ.own g hg9
          obtain ⟨Ag, cap, hv, hcap, hcm, hsl⟩ := own_sl hown
          have cg : wr.cell? ⟨bg, g, none⟩ = some (.slice Ag (G.getD g []).length cap) := by
            rw [hJ.kg.cell g, ← hv]; simp [show g < us.size by rw [hJ.sz]; exact hg9]
          obtain ⟨b, off, rfl, hbB, hcl⟩ := hJ.sc.u8 (j := at_) (by omega)
          rw [HCV.out] at hcl
          have hGl := HLEN.out g hg9
          have hsm := hJ.small g hg9
          have HSM := Lib.hid hsm; clear hsm
          have hi1 : (0 : Int) ≤ (g : Int) := by omega
          have hi2 : (g : Int) < 9 := by omega
          have hi3 : (0 : Int) ≤ (at_ : Int) := by omega
          have hi4 : (at_ : Int) < (nc : Int) := by omega
          have HV := Lib.hid hv; clear hv
          have HFX := Lib.hid (show f g = _ from by rw [← HF.out])
          generalize hGg : G.getD g [] = Gg at *
          have HGg := Lib.hid hGg; clear hGg
          have Hsl := Lib.hid hsl; clear hsl
          have HJ := Lib.hid hJ; clear hJ
          have Hown := Lib.hid hown; clear hown
          go_wp2
          go_quiet ((go_at_call 23; exact quietL (fits_any Ag Gg.length cap Gg cv _ HJ.out.tab (by omega) (Hsl.out.drewN _) HSM.out hc10)))
          by_cases hft : Dg.fits Gg cv = true
          · rw [hft]
            go_upto_region 7 with fail
            obtain ⟨W, hW⟩ : ∃ W, W = wr.drewN nq := ⟨_, rfl⟩
            rw [← hW]
            have HJW := Lib.hid (show TryInv W base bc bm bg bt (some ⟨b, off, none⟩) nc cc cls most us G by rw [hW]; exact HJ.out.drewN _)
            have cmW : W.cell? ⟨bm, 0, none⟩ = some (.int .i64 most) := by rw [hW]; exact cm
            have ccW : W.cell? ⟨bc, 0, none⟩ = some (.slice (some ⟨b, off, none⟩) nc cc) := by rw [hW]; exact cc1
            have cgW : W.cell? ⟨bg, g, none⟩ = some (.slice Ag Gg.length cap) := by rw [hW]; exact cg
            have clW : W.cell? ⟨b, off + at_, none⟩ = some (.int .u8 cv) := by rw [hW]; exact hcl
            have HoW := Lib.hid (show W.ownsRow base 5 1 (us.getD g undef) Gg.length (u8s Gg) by rw [hW]; exact Hown.out)
            rw [HV.out] at HoW
            have hfrW : Fr base bg w W := by rw [hW]; exact hfr.drew _
            have hl := HJW.out.lt
            have hz1 : bc < W.heap.size := by omega
            have hz2 : bm < W.heap.size := by omega
            have hz3 : bg < W.heap.size := by omega
            have hz4 : bt < W.heap.size := by omega
            have hz5 : b < W.heap.size := by omega
            have hz6 : base ≤ W.heap.size := by omega
            have Hat9 := Lib.hid (show us[g]? = some (.slice Ag Gg.length cap) by rw [← HV.out]; simp [show g < us.size by rw [HJW.out.sz]; exact hg9])
            clear hW cm cc1 cg hcl HJ Hown Hsl hfr hl hbB
            clear wr nq
            go_cut [9] (fun i wx => ∃ vs', i = .int .i64 g ∧ TryInv wx base bc bm bg bt (some ⟨b, off, none⟩) nc cc cls most vs' (G.set g (Gg ++ [cv])) ∧ Fr base bg w wx)
            case first =>
              go_region_law (refine step_append1 el_u8 rfl (.tmp 36) (.tmp 41) rfl base (.slice Ag Gg.length cap) Gg.length (u8s Gg) (by simp [Act.eval]) (HoW.out.alloc _) W.heap.size #[.int .u8 cv] 1 (by simp [Act.eval]) (Bk.new W _ _) rfl rfl (by unfold maxLen; omega) (by omega) (by simp; omega) ?_; intro v' w3 ho3 hg3 hd3 hb3; obtain ⟨A', c', rfl, hA1, hA2, hS3⟩ := own_sl ho3; have kg3 : Bk w3 bg 54 us := (hb3.block bg HJW.out.lt.2.2.1).trans (HJW.out.kg.alloc (.cells #[.int .u8 cv] 5)); have cg3 : w3.cell? ⟨bg, g, none⟩ = some (.slice Ag Gg.length cap) := (kg3.cell g).trans Hat9.out; have fg3 : w3.frozen? ⟨bg, g, none⟩ = false := kg3.frozen g; have H3 := Lib.hid (And.intro ho3 (And.intro hg3 (And.intro hd3 hb3))); clear ho3 hg3 hd3 hb3 kg3 hS3)
              all_goals
                go_wp2_with fail
                go_meet
                obtain ⟨ho3, hg3, hd3, hb3⟩ := H3.out
                have PU := HJW.out.push (c := cv) (v := .slice A' (Gg.length + 1) c') (W1 := (W.alloc (.cells #[.int .u8 cv] 5)).drew) hg9 ((Below.refl _ _).alloc (Nat.le_refl _) _).drew (by rw [HGg.out]; exact ho3) (by rw [HV.out]; exact hg3) (by rw [HV.out]; exact hd3) hc10
                rw [HGg.out] at PU
                exact ⟨_, rfl, PU.1, hfrW.trans PU.2⟩
            case rest =>
              obtain ⟨vs', rfl, hT, hF⟩ := hcut
              clear HJW HoW hfrW cmW ccW cgW clW Hat9
              have ct := hT.kt.cell 0
              simp at ct
              have hlens : ∀ h, h < 9 → ((G.set g (Gg ++ [cv])).getD h []).length ≤ at_ + 1 := by
                intro h hh
                by_cases e : h = g
                · subst e; rw [getD_set_eq _ _ _ _ (by have := hT.gl; simp at this; omega)]; simp; omega
                · rw [getD_set_ne _ _ _ _ _ e]; have := HLEN.out h hh; omega
              have ihc := HIH.out (at_ + 1) (max used (g + 1)) wc vs' (G.set g (Gg ++ [cv])) (by omega) (by omega) hlens hT
              rw [show ((at_ + 1 : Nat) : Int) = (at_ : Int) + 1 from by omega] at ihc
              have HFg := Lib.hid (show f g = Dg.tryF most (cls.drop (at_ + 1)) (max used (g + 1)) (G.set g (Gg ++ [cv])) from by rw [HFX.out, HGg.out, hft]; rfl)
              generalize hr : Dg.tryF most (cls.drop (at_ + 1)) (max used (g + 1)) (G.set g (Gg ++ [cv])) = r at *
              clear hr hft HFX
              have hmx : ((max used (g + 1) : Nat) : Int) = (used : Int) ∧ g + 1 ≤ used ∨ ((max used (g + 1) : Nat) : Int) = (g : Int) + 1 ∧ used ≤ g := by omega
              clear hlens
              have HT := Lib.hid hT; clear hT
              rcases hmx with ⟨hm1, hm2⟩ | ⟨hm1, hm2⟩
              all_goals
                rw [hm1] at ihc
                have HC := Lib.hid ihc; clear ihc hm1
                go_wp2_with fail
                refine HC.out.mono ?_
                rintro e w4 ⟨us2, rfl, hT4, hF4⟩
                cases r with
                | some R =>
                  simp only [Option.isSome_some, Option.getD_some] at hT4 ⊢
                  have HH := Lib.hid (Dg.findSome_hit (K := min (used + 1) most) (by omega) HN.out HFg.out)
                  go_wp2
                  go_ret
                  exact ⟨us2, by rw [HH.out]; rfl, by rw [HH.out]; exact hT4, hF.trans hF4⟩
                | none =>
                  simp only [Option.isSome_none, Option.getD_none] at hT4 ⊢
                  have HM := Lib.hid (Dg.findSome_miss HN.out HFg.out)
                  have hgl : G.length = 9 := by have := hT4.gl; simpa using this
                  have ho4 := hT4.own g hg9
                  rw [getD_set_eq _ _ _ _ (by omega)] at ho4
                  obtain ⟨A4, c4, hv4, hc41, hc42, hs4⟩ := own_sl ho4
                  rw [List.length_append, List.length_singleton] at hv4 hc41
                  have cg4 : w4.cell? ⟨bg, g, none⟩ = some (.slice A4 (Gg.length + 1) c4) := by
                    rw [hT4.kg.cell g, ← hv4]; simp [show g < us2.size by rw [hT4.sz]; exact hg9]
                  have fg4 : w4.frozen? ⟨bg, g, none⟩ = false := hT4.kg.frozen g
                  have PO := hT4.pop hg9 HGg.out hv4
                  have HPO := Lib.hid PO; clear PO hv4 ho4 hs4 hT4
                  go_wp2
                  go_region
                  go_wp2
                  go_roundw
                  case rel =>
                    first
                      | exact ⟨g + 1, _, by omega, by go_num, HPO.out.1.drew1, (hF.trans (hF4.trans HPO.out.2)).drew1, HM⟩
                      | ((repeat apply Exists.intro); exact ⟨⟨g + 1, _, by omega, by go_num, HPO.out.1.drew1, (hF.trans (hF4.trans HPO.out.2)).drew1, HM⟩, rfl⟩)
                  case measure => simp [intOf]; omega
          · have hff : Dg.fits Gg cv = false := by simpa using hft
            rw [hff]
            have HM := Lib.hid (Dg.findSome_miss HN.out (by rw [HFX.out, HGg.out, hff]; rfl))
            clear hff hft HFX
            go_wp2
            go_roundw
            case rel => exact ⟨g + 1, us, by omega, by go_num, HJ.out.drewN _, hfr.drew _, HM⟩
            case measure => simp [intOf]; omega
        · have hd : decide ((g : Int) < (most : Int)) = false := by simp; omega
          obtain rfl : g = min (used + 1) most := by omega
          go_wp2
          go_ret
          exact ⟨us, by rw [HN.out]; rfl, by rw [HN.out]; exact hJ, hfr⟩
      · have hd : decide ((g : Int) ≤ (used : Int)) = false := by simp; omega
        obtain rfl : g = min (used + 1) most := by omega
        go_wp2
        go_ret
        exact ⟨us, by rw [HN.out]; rfl, by rw [HN.out]; exact hJ, hfr⟩
end Go.Proofs.YtcjnabbggmbfgaaDoor
