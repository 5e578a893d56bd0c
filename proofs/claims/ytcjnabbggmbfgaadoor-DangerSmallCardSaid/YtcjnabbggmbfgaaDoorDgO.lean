/-
  The walks of the reference's best and Divide.
-/
import Derived.Test.YtcjnabbggmbfgaaDoorDgN
import Derived.Test.YtcjnabbggmbfgaaDoorDgPlain10
import Derived.WalkSpells
namespace Go.Proofs.YtcjnabbggmbfgaaDoor
open Go.RowKit

namespace Dg
theorem getD_take {l : List Nat} {i m : Nat} (h : i < m) : (l.take m).getD i 0 = l.getD i 0 := by
  rw [List.getD_eq_getElem?_getD, List.getElem?_take_of_lt h, ← List.getD_eq_getElem?_getD]
theorem okTo_take (cls pat : List Nat) (m : Nat) : okTo (cls.take m) pat m = okTo cls pat m := by
  unfold okTo
  rw [Bool.eq_iff_iff, List.all_eq_true, List.all_eq_true]
  have key : ∀ i, i < m → okRow (cls.take m) pat i i = okRow cls pat i i := by
    intro i hi
    unfold okRow
    rw [Bool.eq_iff_iff, List.all_eq_true, List.all_eq_true]
    have k2 : ∀ k, k < i → clashAt (cls.take m) pat i k = clashAt cls pat i k := by
      intro k hk
      unfold clashAt
      rw [getD_take (by omega), getD_take (by omega)]
    constructor <;> intro h k hk
    · rw [← k2 k (List.mem_range.1 hk)]; exact h k hk
    · rw [k2 k (List.mem_range.1 hk)]; exact h k hk
  constructor <;> intro h i hi
  · rw [← key i (List.mem_range.1 hi)]; exact h i hi
  · rw [key i (List.mem_range.1 hi)]; exact h i hi
theorem bestF_cut {cls : List Nat} {most f : Nat} {pat : List Nat} {many : Nat} (h : most < many ∨ okTo cls pat pat.length = false) : bestF cls most f pat many = none := by
  have h1 : (decide (most < many) || !okTo cls pat pat.length) = true := by
    rcases h with h | h
    · simp [h]
    · simp [h]
  cases f <;> (unfold bestF; rw [if_pos h1])
theorem bestF_end {cls : List Nat} {most : Nat} {pat : List Nat} {many : Nat} (h : ¬ most < many) (h2 : okTo cls pat pat.length = true) : bestF cls most 0 pat many = groupsF cls pat many := by
  unfold bestF; rw [if_neg (by simp [h2]; omega)]
theorem bestF_on {cls : List Nat} {most f : Nat} {pat : List Nat} {many : Nat} (h : ¬ most < many) (h2 : okTo cls pat pat.length = true) :
    bestF cls most (f + 1) pat many = (List.range (many + 1)).findSome? fun g => bestF cls most f (pat ++ [g]) (if g = many then many + 1 else many) := by
  conv => lhs; unfold bestF
  rw [if_neg (by simp [h2]; omega)]
end Dg
theorem Sl.pre {w : World} {B n m : Nat} {A : Option Addr} {l : List Nat} (h : Sl w B 1 A n (u8s l)) (hm : m ≤ n) : Sl w B 1 A m (u8s (l.take m)) := by
  have hl : l.length = n := by have := h.len; rw [u8s_len] at this; omega
  refine ⟨by rw [u8s_len, List.length_take]; omega, fun h0 => ?_⟩
  obtain ⟨b, off, e, hb, hc⟩ := h.mem (by omega)
  refine ⟨b, off, e, hb, fun j u hu => hc j u ?_⟩
  rw [show u8s (l.take m) = (u8s l).take m by simp [u8s, List.map_take]] at hu
  rw [List.getElem?_take] at hu
  split at hu
  · exact hu
  · cases hu
theorem natI_snoc (l : List Nat) (g : Nat) : natI (l ++ [g]) = natI l ++ [.int .i64 (g : Nat)] := by simp [natI, i64s]
theorem natI_len (l : List Nat) : (natI l).length = l.length := by simp [natI, i64s]
theorem el_int : El Tryd.prog 72 3 1 8 := El.mk' Tryd.underlying72 (by kernel_rfl) (by decide)
theorem Groups.mono {w : World} {base base' : Nat} {v : Value} {R : List (List Nat)} (h : Groups w base v R) (hb : base' ≤ base) : Groups w base' v R := by
  obtain ⟨vs, h1, h2, h3⟩ := h
  exact ⟨vs, own_mono h1 hb, h2, fun i hi => own_mono (h3 i hi) hb⟩
theorem GRet.on {w w1 : World} {r : Option (List (List Nat))} {e : Ending} {w' : World} (h : GRet w1 r e w') (hb : Below w.heap.size w w1) : GRet w r e w' := by
  obtain ⟨v, h1, h2, h3⟩ := h
  refine ⟨v, h1, ?_, hb.trans (h3.mono hb.size)⟩
  cases r with
  | none => exact h2
  | some R => exact ⟨h2.1, h2.2.mono hb.size⟩
theorem slNatI {w : World} {B m : Nat} {A : Option Addr} {l : List Nat} (h : l.length = m) (hs : Sl w B 1 A m (natI l)) : Sl w B 1 A l.length (natI l) := h ▸ hs

theorem eqnil_some (w : World) (a : Addr) (n c : Nat) : (binOp .eql 25 (.slice (some a) n c) (.slice none 0 0)).run Tryd.prog w = .ok (.bool false) w := Lib.run_eql_slice_nil w _ _ (some a) n c 0 0 Tryd.underlying25
theorem eqnil_none (w : World) : (binOp .eql 25 (.slice none 0 0) (.slice none 0 0)).run Tryd.prog w = .ok (.bool true) w := Lib.run_eql_slice_nil w _ _ none 0 0 0 0 Tryd.underlying25
theorem nenil_some (w : World) (a : Addr) (n c : Nat) : (binOp .neq 25 (.slice (some a) n c) (.slice none 0 0)).run Tryd.prog w = .ok (.bool true) w := run_neq_slice_nil_any w _ _ (some a) n c 0 0 Tryd.underlying25
theorem nenil_none (w : World) : (binOp .neq 25 (.slice none 0 0) (.slice none 0 0)).run Tryd.prog w = .ok (.bool false) w := run_neq_slice_nil_any w _ _ none 0 0 0 0 Tryd.underlying25

set_option maxRecDepth 100000 in
set_option maxHeartbeats 4000000 in
theorem best_any (b off n c most : Nat) (cls : List Nat) (hn : n ≤ 9) (hnc : n ≤ c) (hmo : most ≤ 9) (hcl : cls.length = n) (hc10 : ∀ x ∈ cls, x < 10) (f : Nat) :
    ∀ (pat : List Nat) (m many : Nat) (Ap : Option Addr) (cp : Nat) (w : World), pat.length = m → m + f = n → (∀ x ∈ pat, x < many) → many ≤ m →
      Sl w w.heap.size 1 (some ⟨b, off, none⟩) n (u8s cls) → Sl w w.heap.size 1 Ap m (natI pat) →
      Calls Tryd.prog 32 #[.slice (some ⟨b, off, none⟩) n c, .slice Ap m cp, .int .i64 many, .int .i64 most] w (GRet w (Dg.bestF cls most f pat many)) := by
  have HCL := Lib.hid hcl; clear hcl
  have HC := Lib.hid hc10; clear hc10
  have q1 := eqnil_some; have q2 := eqnil_none; have q3 := nenil_some; have q4 := nenil_none
  induction f with
  | zero =>
    intro pat m many Ap cp w hpl hmf hpm hmm hs hp
    have HPL := Lib.hid hpl; clear hpl
    have HPM := Lib.hid hpm; clear hpm
    obtain rfl : m = n := by omega
    by_cases hmany : most < many
    · have hd : decide (most < many) = true := by simp; omega
      have HR := Lib.hid (Dg.bestF_cut (cls := cls) (f := 0) (pat := pat) (.inl hmany))
      go_enter Tryd.func32, Tryd.ntmps32
      go_wp2_with fail
      go_ret
      exact ⟨_, rfl, by rw [HR.out]; rfl, Below.refl _ _⟩
    · have hd : decide (most < many) = false := by simp; omega
      have hG := groups_any _ Ap m c cp many (cls.take m) pat w hn (by omega) (hs.pre (Nat.le_refl _)) hp (fun x hx => HC.out x (List.mem_of_mem_take hx)) HPM.out
      rw [List.take_of_length_le (by rw [HCL.out]; omega)] at hG
      have HG := Lib.hid hG; clear hG
      have hG2 := fun W (hb : Below w.heap.size w W) => groups_any _ Ap m c cp many cls pat W hn (by omega) ((hs.below hb).more hb.size) ((hp.below hb).more hb.size) HC.out HPM.out
      have HG2 := Lib.hid hG2; clear hG2
      have HR := Lib.hid (show Dg.bestF cls most 0 pat many = if Dg.okTo cls pat m then Dg.groupsF cls pat many else none by
        by_cases h2 : Dg.okTo cls pat m = true
        · rw [Dg.bestF_end hmany (by rw [HPL.out]; exact h2), if_pos h2]
        · rw [Dg.bestF_cut (.inr (by rw [HPL.out]; simpa using h2)), if_neg h2])
      have HR2 := Lib.hid (show Dg.groupsF cls pat many = if Dg.okTo cls pat m then some (Dg.gTo cls pat many m) else none by unfold Dg.groupsF; rw [HCL.out])
      go_enter Tryd.func32, Tryd.ntmps32
      go_wp2_with fail
      refine HG.out.mono ?_
      rintro e w1 ⟨v, rfl, hv, hb1⟩
      rw [HR2.out] at hv
      by_cases hok : Dg.okTo cls pat m = true
      · rw [if_pos hok] at hv
        obtain ⟨⟨g, rfl⟩, hv'⟩ := hv
        clear hv'
        have HOK := Lib.hid hok; clear hok
        generalize (Dg.gTo cls pat many m).length = gl at *
        go_wp2_with fail
        refine (HG2.out w1 hb1).mono ?_
        intro e w2 h2
        have h3 := h2.on hb1
        obtain ⟨v2, rfl, h4, h5⟩ := h3
        go_wp2_with fail
        go_ret
        exact ⟨_, rfl, by rw [HR.out, if_pos HOK.out]; exact h4, h5⟩
      · rw [if_neg hok] at hv
        simp only at hv
        subst hv
        have HOK := Lib.hid hok; clear hok
        go_wp2_with fail
        go_ret
        exact ⟨_, rfl, by rw [HR.out, if_neg HOK.out]; rfl, hb1⟩
  | succ f ih =>
    have IH := Lib.hid ih; clear ih
    intro pat m many Ap cp w hpl hmf hpm hmm hs hp
    have HPL := Lib.hid hpl; clear hpl
    have HPM := Lib.hid hpm; clear hpm
    have hmn : m < n := by omega
    by_cases hmany : most < many
    · have hd : decide (most < many) = true := by simp; omega
      have HR := Lib.hid (Dg.bestF_cut (cls := cls) (f := f + 1) (pat := pat) (.inl hmany))
      go_enter Tryd.func32, Tryd.ntmps32
      go_wp2_with fail
      go_ret
      exact ⟨_, rfl, by rw [HR.out]; rfl, Below.refl _ _⟩
    · have hd : decide (most < many) = false := by simp; omega
      have hG := groups_any _ Ap m c cp many (cls.take m) pat w (by omega) (by omega) (hs.pre (by omega)) hp (fun x hx => HC.out x (List.mem_of_mem_take hx)) HPM.out
      have HG := Lib.hid hG; clear hG
      have HR2 := Lib.hid (show Dg.groupsF (cls.take m) pat many = if Dg.okTo cls pat m then some (Dg.gTo (cls.take m) pat many m) else none by
        unfold Dg.groupsF; rw [List.length_take, HCL.out, Nat.min_eq_left (by omega), Dg.okTo_take])
      have hm2 : (m : Int) ≤ (n : Int) := by omega
      have hne : ((m : Int) == (n : Int)) = false := by simp; omega
      have hnn : (m == n) = false := by simp; omega
      go_enter Tryd.func32, Tryd.ntmps32
      go_wp2_with fail
      refine HG.out.mono ?_
      rintro e w1 ⟨v, rfl, hv, hb1⟩
      rw [HR2.out] at hv
      by_cases hok : Dg.okTo cls pat m = true
      · rw [if_pos hok] at hv
        obtain ⟨⟨g, rfl⟩, hv'⟩ := hv
        clear hv'
        have HR := Lib.hid (Dg.bestF_on (cls := cls) (f := f) (pat := pat) hmany (by rw [HPL.out]; exact hok)); clear hok
        generalize (Dg.gTo (cls.take m) pat many m).length = gl at *
        go_wp2_with fail
        go_loopw [9] (fun q wr => ∃ (i : Nat), i ≤ many + 1 ∧ q = .int .i64 i ∧ Below w.heap.size w wr ∧ Hid ((List.range i).findSome? (fun g => Dg.bestF cls most f (pat ++ [g]) (if g = many then many + 1 else many)) = none)) (fun q _ => many + 1 - (intOf q).toNat)
        case atStart => exact ⟨0, Nat.zero_le _, rfl, hb1, Lib.hid rfl⟩
        case round =>
          clear hb1 HG
          obtain ⟨i, hi, rfl, hbr, HN⟩ := hrel
          by_cases hlt : i ≤ many
          · have hdi : decide (i ≤ many) = true := by simp; omega
            obtain ⟨nx, hnx, hnx2⟩ : ∃ nx, nx = (if i = many then many + 1 else many) ∧ nx ≤ m + 1 := ⟨_, rfl, by split <;> omega⟩
            have HNX := Lib.hid hnx; clear hnx
            have hsr := (hs.below hbr).more hbr.size
            have hpr := (hp.below hbr).more hbr.size
            have hB := hbr.size
            have hao := (hpr.below ((Below.refl _ wr).alloc (Nat.le_refl _) (.cells #[] 3)))
            have hone := i64s_one (pat.map fun x : Nat => (x : Int))
            have hl1 : m + 1 ≤ 9 := by omega
            have HO := Lib.hid (own_empty wr wr.heap.size 3 1 (Nat.le_refl _))
            have HS := Lib.hid hao; have HONE := Lib.hid hone; clear hao hone
            have hkey : ∀ (v : Value) (W : World), v = .int .i64 (nx : Nat) → Below wr.heap.size wr W → ∀ A' c', Sl W W.heap.size 1 A' (m + 1) (natI pat ++ [.int .i64 i]) →
                Calls Tryd.prog 32 #[.slice (some ⟨b, off, none⟩) n c, .slice A' (m + 1) c', v, .int .i64 most] W (GRet w (Dg.bestF cls most f (pat ++ [i]) (if i = many then many + 1 else many))) := by
              rintro v W rfl hbW A' c' hsl
              rw [← HNX.out]
              refine (IH.out (pat ++ [i]) (m + 1) nx A' c' W (by simp [HPL.out]) (by omega) (fun x hx => ?_) hnx2 ((hsr.below hbW).more hbW.size) (by rw [natI_snoc]; exact hsl)).mono fun e w' h => h.on (hbr.trans (hbW.mono hB))
              rw [HNX.out]
              rcases List.mem_append.1 hx with h | h
              · have := HPM.out x h; split <;> omega
              · rw [List.mem_singleton.1 h]; split <;> omega
            have HK := Lib.hid hkey; clear hkey
            have HNS := Lib.hid (show ∀ r, Dg.bestF cls most f (pat ++ [i]) (if i = many then many + 1 else many) = r → r = none → (List.range (i + 1)).findSome? (fun g => Dg.bestF cls most f (pat ++ [g]) (if g = many then many + 1 else many)) = none from
              fun r h1 h2 => Dg.findSome_miss HN.out (h1.trans h2))
            have HFS := Lib.hid (show ∀ R, Dg.bestF cls most f (pat ++ [i]) (if i = many then many + 1 else many) = some R → (List.range (many + 1)).findSome? (fun g => Dg.bestF cls most f (pat ++ [g]) (if g = many then many + 1 else many)) = some R from
              fun R h1 => Dg.findSome_hit (by omega) HN.out h1)
            generalize hbf : Dg.bestF cls most f (pat ++ [i]) (if i = many then many + 1 else many) = r at *
            have HBF := Lib.hid hbf; clear hbf
            have hcase : (i = many ∧ nx = many + 1) ∨ (i < many ∧ nx = many) := by have := HNX.out; split at this <;> omega
            clear HNX
            have HP2 := Lib.hid hp; have HS2 := Lib.hid hs; clear hp hs hsr hpr hnx2
            generalize hnp : natI pat = np at *
            have hnl : np.length = m := by rw [← hnp, natI_len, HPL.out]
            have HNL := Lib.hid hnl; clear hnl
            have hnp1 : np.all (·.oneCell') = true := by rw [← hnp]; exact i64s_one _
            have HN1 := Lib.hid hnp1; have HNP := Lib.hid hnp; clear hnp1 hnp HONE
            rcases hcase with ⟨rfl, rfl⟩ | ⟨h1, h2⟩
            · have hq : ((i : Int) == (i : Int)) = true := by simp
              go_wp2_with (first
                | (at_builtin; (refine wpList_append_sl el_int rfl (.tmp 46) (.tmp 47) rfl wr.heap.size (.slice (some ⟨wr.heap.size, 0, none⟩) 0 0) 0 [] rfl HO.out wr.heap.size Ap m cp np rfl HS.out HN1.out (by unfold maxLen; omega) (by omega) (by simp) ?_; intro v1 w1 ho1 hg1 hd1 hb1; simp only [List.nil_append, Nat.zero_add] at ho1))
                | (at_builtin; (refine wpList_append1 el_int rfl (.tmp 48) (.tmp 50) rfl wr.heap.size _ m np rfl ho1 #[.int .i64 i] _ rfl rfl rfl (by unfold maxLen; omega) (by omega) (by have := hb1.size; simp at this; omega) ?_)))
              intro v2 w2 ho2 hg2 hd2 hb2
              obtain ⟨A', c', rfl, hA1, hA2, hS2⟩ := own_sl ho2
              have hbW : Below wr.heap.size wr w2 := ((((Below.refl _ wr).alloc (Nat.le_refl _) _).trans hb1)).trans hb2
              clear ho1 hg1 hd1 hb1 ho2 hg2 hd2 hb2
              go_wp2_with fail
              refine (HK.out _ w2 (by go_num) hbW A' c' hS2).mono ?_
              rintro e w3 ⟨v3, rfl, hv3, hb3⟩
              clear hbW hS2
              cases r with
              | none =>
                simp only at hv3
                subst hv3
                go_wp2_with fail
                go_roundw
                case rel => exact ⟨i + 1, by omega, by go_num, hb3, Lib.hid (HNS.out none rfl rfl)⟩
                case measure => simp [intOf] <;> omega
              | some R =>
                obtain ⟨⟨g', rfl⟩, hgr⟩ := hv3
                have HRR := Lib.hid (HR.out.trans (HFS.out R rfl)); clear HFS HNS HR
                have HGR := Lib.hid hgr; clear hgr
                go_wp2_with fail
                go_ret
                exact ⟨_, rfl, by rw [HRR.out]; exact ⟨⟨g', rfl⟩, HGR.out⟩, hb3⟩
            · obtain rfl : many = nx := h2.symm
              have hq : ((i : Int) == (many : Int)) = false := by simp; omega
              have hq2 : (i == many) = false := by simp; omega
              go_wp2_with (first
                | (at_builtin; (refine wpList_append_sl el_int rfl (.tmp 46) (.tmp 47) rfl wr.heap.size (.slice (some ⟨wr.heap.size, 0, none⟩) 0 0) 0 [] rfl HO.out wr.heap.size Ap m cp np rfl HS.out HN1.out (by unfold maxLen; omega) (by omega) (by simp) ?_; intro v1 w1 ho1 hg1 hd1 hb1; simp only [List.nil_append, Nat.zero_add] at ho1))
                | (at_builtin; (refine wpList_append1 el_int rfl (.tmp 48) (.tmp 50) rfl wr.heap.size _ m np rfl ho1 #[.int .i64 i] _ rfl rfl rfl (by unfold maxLen; omega) (by omega) (by have := hb1.size; simp at this; omega) ?_)))
              intro v2 w2 ho2 hg2 hd2 hb2
              obtain ⟨A', c', rfl, hA1, hA2, hS2⟩ := own_sl ho2
              have hbW : Below wr.heap.size wr w2 := ((((Below.refl _ wr).alloc (Nat.le_refl _) _).trans hb1)).trans hb2
              clear ho1 hg1 hd1 hb1 ho2 hg2 hd2 hb2
              go_wp2_with fail
              refine (HK.out _ w2 rfl hbW A' c' hS2).mono ?_
              rintro e w3 ⟨v3, rfl, hv3, hb3⟩
              clear hbW hS2
              cases r with
              | none =>
                simp only at hv3
                subst hv3
                go_wp2_with fail
                go_roundw
                case rel => exact ⟨i + 1, by omega, by go_num, hb3, Lib.hid (HNS.out none rfl rfl)⟩
                case measure => simp [intOf] <;> omega
              | some R =>
                obtain ⟨⟨g', rfl⟩, hgr⟩ := hv3
                have HRR := Lib.hid (HR.out.trans (HFS.out R rfl)); clear HFS HNS HR
                have HGR := Lib.hid hgr; clear hgr
                go_wp2_with fail
                go_ret
                exact ⟨_, rfl, by rw [HRR.out]; exact ⟨⟨g', rfl⟩, HGR.out⟩, hb3⟩
          · obtain rfl : i = many + 1 := by omega
            have hdi : decide (many + 1 ≤ many) = false := by simp
            go_wp2_with fail
            go_ret
            exact ⟨_, rfl, by rw [HR.out, HN.out]; rfl, hbr⟩
      · rw [if_neg hok] at hv
        simp only at hv
        subst hv
        have HR := Lib.hid (Dg.bestF_cut (cls := cls) (f := f + 1) (most := most) (many := many) (pat := pat) (.inr (by rw [HPL.out]; simpa using hok))); clear hok
        go_wp2_with fail
        go_ret
        exact ⟨_, rfl, by rw [HR.out]; rfl, hb1⟩
end Go.Proofs.YtcjnabbggmbfgaaDoor
