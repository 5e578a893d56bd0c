/-
  Walks of the statements' helpers: same, code, classes.
-/
import Derived.Test.YtcjnabbggmbfgaaDoorDgD
import Derived.Test.YtcjnabbggmbfgaaDoorLib2
namespace Go.Proofs.YtcjnabbggmbfgaaDoor
open Go.RowKit

theorem take_ext {α : Type} (d : α) {a b : List α} {n : Nat} (ha : a.length = n) (hb : b.length = n) (h : ∀ i, i < n → a.getD i d = b.getD i d) : a = b := by
  apply List.ext_getElem
  · omega
  · intro i h1 h2
    have := h i (by omega)
    simpa [h1, h2] using this

theorem getD_all {L : List (List Nat)} {p : Nat → Prop} (h : ∀ g ∈ L, ∀ x ∈ g, p x) (k : Nat) : ∀ x ∈ L.getD k [], p x := by
  by_cases hk : k < L.length
  · intro x hx
    simp [hk] at hx
    exact h _ (List.getElem_mem _) x hx
  · intro x hx; simp [hk] at hx

set_option maxRecDepth 100000 in
set_option maxHeartbeats 1000000 in
theorem same_any (A1 A2 : Option Addr) (n1 n2 c1 c2 : Nat) (L1 L2 : List (List Nat)) (w : World) (h1 : Sl2 w w.heap.size A1 n1 L1) (h2 : Sl2 w w.heap.size A2 n2 L2) (hn : n1 ≤ 1000000)
    (hb1 : ∀ g ∈ L1, ∀ x ∈ g, x < 256) (hb2 : ∀ g ∈ L2, ∀ x ∈ g, x < 256) :
    Calls Tryd.prog 20 #[.slice A1 n1 c1, .slice A2 n2 c2] w fun e w' => e = .returned (.bool (decide (L1 = L2))) ∧ ∃ m, w' = w.drewN m := by
  have hl1 : L1.length = n1 := h1.choose_spec.2.1
  have hl2 : L2.length = n2 := h2.choose_spec.2.1
  by_cases hne : n1 = n2
  · subst hne
    have HL1 := Lib.hid hl1; have HL2 := Lib.hid hl2; have HB1 := Lib.hid hb1; have HB2 := Lib.hid hb2
    clear hl1 hl2 hb1 hb2
    go_enter Tryd.func20, Tryd.ntmps20
    go_wp2
    go_loopw [5] (fun i wr => ∃ k m : Nat, k ≤ n1 ∧ i = .int .i64 k ∧ wr = w.drewN m ∧ Hid (∀ i, i < k → L1.getD i [] = L2.getD i [])) (fun i _ => n1 - (intOf i).toNat)
    case atStart => exact ⟨0, 0, Nat.zero_le _, rfl, rfl, Lib.hid (fun i hi => absurd hi (by omega))⟩
    case round =>
      obtain ⟨k, m, hk, rfl, rfl, HE⟩ := hrel
      by_cases hlt : k < n1
      · obtain ⟨p1, o1, B1, d1, rfl, hp1, cell1, s1⟩ := h1.at_ hlt
        obtain ⟨p2, o2, B2, d2, rfl, hp2, cell2, s2⟩ := h2.at_ hlt
        have conv1 : ∀ q, (convert 22 9 (.slice B1 (L1.getD k []).length d1)).run Tryd.prog (w.drewN q) = .ok (.string (strN (L1.getD k []))) (w.drewN q) := fun q => conv_u8 Tryd.underlying22 Tryd.underlying5 Tryd.underlying9 (s1.drewN q)
        have conv2 : ∀ q, (convert 22 9 (.slice B2 (L2.getD k []).length d2)).run Tryd.prog (w.drewN q) = .ok (.string (strN (L2.getD k []))) (w.drewN q) := fun q => conv_u8 Tryd.underlying22 Tryd.underlying5 Tryd.underlying9 (s2.drewN q)
        have hlt' : (k : Int) < (n1 : Int) := by omega
        have hEq := strN_eq (L1.getD k []) (L2.getD k []) (getD_all HB1.out k) (getD_all HB2.out k)
        have HEq := Lib.hid hEq; clear hEq s1 s2
        by_cases hg : L1.getD k [] = L2.getD k []
        · have hbq : ((strN (L1.getD k [])).toList == (strN (L2.getD k [])).toList) = true := by rw [HEq.out]; simpa using hg
          have HE2 := Lib.hid (show ∀ i, i < k + 1 → L1.getD i [] = L2.getD i [] from fun i hi => by
            rcases Nat.lt_succ_iff_lt_or_eq.1 hi with h | h
            · exact HE.out i h
            · rw [h]; exact hg)
          clear HE hg HEq
          generalize L1.getD k [] = g1 at *
          generalize L2.getD k [] = g2 at *
          go_wp2
          go_quiet (fail)
          go_wp2
          go_roundw
          case rel => exact ⟨k + 1, m + nq, by omega, by go_num, by simp, HE2⟩
          case measure => simp [intOf]; omega
        · have hbq : ((strN (L1.getD k [])).toList == (strN (L2.getD k [])).toList) = false := by rw [HEq.out]; simpa using hg
          have HNE := Lib.hid (show decide (L1 = L2) = false by
            rw [decide_eq_false_iff_not]; intro h; exact hg (by rw [h]))
          clear HE hg HEq
          generalize L1.getD k [] = g1 at *
          generalize L2.getD k [] = g2 at *
          go_wp2
          go_quiet (fail)
          go_wp2
          go_ret
          exact ⟨by rw [HNE.out]; rfl, m + nq, by simp [World.drewN_drewN]⟩
      · obtain rfl : k = n1 := by omega
        have HY := Lib.hid (show decide (L1 = L2) = true by
          rw [decide_eq_true_iff]; exact take_ext [] HL1.out HL2.out HE.out)
        go_wp2
        go_ret
        exact ⟨by rw [HY.out]; rfl, m, rfl⟩
  · have hb : ((n1 : Int) != (n2 : Int)) = true := by simp; omega
    have HNE := Lib.hid (show decide (L1 = L2) = false by
      rw [decide_eq_false_iff_not]; intro h; rw [h] at hl1; omega)
    clear hl1 hl2 hb1 hb2
    go_enter Tryd.func20, Tryd.ntmps20
    go_wp2
    go_ret
    exact ⟨by rw [HNE.out]; rfl, 0, rfl⟩

set_option maxHeartbeats 400000 in
theorem lcode_ok (a b : Nat) (w : World) (ha : a < 10) (hb : b < 10) (ht : TabOK w) :
    Calls Tryd.prog 12 #[.int .u8 a, .int .u8 b] w fun e w' => e = .returned (.int .u8 (Dg.tab a b)) ∧ w = w' := by
  have HT := Lib.hid ht; clear ht
  go_enter Tryd.func12, Tryd.ntmps12
  go_wp2_with (go_at_call 18; refine (code_ok a b _ ha hb HT.out).mono ?_; rintro e w' ⟨rfl, rfl⟩)
  go_ret
  exact ⟨rfl, rfl⟩

def mods (l : List Nat) (k : Nat) : List Nat := (l.take k).map (· % 10)
theorem mod_take {l : List Nat} {k : Nat} (h : k < l.length) : mods l (k + 1) = mods l k ++ [l.getD k 0 % 10] := by
  unfold mods; rw [count_take_succ h rfl]; simp
theorem mods_len (l : List Nat) (k : Nat) : (mods l k).length ≤ k := by simp [mods]; omega
theorem mods_lt (l : List Nat) (k : Nat) : ∀ x ∈ mods l k, x < 10 := by simp only [mods, List.mem_map]; rintro x ⟨y, _, rfl⟩; omega

def OwnBytes (w : World) (l : List Nat) (e : Ending) (w' : World) : Prop :=
  ∃ v, e = .returned v ∧ w'.ownsRow w.heap.size 5 1 v l.length (u8s l) ∧ Below w.heap.size w w'

set_option maxRecDepth 100000 in
set_option maxHeartbeats 1000000 in
theorem classes_any (A : Option Addr) (n c : Nat) (l : List Nat) (w : World) (hs : Sl w w.heap.size 1 A n (u8s l)) (hl : ∀ x ∈ l, x < 256) (hn : n ≤ maxLen) :
    Calls Tryd.prog 10 #[.slice A n c] w (OwnBytes w (mods l 100)) := by
  unfold maxLen at hn
  have hll : l.length = n := by have := hs.len; rw [u8s_len] at this; omega
  have HL := Lib.hid hll; clear hll
  have HA := Lib.hid hl; clear hl
  go_enter Tryd.func10, Tryd.ntmps10
  go_wp2
  go_loopw [3, 4] (fun v i wr => ∃ k : Nat, k ≤ n ∧ k ≤ 100 ∧ i = .int .i64 k ∧ wr.ownsRow w.heap.size 5 1 v (mods l k).length (u8s (mods l k)) ∧ Below w.heap.size w wr) (fun _ i _ => 100 - (intOf i).toNat)
  case atStart => exact ⟨0, Nat.zero_le _, Nat.zero_le _, rfl, World.ownsRow_nil _ _ _ _, Below.refl _ _⟩
  case round =>
    obtain ⟨k, hk, hk2, rfl, hown, hb⟩ := hrel
    by_cases hlt : k < n
    · by_cases hlt2 : k < 100
      · obtain ⟨b, off, rfl, hbB, hc⟩ := (hs.below hb).u8 hlt
        have hkl : k < l.length := by rw [HL.out]; exact hlt
        have hx : l.getD k 0 < 256 := HA.out _ (getD_mem hkl)
        have HM := Lib.hid (mod_take hkl)
        have hlen : (mods l k).length ≤ 100 := by have := mods_len l k; omega
        generalize l.getD k 0 = x at *
        generalize mods l k = L at *
        have hbs := hb.size
        go_wp2_with (at_builtin; (refine wpList_append1 el_u8 rfl (.tmp 15) (.tmp 21) rfl w.heap.size _ L.length (u8s L) rfl hown #[.int .u8 (x % 10)] _ rfl rfl rfl ?c1 ?c2 ?c3 ?_))
        case c1 => unfold maxLen; omega
        case c2 => omega
        case c3 => omega
        intro v' w3 hown' hgr hd3 hbel
        go_wp2
        go_roundw
        case rel => exact ⟨k + 1, by omega, by omega, by go_num, by rw [HM.out]; simpa [u8s] using hown', hb.trans hbel⟩
        case measure => simp [intOf]; omega
      · obtain rfl : k = 100 := by omega
        go_wp2
        go_ret
        exact ⟨_, rfl, hown, hb⟩
    · have hd : decide ((k : Int) < (n : Int)) = false := by simp; omega
      have HT : Hid (mods l k = mods l 100) := Lib.hid (by unfold mods; rw [List.take_of_length_le (by rw [HL.out]; omega), List.take_of_length_le (by rw [HL.out]; omega)])
      go_wp2
      go_ret
      exact ⟨_, rfl, by rw [← HT.out]; exact hown, hb⟩
end Go.Proofs.YtcjnabbggmbfgaaDoor
