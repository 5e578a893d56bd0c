/-
  Walks of package ship: chosen and its closures.
-/
import Derived.Test.YtggebllkkiennaaDoorChecked
import Derived.Test.YtggebllkkiennaaDoorShT
import Derived.Outline
import Derived.Deep.DeepCutAuto
import Derived.BigQuiet
import Derived.Deep.QuietTactic
namespace Go.Proofs.YtggebllkkiennaaDoor
open Go.RowKit

theorem el_int : El Tryd.prog 52 3 1 8 := El.mk' Tryd.underlying52 (by kernel_rfl) (by decide)

theorem getD_memD {α : Type} {l : List α} {k : Nat} (h : k < l.length) (d : α) : l.getD k d ∈ l := by simp [h]
/-- The indices, from k on, of the elements that are wanted. -/
def pickFrom {α : Type} (p : α → Bool) : List α → Nat → List Int
  | [], _ => []
  | x :: l, k => if p x then (k : Int) :: pickFrom p l (k + 1) else pickFrom p l (k + 1)
def pick {α : Type} (p : α → Bool) (l : List α) : List Int := pickFrom p l 0
theorem pickFrom_append {α : Type} (p : α → Bool) (m : List α) : ∀ (l : List α) (k : Nat), pickFrom p (l ++ m) k = pickFrom p l k ++ pickFrom p m (k + l.length)
  | [], k => by simp [pickFrom]
  | x :: l, k => by
    have e : k + 1 + l.length = k + (x :: l).length := by simp; omega
    simp only [List.cons_append, pickFrom, pickFrom_append p m l (k + 1), e]
    split <;> simp
theorem pick_take {α : Type} (p : α → Bool) {l : List α} {k : Nat} (h : k < l.length) (d : α) : pick p (l.take (k + 1)) = pick p (l.take k) ++ if p (l.getD k d) then [(k : Int)] else [] := by
  unfold pick
  rw [List.take_succ_eq_append_getElem h, pickFrom_append]
  have : (l.take k).length = k := by simp; omega
  simp [pickFrom, this, h]
theorem pickFrom_len {α : Type} (p : α → Bool) : ∀ (l : List α) (k : Nat), (pickFrom p l k).length ≤ l.length
  | [], _ => by simp [pickFrom]
  | x :: l, k => by have := pickFrom_len p l (k + 1); unfold pickFrom; split <;> simp <;> omega
theorem pick_len {α : Type} (p : α → Bool) (l : List α) : (pick p l).length ≤ l.length := pickFrom_len p l 0

theorem below_of_alloc {w w' : World} {o : Obj} (h : Below (w.alloc o).heap.size (w.alloc o) w') : Below w.heap.size w w' := ((Below.refl _ _).alloc (Nat.le_refl _) o).trans (h.mono (by simp))
def OwnInts (w : World) (l : List Int) (e : Ending) (w' : World) : Prop := ∃ v, e = .returned v ∧ OwnT tInt 3 w' w.heap.size v l ∧ Below w.heap.size w w'
/-- A closure on columns that reports p. -/
def ColFn (w : World) (S : Nat → Prop) (l : List Col) (fid : FuncId) (caps : Array Value) (p : Col → Bool) : Prop :=
  ∀ (c : Col) (A : Option Addr) (q : Nat) (w' : World), c ∈ l → Below w.heap.size w w' → c.plugs.length ≤ q → SlT tInt w' S A c.plugs → Calls Tryd.prog fid (#[.agg (colL c A q).toArray] ++ caps) w' fun e w'' => e = .returned (.bool (p c)) ∧ Below w'.heap.size w' w''

set_option maxRecDepth 100000 in
set_option maxHeartbeats 2000000 in
theorem chosenCol_any (A : Option Addr) (c : Nat) (l : List Col) (fid : FuncId) (caps : Array Value) (p : Col → Bool) (w : World) (hs : SlT tCol w (Lt w.heap.size) A l) (hl : l.length ≤ 1000000) (hent : ∀ (args : Array Value) (w : World), (callFunc fid args).run Tryd.prog w = .ok (.enter fid args) w) (hf : ColFn w (Lt w.heap.size) l fid caps p) :
    Calls Tryd.prog 80 #[.slice A l.length c, .func (.func fid) #[] caps] w (OwnInts w (pick p l)) := by
  have HF := Lib.hid hf; clear hf
  have HS := Lib.hid hs; clear hs
  go_enter Tryd.func80, Tryd.ntmps80
  go_wp2
  go_loopw [5, 10] (fun v i wr => ∃ k : Nat, k ≤ l.length ∧ i = .int .i64 k ∧ OwnT tInt 3 wr w.heap.size v (pick p (l.take k)) ∧ Below w.heap.size w wr) (fun _ i _ => l.length - (intOf i).toNat)
  case atStart => exact ⟨0, Nat.zero_le _, rfl, OwnT.nil, Below.refl _ _⟩
  case round =>
    obtain ⟨k, hk, rfl, hown, hb⟩ := hrel
    by_cases hlt : k < l.length
    · obtain ⟨b, off, Ap, q, rfl, hbB, hq, hpl, c0, c1, c2, c3, c4, c5, c6, c7, c8, c9, c10, c11⟩ := (HS.out.below hb).col hlt
      have HP := Lib.hid (pick_take p hlt default)
      have hpk := pick_len p (l.take k)
      have HPL := Lib.hid hpl; clear hpl
      have HMEM := Lib.hid (getD_memD hlt default)
      generalize l.getD k default = x at *
      obtain ⟨xb, xr, xd, xt, xh, x2, x4, xl, xp, xx, xy, xz⟩ := x
      simp only at c0 c1 c2 c3 c4 c5 c6 c7 c8 c9 c10 c11 hq
      have HC := Lib.hid (HF.out ⟨xb, xr, xd, xt, xh, x2, x4, xl, xp, xx, xy, xz⟩ Ap q (wr.alloc (.cells (colL ⟨xb, xr, xd, xt, xh, x2, x4, xl, xp, xx, xy, xz⟩ Ap q).toArray 54)) HMEM.out (hb.alloc hb.size _) hq (HPL.out.keep (keep_below ((Below.refl _ _).alloc hb.size _))))
      generalize p ⟨xb, xr, xd, xt, xh, x2, x4, xl, xp, xx, xy, xz⟩ = px at *
      clear HPL
      go_wp2_with fail
      refine HC.out.mono ?_
      rintro e w1 ⟨rfl, hb1⟩
      have hb1' := below_of_alloc hb1
      clear HC hb1 c0 c1 c2 c3 c4 c5 c6 c7 c8 c9 c10 c11
      have hz1 := hb1'.size
      have hz0 := hb.size
      cases px with
      | true =>
        obtain ⟨xs, ho, hfl⟩ := hown.below hb1'
        go_wp2_with (at_builtin; (refine wpList_append1 el_int rfl (.tmp 18) (.tmp 20) rfl w.heap.size _ (pick p (l.take k)).length xs rfl ho #[.int .i64 k] _ rfl rfl rfl ?c1 ?c2 ?c3 ?_))
        case c1 => unfold maxLen; simp at hpk; omega
        case c2 => simp at hpk; omega
        case c3 => omega
        intro v' w3 hown' hgr hd3 hbel
        go_wp2
        go_roundw
        case rel => exact ⟨k + 1, by omega, by go_num, by rw [HP.out]; exact OwnT.int1 hfl hown' hgr hd3, (hb.trans (hb1'.mono hz0)).trans hbel⟩
        case measure => simp [intOf]; omega
      | false =>
        go_wp2
        go_roundw
        case rel => exact ⟨k + 1, by omega, by go_num, by rw [HP.out]; simpa using hown.below hb1', hb.trans (hb1'.mono hz0)⟩
        case measure => simp [intOf]; omega
    · have hkn : l.take k = l := List.take_of_length_le (by omega)
      rw [hkn] at hown
      clear hkn
      go_wp2
      go_ret
      exact ⟨_, rfl, hown, hb⟩
/-- A closure on covers that reports p. -/
def CovFn (w : World) (S : Nat → Prop) (l : List Cov) (fid : FuncId) (caps : Array Value) (p : Cov → Bool) : Prop :=
  ∀ (c : Cov) (A : Option Addr) (q : Nat) (w' : World), c ∈ l → Below w.heap.size w w' → c.rows.length ≤ q → SlT tInt w' S A c.rows → Calls Tryd.prog fid (#[.agg #[.int .i64 c.bay, .slice A c.rows.length q]] ++ caps) w' fun e w'' => e = .returned (.bool (p c)) ∧ Below w'.heap.size w' w''

/-- A closure on ints that reports p. -/
def IntFn (w : World) (l : List Int) (fid : FuncId) (caps : Array Value) (p : Int → Bool) : Prop :=
  ∀ (c : Int) (w' : World), c ∈ l → Below w.heap.size w w' → Calls Tryd.prog fid (#[.int .i64 c] ++ caps) w' fun e w'' => e = .returned (.bool (p c)) ∧ Below w'.heap.size w' w''

end Go.Proofs.YtggebllkkiennaaDoor
