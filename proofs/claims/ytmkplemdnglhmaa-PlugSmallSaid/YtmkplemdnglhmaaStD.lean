/-
  Walks of packages stow and stack: find, there; slices.IndexFunc over what is stowed.
-/
import Derived.Test.YtmkplemdnglhmaaStC
namespace Go.Proofs.Ytmkplemdnglhmaa
open Go.RowKit

/-- A closure on what is stowed that reports p. -/
def StwFn (w : World) (l : List Stw) (fid : FuncId) (caps : Array Value) (p : Stw → Bool) : Prop :=
  ∀ (x : Stw) (w' : World), x ∈ l → Below w.heap.size w w' → Calls Try.prog fid (#[.agg (stwL x).toArray] ++ caps) w' (Ret w' (.bool (p x)))
set_option maxRecDepth 100000 in
set_option maxHeartbeats 2000000 in
theorem indexFuncStw_any (A : Option Addr) (c : Nat) (l : List Stw) (fid : FuncId) (caps : Array Value) (p : Stw → Bool) (w : World) (hs : SlT tStw w (Lt w.heap.size) A l) (hl : l.length ≤ 1000000) (hent : ∀ (args : Array Value) (w : World), (callFunc fid args).run Try.prog w = .ok (.enter fid args) w) (hf : StwFn w l fid caps p) :
    Calls Try.prog 113 #[.slice A l.length c, .func (.func fid) #[] caps] w (Ret w (.int .i64 (idxF p l))) := by
  have HF := Lib.hid hf; clear hf
  have HS := Lib.hid hs; clear hs
  go_enter Try.func113, Try.ntmps113
  go_wp2
  go_loopw [8] (fun i wr => ∃ k : Nat, k ≤ l.length ∧ i = .int .i64 k ∧ Below w.heap.size w wr ∧ Hid (Before p l default k)) (fun i _ => l.length - (intOf i).toNat)
  case atStart => exact ⟨0, Nat.zero_le _, rfl, Below.refl _ _, Lib.hid .zero⟩
  case round =>
    obtain ⟨k, hk, rfl, hb, HB⟩ := hrel
    by_cases hlt : k < l.length
    · obtain ⟨b, off, rfl, hbB, c0, c1, c2, c3⟩ := (HS.out.below hb).stw hlt
      have hk0 : (0 : Int) ≤ (k : Int) := by omega
      have hk1 : (k : Int) < (l.length : Int) := by omega
      have HMEM := Lib.hid (getD_memD hlt default)
      have HC := Lib.hid (HF.out (l.getD k default) wr HMEM.out hb)
      have HT := Lib.hid (fun hp => idx_some (p := p) default hlt hp HB.out)
      have HN := Lib.hid (fun hp => HB.out.succ (k := k) hp)
      clear HB HMEM
      generalize hx : l.getD k default = x at *
      clear hx
      obtain ⟨xb, xc, xt, xh⟩ := x
      unfold stwL at HC
      simp only at HC c0 c1 c2 c3
      generalize p ⟨xb, xc, xt, xh⟩ = px at *
      go_wp2_with fail
      refine HC.out.mono ?_
      rintro e w1 ⟨rfl, hb1⟩
      clear HC c0 c1 c2 c3
      cases px with
      | true =>
        go_wp2
        go_ret
        exact ⟨by rw [show idxF p l = (k : Int) from by first | exact HT.out rfl | exact HT.out trivial]; rfl, hb.trans (hb1.mono hb.size)⟩
      | false =>
        go_wp2
        go_roundw
        case rel => exact ⟨k + 1, by omega, by go_num, hb.trans (hb1.mono hb.size), Lib.hid (by first | exact HN.out rfl | exact HN.out trivial)⟩
        case measure => simp [intOf]; omega
    · have HE := Lib.hid (idx_none (p := p) default (fun i hi => HB.out i (by omega)))
      go_wp2
      go_ret
      exact ⟨by rw [HE.out]; rfl, hb⟩
def idS (id : Int) (x : Stw) : Bool := x.box == id
def thereB (s : Shp) (col : Int) : Bool := decide (0 ≤ col) && decide (col < s.cols.length)
set_option maxRecDepth 100000 in
set_option maxHeartbeats 2000000 in
theorem there_any (s : Shp) (h : Hd) (col : Int) (w : World) : Calls Try.prog 65 #[.agg (shpA s h), .int .i64 col] w (Ret w (.bool (thereB s col))) := by
  unfold thereB shpA
  by_cases h0 : 0 ≤ col
  all_goals
    go_enter Try.func65, Try.ntmps65
    go_wp2
    go_ret
    exact ⟨by first | (simp [h0]; done) | (simp [h0]; omega) | (simp; omega), ba1 w _⟩
end Go.Proofs.Ytmkplemdnglhmaa
