/-
  Walks of package stack: sum.
-/
import Derived.Test.YtmkplemdnglhmaaStE
namespace Go.Proofs.Ytmkplemdnglhmaa
open Go.RowKit

/-- A closure on slots that reports p. -/
def SltFn (w : World) (fid : FuncId) (caps : Array Value) (p : Slt → Bool) : Prop :=
  ∀ (x : Slt) (w' : World), Below w.heap.size w w' → Calls Try.prog fid (#[.agg (sltL x).toArray] ++ caps) w' (Ret w' (.bool (p x)))
/-- The kilos of one that is stowed. -/
def kgOf (boxes : List Bx) (p : Slt → Bool) (x : Stw) : Int := if p x.slot then (findBx boxes x.box).1.kilos else 0
def sumF (boxes : List Bx) (l : List Stw) (p : Slt → Bool) : Int := (l.map (kgOf boxes p)).sum
/-- Kilos are no greater than a bound. -/
def KgOK (boxes : List Bx) : Prop := ∀ b ∈ boxes, -1000000000000 ≤ b.kilos ∧ b.kilos ≤ 1000000000000
theorem sum_bd2 {α : Type} (f : α → Int) (M : Int) : ∀ l : List α, (∀ x ∈ l, -M ≤ f x ∧ f x ≤ M) → -(M * l.length) ≤ (l.map f).sum ∧ (l.map f).sum ≤ M * l.length
  | [], _ => by simp
  | x :: l, h => by
    have h1 := h x (by simp)
    have h2 := sum_bd2 f M l (fun y hy => h y (by simp [hy]))
    simp only [List.map_cons, List.sum_cons, List.length_cons]
    rw [show M * ((l.length + 1 : Nat) : Int) = M * l.length + M by rw [Int.natCast_add, Int.mul_add]; simp]
    omega
theorem find_kg {boxes : List Bx} (h : KgOK boxes) (id : Int) : -1000000000000 ≤ (findBx boxes id).1.kilos ∧ (findBx boxes id).1.kilos ≤ 1000000000000 := by
  cases hq : findBx boxes id with
  | mk b ok =>
    cases ok with
    | true => exact h b (find_some hq).1
    | false =>
      unfold findBx at hq
      split at hq
      · cases hq; decide
      · cases hq
theorem kg_bd {boxes : List Bx} (h : KgOK boxes) (p : Slt → Bool) (x : Stw) : -1000000000000 ≤ kgOf boxes p x ∧ kgOf boxes p x ≤ 1000000000000 := by
  unfold kgOf
  split
  · exact find_kg h _
  · decide
set_option maxRecDepth 100000 in
set_option maxHeartbeats 4000000 in
theorem sum_any (A : Option Addr) (c : Nat) (boxes : List Bx) (A2 : Option Addr) (c2 : Nat) (l : List Stw) (fid : FuncId) (caps : Array Value) (p : Slt → Bool) (w : World) (hkg : KgOK boxes) (hb : SlT tBx w (Lt w.heap.size) A boxes) (hbl : boxes.length ≤ 1000000) (hs : SlT tStw w (Lt w.heap.size) A2 l) (hl : l.length ≤ 1000000)
    (hent : ∀ (args : Array Value) (w : World), (callFunc fid args).run Try.prog w = .ok (.enter fid args) w) (hf : SltFn w fid caps p) :
    Calls Try.prog 62 #[.slice A boxes.length c, .slice A2 l.length c2, .func (.func fid) #[] caps] w (Ret w (.int .i64 (sumF boxes l p))) := by
  have HS := Lib.hid hs
  have HBX := Lib.hid hb
  have HF := Lib.hid hf
  have HKG := Lib.hid hkg
  clear hs hb hf hkg
  go_enter Try.func62, Try.ntmps62
  go_wp2
  go_loopw [7, 14] (fun v i wr => ∃ (k : Nat) (n : Int), k ≤ l.length ∧ i = .int .i64 k ∧ v = .int .i64 n ∧ Hid (n = ((l.take k).map (kgOf boxes p)).sum) ∧ Below w.heap.size w wr) (fun _ i _ => l.length - (intOf i).toNat)
  case atStart => exact ⟨0, 0, Nat.zero_le _, rfl, rfl, Lib.hid (by simp), Below.refl _ _⟩
  case round =>
    obtain ⟨k, n, hk, rfl, rfl, HN, hb⟩ := hrel
    by_cases hlt : k < l.length
    · obtain ⟨b, off, rfl, hbB, c0, c1, c2', c3⟩ := (HS.out.below hb).stw hlt
      have HP := Lib.hid (sum_take_succ (kgOf boxes p) l hlt default)
      have hbd := sum_bd2 (kgOf boxes p) 1000000000000 (l.take k) (fun x _ => kg_bd HKG.out p x)
      rw [← HN.out] at hbd
      have hlk : (l.take k).length = k := by simp; omega
      rw [hlk] at hbd
      clear hlk
      have hk0 : (0 : Int) ≤ (k : Int) := by omega
      have hk1 : (k : Int) < (l.length : Int) := by omega
      obtain ⟨hn0, hn1⟩ := hbd
      have hn2 : -1000000000000000000 ≤ n := by omega
      have hn3 : n ≤ 1000000000000000000 := by omega
      clear hn0 hn1
      have a1 : k + 1 ≤ l.length := hlt
      generalize l.getD k default = x at *
      obtain ⟨xb, xc, xt, xh⟩ := x
      simp only at c0 c1 c2' c3
      have HH : Hid (kgOf boxes p ⟨xb, xc, xt, xh⟩ = if p ⟨xc, xt, xh⟩ then (findBx boxes xb).1.kilos else 0) := Lib.hid rfl
      have hx := Bk.new wr 42 #[.int .i64 xb, .int .i64 xc, .int .i64 xt, .int .u8 (xh : Nat)]
      have hbk : Below w.heap.size w (wr.alloc (.cells #[.int .i64 xb, .int .i64 xc, .int .i64 xt, .int .u8 (xh : Nat)] 42)) := hb.alloc hb.size _
      go_upto_region 5 with fail
      clear c0 c1 c2' c3 hb
      generalize wr.heap.size = gx at *
      generalize (wr.alloc _) = W at *
      have HX := Lib.hid hx
      have x1 : W.cell? ⟨gx, 1, none⟩ = some (.int .i64 xc) := hx.cell 1
      have x2 : W.cell? ⟨gx, 2, none⟩ = some (.int .i64 xt) := hx.cell 2
      have x3 : W.cell? ⟨gx, 3, none⟩ = some (.int .u8 (xh : Nat)) := hx.cell 3
      have KP := Lib.hid (HF.out ⟨xc, xt, xh⟩ W hbk)
      unfold sltL at KP
      simp only at KP
      generalize p ⟨xc, xt, xh⟩ = px at *
      clear hx
      go_wp2_with fail
      refine KP.out.mono ?_
      rintro e w1 ⟨rfl, hb1⟩
      simp only
      clear KP x1 x2 x3
      have hb2 := hbk.trans (hb1.mono hbk.size)
      have x0 : w1.cell? ⟨gx, 0, none⟩ = some (.int .i64 xb) := (HX.out.below hb1 HX.out.lt).cell 0
      clear hb1 hbk HX
      cases px with
      | false =>
        have HM : Hid (n = ((l.take (k + 1)).map (kgOf boxes p)).sum) := Lib.hid (by rw [HP.out, ← HN.out, HH.out]; simp)
        go_wp2_with fail
        go_roundw
        case rel => (repeat apply Exists.intro); (first | exact ⟨⟨k + 1, n, a1, by go_num, rfl, HM, hb2⟩, rfl⟩ | exact ⟨a1, by go_num, rfl, HM, hb2⟩)
        case measure => simp [intOf]; omega
      | true =>
        have hkb := find_kg HKG.out xb
        have HM : Hid (n + (findBx boxes xb).1.kilos = ((l.take (k + 1)).map (kgOf boxes p)).sum) := Lib.hid (by rw [HP.out, ← HN.out, HH.out]; simp)
        have KF := Lib.hid (stowFind_any A c boxes xb w1 ((HBX.out.below hb2).up hb2.size) hbl)
        clear HH
        generalize findBx boxes xb = fb at *
        obtain ⟨⟨b0, b1, b2, b3, b4, b5, b6, b7, b8⟩, ok⟩ := fb
        unfold bxL at KF
        simp only at KF HM hkb
        obtain ⟨hkb0, hkb1⟩ := hkb
        have s1 : IntKind.i64.wrap (n + b4) = n + b4 := IntWalk.i64_in _ (by omega)
        go_wp2_with fail
        refine KF.out.mono ?_
        rintro e w3 ⟨rfl, hb3⟩
        simp only
        clear KF x0
        have hb4 := (hb2.trans (hb3.mono hb2.size)).alloc (hb2.trans (hb3.mono hb2.size)).size (.cells #[.int .i64 b0, .string b1, .int .u8 (b2 : Nat), .bool b3, .int .i64 b4, .int .i64 b5, .int .i64 b6, .int .u8 (b7 : Nat), .bool b8] 37)
        go_wp2_with fail
        go_roundw
        case rel => (repeat apply Exists.intro); (first | exact ⟨⟨k + 1, n + b4, a1, by go_num, rfl, HM, hb4⟩, rfl⟩ | exact ⟨a1, by go_num, rfl, HM, hb4⟩)
        case measure => simp [intOf]; omega
    · have hkn : n = sumF boxes l p := by rw [HN.out, List.take_of_length_le (by omega)]; rfl
      subst hkn
      go_wp2
      go_ret
      exact ⟨rfl, hb⟩
end Go.Proofs.Ytmkplemdnglhmaa
