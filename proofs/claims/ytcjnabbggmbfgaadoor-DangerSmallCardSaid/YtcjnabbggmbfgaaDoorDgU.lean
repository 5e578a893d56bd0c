/-
  The walk of the statement DangerSmall.
-/
import Derived.Test.YtcjnabbggmbfgaaDoorDgT
namespace Go.Proofs.YtcjnabbggmbfgaaDoor
open Go.RowKit

/-- 'lists' over a slice of the call's own. -/
theorem lists_own (z : Int) (hz : 0 ≤ z) (v : Value) (n : Nat) (l : List Nat) (base : Nat) (w : World) (h : w.ownsRow base 5 1 v n (u8s l)) (hn : n ≤ 100000) (hl : ∀ x ∈ l, x < 256) (ht : TabOK w) :
    Calls Tryd.prog 17 #[.int .u8 z, v] w (TrueRet w) := by
  obtain ⟨A, c, rfl, _, _, hs⟩ := own_sl h
  obtain ⟨k, rfl⟩ := Int.eq_ofNat_of_zero_le hz
  exact lists_any k A n c l w hn hl ht hs
theorem TrueRet.from {w W : World} {e : Ending} {w' : World} (h : TrueRet W e w') (hb : Below w.heap.size w W) : TrueRet w e w' := ⟨h.1, hb.trans (h.2.mono hb.size)⟩
theorem lists_lit1 (z : Int) (hz : 0 ≤ z) (x : Nat) (hx : x < 256) (w : World) (ht : TabOK w) : Calls Tryd.prog 17 #[.int .u8 z, .slice (some ⟨w.heap.size, 0, none⟩) 1 1] (w.alloc (.cells #[.int .u8 x] 5)) (TrueRet w) :=
  (lists_own z hz _ 1 [x] w.heap.size _ (World.ownsRow_lit w #[.int .u8 x] 1 (Nat.le_refl _) (by simp [maxLen]) rfl) (by omega) (by simpa using hx) (ht.alloc _)).mono fun _ _ h => h.from ((Below.refl _ _).alloc (Nat.le_refl _) _)
theorem lists_lit3 (z : Int) (hz : 0 ≤ z) (x : Nat) (hx : x < 256) (w : World) (ht : TabOK w) : Calls Tryd.prog 17 #[.int .u8 z, .slice (some ⟨w.heap.size, 0, none⟩) 3 3] (w.alloc (.cells #[.int .u8 0, .int .u8 x, .int .u8 5] 5)) (TrueRet w) :=
  (lists_own z hz _ 3 [0, x, 5] w.heap.size _ (World.ownsRow_lit w #[.int .u8 0, .int .u8 x, .int .u8 5] 3 (Nat.le_refl _) (by simp [maxLen]) rfl) (by omega) (by simpa using hx) (ht.alloc _)).mono fun _ _ h => h.from ((Below.refl _ _).alloc (Nat.le_refl _) _)
def zerosA (n : Nat) : Array Value := (u8s (List.replicate n 0)).toArray
theorem made_zeros (n : Nat) : madeCells #[Value.int .u8 0] n = zerosA n := by
  apply Array.ext_getElem?
  intro i
  by_cases hi : i < n
  · simp [madeCells, hi, Nat.mod_one, zerosA, u8s]
  · rw [Array.getElem?_eq_none (by rw [size_madeCells]; omega), Array.getElem?_eq_none (by simp [zerosA, u8s]; omega)]
theorem make_zeros (n : Nat) (hn : n ≤ 1000000) (w : World) : (Instr.makeSlice 22 (.int .i64 (n : Int)) (.int .i64 (n : Int))).run Tryd.prog w = .ok (.slice (some ⟨w.heap.size, 0, none⟩) n n) (w.alloc (.cells (zerosA n) 5)) := by
  rw [← made_zeros]
  exact run_make_row' (P := Tryd.prog) 22 5 (.int .u8 0) 1 Tryd.underlying22 (by kernel_rfl) rfl .i64 .i64 n (by omega) (by omega) w
theorem own_zeros (w : World) (n base : Nat) (hb : base ≤ w.heap.size) (hn : n ≤ 1000000) : (w.alloc (.cells (zerosA n) 5)).ownsRow base 5 1 (.slice (some ⟨w.heap.size, 0, none⟩) n n) n (u8s (List.replicate n 0)) :=
  ⟨by simp [u8s], .inr ⟨_, n, zerosA n, rfl, hb, heap_alloc_new w _, Nat.le_refl _, by unfold maxLen; omega, by simp [zerosA, u8s], by simp [zerosA, u8s]⟩⟩
theorem lists_zeros (z : Int) (hz : 0 ≤ z) (n : Nat) (hn : n ≤ 100000) (w : World) (ht : TabOK w) : Calls Tryd.prog 17 #[.int .u8 z, .slice (some ⟨w.heap.size, 0, none⟩) n n] (w.alloc (.cells (zerosA n) 5)) (TrueRet w) :=
  (lists_own z hz _ n _ w.heap.size _ (own_zeros w n _ (Nat.le_refl _) (by omega)) hn (by simp) (ht.alloc _)).mono fun _ _ h => h.from ((Below.refl _ _).alloc (Nat.le_refl _) _)
/-- A list of bytes of the call's own, n of them. -/
structure OB (w : World) (base : Nat) (v : Value) (n : Nat) (l : List Nat) : Prop where
  own : w.ownsRow base 5 1 v n (u8s l)
  small : ∀ x ∈ l, x < 256
theorem OB.len {w : World} {base n : Nat} {v : Value} {l : List Nat} (h : OB w base v n l) : l.length = n := by have := h.own.1; rw [u8s_len] at this; omega
theorem OB.on {w w' : World} {base n : Nat} {v : Value} {l : List Nat} (h : OB w base v n l) (hb : Below w.heap.size w w') : OB w' base v n l := ⟨own_below h.own hb (Nat.le_refl _), h.small⟩
theorem OB.set {w : World} {base n g c : Nat} {l : List Nat} (h : OB w base (.slice (some ⟨g, 0, none⟩) n c) n l) (k x : Nat) (hx : x < 256) : OB (w.setCell ⟨g, k, none⟩ (.int .u8 x)) base (.slice (some ⟨g, 0, none⟩) n c) n (l.set k x) := by
  refine ⟨?_, fun y hy => ?_⟩
  · have := (h.own.stored k (.int .u8 x)).1
    rwa [show (u8s l).set k (.int .u8 x) = u8s (l.set k x) by simp [u8s, List.map_set]] at this
  · rcases List.mem_or_eq_of_mem_set hy with h' | h'
    · exact h.small y h'
    · omega
def SmallRel (w : World) (v q : Value) (wr : World) : Prop := ∃ (c : Nat) (L : List Nat), c ≤ 10 ∧ q = .int .u8 c ∧ L.length ≤ c ∧ OB wr w.heap.size v L.length L ∧ Below w.heap.size w wr
theorem SmallRel.cons {w w1 : World} {c : Nat} {L : List Nat} {v : Value} (hc : c < 10) (hL : L.length ≤ c) (hs : ∀ x ∈ L, x < 256) (ho : w1.ownsRow w.heap.size 5 1 v (1 + L.length) ([Value.int .u8 c] ++ u8s L)) (hb : Below w.heap.size w w1) (q : Value) (hq : q = .int .u8 ((c + 1 : Nat) : Int)) : SmallRel w v q w1 :=
  ⟨c + 1, c :: L, by omega, hq, by simpa using hL, ⟨by rw [List.length_cons, Nat.add_comm]; exact ho, by
    intro x hx
    rcases List.mem_cons.1 hx with h | h
    · omega
    · exact hs x h⟩, hb⟩
theorem wpList_want {P : Program} {ops : Array Oper} {rest : List Oper} {o : Oper} {a : Act} {Q : Exit → Act → World → Prop} {w : World} (hw : Region.wanted o (yielded ops a.tmps) = true)
    (h : ∀ K : Act → World → Prop, (∀ a w, wpList P ops Q rest a w → K a w) → o.wp P a w K Q) : wpList P ops Q (o :: rest) a w :=
  wpList_step fun K hK => by rw [if_pos hw]; exact h K hK
theorem wpList_append_slG {P : Program} {ops : Array Oper} {rest : List Oper} {o : Oper} {a : Act} {Q : Exit → Act → World → Prop} {w : World} {t e : TypeId} {size bytes : Nat} (hE : El P t e size bytes)
    (s x : Operand) (ho : o.op = .call { callee := .builtin .append, args := #[s, x], argTypes := #[t, t] }) (hw : Region.wanted o (yielded ops a.tmps) = true)
    (base : Nat) (v : Value) (n : Nat) (xs : List Value) (hs : a.eval s = v) (hown : w.ownsRow base e size v n xs)
    (B : Nat) (A : Option Addr) (m c : Nat) (news : List Value) (hx : a.eval x = .slice A m c) (hsrc : Sl w B size A m news) (h1 : news.all (·.oneCell') = true)
    (h63 : n + m ≤ maxLen) (hbytes : (n + m) * bytes ≤ 140737488355328) (hbase : base ≤ w.heap.size)
    (h : ∀ v' w', w'.ownsRow base e size v' (n + m) (xs ++ news) → w.grownBy w' v.ownBlock → (v'.ownBlock = v.ownBlock ∨ ∃ g, v'.ownBlock = some g ∧ w.heap.size ≤ g) → Below base w w' → wpList P ops Q rest (a.put o.dst v') w') :
    wpList P ops Q (o :: rest) a w := by
  obtain ⟨v', w', hrun, h2, h3, h4, h5⟩ := run_append_sl hE o.type base v n xs hown B A m c news hsrc h1 h63 hbytes hbase
  refine wpList_want hw fun _ hK => ?_
  unfold Oper.wp execOp
  simp only [ho, resolve, invoke, builtin, Sem.run_bind, Sem.run_pure, Result.andThen_ok, List.map_toArray, List.map_cons, List.map_nil, hs, hx, hrun]
  exact hK _ _ (h v' w' h2 h3 h4 h5)
set_option maxRecDepth 100000 in
set_option maxHeartbeats 4000000 in
theorem small_any (w : World) (ht : TabOK w) (hm : NamesOK w) : Calls Tryd.prog 7 #[] w (TrueRet w) := by
  have HT := Lib.hid (fun W (hb : Below w.heap.size w W) => ht.below hb ht.lt)
  have HM := Lib.hid (fun W (hb : Below w.heap.size w W) => hm.below hb hm.lt)
  clear ht hm
  go_enter Tryd.func7, Tryd.ntmps7
  go_wp2_with fail
  go_loopw [1] (fun q wr => ∃ a : Nat, a ≤ 256 ∧ q = .int .i64 a ∧ Below w.heap.size w wr) (fun q _ => 256 - (intOf q).toNat)
  case atStart => exact ⟨0, Nat.zero_le _, rfl, Below.refl _ _⟩
  case round =>
    obtain ⟨a, ha, rfl, hb⟩ := hrel
    by_cases hlt : a < 256
    · obtain ⟨wo, rfl⟩ : ∃ wo : World, wo = wr := ⟨_, rfl⟩
      have hda : decide ((a : Int) < 256) = true := by simp; omega
      go_wp2_with fail
      go_loopw [2] (fun q wr => ∃ b : Nat, b ≤ 256 ∧ q = .int .i64 b ∧ Below w.heap.size w wr) (fun q _ => 256 - (intOf q).toNat)
      case atStart => exact ⟨0, Nat.zero_le _, rfl, hb⟩
      case round =>
        clear hb
        obtain ⟨b, hb256, rfl, hb⟩ := hrel
        by_cases hltb : b < 256
        · go_wp2_with fail
          refine (pair_any a b wr (HT.out wr hb) (HM.out wr hb)).mono ?_
          rintro e w1 ⟨rfl, hb1⟩
          go_wp2_with fail
          go_roundw
          case rel => exact ⟨b + 1, by omega, by go_num, hb.trans (hb1.mono hb.size)⟩
          case measure => simp [intOf] <;> omega
        · go_wp2_with fail
          refine (lists_lit1 a (by omega) a hlt wr (HT.out wr hb)).mono ?_
          rintro e w1 ⟨rfl, hb1⟩
          have hbb := hb.trans (hb1.mono hb.size)
          go_wp2_with fail
          refine (lists_lit3 3 (by omega) a hlt w1 (HT.out w1 hbb)).mono ?_
          rintro e w2 ⟨rfl, hb2⟩
          have hbc := hbb.trans (hb2.mono hbb.size)
          clear hb1 hbb hb2 hb
          go_wp2_with fail
          go_roundw
          case rel => exact ⟨a + 1, by omega, by go_num, hbc⟩
          case measure => simp [intOf] <;> omega
    · have hae : a = 256 := by omega
      clear hlt
      subst hae
      rw [show ((256 : Nat) : Int) = 256 from rfl]
      clear ha
      obtain ⟨wo, rfl⟩ : ∃ wo : World, wo = wr := ⟨_, rfl⟩
      go_wp2_with fail
      go_loopw [3] (fun q wr => ∃ n : Nat, n ≤ 1024 ∧ q = .int .i64 n ∧ Below w.heap.size w wr) (fun q _ => 1024 - (intOf q).toNat)
      case atStart => exact ⟨0, Nat.zero_le _, rfl, hb⟩
      case round =>
        clear hb
        obtain ⟨n, hn, rfl, hb⟩ := hrel
        by_cases hlt : n < 1024
        · clear wo
          obtain ⟨wo, rfl⟩ : ∃ wo : World, wo = wr := ⟨_, rfl⟩
          have hdn : decide ((n : Int) < 1024) = true := by simp; omega
          go_wp2_with fail
          go_loopw [4, 5] (fun v q wr => SmallRel w v q wr) (fun _ q _ => 10 - (intOf q).toNat)
          case atStart => exact ⟨0, [], Nat.zero_le _, rfl, by simp, ⟨World.ownsRow_nil _ _ _ _, by simp⟩, hb⟩
          case round =>
            clear hb
            obtain ⟨c, L, hc, rfl, hL, hob, hb⟩ := hrel
            by_cases hltc : c < 10
            · have hd : decide ((c : Int) < 10) = true := by simp; omega
              obtain ⟨A, ca, rfl, hA1, hA2, hsl⟩ := own_sl hob.own
              have hB := hb.size
              have HO := Lib.hid (World.ownsRow_lit (base := w.heap.size) (e := 5) (size := 1) wr #[.int .u8 c] 1 hB (by simp [maxLen]) rfl)
              have HS := Lib.hid (hsl.below ((Below.refl _ wr).alloc (Nat.le_refl _) (.cells #[.int .u8 c] 5)))
              have H1 := Lib.hid (u8s_one L)
              have HOB := Lib.hid hob
              clear hsl hob
              by_cases hbit : (bits BinOp.and IntKind.i64 ((n : Int) / 2 ^ c) 1 == 1) = true
              · go_wp2_with (at_builtin; (refine wpList_append_sl el_u8 rfl (.tmp 51) (.tmp 52) rfl w.heap.size (.slice (some ⟨wr.heap.size, 0, none⟩) 1 1) 1 [.int .u8 c] rfl HO.out wr.heap.size A L.length ca (u8s L) rfl HS.out H1.out (by unfold maxLen; omega) (by omega) (by simp; omega) ?_; intro v1 w1 ho1 hg1 hd1 hb1; have hb1' := hb.trans ((((Below.refl _ wr).alloc (Nat.le_refl _) _).mono hB).trans hb1); have HX := Lib.hid (fun q hq => SmallRel.cons (c := c) hltc hL HOB.out.small ho1 hb1' q hq); clear ho1 hg1 hd1 hb1 hb1'))
                go_roundw
                case rel => exact HX.out _ (by go_num)
                case measure => simp [intOf] <;> omega
              · have hbit2 : (bits BinOp.and IntKind.i64 ((n : Int) / 2 ^ c) 1 == 1) = false := by simpa using hbit
                go_wp2_with fail
                go_roundw
                case rel => exact ⟨c + 1, L, by omega, by go_num, by omega, HOB.out, hb⟩
                case measure => simp [intOf] <;> omega
            · obtain rfl : c = 10 := by omega
              rw [show ((10 : Nat) : Int) = 10 from rfl]
              have hob := Lib.hid hob; have HSM := Lib.hid hob.out.small
              obtain ⟨A, ca, rfl, hA1, hA2, hsl⟩ := own_sl hob.out.own
              have HSL := Lib.hid hsl; clear hsl
              have hm1 : (0 : Int) ≤ (n : Int) % 11 := by omega
              have hm2 : (0 : Int) ≤ (n : Int) % 10 := by omega
              go_wp2_with fail
              refine (lists_own _ hm1 _ L.length L w.heap.size wr hob.out.own (by omega) HSM.out (HT.out wr hb)).mono ?_
              rintro e w1 ⟨rfl, hb1⟩
              have hbb := hb.trans (hb1.mono hb.size)
              have hsl1 := sl_later HSL.out hb1
              have hB := hbb.size
              have HO := Lib.hid (own_empty w1 w1.heap.size 5 1 (Nat.le_refl _))
              have HS := Lib.hid (sl_later hsl1 ((Below.refl _ w1).alloc (Nat.le_refl _) (.cells #[] 5)))
              have H1 := Lib.hid (u8s_one L)
              have HS1 := Lib.hid hsl1
              clear hb1 hsl1
              go_wp2_with (first
                | (at_builtin; (refine wpList_append_slG el_u8 (.tmp 64) (.tmp 65) rfl (by rfl) w1.heap.size (.slice (some ⟨w1.heap.size, 0, none⟩) 0 0) 0 [] rfl HO.out _ A L.length ca (u8s L) rfl HS.out H1.out (by unfold maxLen; omega) (by omega) (by simp) ?_; intro v2 w2 ho2 hg2 hd2 hb2; simp only [List.nil_append, Nat.zero_add] at ho2; have hb2' : Below w1.heap.size w1 w2 := ((Below.refl _ w1).alloc (Nat.le_refl _) _).trans hb2; have HS2 := Lib.hid (sl_later HS1.out hb2'); have hz2 := hb2'.size; clear hg2 hd2 hb2 HO HS))
                | (at_builtin; (refine wpList_append_slG el_u8 (.tmp 66) (.tmp 67) rfl (by rfl) w1.heap.size v2 L.length (u8s L) rfl ho2 _ A L.length ca (u8s L) rfl HS2.out H1.out (by unfold maxLen; omega) (by omega) hz2 ?_; intro v3 w3 ho3 hg3 hd3 hb3; have hb3' : Below w1.heap.size w1 w3 := hb2'.trans hb3; have HO3 := Lib.hid ho3; clear hg3 hd3 hb3 ho2 HS2 hb2' ho3)))
              have hbc := hbb.trans (hb3'.mono hbb.size)
              have HL2 := Lib.hid (show ∀ x ∈ L ++ L, x < 256 from fun x hx => HSM.out x (by simpa using hx))
              have ho4 : w3.ownsRow w1.heap.size 5 1 v3 (L.length + L.length) (u8s (L ++ L)) := by have := HO3.out; simpa [u8s] using this
              have HO4 := Lib.hid ho4; clear ho4
              refine (lists_own _ hm2 v3 (L.length + L.length) (L ++ L) w1.heap.size w3 HO4.out (by omega) HL2.out (HT.out w3 hbc)).mono ?_
              rintro e w4 ⟨rfl, hb4⟩
              have hbd := hbc.trans (hb4.mono hbc.size)
              clear hb4 hbc hb3' HO3 HO4 HL2 hbb HSL hob HSM HS1 H1
              go_wp2_with fail
              go_roundw
              case rel => exact ⟨n + 1, by omega, by go_num, hbd⟩
              case measure => simp [intOf] <;> omega
        · obtain rfl : n = 1024 := by omega
          rw [show ((1024 : Nat) : Int) = 1024 from rfl]
          clear wo hlt hn
          obtain ⟨wo, rfl⟩ : ∃ wo : World, wo = wr := ⟨_, rfl⟩
          go_wp2_with fail
          go_loopw [6] (fun q wr => ∃ n : Nat, 998 ≤ n ∧ n ≤ 1003 ∧ q = .int .i64 n ∧ Below w.heap.size w wr) (fun q _ => 1003 - (intOf q).toNat)
          case atStart => exact ⟨998, by omega, by omega, rfl, hb⟩
          case round =>
            clear hb
            obtain ⟨n, hn1, hn2, rfl, hb⟩ := hrel
            by_cases hlt : n < 1003
            · clear wo
              obtain ⟨wo, rfl⟩ : ∃ wo : World, wo = wr := ⟨_, rfl⟩
              have hdn : decide ((n : Int) < 1003) = true := by simp; omega
              have hmk := make_zeros n (by omega)
              have HZ := Lib.hid (own_zeros wo n wo.heap.size (Nat.le_refl _) (by omega))
              go_wp2_with fail
              have hbz : Below w.heap.size w (wo.alloc (.cells (zerosA n) 5)) := hb.trans (((Below.refl _ wo).alloc (Nat.le_refl _) _).mono hb.size)
              have hB := hb.size
              have hOB : OB (wo.alloc (.cells (zerosA n) 5)) w.heap.size (.slice (some ⟨wo.heap.size, 0, none⟩) n n) n (List.replicate n 0) := ⟨own_mono HZ.out hB, by simp⟩
              clear hb HZ
              generalize wo.heap.size = g at *
              generalize (wo.alloc (.cells (zerosA n) 5)) = W0 at *
              go_loopw [80] (fun q wr => ∃ (i : Nat) (L : List Nat), i ≤ n ∧ q = .int .i64 i ∧ OB wr w.heap.size (.slice (some ⟨g, 0, none⟩) n n) n L ∧ Below w.heap.size w wr) (fun q _ => n - (intOf q).toNat)
              case atStart => exact ⟨0, _, Nat.zero_le _, rfl, hOB, hbz⟩
              case round =>
                clear hbz hOB
                obtain ⟨i, L, hi, rfl, hOB, hb⟩ := hrel
                by_cases hlti : i < n
                · have hdi : decide (i < n) = true := by simp; omega
                  have hl := hOB.len
                  have hc := hOB.own.cellAt i (by omega)
                  rw [show (u8s L)[i]? = some (.int .u8 ((L[i]'(by omega) : Nat) : Int)) by simp [u8s, show i < L.length by omega]] at hc
                  have hf := hOB.own.frozenAt i
                  have HST := Lib.hid (hOB.set i (i % 10) (by omega))
                  have HB := Lib.hid (hb.setCell (show w.heap.size ≤ (⟨g, i, none⟩ : Addr).block from hB) (.int .u8 ((i % 10 : Nat) : Int)))
                  have hi0 : (0 : Int) ≤ (i : Int) := by omega
                  have hin : (i : Int) < (n : Int) := by omega
                  generalize (L[i]'(by omega) : Nat) = old at hc
                  clear hOB hb hl
                  go_wp2_with fail
                  go_roundw
                  case rel => exact ⟨i + 1, _, by omega, by go_num, HST.out, HB.out⟩
                  case measure => simp [intOf] <;> omega
                · obtain rfl : i = n := by omega
                  have HOB := Lib.hid hOB; clear hOB
                  go_wp2_with fail
                  refine (lists_own 5 (by omega) _ i L w.heap.size wr HOB.out.own (by omega) HOB.out.small (HT.out wr hb)).mono ?_
                  rintro e w1 ⟨rfl, hb1⟩
                  have HOB1 := Lib.hid (HOB.out.on hb1)
                  have hbb := hb.trans (hb1.mono hb.size)
                  clear HOB hb hb1
                  go_wp2_with fail
                  refine (lists_own 10 (by omega) _ i L w.heap.size w1 HOB1.out.own (by omega) HOB1.out.small (HT.out w1 hbb)).mono ?_
                  rintro e w2 ⟨rfl, hb2⟩
                  have HOB2 := Lib.hid (HOB1.out.on hb2)
                  have hbc := hbb.trans (hb2.mono hbb.size)
                  clear HOB1 hbb hb2
                  go_wp2_with fail
                  refine (lists_zeros 1 (by omega) i (by omega) w2 (HT.out w2 hbc)).mono ?_
                  rintro e w3 ⟨rfl, hb3⟩
                  have hOB3 := HOB2.out.on hb3
                  have hbd := hbc.trans (hb3.mono hbc.size)
                  clear HOB2 hbc hb3
                  obtain ⟨k, rfl⟩ : ∃ k, i = k + 1 := ⟨i - 1, by omega⟩
                  have hl := hOB3.len
                  have hc := hOB3.own.cellAt k (by omega)
                  rw [show (u8s L)[k]? = some (.int .u8 ((L[k]'(by omega) : Nat) : Int)) by simp [u8s, show k < L.length by omega]] at hc
                  have hf := hOB3.own.frozenAt k
                  have HST := Lib.hid (hOB3.set k 10 (by omega))
                  have HB := Lib.hid (hbd.setCell (show w.heap.size ≤ (⟨g, k, none⟩ : Addr).block from hB) (.int .u8 ((10 : Nat) : Int)))
                  generalize (L[k]'(by omega) : Nat) = old at hc
                  have hk1 : ((k + 1 : Nat) : Int) - 1 = (k : Int) := by omega
                  have hk2 : (k : Int) < ((k + 1 : Nat) : Int) := by omega
                  clear hOB3 hbd hl
                  go_wp2_with fail
                  refine (lists_own 5 (by omega) _ (k + 1) _ w.heap.size _ HST.out.own (by omega) HST.out.small (HT.out _ HB.out)).mono ?_
                  rintro e w4 ⟨rfl, hb4⟩
                  have hbe := HB.out.trans (hb4.mono HB.out.size)
                  clear HST HB hb4 hc hf hk1 hk2
                  go_wp2_with fail
                  go_roundw
                  case rel => exact ⟨k + 1 + 1, by omega, by omega, by go_num, hbe⟩
                  case measure => simp [intOf] <;> omega
            · obtain rfl : n = 1003 := by omega
              rw [show ((1003 : Nat) : Int) = 1003 from rfl]
              go_wp2_with fail
              refine (awake_true wr (HT.out wr hb)).mono ?_
              rintro e w3 ⟨rfl, hb3⟩
              go_wp2_with fail
              go_ret
              exact ⟨rfl, hb.trans (hb3.mono hb.size)⟩
end Go.Proofs.YtcjnabbggmbfgaaDoor
