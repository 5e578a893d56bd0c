/-
  The walk of danger.Divide.
-/
import Derived.Test.YtcjnabbggmbfgaaDoorDgC
import Derived.Test.YtcjnabbggmbfgaaDoorDgPlain2
import Derived.Laws.EntriesVeiled
namespace Go.Proofs.YtcjnabbggmbfgaaDoor
open Go.RowKit

theorem el_u8s : El Tryd.prog 25 22 1 24 := El.mk' Tryd.underlying25 (by kernel_rfl) (by decide)
/-- A slice of byte slices of the call's own. -/
def Groups (w : World) (base : Nat) (v : Value) (R : List (List Nat)) : Prop :=
  ∃ vs : List Value, w.ownsRow base 22 1 v R.length vs ∧ vs.length = R.length ∧ ∀ i, i < R.length → w.ownsRow base 5 1 (vs.getD i undef) (R.getD i []).length (u8s (R.getD i []))
/-- The same, each row in a block of its own. -/
def GroupsA (w : World) (base : Nat) (v : Value) (R : List (List Nat)) : Prop :=
  ∃ vs : List Value, w.ownsRow base 22 1 v R.length vs ∧ vs.length = R.length ∧ (∀ i, i < R.length → w.ownsRow base 5 1 (vs.getD i undef) (R.getD i []).length (u8s (R.getD i []))) ∧
    ∀ i h, i < R.length → h < R.length → i ≠ h → (vs.getD i undef).ownBlock = none ∨ (vs.getD i undef).ownBlock ≠ (vs.getD h undef).ownBlock
theorem GroupsA.groups {w : World} {base : Nat} {v : Value} {R : List (List Nat)} (h : GroupsA w base v R) : Groups w base v R := by
  obtain ⟨vs, h1, h2, h3, _⟩ := h
  exact ⟨vs, h1, h2, h3⟩
def DivRetA (w : World) (R : List (List Nat)) (er : Int) (e : Ending) (w' : World) : Prop :=
  ∃ v, e = .returned (.tuple #[v, .int .i64 er]) ∧ GroupsA w' w.heap.size v R ∧ Below w.heap.size w w'
def DivRet (w : World) (R : List (List Nat)) (er : Int) (e : Ending) (w' : World) : Prop :=
  ∃ v, e = .returned (.tuple #[v, .int .i64 er]) ∧ Groups w' w.heap.size v R ∧ Below w.heap.size w w'

set_option maxHeartbeats 1000000 in
theorem divide_err (A : Option Addr) (n c : Nat) (l : List Nat) (w : World) (hs : Sl w w.heap.size 1 A n (u8s l)) (he : Dg.err l ≠ 0) :
    Calls Tryd.prog 11 #[.slice A n c] w (DivRet w [] (Dg.err l)) := by
  have hne : (Dg.err l != 0) = true := by simpa using he
  go_enter Tryd.func11, Tryd.ntmps11
  go_wp2_with (first
    | (go_at_call 21; refine (counted_any A n c l _ hs).mono ?_; rintro e w1 ⟨rfl, hb⟩)
    | (refine wpList_store_abs rfl 29 (.tmp 4) (.tmp 16) rfl w1.heap.size (cntA (Dg.pre l)) rfl rfl 29 zer10 (Bk.new _ _ _) (by rw [cntA_size]; exact info_arr10) (by rw [cntA_size]; rfl) (cntA_one _) ?_; intro w2 hk hg))
  go_ret2
  exact ⟨_, rfl, ⟨[], World.ownsRow_nil _ _ _ _, rfl, fun i hi => by simp at hi⟩, below_store hb hb.size hg⟩

def nil9 : Array Value := #[.slice none 0 0, .slice none 0 0, .slice none 0 0, .slice none 0 0, .slice none 0 0, .slice none 0 0, .slice none 0 0, .slice none 0 0, .slice none 0 0]
theorem nil9_at (g : Nat) (h : g < 9) : nil9.getD g undef = .slice none 0 0 := by
  match g, h with
  | 0, _ => rfl | 1, _ => rfl | 2, _ => rfl | 3, _ => rfl | 4, _ => rfl | 5, _ => rfl | 6, _ => rfl | 7, _ => rfl | 8, _ => rfl
  | n + 9, h => exact absurd h (by omega)
theorem G0_at (g : Nat) (h : g < 9) : Dg.G0.getD g [] = [] := by
  match g, h with
  | 0, _ => rfl | 1, _ => rfl | 2, _ => rfl | 3, _ => rfl | 4, _ => rfl | 5, _ => rfl | 6, _ => rfl | 7, _ => rfl | 8, _ => rfl
  | n + 9, h => exact absurd h (by omega)
/-- The world in which the search begins: the most, the empty groups and the search itself are laid. -/
def tryW (w : World) (bc m : Nat) : World :=
  (((w.alloc (Obj.cells #[Value.int IntKind.i64 ↑m] 3)).alloc (Obj.cells nil9 54)).alloc
      (Obj.cells #[Value.func (Fn.func 22) #[] #[Value.pointer (some { block := bc, off := 0 }), Value.pointer (some { block := w.heap.size, off := 0 }), Value.pointer (some { block := w.heap.size + 1, off := 0 }), Value.pointer (some { block := w.heap.size + 1 + 1, off := 0 })]] 55))
theorem tryW_size (w : World) (bc m : Nat) : (tryW w bc m).heap.size = w.heap.size + 3 := by simp [tryW]
theorem tryW_below (w : World) (bc m : Nat) : Below w.heap.size w (tryW w bc m) := (((Below.refl _ _).alloc (Nat.le_refl _) _).alloc (by simp) _).alloc (by simp; omega) _
theorem tryInv0 {w : World} {bc nc cc m : Nat} {Ac : Option Addr} {cs : List Nat} (ht : TabOK w) (hc : Bk w bc 22 #[.slice Ac nc cc]) (hs : Sl w w.heap.size 1 Ac nc (u8s cs)) :
    TryInv (tryW w bc m) (w.heap.size + 3) bc w.heap.size (w.heap.size + 1) (w.heap.size + 1 + 1) Ac nc cc cs m nil9 Dg.G0 := by
  have hb := tryW_below w bc m
  refine ⟨ht.below hb ht.lt, hc.below hb hc.lt, hs.below hb, ((Bk.new w _ _).alloc _).alloc _, ?_, ?_, rfl, by simp [Dg.G0], fun g hg => ?_, fun g h hg hh _ => ?_, ?_, fun g hg => ?_⟩
  · have := Bk.new (w.alloc (Obj.cells #[Value.int IntKind.i64 ↑m] 3)) 54 nil9
    simp at this
    exact this.alloc _
  · have := Bk.new ((w.alloc (Obj.cells #[Value.int IntKind.i64 ↑m] 3)).alloc (Obj.cells nil9 54)) 55 #[Value.func (Fn.func 22) #[] #[Value.pointer (some { block := bc, off := 0 }), Value.pointer (some { block := w.heap.size, off := 0 }), Value.pointer (some { block := w.heap.size + 1, off := 0 }), Value.pointer (some { block := w.heap.size + 1 + 1, off := 0 })]]
    simp at this
    exact this
  · rw [nil9_at g hg, G0_at g hg]; exact World.ownsRow_nil _ _ _ _
  · rw [nil9_at g hg]; exact .inl rfl
  · have := hc.lt
    have := ht.lt
    rw [tryW_size]
    omega
  · rw [G0_at g hg]; simp
theorem fr_below {w w' : World} {bc m base : Nat} (h : Fr base (w.heap.size + 1) (tryW w bc m) w') (hb : w.heap.size ≤ base) : Below w.heap.size w w' :=
  (tryW_below w bc m).trans ⟨h.os, h.tape, h.output, h.size, fun k hk => h.block k (by omega) (by omega)⟩

set_option maxRecDepth 100000 in
set_option maxHeartbeats 4000000 in
theorem divide_okA (A : Option Addr) (n c : Nat) (l : List Nat) (w : World) (ht : TabOK w) (hs : Sl w w.heap.size 1 A n (u8s l)) (he : Dg.err l = 0) :
    Calls Tryd.prog 11 #[.slice A n c] w (DivRetA w (Dg.divide (Dg.pre l)) 0) := by
  have hC := counted_any A n c l w hs
  rw [he] at hC
  generalize Dg.pre l = p at *
  have HC := Lib.hid hC; clear hC he
  have HT := Lib.hid ht; clear ht
  go_enter Tryd.func11, Tryd.ntmps11
  go_wp2_with (first
    | (go_at_call 21; refine HC.out.mono ?_; rintro e w1 ⟨rfl, hb⟩)
    | (refine wpList_store_abs rfl 29 (.tmp 4) (.tmp 16) rfl w1.heap.size (cntA p) rfl rfl 29 zer10 (Bk.new _ _ _) (by rw [cntA_size]; exact info_arr10) (by rw [cntA_size]; rfl) (cntA_one _) ?_; intro w2 hK hg))
  have hb2 := below_store hb hb.size hg
  have hgl := hK.lt
  have hw2 : w.heap.size ≤ w2.heap.size := hb2.size
  clear HC hg hb hs
  generalize w1.heap.size = g at *
  go_loopw [21] (fun i wr => ∃ (k : Nat) (v : Value), k ≤ 9 ∧ i = .int .i64 k ∧ Bk wr w2.heap.size 22 #[v] ∧ wr.ownsRow (w2.heap.size + 1) 5 1 v (Dg.clsTo p k).length (u8s (Dg.clsTo p k)) ∧ Bk wr g 29 (cntA p) ∧ Below w2.heap.size w2 wr) (fun i _ => 9 - (intOf i).toNat)
  case atStart => exact ⟨0, _, Nat.zero_le _, rfl, Bk.new _ _ _, World.ownsRow_nil _ _ _ _, hK.alloc _, (Below.refl _ _).alloc (Nat.le_refl _) _⟩
  case round =>
    obtain ⟨k, v, hk, rfl, hv, hown, hKr, hbr⟩ := hrel
    have hsz : w2.heap.size < wr.heap.size := hv.lt
    by_cases hlt : k < 9
    · have hda : decide ((k : Int) < 9) = true := by simp; omega
      have ca := (hKr.cell (k + 1)).trans (cntA_at p (k + 1) (by omega))
      have hlen := Dg.clsTo_len p k
      have HS : Hid (Dg.clsTo p (k + 1) = if 0 < p.count (k + 1) then Dg.clsTo p k ++ [k + 1] else Dg.clsTo p k) := Lib.hid rfl
      generalize p.count (k + 1) = q at *
      generalize Dg.clsTo p k = L at *
      have cv := hv.cell 0
      simp at cv
      by_cases hq : 0 < q
      · have hqd : decide ((0 : Int) < (q : Int)) = true := by simp; omega
        go_wp2_with (at_builtin; (refine wpList_append1 el_u8 rfl (.tmp 29) (.tmp 33) rfl (w2.heap.size + 1) v L.length (u8s L) rfl hown #[.int .u8 (k + 1)] _ rfl rfl rfl ?c1 ?c2 ?c3 ?_))
        case c1 => unfold maxLen; omega
        case c2 => omega
        case c3 => omega
        intro v' w3 hown' hgr hd3 hbel
        obtain ⟨A3, c3, rfl, hc31, hc32, hS3⟩ := own_sl hown'
        have hv3 := hv.below hbel (by omega)
        have cv3 := hv3.cell 0
        simp at cv3
        have fv3 := hv3.frozen 0
        have R : Bk (w3.setCell ⟨w2.heap.size, 0, none⟩ (.slice A3 (L.length + 1) c3)) w2.heap.size 22 #[.slice A3 (L.length + 1) c3] := hv3.set_ 0 _
        have R2 := ownsRow_setCell_below hown' (a := ⟨w2.heap.size, 0, none⟩) (by simp) (.slice A3 (L.length + 1) c3)
        have R3 := (hKr.below hbel (by omega)).far (p := ⟨w2.heap.size, 0, none⟩) (by simp; omega) (.slice A3 (L.length + 1) c3)
        have R4 := (hbr.trans (hbel.mono (by omega))).setCell (p := ⟨w2.heap.size, 0, none⟩) (by simp) (.slice A3 (L.length + 1) c3)
        have HR := Lib.hid (And.intro R (And.intro R2 (And.intro R3 R4)))
        clear R R2 R3 R4 hS3 hown' hgr hd3 hbel hv3 hv hown hKr hbr ca cv
        go_wp2
        go_roundw
        case rel =>
          obtain ⟨R, R2, R3, R4⟩ := HR.out
          exact ⟨k + 1, _, by omega, by go_num, R, by rw [HS.out, if_pos hq]; simpa [u8s] using R2, R3, R4⟩
        case measure => simp [intOf]; omega
      · have hqd : decide ((0 : Int) < (q : Int)) = false := by simp; omega
        go_wp2
        go_roundw
        case rel => exact ⟨k + 1, v, by omega, by go_num, hv, by rw [HS.out, if_neg hq]; exact hown, hKr, hbr⟩
        case measure => simp [intOf]; omega
    · have hk9 : k = 9 := by omega
      rw [hk9] at hown
      clear hk9
      have hcl := Dg.clsTo_lt p 9 (by omega)
      have hcn := Dg.clsTo_len p 9
      have HD : Hid (Dg.divide p = Dg.divideC (Dg.clsTo p 9)) := Lib.hid rfl
      generalize Dg.clsTo p 9 = cs at *
      obtain ⟨Ac, cc, rfl, hcc1, hcc2, hSc⟩ := own_sl hown
      have hbw := hb2.trans (hbr.mono hw2)
      have HTr := Lib.hid (HT.out.below hbw HT.out.lt)
      have htl := HT.out.lt
      have hww : w.heap.size ≤ wr.heap.size := by omega
      clear hKr hown hbr
      obtain ⟨wo, rfl⟩ : ∃ wo : World, wo = wr := ⟨_, rfl⟩
      go_wp2
      have HCL := Lib.hid hcl; clear hcl
      go_loopw [36] (fun i wq => ∃ (m : Nat), m ≤ 10 ∧ i = .int .i64 m ∧ Bk wq w2.heap.size 22 #[.slice Ac cs.length cc] ∧ Sl wq wo.heap.size 1 Ac cs.length (u8s cs) ∧ Below wo.heap.size wo wq ∧ Hid ((List.range m).findSome? (Dg.divOf cs) = none)) (fun i _ => 10 - (intOf i).toNat)
      case atStart => exact ⟨0, Nat.zero_le _, rfl, hv, hSc, Below.refl _ _, Lib.hid rfl⟩
      case round =>
        obtain ⟨m, hm, rfl, hvq, hSq, hbq, HN⟩ := hrel
        have hqs := hbq.size
        by_cases hlt2 : m < 10
        · have hdm : decide ((m : Int) < 10) = true := by simp; omega
          have hI := tryInv0 (m := m) (HTr.out.below hbq (by omega)) hvq (hSq.more hqs)
          have hcall := try_any _ _ _ _ _ Ac cs.length cc cs m (fun x hx => (HCL.out x hx).2) (by omega) hcn cs.length 0 0 _ _ _ (by omega) (by omega) (fun g hg => by rw [G0_at g hg]; simp) hI
          rw [show ((0 : Nat) : Int) = 0 from rfl, List.drop_zero] at hcall
          have HF := Lib.hid (show Dg.divOf cs m = (Dg.tryF m cs 0 Dg.G0).map (·.take m) from rfl)
          generalize Dg.tryF m cs 0 Dg.G0 = r at *
          have HCA := Lib.hid hcall; clear hcall hI
          go_wp2_with fail
          refine HCA.out.mono ?_
          rintro e w4 ⟨us, rfl, hT4, hF4⟩
          have hb4 := fr_below hF4 (by omega)
          have hbw4 := hbq.trans (hb4.mono hqs)
          clear HCA hF4
          cases r with
          | none =>
            simp only [Option.isSome_none, Option.getD_none] at hT4 ⊢
            have HM := Lib.hid (Dg.findSome_miss HN.out (by rw [HF.out]; rfl))
            clear HF
            go_wp2
            go_roundw
            case rel => exact ⟨m + 1, by omega, by go_num, hT4.kc, hSc.below hbw4, hbw4, HM⟩
            case measure => simp [intOf]; omega
          | some R =>
            simp only [Option.isSome_some, Option.getD_some] at hT4 ⊢
            have HH := Lib.hid (show Dg.divideC cs = R.take m by
              unfold Dg.divideC
              rw [Dg.findSome_hit (K := 10) hlt2 HN.out HF.out]; rfl)
            clear HF HN
            have cm4 := hT4.km.cell 0
            simp at cm4
            go_wp2
            go_loopw [11, 43] (fun v i wx => ∃ (j : Nat), j ≤ m ∧ i = .int .i64 j ∧ wx.ownsRow w4.heap.size 22 1 v j (us.toList.take j) ∧ Below w4.heap.size w4 wx) (fun _ i _ => 10 - (intOf i).toNat)
            case atStart => exact ⟨0, Nat.zero_le _, rfl, World.ownsRow_nil _ _ _ _, Below.refl _ _⟩
            case round =>
              obtain ⟨j, hj, rfl, hown, hbx⟩ := hrel
              by_cases hlt3 : j < m
              · have kgx := hT4.kg.below hbx hT4.kg.lt
                have hjs : j < us.size := by rw [hT4.sz]; omega
                have cgx := (kgx.cell j).trans (show us[j]? = some us[j] by simp [hjs])
                obtain ⟨Aj, cj, hvj, _⟩ := own_sl (hT4.own j (by omega))
                rw [show us[j] = us.getD j undef by simp [hjs], hvj] at cgx
                have HU := Lib.hid (show us.toList.take (j + 1) = us.toList.take j ++ [.slice Aj (R.getD j []).length cj] by
                  rw [List.take_succ_eq_append_getElem (by simpa using hjs), ← hvj]; simp [hjs])
                clear hvj kgx
                generalize us.toList.take j = xs at *
                generalize (R.getD j []).length = lj at *
                have hxz := hbx.size
                go_wp2_with (at_builtin; (refine wpList_append1 el_u8s rfl (.tmp 46) (.tmp 50) rfl w4.heap.size _ j xs rfl hown #[.slice Aj lj cj] _ rfl rfl rfl ?c1 ?c2 ?c3 ?_))
                case c1 => unfold maxLen; omega
                case c2 => omega
                case c3 => omega
                intro v' w3 hown' hgr hd3 hbel
                go_wp2
                go_roundw
                case rel => exact ⟨j + 1, by omega, by go_num, by rw [HU.out]; exact hown', hbx.trans hbel⟩
                case measure => simp [intOf]; omega
              · obtain rfl : j = m := by omega
                go_wp2
                go_ret2
                refine ⟨_, rfl, ?_, ?_⟩
                · rw [HD.out, HH.out]
                  have hRl : (R.take j).length = j := by rw [List.length_take, hT4.gl]; omega
                  have hb0 : w.heap.size ≤ w4.heap.size := by have := hbw4.size; omega
                  refine ⟨us.toList.take j, by rw [hRl]; exact own_mono hown hb0, by rw [hRl]; simp [hT4.sz]; omega, fun i hi => ?_, fun i h hi hh hne => ?_⟩
                  rotate_left
                  · rw [hRl] at hi hh
                    rw [show (us.toList.take j).getD i undef = us.getD i undef by simp [List.getElem?_take_of_lt hi], show (us.toList.take j).getD h undef = us.getD h undef by simp [List.getElem?_take_of_lt hh]]
                    exact hT4.apart i h (by omega) (by omega) hne
                  rw [hRl] at hi
                  have ho := own_below (hT4.own i (by omega)) hbx (Nat.le_refl _)
                  rw [show (us.toList.take j).getD i undef = us.getD i undef by simp [List.getElem?_take_of_lt hi], show (R.take j).getD i [] = R.getD i [] by simp [List.getElem?_take_of_lt hi]]
                  exact own_mono ho (by omega)
                · exact hbw.trans ((hbw4.mono hww).trans (hbx.mono (by have := hbw4.size; omega)))
        · obtain rfl : m = 10 := by omega
          have HH := Lib.hid (show Dg.divideC cs = [] by unfold Dg.divideC; rw [HN.out]; rfl)
          go_wp2
          go_ret2
          refine ⟨_, rfl, ?_, hbw.trans (hbq.mono hww)⟩
          rw [HD.out, HH.out]
          exact ⟨[], World.ownsRow_nil _ _ _ _, rfl, (fun i hi => by simp at hi), fun i h hi => by simp at hi⟩
theorem divide_ok (A : Option Addr) (n c : Nat) (l : List Nat) (w : World) (ht : TabOK w) (hs : Sl w w.heap.size 1 A n (u8s l)) (he : Dg.err l = 0) :
    Calls Tryd.prog 11 #[.slice A n c] w (DivRet w (Dg.divide (Dg.pre l)) 0) :=
  (divide_okA A n c l w ht hs he).mono fun _ _ ⟨v, h1, h2, h3⟩ => ⟨v, h1, h2.groups, h3⟩
end Go.Proofs.YtcjnabbggmbfgaaDoor
