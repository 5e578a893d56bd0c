/-
  Contracts and lemmas, in one text: SlF, SlG, SlH, SlK, SlAw.
-/
import Derived.Test.YtdhhiaheonlldaaDoorB4
import Derived.Test.YtdhhiaheonlldaaDoorB1
import Derived.Test.YtdhhiaheonlldaaDoorB2
import Derived.IntWalk
import Derived.Test.YtdhhiaheonlldaaDoorB3
namespace Go.Proofs.YtdhhiaheonlldaaDoor
open Go.RowKit

def dg (n i : Nat) : Nat := 48 + n / 10 ^ i % 10
/-- The digits of a number, as number writes them. -/
def num3 (n : Nat) : List Nat := [dg n 2, dg n 1, dg n 0]
def num2 (n : Nat) : List Nat := [dg n 1, dg n 0]
def dcell3 (n j : Nat) : Array Value :=
  #[.int .u8 (if 3 ≤ j then (dg n 2 : Nat) else 0 : Nat), .int .u8 (if 2 ≤ j then (dg n 1 : Nat) else 0 : Nat), .int .u8 (if 1 ≤ j then (dg n 0 : Nat) else 0 : Nat)]
def dcell2 (n j : Nat) : Array Value := #[.int .u8 (if 2 ≤ j then (dg n 1 : Nat) else 0 : Nat), .int .u8 (if 1 ≤ j then (dg n 0 : Nat) else 0 : Nat)]
theorem sl_of_bk {w : World} {g : Nat} {t : TypeId} {l : List Nat} (h : Bk w g t (u8s l).toArray) : Sl w w.heap.size 1 (some ⟨g, 0, none⟩) l.length (u8s l) :=
  ⟨by rw [u8s_len]; simp, fun _ => ⟨g, 0, rfl, h.lt, fun j u hu => by rw [Nat.zero_add, h.cell j]; simpa using hu⟩⟩
theorem str_of_bk {w : World} {g c : Nat} {t : TypeId} {l : List Nat} (h : Bk w g t (u8s l).toArray) : (convert 76 9 (.slice (some ⟨g, 0, none⟩) l.length c)).run Tryd.prog w = .ok (.string (strN l)) w :=
  conv_u8 Tryd.underlying76 Tryd.underlying5 Tryd.underlying9 (sl_of_bk h)

set_option maxRecDepth 100000 in
set_option maxHeartbeats 2000000 in
theorem number3_any (n : Nat) (w : World) (hn : n ≤ 1000000) :
    Calls Tryd.prog 13 #[.int .i64 (n : Int), .int .i64 3] w (Ret w (.string (strN (num3 n)))) := by
  have hmk : ∀ w, (Instr.makeSlice 76 (.int .i64 3) (.int .i64 3)).run Tryd.prog w = .ok (.slice (some ⟨w.heap.size, 0, none⟩) 3 3) (w.alloc (.cells #[.int .u8 0, .int .u8 0, .int .u8 0] 5)) := fun _ => by kernel_rfl
  go_enter Tryd.func13, Tryd.ntmps13
  go_wp2
  have hb0 := ba1 w (.cells #[.int .u8 0, .int .u8 0, .int .u8 0] 5)
  have hk0 := Bk.new w 5 #[.int .u8 0, .int .u8 0, .int .u8 0]
  clear hmk
  generalize (w.alloc _) = W at *
  go_loopw [0, 6] (fun a i wr => ∃ j : Nat, j ≤ 3 ∧ a = .int .i64 ((n / 10 ^ j : Nat) : Int) ∧ i = .int .i64 (2 - (j : Int)) ∧ Bk wr w.heap.size 5 (dcell3 n j) ∧ Below w.heap.size w wr) (fun _ i _ => (intOf i + 1).toNat)
  case atStart => exact ⟨0, by omega, by simp, by simp, by simpa [dcell3] using hk0, hb0⟩
  case round =>
    clear hk0 hb0
    obtain ⟨j, hj, rfl, rfl, hk, hb⟩ := hrel
    obtain ⟨V, rfl⟩ : ∃ V, V = wr := ⟨_, rfl⟩
    by_cases h3 : j = 3
    · subst h3
      have hcv : (convert 76 9 (.slice (some ⟨w.heap.size, 0, none⟩) 3 3)).run Tryd.prog V = .ok (.string (strN (num3 n))) V := str_of_bk (c := 3) (l := num3 n) (show Bk V w.heap.size 5 (u8s (num3 n)).toArray from hk)
      clear hk
      rw [show (2 - ((3 : Nat) : Int)) = -1 from rfl]
      go_wp2
      go_ret
      exact ⟨rfl, hb⟩
    · have hN : n / 10 ^ j ≤ 1000000 := Nat.le_trans (Nat.div_le_self _ _) hn
      have hd : n / 10 ^ (j + 1) = n / 10 ^ j / 10 := by rw [Nat.pow_succ, Nat.div_div_eq_div_mul]
      have hdg : dg n j = 48 + n / 10 ^ j % 10 := rfl
      have HD := Lib.hid hd
      have HG := Lib.hid hdg
      clear hd hdg
      have c0 := hk.cell 0
      have c1 := hk.cell 1
      have c2 := hk.cell 2
      have f0 := hk.frozen 0
      have f1 := hk.frozen 1
      have f2 := hk.frozen 2
      simp [dcell3] at c0 c1 c2
      have HK := Lib.hid hk
      clear hk
      have hM10 : ((n / 10 ^ (j + 1) : Nat) : Int) = (n / 10 ^ j : Nat) / 10 := by rw [HD.out]; omega
      have HM := Lib.hid hM10
      clear hM10
      generalize hM : n / 10 ^ j = M at *
      rcases (show j = 0 ∨ j = 1 ∨ j = 2 by omega) with rfl | rfl | rfl
      · rw [show (2 - ((0 : Nat) : Int)) = 2 from rfl]
        go_wp2
        go_roundw
        case rel =>
          refine ⟨0 + 1, by omega, by rw [HM.out], by simp, ?_, hb.setCell (p := ⟨w.heap.size, 2, none⟩) (Nat.le_refl _) _⟩
          have h := HK.out.set_ 2 (.int .u8 (48 + (M : Int) % 10))
          rw [show (dcell3 n 0).setIfInBounds 2 (.int .u8 (48 + (M : Int) % 10)) = dcell3 n (0 + 1) from by rw [show (48 + (M : Int) % 10) = ((dg n 0 : Nat) : Int) from by rw [HG.out]; omega]; rfl] at h
          exact h
        case measure => simp [intOf]
      · rw [show (2 - ((1 : Nat) : Int)) = 1 from rfl]
        go_wp2
        go_roundw
        case rel =>
          refine ⟨1 + 1, by omega, by rw [HM.out], by simp, ?_, hb.setCell (p := ⟨w.heap.size, 1, none⟩) (Nat.le_refl _) _⟩
          have h := HK.out.set_ 1 (.int .u8 (48 + (M : Int) % 10))
          rw [show (dcell3 n 1).setIfInBounds 1 (.int .u8 (48 + (M : Int) % 10)) = dcell3 n (1 + 1) from by rw [show (48 + (M : Int) % 10) = ((dg n 1 : Nat) : Int) from by rw [HG.out]; omega]; rfl] at h
          exact h
        case measure => simp [intOf]
      · rw [show (2 - ((2 : Nat) : Int)) = 0 from rfl]
        go_wp2
        go_roundw
        case rel =>
          refine ⟨2 + 1, by omega, by rw [HM.out], by simp, ?_, hb.setCell (p := ⟨w.heap.size, 0, none⟩) (Nat.le_refl _) _⟩
          have h := HK.out.set_ 0 (.int .u8 (48 + (M : Int) % 10))
          rw [show (dcell3 n 2).setIfInBounds 0 (.int .u8 (48 + (M : Int) % 10)) = dcell3 n (2 + 1) from by rw [show (48 + (M : Int) % 10) = ((dg n 2 : Nat) : Int) from by rw [HG.out]; omega]; rfl] at h
          exact h
        case measure => simp [intOf]
set_option maxRecDepth 100000 in
set_option maxHeartbeats 2000000 in
theorem number2_any (n : Nat) (w : World) (hn : n ≤ 1000000) :
    Calls Tryd.prog 13 #[.int .i64 (n : Int), .int .i64 2] w (Ret w (.string (strN (num2 n)))) := by
  have hmk : ∀ w, (Instr.makeSlice 76 (.int .i64 2) (.int .i64 2)).run Tryd.prog w = .ok (.slice (some ⟨w.heap.size, 0, none⟩) 2 2) (w.alloc (.cells #[.int .u8 0, .int .u8 0] 5)) := fun _ => by kernel_rfl
  go_enter Tryd.func13, Tryd.ntmps13
  go_wp2
  have hb0 := ba1 w (.cells #[.int .u8 0, .int .u8 0] 5)
  have hk0 := Bk.new w 5 #[.int .u8 0, .int .u8 0]
  clear hmk
  generalize (w.alloc _) = W at *
  go_loopw [0, 6] (fun a i wr => ∃ j : Nat, j ≤ 2 ∧ a = .int .i64 ((n / 10 ^ j : Nat) : Int) ∧ i = .int .i64 (1 - (j : Int)) ∧ Bk wr w.heap.size 5 (dcell2 n j) ∧ Below w.heap.size w wr) (fun _ i _ => (intOf i + 1).toNat)
  case atStart => exact ⟨0, by omega, by simp, by simp, by simpa [dcell2] using hk0, hb0⟩
  case round =>
    clear hk0 hb0
    obtain ⟨j, hj, rfl, rfl, hk, hb⟩ := hrel
    obtain ⟨V, rfl⟩ : ∃ V, V = wr := ⟨_, rfl⟩
    by_cases h3 : j = 2
    · subst h3
      have hcv : (convert 76 9 (.slice (some ⟨w.heap.size, 0, none⟩) 2 2)).run Tryd.prog V = .ok (.string (strN (num2 n))) V := str_of_bk (c := 2) (l := num2 n) (show Bk V w.heap.size 5 (u8s (num2 n)).toArray from hk)
      clear hk
      rw [show (1 - ((2 : Nat) : Int)) = -1 from rfl]
      go_wp2
      go_ret
      exact ⟨rfl, hb⟩
    · have hN : n / 10 ^ j ≤ 1000000 := Nat.le_trans (Nat.div_le_self _ _) hn
      have hd : n / 10 ^ (j + 1) = n / 10 ^ j / 10 := by rw [Nat.pow_succ, Nat.div_div_eq_div_mul]
      have hdg : dg n j = 48 + n / 10 ^ j % 10 := rfl
      have HD := Lib.hid hd
      have HG := Lib.hid hdg
      clear hd hdg
      have c0 := hk.cell 0
      have c1 := hk.cell 1
      have f0 := hk.frozen 0
      have f1 := hk.frozen 1
      simp [dcell2] at c0 c1
      have HK := Lib.hid hk
      clear hk
      have hM10 : ((n / 10 ^ (j + 1) : Nat) : Int) = (n / 10 ^ j : Nat) / 10 := by rw [HD.out]; omega
      have HM := Lib.hid hM10
      clear hM10
      generalize hM : n / 10 ^ j = M at *
      rcases (show j = 0 ∨ j = 1 by omega) with rfl | rfl
      · rw [show (1 - ((0 : Nat) : Int)) = 1 from rfl]
        go_wp2
        go_roundw
        case rel =>
          refine ⟨0 + 1, by omega, by rw [HM.out], by simp, ?_, hb.setCell (p := ⟨w.heap.size, 1, none⟩) (Nat.le_refl _) _⟩
          have h := HK.out.set_ 1 (.int .u8 (48 + (M : Int) % 10))
          rw [show (dcell2 n 0).setIfInBounds 1 (.int .u8 (48 + (M : Int) % 10)) = dcell2 n (0 + 1) from by rw [show (48 + (M : Int) % 10) = ((dg n 0 : Nat) : Int) from by rw [HG.out]; omega]; rfl] at h
          exact h
        case measure => simp [intOf]
      · rw [show (1 - ((1 : Nat) : Int)) = 0 from rfl]
        go_wp2
        go_roundw
        case rel =>
          refine ⟨1 + 1, by omega, by rw [HM.out], by simp, ?_, hb.setCell (p := ⟨w.heap.size, 0, none⟩) (Nat.le_refl _) _⟩
          have h := HK.out.set_ 0 (.int .u8 (48 + (M : Int) % 10))
          rw [show (dcell2 n 1).setIfInBounds 0 (.int .u8 (48 + (M : Int) % 10)) = dcell2 n (1 + 1) from by rw [show (48 + (M : Int) % 10) = ((dg n 1 : Nat) : Int) from by rw [HG.out]; omega]; rfl] at h
          exact h
        case measure => simp [intOf]
end Go.Proofs.YtdhhiaheonlldaaDoor
namespace Go.Proofs.YtdhhiaheonlldaaDoor
open Go.RowKit

theorem strN_nil : strN [] = ⟨#[]⟩ := rfl
theorem strN_append (a b : List Nat) : strN a ++ strN b = strN (a ++ b) := by
  apply ByteArray.ext
  apply Array.ext'
  simp [strN, strOfNums]
/-- What the places add. -/
def qOf (h : Nat) : Nat := if h = 0 then 2 else if h = 1 then 1 else 3
/-- The table of the places reads as its text lays it. -/
def QuarOK (w : World) : Prop := ∀ h, h < 3 → w.cell? ⟨0, h, none⟩ = some (.int .i64 (qOf h : Nat))
theorem QuarOK.below {w w' : World} (h : QuarOK w) (hb : Below w.heap.size w w') : QuarOK w' := fun k hk => by
  have h0 := h k hk
  rw [← h0]
  exact hb.cell (p := ⟨0, k, none⟩) (block_lt_of_cell h0)
def nameL (s : Shp) (x : Slt) : List Nat :=
  let c := s.cols.getD x.col.toNat default
  num3 (4 * c.bay.toNat + qOf x.half) ++ num2 c.row.toNat ++ num2 ((2 * (x.tier.toNat + 1) + if c.deck then 80 else 0) % 100)
def nameF (s : Shp) (x : Slt) : List Nat × Int :=
  if rightF s = false then ([], 2) else if slotRight s x 20 = false ∧ slotRight s x 40 = false then ([], 6) else (nameL s x, 0)
def NameRet (w : World) (r : List Nat × Int) (e : Ending) (w' : World) : Prop := Ret w (.tuple #[.string (strN r.1), .int .i64 r.2]) e w'
/-- What a right slot of a right ship is like. -/
theorem right_slot {s : Shp} {x : Slt} {size : Nat} (hr : rightF s = true) (hx : slotRight s x size = true) : ∃ k t : Nat, x.col = (k : Int) ∧ k < s.cols.length ∧ x.tier = (t : Int) ∧ t ≤ 9 ∧ (t : Int) < (s.cols.getD k default).tiers ∧ x.half < 3 ∧
    (∃ b r : Nat, (s.cols.getD k default).bay = (b : Int) ∧ b ≤ 39 ∧ (s.cols.getD k default).row = (r : Int) ∧ r ≤ 30) := by
  unfold slotRight at hx
  simp only [Bool.and_eq_true, decide_eq_true_eq] at hx
  obtain ⟨h1, h2, h3, h4, h5⟩ := hx
  obtain ⟨xc, xt, xh⟩ := x
  simp only at h1 h2 h3 h4 h5 ⊢
  obtain ⟨k, rfl⟩ := Int.eq_ofNat_of_zero_le h1
  obtain ⟨t, rfl⟩ := Int.eq_ofNat_of_zero_le h3
  rw [Int.toNat_natCast] at h4
  have hk : k < s.cols.length := by omega
  have hc : colOK (s.cols.getD k default) = true := by
    unfold rightF at hr
    simp only [Bool.and_eq_true] at hr
    exact List.all_eq_true.1 hr.2.1 _ (getD_memD hk default)
  have hsp : (spans (s.cols.getD k default)).all inB = true := by
    unfold colOK at hc; rw [Bool.and_eq_true] at hc; exact hc.2
  have hh : xh < 3 := by
    obtain ⟨y, hy, he⟩ := List.any_eq_true.1 h5
    have he : xh = y := by simpa using he
    unfold halvesL at hy
    split at hy
    · simp at hy; omega
    · split at hy
      · simp at hy; omega
      · simp at hy
  refine ⟨k, t, rfl, hk, rfl, ?_, h4, hh, (s.cols.getD k default).bay.toNat, (s.cols.getD k default).row.toNat, ?_⟩
  all_goals
    clear h5 hc
    generalize s.cols.getD k default = c at *
    unfold spans at hsp
    simp only [List.all_cons, inB, Bool.and_eq_true, Bool.not_eq_true', Bool.or_eq_false_iff, decide_eq_false_iff_not] at hsp
    omega
end Go.Proofs.YtdhhiaheonlldaaDoor
namespace Go.Proofs.YtdhhiaheonlldaaDoor
open Go.RowKit

theorem Sh.mk2 {w : World} {s : Shp} {h : Hd} (hs : ShpR w (Lt w.heap.size) s h) (o : Obj) : Sh w ((w.alloc (.cells (shpA s h) 34)).alloc o) w.heap.size s h :=
  Sh.on ⟨hs.on (ba1 w _), Bk.new w _ _, ba1 w _⟩ (ba1 _ o)
theorem strN_size (l : List Nat) : (strN l).size = l.length := by simp [strN, strOfNums, ByteArray.size]
set_option maxRecDepth 100000 in
set_option maxHeartbeats 4000000 in
theorem name_any (s : Shp) (h : Hd) (x : Slt) (w : World) (hs : ShpR w (Lt w.heap.size) s h) (hf : Few s) (hi : Ints s) (hq : QuarOK w) :
    Calls Tryd.prog 6 #[.agg (shpA s h), .agg (sltL x).toArray] w (NameRet w (nameF s x)) := by
  have HR : Hid (∀ (V : World), Sh w V w.heap.size s h → Calls Tryd.prog 11 #[.agg (shpA s h)] V (Ret V (.bool (rightF s)))) := Lib.hid fun V hV => shipRight_any s h V hV.rd hf hi
  have H20 : Hid (∀ (V : World), Sh w V w.heap.size s h → Calls Tryd.prog 12 #[.agg (shpA s h), .agg (sltL x).toArray, .int .u8 20] V (Ret V (.bool (slotRight s x 20)))) := Lib.hid fun V hV => slotRight_any s h x 20 V hV.rd
  have H40 : Hid (∀ (V : World), Sh w V w.heap.size s h → Calls Tryd.prog 12 #[.agg (shpA s h), .agg (sltL x).toArray, .int .u8 40] V (Ret V (.bool (slotRight s x 40)))) := Lib.hid fun V hV => slotRight_any s h x 40 V hV.rd
  have hS := Sh.mk2 hs (.cells (sltL x).toArray 45)
  have hX := Bk.new (w.alloc (.cells (shpA s h) 34)) 45 (sltL x).toArray
  simp only [World.size_alloc] at hX
  have hQ : QuarOK ((w.alloc (.cells (shpA s h) 34)).alloc (.cells (sltL x).toArray 45)) := hq.below (ba2 w _ _)
  have hV1 : rightF s = false → nameF s x = ([], 2) := fun e => by unfold nameF; rw [if_pos e]
  have hV2 : rightF s = true → slotRight s x 20 = false → slotRight s x 40 = false → nameF s x = ([], 6) := fun e e1 e2 => by unfold nameF; rw [if_neg (by rw [e]; simp), if_pos ⟨e1, e2⟩]
  have hV3 : rightF s = true → slotRight s x 20 = true ∨ slotRight s x 40 = true → nameF s x = (nameL s x, 0) := fun e e1 => by
    unfold nameF; rw [if_neg (by rw [e]; simp), if_neg (by rcases e1 with e1 | e1 <;> rw [e1] <;> simp)]
  have hRS : rightF s = true → slotRight s x 20 = true ∨ slotRight s x 40 = true → _ := fun e e1 => e1.elim (right_slot e) (right_slot e)
  have HRS := Lib.hid hRS
  have HV1 := Lib.hid hV1
  have HV2 := Lib.hid hV2
  have HV3 := Lib.hid hV3
  clear hs hf hi hq hRS hV1 hV2 hV3
  unfold shpA sltL at *
  generalize hr : rightF s = r at *
  generalize h20 : slotRight s x 20 = b20 at *
  generalize h40 : slotRight s x 40 = b40 at *
  clear hr h20 h40
  obtain ⟨xc, xt, xh⟩ := x
  simp only at *
  go_enter Tryd.func6, Tryd.ntmps6
  go_wp2_with fail
  generalize ((w.alloc _).alloc _) = W at *
  refine (HR.out _ hS).mono ?_
  rintro e w1 ⟨rfl, hq⟩
  replace hS := hS.on hq
  replace hX := hX.below hq hX.lt
  replace hQ := hQ.below hq
  clear hq HR
  clear W
  obtain ⟨W, rfl⟩ : ∃ W, W = w1 := ⟨_, rfl⟩
  have hcs := hS.cells
  obtain ⟨e0, e1, e2, e3, e4, e5, e6, e7, e8, e9, e10, e11, e12⟩ := hcs
  cases r with
  | false =>
    go_wp2
    go_ret2
    exact ⟨by rw [HV1.out (by trivial)]; rfl, hS.be⟩
  | true =>
    have x0 := hX.cell 0
    have x1 := hX.cell 1
    have x2 := hX.cell 2
    simp at x0 x1 x2
    go_wp2_with fail
    refine (H20.out _ hS).mono ?_
    rintro e w1 ⟨rfl, hq⟩
    replace hS := hS.on hq
    replace hX := hX.below hq hX.lt
    replace hQ := hQ.below hq
    clear hq H20 e0 e1 e2 e3 e4 e5 e6 e7 e8 e9 e10 e11 e12 x0 x1 x2
    clear W
    obtain ⟨W, rfl⟩ : ∃ W, W = w1 := ⟨_, rfl⟩
    have hcs := hS.cells
    obtain ⟨e0, e1, e2, e3, e4, e5, e6, e7, e8, e9, e10, e11, e12⟩ := hcs
    have x0 := hX.cell 0
    have x1 := hX.cell 1
    have x2 := hX.cell 2
    simp at x0 x1 x2
    cases b20 with
    | false =>
      go_wp2_with fail
      refine (H40.out _ hS).mono ?_
      rintro e w1 ⟨rfl, hq⟩
      replace hS := hS.on hq
      replace hX := hX.below hq hX.lt
      replace hQ := hQ.below hq
      clear hq H40 e0 e1 e2 e3 e4 e5 e6 e7 e8 e9 e10 e11 e12 x0 x1 x2
      clear W
      obtain ⟨W, rfl⟩ : ∃ W, W = w1 := ⟨_, rfl⟩
      cases b40 with
      | false =>
        go_wp2
        go_ret2
        exact ⟨by rw [HV2.out (by trivial) (by trivial) (by trivial)]; rfl, hS.be⟩
      | true =>
        have hV := HV3.out (by trivial) (by simp)
        obtain ⟨k, t, rfl, hk, rfl, ht9, htt, hxh, b, rr, hb, hb39, hr, hr30⟩ := HRS.out (by trivial) (by simp)
        clear HV1 HV2 HV3 HRS
        obtain ⟨gb, off, Ap, q, hA1, hgb, _, _, c0, c1, c2, c3, c4, c5, c6, c7, c8, c9, c10, c11⟩ := hS.rd.cols.col hk
        have hgb : gb < W.heap.size := hgb
        have hN : nameL s ⟨(k : Int), (t : Int), xh⟩ = num3 (4 * b + qOf xh) ++ num2 rr ++ num2 ((2 * (t + 1) + if (s.cols.getD k default).deck then 80 else 0) % 100) := by
          unfold nameL
          simp only [Int.toNat_natCast]
          rw [hb, hr]; rfl
        rw [hN] at hV
        have hQh := hQ xh hxh
        have hq3 : qOf xh ≤ 3 := by unfold qOf; split <;> (try split) <;> omega
        obtain ⟨A1, cc1, A2, cc2, A3, cc3, A4, cc4, A5, cc5⟩ := h
        simp only at hA1
        subst hA1
        have e0 : W.cell? ⟨w.heap.size, 0, none⟩ = some (.slice (some ⟨gb, off, none⟩) s.cols.length cc1) := hS.cells.1
        have x0 : W.cell? ⟨w.heap.size + 1, 0, none⟩ = some (.int .i64 k) := hX.cell 0
        have x1 : W.cell? ⟨w.heap.size + 1, 1, none⟩ = some (.int .i64 t) := hX.cell 1
        have x2 : W.cell? ⟨w.heap.size + 1, 2, none⟩ = some (.int .u8 (xh : Nat)) := hX.cell 2
        have gl0 := hS.bk.lt
        have gl1 := hX.lt
        have gl2 : 0 < W.heap.size := block_lt_of_cell hQh
        have HBE := Lib.hid hS.be
        clear htt hN hS hX hQ
        rw [hb] at c0
        rw [hr] at c1
        generalize qOf xh = qv at *
        have K1 : Hid (∀ (V : World) (z : Int), z = ((4 * b + qv : Nat) : Int) → Calls Tryd.prog 13 #[.int .i64 z, .int .i64 3] V (Ret V (.string (strN (num3 (4 * b + qv)))))) := Lib.hid fun V z hz => by subst hz; exact number3_any _ V (by omega)
        have K2 : Hid (∀ (V : World) (z : Int), z = ((rr : Nat) : Int) → Calls Tryd.prog 13 #[.int .i64 z, .int .i64 2] V (Ret V (.string (strN (num2 rr))))) := Lib.hid fun V z hz => by subst hz; exact number2_any _ V (by omega)
        generalize hcol : s.cols.getD k default = col at *
        clear hcol
        obtain ⟨xb, xr, xd, xti, xhe, xk2, xk4, xl, xp, xx, xy, xz⟩ := col
        simp only at c0 c1 c2 c3 c4 c5 c6 c7 c8 c9 c10 c11 hV hb hr
        subst hb hr
        have i1 : (0 : Int) ≤ (k : Int) := by omega
        have i2 : (k : Int) < (s.cols.length : Int) := by omega
        have i3 : (0 : Int) ≤ (xh : Int) := by omega
        have i4 : (xh : Int) < 3 := by omega
        have s1 : IntKind.i64.wrap (4 * (b : Int)) = 4 * b := IntWalk.i64_in _ (by omega)
        have s2 : IntKind.i64.wrap (4 * (b : Int) + (qv : Int)) = 4 * b + qv := IntWalk.i64_in _ (by omega)
        have HV := Lib.hid hV; clear hV
        cases xd with
        | false =>
          have K3 : Hid (∀ (V : World) (z : Int), z = (((2 * (t + 1) + 0) % 100 : Nat) : Int) → Calls Tryd.prog 13 #[.int .i64 z, .int .i64 2] V (Ret V (.string (strN (num2 ((2 * (t + 1) + 0) % 100)))))) := Lib.hid fun V z hz => by subst hz; exact number2_any _ V (by omega)
          have hUk := Bk.new W 38 #[.int .i64 b, .int .i64 rr, .bool false, .int .i64 xti, .int .i64 xhe, .int .i64 xk2, .int .i64 xk4, .int .i64 xl, .slice Ap xp.length q, .int .i64 xx, .int .i64 xy, .int .i64 xz]
          have hUb := ba1 W (.cells #[.int .i64 b, .int .i64 rr, .bool false, .int .i64 xti, .int .i64 xhe, .int .i64 xk2, .int .i64 xk4, .int .i64 xl, .slice Ap xp.length q, .int .i64 xx, .int .i64 xy, .int .i64 xz] 38)
          have HBE2 := Lib.hid (HBE.out.trans (hUb.mono HBE.out.size))
          have u2 := (hUb.cell (p := ⟨w.heap.size + 1, 2, none⟩) gl1).trans x2
          have u3 := (hUb.cell (p := ⟨0, xh, none⟩) gl2).trans hQh
          have HKS : Hid (∀ V : World, Below (W.alloc (.cells #[.int .i64 b, .int .i64 rr, .bool false, .int .i64 xti, .int .i64 xhe, .int .i64 xk2, .int .i64 xk4, .int .i64 xl, .slice Ap xp.length q, .int .i64 xx, .int .i64 xy, .int .i64 xz] 38)).heap.size (W.alloc (.cells #[.int .i64 b, .int .i64 rr, .bool false, .int .i64 xti, .int .i64 xhe, .int .i64 xk2, .int .i64 xk4, .int .i64 xl, .slice Ap xp.length q, .int .i64 xx, .int .i64 xy, .int .i64 xz] 38)) V → V.cell? ⟨W.heap.size, 0, none⟩ = some (.int .i64 b) ∧ V.cell? ⟨W.heap.size, 1, none⟩ = some (.int .i64 rr) ∧ V.cell? ⟨w.heap.size + 1, 2, none⟩ = some (.int .u8 (xh : Nat)) ∧ V.cell? ⟨0, xh, none⟩ = some (.int .i64 qv)) :=
            Lib.hid fun V hV => ⟨(hV.cell (p := ⟨W.heap.size, 0, none⟩) hUk.lt).trans (hUk.cell 0), (hV.cell (p := ⟨W.heap.size, 1, none⟩) hUk.lt).trans (hUk.cell 1), (hV.cell (p := ⟨w.heap.size + 1, 2, none⟩) (Nat.lt_of_lt_of_le gl1 hUb.size)).trans u2, (hV.cell (p := ⟨0, xh, none⟩) (Nat.lt_of_lt_of_le gl2 hUb.size)).trans u3⟩
          clear hUk hUb u2 u3
          go_upto_region 9 with fail
          generalize (W.alloc _) = U at *
          have v0 : ∀ p : Gr U, p.W.cell? ⟨W.heap.size, 0, none⟩ = some (.int .i64 b) := fun p => (HKS.out p.W p.be).1
          have v1 : ∀ p : Gr U, p.W.cell? ⟨W.heap.size, 1, none⟩ = some (.int .i64 rr) := fun p => (HKS.out p.W p.be).2.1
          have v2 : ∀ p : Gr U, p.W.cell? ⟨w.heap.size + 1, 2, none⟩ = some (.int .u8 (xh : Nat)) := fun p => (HKS.out p.W p.be).2.2.1
          have v3 : ∀ p : Gr U, p.W.cell? ⟨0, xh, none⟩ = some (.int .i64 qv) := fun p => (HKS.out p.W p.be).2.2.2
          clear c0 c1 c2 c3 c4 c5 c6 c7 c8 c9 c10 c11 e0 x0 x1 x2 hQh
          have E1 : Hid (∀ V : World, Calls Tryd.prog 13 #[.int .i64 (4 * (b : Int) + (qv : Int)), .int .i64 3] V (Ret V (.string (strN (num3 (4 * b + qv)))))) := Lib.hid fun V => K1.out V _ (by omega)
          have E2 : Hid (∀ V : World, Calls Tryd.prog 13 #[.int .i64 (rr : Nat), .int .i64 2] V (Ret V (.string (strN (num2 rr))))) := Lib.hid fun V => K2.out V _ rfl
          have E3 := Lib.hid (fun V => K3.out V (2 * ((t : Int) + 1) % 100) (by omega))
          clear K1 K2 K3
          have z1 : (strN (num3 (4 * b + qv))).size = 3 := strN_size _
          have z2 : (strN (num2 rr)).size = 2 := strN_size _
          have z3 : ∀ m : Nat, (strN (num2 m)).size = 2 := fun m => strN_size _
          refine wp_region_gr (by kernel_rfl) (by kernel_rfl) ?_
          repeat (go_big_quiet_step ((first | (with_reducible exact Gr.call _ (fun V _ => E1.out V)) | (with_reducible exact Gr.call _ (fun V _ => E2.out V)) | (with_reducible exact Gr.call _ (fun V _ => E3.out V)))))
          refine wpQuiet_nil ?_
          rintro Y ⟨⟨_, hbY⟩, rfl⟩
          go_wp2
          go_ret2
          exact ⟨by rw [HV.out]; simp [strN_append], HBE2.out.trans (hbY.mono HBE2.out.size)⟩
        | true =>
          have K3 : Hid (∀ (V : World) (z : Int), z = (((2 * (t + 1) + 80) % 100 : Nat) : Int) → Calls Tryd.prog 13 #[.int .i64 z, .int .i64 2] V (Ret V (.string (strN (num2 ((2 * (t + 1) + 80) % 100)))))) := Lib.hid fun V z hz => by subst hz; exact number2_any _ V (by omega)
          have hUk := Bk.new W 38 #[.int .i64 b, .int .i64 rr, .bool true, .int .i64 xti, .int .i64 xhe, .int .i64 xk2, .int .i64 xk4, .int .i64 xl, .slice Ap xp.length q, .int .i64 xx, .int .i64 xy, .int .i64 xz]
          have hUb := ba1 W (.cells #[.int .i64 b, .int .i64 rr, .bool true, .int .i64 xti, .int .i64 xhe, .int .i64 xk2, .int .i64 xk4, .int .i64 xl, .slice Ap xp.length q, .int .i64 xx, .int .i64 xy, .int .i64 xz] 38)
          have HBE2 := Lib.hid (HBE.out.trans (hUb.mono HBE.out.size))
          have u2 := (hUb.cell (p := ⟨w.heap.size + 1, 2, none⟩) gl1).trans x2
          have u3 := (hUb.cell (p := ⟨0, xh, none⟩) gl2).trans hQh
          have HKS : Hid (∀ V : World, Below (W.alloc (.cells #[.int .i64 b, .int .i64 rr, .bool true, .int .i64 xti, .int .i64 xhe, .int .i64 xk2, .int .i64 xk4, .int .i64 xl, .slice Ap xp.length q, .int .i64 xx, .int .i64 xy, .int .i64 xz] 38)).heap.size (W.alloc (.cells #[.int .i64 b, .int .i64 rr, .bool true, .int .i64 xti, .int .i64 xhe, .int .i64 xk2, .int .i64 xk4, .int .i64 xl, .slice Ap xp.length q, .int .i64 xx, .int .i64 xy, .int .i64 xz] 38)) V → V.cell? ⟨W.heap.size, 0, none⟩ = some (.int .i64 b) ∧ V.cell? ⟨W.heap.size, 1, none⟩ = some (.int .i64 rr) ∧ V.cell? ⟨w.heap.size + 1, 2, none⟩ = some (.int .u8 (xh : Nat)) ∧ V.cell? ⟨0, xh, none⟩ = some (.int .i64 qv)) :=
            Lib.hid fun V hV => ⟨(hV.cell (p := ⟨W.heap.size, 0, none⟩) hUk.lt).trans (hUk.cell 0), (hV.cell (p := ⟨W.heap.size, 1, none⟩) hUk.lt).trans (hUk.cell 1), (hV.cell (p := ⟨w.heap.size + 1, 2, none⟩) (Nat.lt_of_lt_of_le gl1 hUb.size)).trans u2, (hV.cell (p := ⟨0, xh, none⟩) (Nat.lt_of_lt_of_le gl2 hUb.size)).trans u3⟩
          clear hUk hUb u2 u3
          go_upto_region 9 with fail
          generalize (W.alloc _) = U at *
          have v0 : ∀ p : Gr U, p.W.cell? ⟨W.heap.size, 0, none⟩ = some (.int .i64 b) := fun p => (HKS.out p.W p.be).1
          have v1 : ∀ p : Gr U, p.W.cell? ⟨W.heap.size, 1, none⟩ = some (.int .i64 rr) := fun p => (HKS.out p.W p.be).2.1
          have v2 : ∀ p : Gr U, p.W.cell? ⟨w.heap.size + 1, 2, none⟩ = some (.int .u8 (xh : Nat)) := fun p => (HKS.out p.W p.be).2.2.1
          have v3 : ∀ p : Gr U, p.W.cell? ⟨0, xh, none⟩ = some (.int .i64 qv) := fun p => (HKS.out p.W p.be).2.2.2
          clear c0 c1 c2 c3 c4 c5 c6 c7 c8 c9 c10 c11 e0 x0 x1 x2 hQh
          have E1 : Hid (∀ V : World, Calls Tryd.prog 13 #[.int .i64 (4 * (b : Int) + (qv : Int)), .int .i64 3] V (Ret V (.string (strN (num3 (4 * b + qv)))))) := Lib.hid fun V => K1.out V _ (by omega)
          have E2 : Hid (∀ V : World, Calls Tryd.prog 13 #[.int .i64 (rr : Nat), .int .i64 2] V (Ret V (.string (strN (num2 rr))))) := Lib.hid fun V => K2.out V _ rfl
          have E3 := Lib.hid (fun V => K3.out V ((2 * ((t : Int) + 1) + 80) % 100) (by omega))
          clear K1 K2 K3
          have z1 : (strN (num3 (4 * b + qv))).size = 3 := strN_size _
          have z2 : (strN (num2 rr)).size = 2 := strN_size _
          have z3 : ∀ m : Nat, (strN (num2 m)).size = 2 := fun m => strN_size _
          refine wp_region_gr (by kernel_rfl) (by kernel_rfl) ?_
          repeat (go_big_quiet_step ((first | (with_reducible exact Gr.call _ (fun V _ => E1.out V)) | (with_reducible exact Gr.call _ (fun V _ => E2.out V)) | (with_reducible exact Gr.call _ (fun V _ => E3.out V)))))
          refine wpQuiet_nil ?_
          rintro Y ⟨⟨_, hbY⟩, rfl⟩
          go_wp2
          go_ret2
          exact ⟨by rw [HV.out]; simp [strN_append], HBE2.out.trans (hbY.mono HBE2.out.size)⟩
    | true =>
      have hV := HV3.out (by trivial) (by simp)
      obtain ⟨k, t, rfl, hk, rfl, ht9, htt, hxh, b, rr, hb, hb39, hr, hr30⟩ := HRS.out (by trivial) (by simp)
      clear HV1 HV2 HV3 HRS H40 e0 e1 e2 e3 e4 e5 e6 e7 e8 e9 e10 e11 e12 x0 x1 x2
      obtain ⟨gb, off, Ap, q, hA1, hgb, _, _, c0, c1, c2, c3, c4, c5, c6, c7, c8, c9, c10, c11⟩ := hS.rd.cols.col hk
      have hgb : gb < W.heap.size := hgb
      have hN : nameL s ⟨(k : Int), (t : Int), xh⟩ = num3 (4 * b + qOf xh) ++ num2 rr ++ num2 ((2 * (t + 1) + if (s.cols.getD k default).deck then 80 else 0) % 100) := by
        unfold nameL
        simp only [Int.toNat_natCast]
        rw [hb, hr]; rfl
      rw [hN] at hV
      have hQh := hQ xh hxh
      have hq3 : qOf xh ≤ 3 := by unfold qOf; split <;> (try split) <;> omega
      obtain ⟨A1, cc1, A2, cc2, A3, cc3, A4, cc4, A5, cc5⟩ := h
      simp only at hA1
      subst hA1
      have e0 : W.cell? ⟨w.heap.size, 0, none⟩ = some (.slice (some ⟨gb, off, none⟩) s.cols.length cc1) := hS.cells.1
      have x0 : W.cell? ⟨w.heap.size + 1, 0, none⟩ = some (.int .i64 k) := hX.cell 0
      have x1 : W.cell? ⟨w.heap.size + 1, 1, none⟩ = some (.int .i64 t) := hX.cell 1
      have x2 : W.cell? ⟨w.heap.size + 1, 2, none⟩ = some (.int .u8 (xh : Nat)) := hX.cell 2
      have gl0 := hS.bk.lt
      have gl1 := hX.lt
      have gl2 : 0 < W.heap.size := block_lt_of_cell hQh
      have HBE := Lib.hid hS.be
      clear htt hN hS hX hQ
      rw [hb] at c0
      rw [hr] at c1
      generalize qOf xh = qv at *
      have K1 : Hid (∀ (V : World) (z : Int), z = ((4 * b + qv : Nat) : Int) → Calls Tryd.prog 13 #[.int .i64 z, .int .i64 3] V (Ret V (.string (strN (num3 (4 * b + qv)))))) := Lib.hid fun V z hz => by subst hz; exact number3_any _ V (by omega)
      have K2 : Hid (∀ (V : World) (z : Int), z = ((rr : Nat) : Int) → Calls Tryd.prog 13 #[.int .i64 z, .int .i64 2] V (Ret V (.string (strN (num2 rr))))) := Lib.hid fun V z hz => by subst hz; exact number2_any _ V (by omega)
      generalize hcol : s.cols.getD k default = col at *
      clear hcol
      obtain ⟨xb, xr, xd, xti, xhe, xk2, xk4, xl, xp, xx, xy, xz⟩ := col
      simp only at c0 c1 c2 c3 c4 c5 c6 c7 c8 c9 c10 c11 hV hb hr
      subst hb hr
      have i1 : (0 : Int) ≤ (k : Int) := by omega
      have i2 : (k : Int) < (s.cols.length : Int) := by omega
      have i3 : (0 : Int) ≤ (xh : Int) := by omega
      have i4 : (xh : Int) < 3 := by omega
      have s1 : IntKind.i64.wrap (4 * (b : Int)) = 4 * b := IntWalk.i64_in _ (by omega)
      have s2 : IntKind.i64.wrap (4 * (b : Int) + (qv : Int)) = 4 * b + qv := IntWalk.i64_in _ (by omega)
      have HV := Lib.hid hV; clear hV
      cases xd with
      | false =>
        have K3 : Hid (∀ (V : World) (z : Int), z = (((2 * (t + 1) + 0) % 100 : Nat) : Int) → Calls Tryd.prog 13 #[.int .i64 z, .int .i64 2] V (Ret V (.string (strN (num2 ((2 * (t + 1) + 0) % 100)))))) := Lib.hid fun V z hz => by subst hz; exact number2_any _ V (by omega)
        have hUk := Bk.new W 38 #[.int .i64 b, .int .i64 rr, .bool false, .int .i64 xti, .int .i64 xhe, .int .i64 xk2, .int .i64 xk4, .int .i64 xl, .slice Ap xp.length q, .int .i64 xx, .int .i64 xy, .int .i64 xz]
        have hUb := ba1 W (.cells #[.int .i64 b, .int .i64 rr, .bool false, .int .i64 xti, .int .i64 xhe, .int .i64 xk2, .int .i64 xk4, .int .i64 xl, .slice Ap xp.length q, .int .i64 xx, .int .i64 xy, .int .i64 xz] 38)
        have HBE2 := Lib.hid (HBE.out.trans (hUb.mono HBE.out.size))
        have u2 := (hUb.cell (p := ⟨w.heap.size + 1, 2, none⟩) gl1).trans x2
        have u3 := (hUb.cell (p := ⟨0, xh, none⟩) gl2).trans hQh
        have HKS : Hid (∀ V : World, Below (W.alloc (.cells #[.int .i64 b, .int .i64 rr, .bool false, .int .i64 xti, .int .i64 xhe, .int .i64 xk2, .int .i64 xk4, .int .i64 xl, .slice Ap xp.length q, .int .i64 xx, .int .i64 xy, .int .i64 xz] 38)).heap.size (W.alloc (.cells #[.int .i64 b, .int .i64 rr, .bool false, .int .i64 xti, .int .i64 xhe, .int .i64 xk2, .int .i64 xk4, .int .i64 xl, .slice Ap xp.length q, .int .i64 xx, .int .i64 xy, .int .i64 xz] 38)) V → V.cell? ⟨W.heap.size, 0, none⟩ = some (.int .i64 b) ∧ V.cell? ⟨W.heap.size, 1, none⟩ = some (.int .i64 rr) ∧ V.cell? ⟨w.heap.size + 1, 2, none⟩ = some (.int .u8 (xh : Nat)) ∧ V.cell? ⟨0, xh, none⟩ = some (.int .i64 qv)) :=
          Lib.hid fun V hV => ⟨(hV.cell (p := ⟨W.heap.size, 0, none⟩) hUk.lt).trans (hUk.cell 0), (hV.cell (p := ⟨W.heap.size, 1, none⟩) hUk.lt).trans (hUk.cell 1), (hV.cell (p := ⟨w.heap.size + 1, 2, none⟩) (Nat.lt_of_lt_of_le gl1 hUb.size)).trans u2, (hV.cell (p := ⟨0, xh, none⟩) (Nat.lt_of_lt_of_le gl2 hUb.size)).trans u3⟩
        clear hUk hUb u2 u3
        go_upto_region 9 with fail
        generalize (W.alloc _) = U at *
        have v0 : ∀ p : Gr U, p.W.cell? ⟨W.heap.size, 0, none⟩ = some (.int .i64 b) := fun p => (HKS.out p.W p.be).1
        have v1 : ∀ p : Gr U, p.W.cell? ⟨W.heap.size, 1, none⟩ = some (.int .i64 rr) := fun p => (HKS.out p.W p.be).2.1
        have v2 : ∀ p : Gr U, p.W.cell? ⟨w.heap.size + 1, 2, none⟩ = some (.int .u8 (xh : Nat)) := fun p => (HKS.out p.W p.be).2.2.1
        have v3 : ∀ p : Gr U, p.W.cell? ⟨0, xh, none⟩ = some (.int .i64 qv) := fun p => (HKS.out p.W p.be).2.2.2
        clear c0 c1 c2 c3 c4 c5 c6 c7 c8 c9 c10 c11 e0 x0 x1 x2 hQh
        have E1 : Hid (∀ V : World, Calls Tryd.prog 13 #[.int .i64 (4 * (b : Int) + (qv : Int)), .int .i64 3] V (Ret V (.string (strN (num3 (4 * b + qv)))))) := Lib.hid fun V => K1.out V _ (by omega)
        have E2 : Hid (∀ V : World, Calls Tryd.prog 13 #[.int .i64 (rr : Nat), .int .i64 2] V (Ret V (.string (strN (num2 rr))))) := Lib.hid fun V => K2.out V _ rfl
        have E3 := Lib.hid (fun V => K3.out V (2 * ((t : Int) + 1) % 100) (by omega))
        clear K1 K2 K3
        have z1 : (strN (num3 (4 * b + qv))).size = 3 := strN_size _
        have z2 : (strN (num2 rr)).size = 2 := strN_size _
        have z3 : ∀ m : Nat, (strN (num2 m)).size = 2 := fun m => strN_size _
        refine wp_region_gr (by kernel_rfl) (by kernel_rfl) ?_
        repeat (go_big_quiet_step ((first | (with_reducible exact Gr.call _ (fun V _ => E1.out V)) | (with_reducible exact Gr.call _ (fun V _ => E2.out V)) | (with_reducible exact Gr.call _ (fun V _ => E3.out V)))))
        refine wpQuiet_nil ?_
        rintro Y ⟨⟨_, hbY⟩, rfl⟩
        go_wp2
        go_ret2
        exact ⟨by rw [HV.out]; simp [strN_append], HBE2.out.trans (hbY.mono HBE2.out.size)⟩
      | true =>
        have K3 : Hid (∀ (V : World) (z : Int), z = (((2 * (t + 1) + 80) % 100 : Nat) : Int) → Calls Tryd.prog 13 #[.int .i64 z, .int .i64 2] V (Ret V (.string (strN (num2 ((2 * (t + 1) + 80) % 100)))))) := Lib.hid fun V z hz => by subst hz; exact number2_any _ V (by omega)
        have hUk := Bk.new W 38 #[.int .i64 b, .int .i64 rr, .bool true, .int .i64 xti, .int .i64 xhe, .int .i64 xk2, .int .i64 xk4, .int .i64 xl, .slice Ap xp.length q, .int .i64 xx, .int .i64 xy, .int .i64 xz]
        have hUb := ba1 W (.cells #[.int .i64 b, .int .i64 rr, .bool true, .int .i64 xti, .int .i64 xhe, .int .i64 xk2, .int .i64 xk4, .int .i64 xl, .slice Ap xp.length q, .int .i64 xx, .int .i64 xy, .int .i64 xz] 38)
        have HBE2 := Lib.hid (HBE.out.trans (hUb.mono HBE.out.size))
        have u2 := (hUb.cell (p := ⟨w.heap.size + 1, 2, none⟩) gl1).trans x2
        have u3 := (hUb.cell (p := ⟨0, xh, none⟩) gl2).trans hQh
        have HKS : Hid (∀ V : World, Below (W.alloc (.cells #[.int .i64 b, .int .i64 rr, .bool true, .int .i64 xti, .int .i64 xhe, .int .i64 xk2, .int .i64 xk4, .int .i64 xl, .slice Ap xp.length q, .int .i64 xx, .int .i64 xy, .int .i64 xz] 38)).heap.size (W.alloc (.cells #[.int .i64 b, .int .i64 rr, .bool true, .int .i64 xti, .int .i64 xhe, .int .i64 xk2, .int .i64 xk4, .int .i64 xl, .slice Ap xp.length q, .int .i64 xx, .int .i64 xy, .int .i64 xz] 38)) V → V.cell? ⟨W.heap.size, 0, none⟩ = some (.int .i64 b) ∧ V.cell? ⟨W.heap.size, 1, none⟩ = some (.int .i64 rr) ∧ V.cell? ⟨w.heap.size + 1, 2, none⟩ = some (.int .u8 (xh : Nat)) ∧ V.cell? ⟨0, xh, none⟩ = some (.int .i64 qv)) :=
          Lib.hid fun V hV => ⟨(hV.cell (p := ⟨W.heap.size, 0, none⟩) hUk.lt).trans (hUk.cell 0), (hV.cell (p := ⟨W.heap.size, 1, none⟩) hUk.lt).trans (hUk.cell 1), (hV.cell (p := ⟨w.heap.size + 1, 2, none⟩) (Nat.lt_of_lt_of_le gl1 hUb.size)).trans u2, (hV.cell (p := ⟨0, xh, none⟩) (Nat.lt_of_lt_of_le gl2 hUb.size)).trans u3⟩
        clear hUk hUb u2 u3
        go_upto_region 9 with fail
        generalize (W.alloc _) = U at *
        have v0 : ∀ p : Gr U, p.W.cell? ⟨W.heap.size, 0, none⟩ = some (.int .i64 b) := fun p => (HKS.out p.W p.be).1
        have v1 : ∀ p : Gr U, p.W.cell? ⟨W.heap.size, 1, none⟩ = some (.int .i64 rr) := fun p => (HKS.out p.W p.be).2.1
        have v2 : ∀ p : Gr U, p.W.cell? ⟨w.heap.size + 1, 2, none⟩ = some (.int .u8 (xh : Nat)) := fun p => (HKS.out p.W p.be).2.2.1
        have v3 : ∀ p : Gr U, p.W.cell? ⟨0, xh, none⟩ = some (.int .i64 qv) := fun p => (HKS.out p.W p.be).2.2.2
        clear c0 c1 c2 c3 c4 c5 c6 c7 c8 c9 c10 c11 e0 x0 x1 x2 hQh
        have E1 : Hid (∀ V : World, Calls Tryd.prog 13 #[.int .i64 (4 * (b : Int) + (qv : Int)), .int .i64 3] V (Ret V (.string (strN (num3 (4 * b + qv)))))) := Lib.hid fun V => K1.out V _ (by omega)
        have E2 : Hid (∀ V : World, Calls Tryd.prog 13 #[.int .i64 (rr : Nat), .int .i64 2] V (Ret V (.string (strN (num2 rr))))) := Lib.hid fun V => K2.out V _ rfl
        have E3 := Lib.hid (fun V => K3.out V ((2 * ((t : Int) + 1) + 80) % 100) (by omega))
        clear K1 K2 K3
        have z1 : (strN (num3 (4 * b + qv))).size = 3 := strN_size _
        have z2 : (strN (num2 rr)).size = 2 := strN_size _
        have z3 : ∀ m : Nat, (strN (num2 m)).size = 2 := fun m => strN_size _
        refine wp_region_gr (by kernel_rfl) (by kernel_rfl) ?_
        repeat (go_big_quiet_step ((first | (with_reducible exact Gr.call _ (fun V _ => E1.out V)) | (with_reducible exact Gr.call _ (fun V _ => E2.out V)) | (with_reducible exact Gr.call _ (fun V _ => E3.out V)))))
        refine wpQuiet_nil ?_
        rintro Y ⟨⟨_, hbY⟩, rfl⟩
        go_wp2
        go_ret2
        exact ⟨by rw [HV.out]; simp [strN_append], HBE2.out.trans (hbY.mono HBE2.out.size)⟩
end Go.Proofs.YtdhhiaheonlldaaDoor
namespace Go.Proofs.YtdhhiaheonlldaaDoor
open Go.RowKit

def digA (M : Nat → Nat) : Array Value := ((List.range 7).map fun c => Value.int .i64 (M c : Nat)).toArray
theorem digA_at (M : Nat → Nat) (c : Nat) (h : c < 7) : (digA M)[c]? = some (.int .i64 (M c : Nat)) := by simp [digA, h]
theorem digA_set (M : Nat → Nat) (c v : Nat) (_ : c < 7) : (digA M).setIfInBounds c (.int .i64 (v : Nat)) = digA (fun x => if x = c then v else M x) := by
  apply Array.ext_getElem?
  intro i
  by_cases hi : i < 7
  · rw [digA_at _ i hi, Array.getElem?_setIfInBounds]
    have hsz : (digA M).size = 7 := by simp [digA]
    by_cases e : c = i
    · subst e; simp [hsz, hi]
    · rw [if_neg e, digA_at _ i hi, if_neg (fun h => e h.symm)]
  · rw [Array.getElem?_eq_none (by simp [digA]; omega), Array.getElem?_eq_none (by simp [digA]; omega)]

def byteAt (nm : ByteArray) (i : Nat) : Nat := (nm.data.getD i 0).toNat
def digOK (nm : ByteArray) (i : Nat) : Bool := decide (48 ≤ byteAt nm i) && decide (byteAt nm i ≤ 57)
def dN (nm : ByteArray) (i : Nat) : Nat := byteAt nm i - 48
def digTo (nm : ByteArray) (k : Nat) : Array Value := digA fun i => if i < k then dN nm i else 0
theorem digTo_succ (nm : ByteArray) (k v : Nat) (hk : k < 7) (hv : v = dN nm k) : (digTo nm k).setIfInBounds k (.int .i64 (v : Nat)) = digTo nm (k + 1) := by
  unfold digTo
  rw [digA_set _ _ _ hk]
  congr 1
  funext i
  by_cases e : i = k
  · subst e; simp [hv]
  · simp only [e, if_false]
    by_cases h : i < k
    · rw [if_pos h, if_pos (by omega)]
    · rw [if_neg h, if_neg (by omega)]
def placeN (nm : ByteArray) : Nat := 100 * dN nm 0 + 10 * dN nm 1 + dN nm 2
def rowN (nm : ByteArray) : Nat := 10 * dN nm 3 + dN nm 4
def lastN (nm : ByteArray) : Nat := 10 * dN nm 5 + dN nm 6
def tierN (nm : ByteArray) : Nat := if lastN nm = 0 then 100 else lastN nm
def badN (nm : ByteArray) : Prop := placeN nm % 4 = 0 ∨ tierN nm % 2 = 1 ∨ (20 < tierN nm ∧ tierN nm < 82)
instance (nm : ByteArray) : Decidable (badN nm) := by unfold badN; infer_instance
def levN (nm : ByteArray) : Nat := (if 80 < tierN nm then tierN nm - 80 else tierN nm) / 2 - 1
def hOf (q : Nat) : Nat := if q = 2 then 0 else if q = 1 then 1 else 2
def zS : Slt := ⟨0, 0, 0⟩
/-- What Find answers where the text is seven digits that can be a name. -/
def findGood (s : Shp) (nm : ByteArray) : Slt × Int :=
  let r := findF s (placeN nm / 4 : Nat) (rowN nm : Nat) (decide (80 < tierN nm))
  if r.2 = false ∨ (s.cols.getD r.1.toNat default).tiers ≤ levN nm then (zS, 6) else (⟨r.1, levN nm, hOf (placeN nm % 4)⟩, 0)
def findSF (s : Shp) (nm : ByteArray) : Slt × Int :=
  if rightF s = false then (zS, 2) else if nm.size ≠ 7 then (zS, 80) else if (List.range 7).all (digOK nm) = false then (zS, 80) else if badN nm then (zS, 80) else findGood s nm
def FindRet (w : World) (r : Slt × Int) (e : Ending) (w' : World) : Prop := Ret w (.tuple #[.agg (sltL r.1).toArray, .int .i64 r.2]) e w'

/-- What Find keeps: the ship in its box, the slot that it returns, the table. -/
structure FS (w W : World) (s : Shp) (h : Hd) : Prop where
  rd : ShpR W (Lt w.heap.size) s h
  bk : Bk W w.heap.size 34 (shpA s h)
  x : Bk W (w.heap.size + 1) 45 (sltL ⟨0, 0, 0⟩).toArray
  q : QuarOK W
  q0 : 0 < w.heap.size
  be : Below w.heap.size w W
theorem FS.sh {w W : World} {s : Shp} {h : Hd} (r : FS w W s h) : Sh w W w.heap.size s h := ⟨r.rd.up r.be.size, r.bk, r.be⟩
theorem FS.on {w W W' : World} {s : Shp} {h : Hd} (r : FS w W s h) (hb : Below W.heap.size W W') : FS w W' s h :=
  ⟨r.rd.below (hb.mono r.be.size), r.bk.below hb r.bk.lt, r.x.below hb r.x.lt, r.q.below hb, r.q0, r.be.trans (hb.mono r.be.size)⟩
theorem FS.far {w W : World} {s : Shp} {h : Hd} (r : FS w W s h) (g k : Nat) (hg : w.heap.size + 1 < g) (u : Value) : FS w (W.setCell ⟨g, k, none⟩ u) s h := by
  have q0 := r.q0
  refine ⟨r.rd.keep fun b o hb => World.cell?_setCell_other _ _ _ _ (by intro e; injection e with e; have hb : b < w.heap.size := hb; omega), r.bk.far (by show w.heap.size ≠ g; omega) _, r.x.far (by show w.heap.size + 1 ≠ g; omega) _, fun a ha => ?_, q0, r.be.setCell (by show w.heap.size ≤ g; omega) _⟩
  rw [World.cell?_setCell_other _ _ _ _ (by intro e; injection e with e; omega)]
  exact r.q a ha
theorem FS.mk' {w : World} {s : Shp} {h : Hd} (hs : ShpR w (Lt w.heap.size) s h) (hq : QuarOK w) : FS w ((w.alloc (.cells (shpA s h) 34)).alloc (.cells (sltL ⟨0, 0, 0⟩).toArray 45)) s h := by
  have hX := Bk.new (w.alloc (.cells (shpA s h) 34)) 45 (sltL ⟨0, 0, 0⟩).toArray
  simp only [World.size_alloc] at hX
  exact ⟨hs.below (ba2 w _ _), (Bk.new w _ _).alloc _, hX, hq.below (ba2 w _ _), block_lt_of_cell (hq 0 (by omega)), ba2 w _ _⟩
theorem wrap_u8 (n : Int) (h0 : 0 ≤ n) (h1 : n < 256) : IntKind.u8.wrap n = n := by
  unfold IntKind.wrap
  simp [IntKind.bits, IntKind.signed]
  omega
theorem info_slt : (Tryd.prog.info? 45).map (·.size) = some 3 := by kernel_rfl
theorem slt_set {W : World} {g : Nat} {y : Slt} (h : Bk W g 45 (sltL y).toArray) (x : Slt) : Bk (((W.setCell ⟨g, 0, none⟩ (.int .i64 x.col)).setCell ⟨g, 1, none⟩ (.int .i64 x.tier)).setCell ⟨g, 2, none⟩ (.int .u8 (x.half : Nat))) g 45 (sltL x).toArray :=
  ((h.set_ 0 (.int .i64 x.col)).set_ 1 (.int .i64 x.tier)).set_ 2 (.int .u8 (x.half : Nat))
theorem be_set {w W : World} {g : Nat} (h : Below w.heap.size w W) (hg : w.heap.size ≤ g) (a b c : Value) : Below w.heap.size w (((W.setCell ⟨g, 0, none⟩ a).setCell ⟨g, 1, none⟩ b).setCell ⟨g, 2, none⟩ c) :=
  ((h.setCell (p := ⟨g, 0, none⟩) hg a).setCell (p := ⟨g, 1, none⟩) hg b).setCell (p := ⟨g, 2, none⟩) hg c
theorem pickFrom_head {α : Type} (p : α → Bool) (i : Int) (L : List Int) : ∀ (l : List α) (k : Nat), pickFrom p l k = i :: L → ∃ m : Nat, m < l.length ∧ i = ((k + m : Nat) : Int)
  | [], k, h => by simp [pickFrom] at h
  | x :: l, k, h => by
    unfold pickFrom at h
    split at h
    · injection h with h1 h2
      exact ⟨0, by simp, by rw [← h1]; rfl⟩
    · obtain ⟨m, h1, h2⟩ := pickFrom_head p i L l (k + 1) h
      exact ⟨m + 1, by simp; omega, by rw [h2]; omega⟩
theorem findF_in {s : Shp} {a b : Int} {d : Bool} (h : (findF s a b d).2 = true) : ∃ k : Nat, k < s.cols.length ∧ (findF s a b d).1 = (k : Int) := by
  unfold findF at h ⊢
  cases hp : pick (findB a b d) s.cols with
  | nil => rw [hp] at h; cases h
  | cons i L =>
    obtain ⟨m, h1, h2⟩ := pickFrom_head _ _ _ _ _ hp
    exact ⟨m, h1, by simpa using h2⟩
theorem hOf_le (x : Nat) : hOf x < 3 := by
  unfold hOf
  split
  · omega
  · split <;> omega
theorem hOf_q (k : Nat) (h : k < 3) : hOf (qOf k) = k := by
  rcases (by omega : k = 0 ∨ k = 1 ∨ k = 2) with rfl | rfl | rfl <;> rfl
set_option maxHeartbeats 1000000 in
theorem indexQ_any (x : Nat) (w : World) (hq : QuarOK w) (h1 : 1 ≤ x) (h3 : x ≤ 3) :
    Calls Tryd.prog 14 #[.slice (some ⟨0, 0, none⟩) 3 3, .int .i64 (x : Nat)] w fun e w' => e = .returned (.int .i64 (hOf x : Nat)) ∧ w = w' := by
  have HS := Lib.hid hq; clear hq
  go_enter Tryd.func14, Tryd.ntmps14
  go_wp2
  go_loop [8] (fun i => ∃ k : Nat, k ≤ 3 ∧ i = .int .i64 k ∧ Hid (∀ i, i < k → qOf i ≠ x)) (fun i => 3 - (intOf i).toNat)
  case atStart => exact ⟨0, Nat.zero_le _, rfl, Lib.hid fun i h => absurd h (by omega)⟩
  case round =>
    obtain ⟨k, hk, rfl, HB⟩ := hrel
    by_cases hlt : k < 3
    · have c0 : w.cell? ⟨0, k, none⟩ = some (.int .i64 (qOf k : Nat)) := HS.out k hlt
      have hk0 : (0 : Int) ≤ (k : Int) := by omega
      have hk1 : (k : Int) < 3 := by omega
      by_cases hp : qOf k = x
      · have HV := Lib.hid (show hOf x = k by rw [← hp]; exact hOf_q k hlt)
        clear HB
        rw [hp] at c0
        clear hp
        go_wp2
        go_ret
        exact ⟨by rw [HV.out]; rfl, rfl⟩
      · have HN : Hid (∀ i, i < k + 1 → qOf i ≠ x) := Lib.hid fun i hi => by
          rcases Nat.lt_succ_iff_lt_or_eq.1 hi with h' | h'
          · exact HB.out i h'
          · rw [h']; exact hp
        clear HB
        have hne : ((x : Int) == ((qOf k : Nat) : Int)) = false := by simp; omega
        clear hp
        generalize qOf k = y at *
        go_wp2
        go_round
        case rel => exact ⟨k + 1, by omega, by go_num, HN⟩
        case measure => simp [intOf]; omega
    · obtain rfl : k = 3 := by omega
      have e0 := HB.out 0 (by omega)
      have e1 := HB.out 1 (by omega)
      have e2 := HB.out 2 (by omega)
      unfold qOf at e0 e1 e2
      simp at e0 e1 e2
      omega

set_option maxRecDepth 100000 in
set_option maxHeartbeats 4000000 in
theorem find_try (s : Shp) (h : Hd) (nm : ByteArray) (w : World) (hs : ShpR w (Lt w.heap.size) s h) (hf : Few s) (hi : Ints s) (hq : QuarOK w) (hsz : nm.size = 7) (hr : rightF s = true) :
    Calls Tryd.prog 7 #[.agg (shpA s h), .string nm] w (FindRet w (findSF s nm)) := by
  have HV80 : Hid (∀ i, i < 7 → digOK nm i = false → findSF s nm = (zS, 80)) := Lib.hid fun i hi hd => by
    unfold findSF
    rw [if_neg (by rw [hr]; simp), if_neg (by omega), if_pos]
    rw [List.all_eq_false]
    exact ⟨i, by simpa using hi, by simp [hd]⟩
  have HVB : Hid ((∀ i, i < 7 → digOK nm i = true) → findSF s nm = if badN nm then (zS, 80) else findGood s nm) := Lib.hid fun hd => by
    unfold findSF
    rw [if_neg (by rw [hr]; simp), if_neg (by omega), if_neg]
    have : (List.range 7).all (digOK nm) = true := by rw [List.all_eq_true]; intro i hi; exact hd i (by simpa using hi)
    rw [this]; simp
  have HR : Hid (∀ (V : World), Sh w V w.heap.size s h → Calls Tryd.prog 11 #[.agg (shpA s h)] V (Ret V (.bool (rightF s)))) := Lib.hid fun V hV => shipRight_any s h V hV.rd hf hi
  have hS := FS.mk' hs hq
  have HFW := Lib.hid hf.cols
  rw [hr] at HR
  clear hr hf hi hq hs
  unfold shpA at *
  go_enter Tryd.func7, Tryd.ntmps7
  go_wp2_with fail
  refine (HR.out _ hS.sh).mono ?_
  rintro e w1 ⟨rfl, hq⟩
  have hnz : ((nm.size : Int) != 7) = false := by simp; omega
  go_wp2
  have hq2 := hq.trans ((ba1 w1 (.cells #[.int .i64 0, .int .i64 0, .int .i64 0, .int .i64 0, .int .i64 0, .int .i64 0, .int .i64 0] 62)).mono hq.size)
  have hD := Bk.new w1 62 #[.int .i64 0, .int .i64 0, .int .i64 0, .int .i64 0, .int .i64 0, .int .i64 0, .int .i64 0]
  replace hS := hS.on hq2
  have hlt : w.heap.size + 1 < w1.heap.size := by have := hq.size; simp at this; omega
  clear hq hq2 HR
  generalize w1.heap.size = gd at *
  generalize (w1.alloc _) = W at *
  have HI := Lib.hid hS
  have HD : Hid (Bk W gd 62 (digTo nm 0)) := Lib.hid hD
  clear hS hD
  clear w1
  go_loopw [23] (fun q wr => ∃ k : Nat, k ≤ 7 ∧ q = .int .i64 k ∧ Hid (∀ i, i < k → digOK nm i = true) ∧ Hid (FS w wr s h) ∧ Hid (Bk wr gd 62 (digTo nm k))) (fun q _ => 7 - (intOf q).toNat)
  case atStart => exact ⟨0, by omega, rfl, Lib.hid fun i h => absurd h (by omega), HI, HD⟩
  case round =>
    clear HI HD
    obtain ⟨k, hk, rfl, HB, HI, HD⟩ := hrel
    clear W
    obtain ⟨W, rfl⟩ : ∃ W, W = wr := ⟨_, rfl⟩
    by_cases hk7 : k < 7
    · have hks : k < nm.size := by omega
      have hby : nm[k].toNat = byteAt nm k := by
        unfold byteAt Array.getD
        rw [dif_pos (show k < nm.data.size from hks)]
        rfl
      have hc256 : byteAt nm k < 256 := by unfold byteAt; exact (nm.data.getD k 0).toBitVec.isLt
      have hk0 : (0 : Int) ≤ (k : Int) := by omega
      have hk1 : (k : Int) < 7 := by omega
      have HOK : Hid (digOK nm k = (decide (48 ≤ byteAt nm k) && decide (byteAt nm k ≤ 57))) := Lib.hid rfl
      have HDN : Hid (dN nm k = byteAt nm k - 48) := Lib.hid rfl
      have x0 : W.cell? ⟨w.heap.size + 1, 0, none⟩ = some (.int .i64 0) := HI.out.x.cell 0
      have x1 : W.cell? ⟨w.heap.size + 1, 1, none⟩ = some (.int .i64 0) := HI.out.x.cell 1
      have x2 : W.cell? ⟨w.heap.size + 1, 2, none⟩ = some (.int .u8 0) := HI.out.x.cell 2
      have y0 := HI.out.x.frozen 0
      have y1 := HI.out.x.frozen 1
      have y2 := HI.out.x.frozen 2
      have HVK := Lib.hid (HV80.out k hk7)
      generalize byteAt nm k = c at *
      by_cases hA : c < 48
      · have d1 : decide ((c : Int) < 48) = true := by simp; omega
        go_wp2
        refine bodyPost_ret (results_row_tmp rfl _ _ (w.heap.size + 1) 45 (sltL ⟨0, 0, 0⟩).toArray _ rfl (slt_set HI.out.x ⟨0, 0, 0⟩) Tryd.underlying45 rfl info_slt) rfl ?_
        exact ⟨by rw [HVK.out (by rw [HOK.out]; simp; omega)]; rfl, be_set HI.out.be (by omega) _ _ _⟩
      · by_cases hB : 57 < c
        · have d1 : decide ((c : Int) < 48) = false := by simp; omega
          have d2 : decide (57 < (c : Int)) = true := by simp; omega
          go_wp2
          refine bodyPost_ret (results_row_tmp rfl _ _ (w.heap.size + 1) 45 (sltL ⟨0, 0, 0⟩).toArray _ rfl (slt_set HI.out.x ⟨0, 0, 0⟩) Tryd.underlying45 rfl info_slt) rfl ?_
          exact ⟨by rw [HVK.out (by rw [HOK.out]; simp; omega)]; rfl, be_set HI.out.be (by omega) _ _ _⟩
        · have d1 : decide ((c : Int) < 48) = false := by simp; omega
          have d2 : decide (57 < (c : Int)) = false := by simp; omega
          have z0 : W.cell? ⟨gd, k, none⟩ = some (.int .i64 0) := by
            rw [HD.out.cell k]; unfold digTo; rw [digA_at _ k hk7]; simp
          have z1 := HD.out.frozen k
          have s1 : IntKind.u8.wrap ((c : Int) - 48) = ((c - 48 : Nat) : Int) := by
            rw [wrap_u8 _ (by omega) (by omega)]; omega
          go_wp2
          go_roundw
          case rel =>
            refine ⟨k + 1, by omega, by go_num, Lib.hid fun i hi => ?_, ?_, ?_⟩
            · rcases Nat.lt_succ_iff_lt_or_eq.1 hi with h' | h'
              · exact HB.out i h'
              · rw [h', HOK.out]; simp; omega
            · exact Lib.hid (HI.out.far gd k hlt _)
            · have := HD.out.set_ k (.int .i64 ((c - 48 : Nat) : Int))
              rw [digTo_succ nm k (c - 48) hk7 HDN.out.symm] at this
              exact Lib.hid this
          case measure => simp [intOf]; omega
    · obtain rfl : k = 7 := by omega
      have hV := HVB.out HB.out
      have hd : ∀ i, i < 7 → dN nm i ≤ 9 := fun i hi => by
        have := HB.out i hi
        unfold digOK at this
        simp only [Bool.and_eq_true, decide_eq_true_eq] at this
        unfold dN; omega
      have hcell : ∀ i, i < 7 → W.cell? ⟨gd, i, none⟩ = some (.int .i64 (dN nm i : Nat)) := fun i hi => by
        rw [HD.out.cell i]; unfold digTo; rw [digA_at _ i hi]; simp [hi]
      have a0 := hd 0 (by omega)
      have a1 := hd 1 (by omega)
      have a2 := hd 2 (by omega)
      have a3 := hd 3 (by omega)
      have a4 := hd 4 (by omega)
      have a5 := hd 5 (by omega)
      have a6 := hd 6 (by omega)
      have q0 := hcell 0 (by omega)
      have q1 := hcell 1 (by omega)
      have q2 := hcell 2 (by omega)
      have q3 := hcell 3 (by omega)
      have q4 := hcell 4 (by omega)
      have q5 := hcell 5 (by omega)
      have q6 := hcell 6 (by omega)
      have hp : placeN nm = 100 * dN nm 0 + 10 * dN nm 1 + dN nm 2 := rfl
      have hrw : rowN nm = 10 * dN nm 3 + dN nm 4 := rfl
      have hla : lastN nm = 10 * dN nm 5 + dN nm 6 := rfl
      have hti : tierN nm = if lastN nm = 0 then 100 else lastN nm := rfl
      have HVF := Lib.hid hV
      clear hV HVB HV80 hd hcell HB HD
      generalize dN nm 0 = b0 at *
      generalize dN nm 1 = b1 at *
      generalize dN nm 2 = b2 at *
      generalize dN nm 3 = b3 at *
      generalize dN nm 4 = b4 at *
      generalize dN nm 5 = b5 at *
      generalize dN nm 6 = b6 at *
      have HP := Lib.hid hp
      have HRW := Lib.hid hrw
      have HLA := Lib.hid hla
      have HTI := Lib.hid hti
      clear hp hrw hla hti
      go_wp2
      go_quiet (fail)
      replace HI := Lib.hid (HI.out.on (below_drewN (Below.refl _ _) nq))
      clear q0 q1 q2 q3 q4 q5 q6
      generalize W.drewN nq = V at *
      clear W
      go_upto_if 68 with fail
      rw [show (100 * (b0 : Int) + 10 * (b1 : Int) + (b2 : Int)) = ((placeN nm : Nat) : Int) from by rw [HP.out]; omega]
      rw [show (10 * (b3 : Int) + (b4 : Int)) = ((rowN nm : Nat) : Int) from by rw [HRW.out]; omega]
      rw [show (10 * (b5 : Int) + (b6 : Int)) = ((lastN nm : Nat) : Int) from by rw [HLA.out]; omega]
      have n1 : placeN nm ≤ 999 := by rw [HP.out]; omega
      have n2 : rowN nm ≤ 99 := by rw [HRW.out]; omega
      have n3 : lastN nm ≤ 99 := by rw [HLA.out]; omega
      have hV := HVF.out
      unfold findGood levN at hV
      have hbad : badN nm ↔ (placeN nm % 4 = 0 ∨ tierN nm % 2 = 1 ∨ (20 < tierN nm ∧ tierN nm < 82)) := Iff.rfl
      have hti := HTI.out
      clear HVF HP HRW HLA HTI a0 a1 a2 a3 a4 a5 a6
      generalize placeN nm = pl at *
      generalize rowN nm = ro at *
      generalize lastN nm = la at *
      generalize tierN nm = ti at *
      have n4 : ti ≤ 100 ∧ 1 ≤ ti := by rw [hti]; split <;> omega
      have HTI := Lib.hid hti
      have HV := Lib.hid hV
      have HBAD := Lib.hid hbad
      clear hti hV hbad
      go_cut [10] (fun x wx => x = .int .i64 (ti : Nat) ∧ V = wx)
      case first =>
        by_cases h0 : la = 0
        · have hti := HTI.out
          rw [if_pos h0] at hti
          subst h0 hti
          go_wp2_with fail
          go_meet
          exact ⟨rfl, rfl⟩
        · have hti := HTI.out
          rw [if_neg h0] at hti
          subst hti
          have d0 : ((ti : Int) == 0) = false := by simp; omega
          go_wp2_with fail
          go_meet
          exact ⟨rfl, rfl⟩
      case rest =>
        obtain ⟨rfl, rfl⟩ := hcut
        clear n3 HTI
        go_upto_region 17 with fail
        have p4 : ((pl : Int) % 4) = ((pl % 4 : Nat) : Int) := by omega
        have t2 : ((ti : Int) % 2) = ((ti % 2 : Nat) : Int) := by omega
        go_cut [84] (fun x wx => x = .bool (decide (pl % 4 = 0 ∨ ti % 2 = 1 ∨ (20 < ti ∧ ti < 82))) ∧ V = wx)
        case first =>
          clear p4 t2
          by_cases h1 : pl % 4 = 0
          · have e1 : (((pl : Int) % 4) == 0) = true := by simp; omega
            go_wp2_with fail
            go_meet
            exact ⟨by rw [decide_eq_true (Or.inl h1)], rfl⟩
          · have e1 : (((pl : Int) % 4) == 0) = false := by simp; omega
            by_cases h2 : ti % 2 = 1
            · have e2 : (((ti : Int) % 2) == 1) = true := by simp; omega
              go_wp2_with fail
              go_meet
              exact ⟨by rw [decide_eq_true (Or.inr (Or.inl h2))], rfl⟩
            · have e2 : (((ti : Int) % 2) == 1) = false := by simp; omega
              by_cases h3 : 20 < ti
              · have e3 : decide ((20 : Int) < (ti : Int)) = true := by simp; omega
                by_cases h4 : ti < 82
                · have e4 : decide ((ti : Int) < 82) = true := by simp; omega
                  go_wp2_with fail
                  go_meet
                  exact ⟨by rw [decide_eq_true (Or.inr (Or.inr ⟨h3, h4⟩))], rfl⟩
                · have e4 : decide ((ti : Int) < 82) = false := by simp; omega
                  go_wp2_with fail
                  go_meet
                  exact ⟨by rw [decide_eq_false (by omega)], rfl⟩
              · have e3 : decide ((20 : Int) < (ti : Int)) = false := by simp; omega
                go_wp2_with fail
                go_meet
                exact ⟨by rw [decide_eq_false (by omega)], rfl⟩
        case rest =>
          obtain ⟨rfl, rfl⟩ := hcut
          by_cases hbd : pl % 4 = 0 ∨ ti % 2 = 1 ∨ (20 < ti ∧ ti < 82)
          · have hV := HV.out
            rw [if_pos (HBAD.out.2 hbd)] at hV
            have HVZ := Lib.hid hV
            rw [decide_eq_true hbd]
            have x0 : V.cell? ⟨w.heap.size + 1, 0, none⟩ = some (.int .i64 0) := HI.out.x.cell 0
            have x1 : V.cell? ⟨w.heap.size + 1, 1, none⟩ = some (.int .i64 0) := HI.out.x.cell 1
            have x2 : V.cell? ⟨w.heap.size + 1, 2, none⟩ = some (.int .u8 0) := HI.out.x.cell 2
            have y0 := HI.out.x.frozen 0
            have y1 := HI.out.x.frozen 1
            have y2 := HI.out.x.frozen 2
            clear hV hbd
            go_wp2
            refine bodyPost_ret (results_row_tmp rfl _ _ (w.heap.size + 1) 45 (sltL ⟨0, 0, 0⟩).toArray _ rfl (slt_set HI.out.x ⟨0, 0, 0⟩) Tryd.underlying45 rfl info_slt) rfl ?_
            exact ⟨by rw [HVZ.out]; rfl, be_set HI.out.be (by omega) _ _ _⟩
          · have hV := HV.out
            rw [if_neg (fun h => hbd (HBAD.out.1 h))] at hV
            rw [decide_eq_false hbd]
            have HVG := Lib.hid hV
            clear hV HV HBAD
            have HP : Hid (1 ≤ pl % 4 ∧ pl % 4 ≤ 3) := Lib.hid (by omega)
            have HT : Hid (¬ (ti % 2 = 1 ∨ (20 < ti ∧ ti < 82))) := Lib.hid (by omega)
            clear hbd
            go_upto_if 88 with fail
            go_cut [10, 11] (fun x y wx => x = .int .i64 ((if 80 < ti then ti - 80 else ti : Nat) : Int) ∧ y = .bool (decide (80 < ti)) ∧ V = wx)
            case first =>
              by_cases h0 : 80 < ti
              · have d0 : decide ((80 : Int) < (ti : Int)) = true := by simp; omega
                go_wp2_with fail
                go_meet
                exact ⟨by rw [if_pos h0, Int.ofNat_sub (by omega)]; rfl, by rw [decide_eq_true h0], rfl⟩
              · have d0 : decide ((80 : Int) < (ti : Int)) = false := by simp; omega
                go_wp2_with fail
                go_meet
                exact ⟨by rw [if_neg h0], by rw [decide_eq_false h0], rfl⟩
            case rest =>
              obtain ⟨rfl, rfl, rfl⟩ := hcut
              have htv : (if 80 < ti then ti - 80 else ti) % 2 = 0 ∧ (if 80 < ti then ti - 80 else ti) ≤ 100 ∧ 1 ≤ (if 80 < ti then ti - 80 else ti) := by
                have := HT.out
                split <;> omega
              clear HT n4
              generalize (if 80 < ti then ti - 80 else ti) = ty at *
              generalize decide (80 < ti) = dk at *
              have n5 := htv.2.1
              have HTV := Lib.hid htv
              clear htv
              have HPI : Hid (∀ z : Int, z = ((pl % 4 : Nat) : Int) → Calls Tryd.prog 14 #[.slice (some ⟨0, 0, none⟩) 3 3, .int .i64 z] V fun e w' => e = .returned (.int .i64 (hOf (pl % 4) : Nat)) ∧ V = w') := Lib.hid (fun z hz => by
                subst hz
                exact indexQ_any (pl % 4) _ HI.out.q HP.out.1 HP.out.2)
              have HHO := Lib.hid (hOf_le (pl % 4))
              have hh := hOf_le (pl % 4)
              generalize hOf (pl % 4) = ho at *
              go_wp2_with fail
              generalize ((pl : Int) % 4) = pq at *
              generalize htz : ((ty : Int) / 2 - 1) = tz at *
              have HTZ := Lib.hid htz
              clear htz
              have HN := Lib.hid (And.intro n1 (And.intro n2 (And.intro n5 HTV.out)))
              clear n1 n2 n5 hh hsz hnz
              go_big_op
              refine (HPI.out _ (by omega)).mono ?_
              rintro e V2 ⟨rfl, rfl⟩
              clear HPI
              have hh := HHO.out
              obtain ⟨n1, n2, n5, n6⟩ := HN.out
              have n7 : 2 ≤ ty := by omega
              obtain ⟨r, hr⟩ : ∃ r, findF s ((pl / 4 : Nat) : Int) ((ro : Nat) : Int) dk = r := ⟨_, rfl⟩
              have HFI : Hid (r.2 = true → ∃ k : Nat, k < s.cols.length ∧ r.1 = (k : Int)) := Lib.hid (fun h => by rw [← hr] at h ⊢; exact findF_in h)
              have FA : Hid (∀ (V' : World) (z : Int), z = ((pl / 4 : Nat) : Int) → Sh w V' w.heap.size s h → Calls Tryd.prog 9 #[.agg (shpA s h), .int .i64 z, .int .i64 (ro : Nat), .bool dk] V' (Ret V' (.tuple #[.int .i64 r.1, .bool r.2]))) :=
                Lib.hid (fun V' z hz hV' => by subst hz; rw [← hr]; exact find_any s h _ _ _ V' hV'.rd HFW.out)
              have HG : Hid (findSF s nm = if r.2 = false ∨ (s.cols.getD r.1.toNat default).tiers ≤ ((ty / 2 - 1 : Nat) : Int) then (zS, 6) else (⟨r.1, ((ty / 2 - 1 : Nat) : Int), ho⟩, 0)) := Lib.hid (by have := HVG.out; rw [hr] at this; exact this)
              clear hr HVG
              obtain ⟨r1, rb⟩ := r
              simp only at HFI FA HG
              have hS := HI.out.sh
              obtain ⟨e0, e1, e2, e3, e4, e5, e6, e7, e8, e9, e10, e11, e12⟩ := hS.cells
              have hlS := hS.bk.lt
              have HS := Lib.hid hS
              clear hS n6
              unfold shpA at FA
              go_wp2_with fail
              refine (FA.out _ _ ?_ ?_).mono ?_
              · omega
              · exact HS.out.on (ba1 V _)
              rintro e w2 ⟨rfl, hq⟩
              clear FA e0 e1 e2 e3 e4 e5 e6 e7 e8 e9 e10 e11 e12
              have hX := (Bk.new V 45 #[.int .i64 0, .int .i64 tz, .int .u8 (ho : Nat)]).below hq (by simp)
              have hbV := (ba1 V (.cells #[.int .i64 0, .int .i64 tz, .int .u8 (ho : Nat)] 45)).trans (hq.mono (by simp))
              have hI2 := HI.out.on hbV
              have hgx : w.heap.size + 1 < V.heap.size := HI.out.x.lt
              clear hq HS HI
              generalize V.heap.size = gx at *
              have c0 := hX.cell 0
              have c1 := hX.cell 1
              have c2 := hX.cell 2
              have f0 := hX.frozen 0
              simp at c0 c1 c2
              have HX := Lib.hid hX
              have HI := Lib.hid hI2
              clear hX hI2 hbV
              go_upto_region 25 with fail
              have hX3 := HX.out.set_ 0 (.int .i64 r1)
              have hI3 := HI.out.far gx 0 hgx (.int .i64 r1)
              clear c0 c1 c2 f0 HX HI
              generalize (w2.setCell _ _) = Y at *
              clear V w2
              have c0 : Y.cell? ⟨gx, 0, none⟩ = some (.int .i64 r1) := hX3.cell 0
              have c1 : Y.cell? ⟨gx, 1, none⟩ = some (.int .i64 tz) := hX3.cell 1
              have c2 : Y.cell? ⟨gx, 2, none⟩ = some (.int .u8 (ho : Nat)) := hX3.cell 2
              have x0 : Y.cell? ⟨w.heap.size + 1, 0, none⟩ = some (.int .i64 0) := hI3.x.cell 0
              have x1 : Y.cell? ⟨w.heap.size + 1, 1, none⟩ = some (.int .i64 0) := hI3.x.cell 1
              have x2 : Y.cell? ⟨w.heap.size + 1, 2, none⟩ = some (.int .u8 0) := hI3.x.cell 2
              have y0 := hI3.x.frozen 0
              have y1 := hI3.x.frozen 1
              have y2 := hI3.x.frozen 2
              have s0 : Y.cell? ⟨w.heap.size, 0, none⟩ = some (.slice h.A1 s.cols.length h.c1) := hI3.bk.cell 0
              have HI := Lib.hid hI3
              clear hI3 hX3
              cases rb with
              | false =>
                have HVZ : Hid (findSF s nm = (zS, 6)) := Lib.hid (by rw [HG.out, if_pos (Or.inl rfl)])
                clear HG HFI
                go_quiet (fail)
                go_wp2
                refine bodyPost_ret (results_row_tmp rfl _ _ (w.heap.size + 1) 45 (sltL ⟨0, 0, 0⟩).toArray _ rfl (slt_set HI.out.x ⟨0, 0, 0⟩) Tryd.underlying45 rfl info_slt) rfl ?_
                exact ⟨by rw [HVZ.out]; rfl, be_set (below_drewN HI.out.be nq) (by omega) _ _ _⟩
              | true =>
                obtain ⟨k, hkl, rfl⟩ := HFI.out rfl
                obtain ⟨gb, off, Ap, q, hA1, hgb, _, _, d0, d1, d2, d3, d4, d5, d6, d7, d8, d9, d10, d11⟩ := HI.out.rd.cols.col hkl
                clear d0 d1 d2 d4 d5 d6 d7 d8 d9 d10 d11 HFI
                rw [hA1] at s0
                have HG2 : Hid (findSF s nm = if (s.cols.getD k default).tiers ≤ ((ty / 2 - 1 : Nat) : Int) then (zS, 6) else (⟨(k : Int), ((ty / 2 - 1 : Nat) : Int), ho⟩, 0)) := Lib.hid (by rw [HG.out]; simp)
                clear HG
                generalize (s.cols.getD k default).tiers = tk at *
                have i1 : (0 : Int) ≤ (k : Int) := by omega
                have i2 : (k : Int) < (s.cols.length : Int) := by omega
                by_cases hle : tk ≤ ((ty / 2 - 1 : Nat) : Int)
                · have HVZ : Hid (findSF s nm = (zS, 6)) := Lib.hid (by rw [HG2.out, if_pos hle])
                  have dle : decide (tk ≤ tz) = true := by have := HTZ.out; simp; omega
                  clear HG2 hle
                  go_quiet (fail)
                  go_wp2
                  refine bodyPost_ret (results_row_tmp rfl _ _ (w.heap.size + 1) 45 (sltL ⟨0, 0, 0⟩).toArray _ rfl (slt_set HI.out.x ⟨0, 0, 0⟩) Tryd.underlying45 rfl info_slt) rfl ?_
                  exact ⟨by rw [HVZ.out]; rfl, be_set (below_drewN HI.out.be nq) (by omega) _ _ _⟩
                · have HVZ : Hid (findSF s nm = (⟨(k : Int), ((ty / 2 - 1 : Nat) : Int), ho⟩, 0)) := Lib.hid (by rw [HG2.out, if_neg hle])
                  have dle : decide (tk ≤ tz) = false := by have := HTZ.out; simp; omega
                  clear HG2 hle
                  go_quiet (fail)
                  go_wp2
                  have htz := HTZ.out
                  obtain rfl : tz = ((ty / 2 - 1 : Nat) : Int) := by omega
                  refine bodyPost_ret (results_row_tmp rfl _ _ (w.heap.size + 1) 45 (sltL ⟨(k : Int), ((ty / 2 - 1 : Nat) : Int), ho⟩).toArray _ rfl (slt_set HI.out.x ⟨(k : Int), ((ty / 2 - 1 : Nat) : Int), ho⟩) Tryd.underlying45 rfl info_slt) rfl ?_
                  exact ⟨by rw [HVZ.out]; rfl, be_set (below_drewN HI.out.be nq) (by omega) _ _ _⟩
set_option maxRecDepth 100000 in
set_option maxHeartbeats 2000000 in
theorem find_wrong (s : Shp) (h : Hd) (nm : ByteArray) (w : World) (hs : ShpR w (Lt w.heap.size) s h) (hf : Few s) (hi : Ints s) (hq : QuarOK w) (hr : rightF s = false) :
    Calls Tryd.prog 7 #[.agg (shpA s h), .string nm] w (FindRet w (findSF s nm)) := by
  have HR : Hid (∀ (V : World), Sh w V w.heap.size s h → Calls Tryd.prog 11 #[.agg (shpA s h)] V (Ret V (.bool (rightF s)))) := Lib.hid fun V hV => shipRight_any s h V hV.rd hf hi
  have HVZ : Hid (findSF s nm = (zS, 2)) := Lib.hid (by unfold findSF; rw [if_pos hr])
  have HS := Lib.hid (FS.mk' hs hq)
  rw [hr] at HR
  clear hr hf hi hq hs
  unfold shpA at *
  go_enter Tryd.func7, Tryd.ntmps7
  go_wp2_with fail
  refine (HR.out _ HS.out.sh).mono ?_
  rintro e w1 ⟨rfl, hq⟩
  have HI := Lib.hid (HS.out.on hq)
  clear hq HS HR
  have x0 : w1.cell? ⟨w.heap.size + 1, 0, none⟩ = some (.int .i64 0) := HI.out.x.cell 0
  have x1 : w1.cell? ⟨w.heap.size + 1, 1, none⟩ = some (.int .i64 0) := HI.out.x.cell 1
  have x2 : w1.cell? ⟨w.heap.size + 1, 2, none⟩ = some (.int .u8 0) := HI.out.x.cell 2
  have y0 := HI.out.x.frozen 0
  have y1 := HI.out.x.frozen 1
  have y2 := HI.out.x.frozen 2
  go_wp2
  refine bodyPost_ret (results_row_tmp rfl _ _ (w.heap.size + 1) 45 (sltL ⟨0, 0, 0⟩).toArray _ rfl (slt_set HI.out.x ⟨0, 0, 0⟩) Tryd.underlying45 rfl info_slt) rfl ?_
  exact ⟨by rw [HVZ.out]; rfl, be_set HI.out.be (by omega) _ _ _⟩
set_option maxRecDepth 100000 in
set_option maxHeartbeats 2000000 in
theorem find_long (s : Shp) (h : Hd) (nm : ByteArray) (w : World) (hs : ShpR w (Lt w.heap.size) s h) (hf : Few s) (hi : Ints s) (hq : QuarOK w) (hr : rightF s = true) (hl : nm.size ≠ 7) :
    Calls Tryd.prog 7 #[.agg (shpA s h), .string nm] w (FindRet w (findSF s nm)) := by
  have HR : Hid (∀ (V : World), Sh w V w.heap.size s h → Calls Tryd.prog 11 #[.agg (shpA s h)] V (Ret V (.bool (rightF s)))) := Lib.hid fun V hV => shipRight_any s h V hV.rd hf hi
  have HVZ : Hid (findSF s nm = (zS, 80)) := Lib.hid (by unfold findSF; rw [if_neg (by rw [hr]; simp), if_pos hl])
  have HS := Lib.hid (FS.mk' hs hq)
  rw [hr] at HR
  have d7 : ((nm.size : Int) != 7) = true := by simp; omega
  clear hr hf hi hq hs hl
  unfold shpA at *
  go_enter Tryd.func7, Tryd.ntmps7
  go_wp2_with fail
  refine (HR.out _ HS.out.sh).mono ?_
  rintro e w1 ⟨rfl, hq⟩
  have HI := Lib.hid (HS.out.on hq)
  clear hq HS HR
  have x0 : w1.cell? ⟨w.heap.size + 1, 0, none⟩ = some (.int .i64 0) := HI.out.x.cell 0
  have x1 : w1.cell? ⟨w.heap.size + 1, 1, none⟩ = some (.int .i64 0) := HI.out.x.cell 1
  have x2 : w1.cell? ⟨w.heap.size + 1, 2, none⟩ = some (.int .u8 0) := HI.out.x.cell 2
  have y0 := HI.out.x.frozen 0
  have y1 := HI.out.x.frozen 1
  have y2 := HI.out.x.frozen 2
  go_wp2
  refine bodyPost_ret (results_row_tmp rfl _ _ (w.heap.size + 1) 45 (sltL ⟨0, 0, 0⟩).toArray _ rfl (slt_set HI.out.x ⟨0, 0, 0⟩) Tryd.underlying45 rfl info_slt) rfl ?_
  exact ⟨by rw [HVZ.out]; rfl, be_set HI.out.be (by omega) _ _ _⟩
theorem findS_any (s : Shp) (h : Hd) (nm : ByteArray) (w : World) (hs : ShpR w (Lt w.heap.size) s h) (hf : Few s) (hi : Ints s) (hq : QuarOK w) :
    Calls Tryd.prog 7 #[.agg (shpA s h), .string nm] w (FindRet w (findSF s nm)) := by
  cases hr : rightF s with
  | false => exact find_wrong s h nm w hs hf hi hq hr
  | true =>
    by_cases hl : nm.size = 7
    · exact find_try s h nm w hs hf hi hq hl hr
    · exact find_long s h nm w hs hf hi hq hr hl
end Go.Proofs.YtdhhiaheonlldaaDoor
namespace Go.Proofs.YtdhhiaheonlldaaDoor
open Go.RowKit

set_option maxHeartbeats 1000000 in
theorem at_z (a b h : Int) (w : World) : Calls Tryd.prog 16 #[.int .i64 a, .int .i64 b, .int .u8 h] w (Ret w (.agg #[.int .i64 a, .int .i64 b, .int .u8 h])) := by
  go_enter Tryd.func16, Tryd.ntmps16
  go_wp2
  exact bodyPost_ret (results_row1 rfl _ _ w.heap.size 45 #[.int .i64 a, .int .i64 b, .int .u8 h] _ rfl (Bk.new w _ _) Tryd.underlying45 rfl info_slt) rfl ⟨rfl, ba1 w _⟩
theorem sl_slts {w : World} {g : Nat} {t : TypeId} {l : List Slt} (hb : Bk w g t (l.flatMap sltL).toArray) : SlT tSlt w (Lt w.heap.size) (some ⟨g, 0, none⟩) l := sl_flat hb (by simpa using flat_slt l) hb.lt
theorem SlT.one {α : Type} {T : Ty α} {w : World} {S : Nat → Prop} {A : Option Addr} {x : α} {l : List α} (h : SlT T w S A (x :: l)) : SlT T w S A [x] := fun _ => by
  obtain ⟨b, off, e, hb, hc⟩ := h (by simp)
  refine ⟨b, off, e, hb, fun i y hy => hc i y ?_⟩
  cases i with
  | zero => simpa using hy
  | succ i => simp at hy
theorem ex_name1 : nameF exShp ⟨1, 0, 2⟩ = ([48, 48, 51, 48, 49, 48, 50], 0) := by decide +kernel
theorem ex_name2 : nameF exShp ⟨4, 3, 0⟩ = ([48, 48, 54, 48, 49, 56, 56], 0) := by decide +kernel
theorem ex_fnd1 : findSF exShp ⟨#[48, 48, 54, 48, 49, 56, 56]⟩ = (⟨4, 3, 0⟩, 0) := by decide +kernel
theorem ex_fnd2 : findSF exShp ⟨#[48, 48, 54, 48, 49, 57, 48]⟩ = (⟨0, 0, 0⟩, 6) := by decide +kernel
theorem ex_fnd3 : findSF exShp ⟨#[48, 48, 54, 48, 49, 56, 55]⟩ = (⟨0, 0, 0⟩, 80) := by decide +kernel
theorem ex_held1 : heldB ⟨0, 1, 0⟩ [⟨0, 0, 1⟩, ⟨0, 0, 2⟩] = true := by decide
theorem ex_held2 : heldB ⟨0, 1, 0⟩ [⟨0, 0, 1⟩] = false := by decide
theorem ex_held3 : heldB ⟨0, 1, 2⟩ [⟨0, 0, 0⟩] = false := by decide
theorem ex_sr1 : slotRight exShp ⟨1, 1, 2⟩ 20 = true := by decide
theorem ex_sr2 : slotRight exShp ⟨1, 1, 2⟩ 40 = false := by decide
theorem ex_over : overB ⟨0, 2, 1⟩ ⟨0, 0, 0⟩ = true := by decide
theorem ex_cmp : cmpF ⟨0, 2, 1⟩ ⟨1, 0, 0⟩ = -1 := by decide
theorem ex_all : (allF exShp 20).length = 28 := by decide +kernel
theorem ex_tiers : ∀ c, tiersN exShp c ≤ 1000000 := by
  intro c
  by_cases h : c < 5
  · rcases (by omega : c = 0 ∨ c = 1 ∨ c = 2 ∨ c = 3 ∨ c = 4) with rfl | rfl | rfl | rfl | rfl <;> decide
  · unfold tiersN
    rw [show exShp.cols.getD c default = default from by rw [List.getD_eq_getElem?_getD, List.getElem?_eq_none (by show 5 ≤ c; omega)]; rfl]
    decide
def nm1 : ByteArray := ⟨#[48, 48, 51, 48, 49, 48, 50]⟩
def nm2 : ByteArray := ⟨#[48, 48, 54, 48, 49, 56, 56]⟩
def nm3 : ByteArray := ⟨#[48, 48, 54, 48, 49, 57, 48]⟩
def nm4 : ByteArray := ⟨#[48, 48, 54, 48, 49, 56, 55]⟩
/-- A ship and the table of the places, and what lies behind them. -/
structure ShQ (w W : World) (g : Nat) (s : Shp) (h : Hd) : Prop where
  sh : Sh w W g s h
  q : QuarOK W
theorem ShQ.on {w W W' : World} {g : Nat} {s : Shp} {h : Hd} (r : ShQ w W g s h) (hb : Below W.heap.size W W') : ShQ w W' g s h := ⟨r.sh.on hb, r.q.below hb⟩
theorem ShQ.gr {w W : World} {g : Nat} {s : Shp} {h : Hd} (r : ShQ w W g s h) {i : Nat} {u : Value} (hu : (shpA s h)[i]? = some u) : ∀ p : Gr W, p.W.cell? ⟨g, i, none⟩ = some u := Gr.cell ((r.sh.bk.cell i).trans hu)

set_option maxRecDepth 100000 in
set_option maxHeartbeats 4000000 in
theorem awake08_true (w : World) (hq : QuarOK w) : Calls Tryd.prog 8 #[] w (TrueRet w) := by
  have HQ := Lib.hid hq
  clear hq
  go_enter Tryd.func8, Tryd.ntmps8
  go_wp2_with fail
  refine (example_any w).mono ?_
  rintro e w1 ⟨h, rfl, hs, hb1⟩
  have HS : Hid (ShQ w (w1.alloc (.cells (shpA exShp h) 34)) w1.heap.size exShp h) := Lib.hid ⟨⟨hs.on (ba1 w1 _), Bk.new w1 _ _, hb1.trans ((ba1 w1 _).mono hb1.size)⟩, (HQ.out.below hb1).below (ba1 w1 _)⟩
  clear hs hb1 HQ
  have KN1 : Hid (∀ V : World, ShQ w V w1.heap.size exShp h → Calls Tryd.prog 6 #[.agg (shpA exShp h), .agg #[.int .i64 1, .int .i64 0, .int .u8 2]] V (Ret V (.tuple #[.string nm1, .int .i64 0]))) := Lib.hid fun V hV => by have := name_any exShp h ⟨1, 0, 2⟩ V hV.sh.rd ex_few ex_ints hV.q; rw [ex_name1] at this; exact this
  have KN2 : Hid (∀ V : World, ShQ w V w1.heap.size exShp h → Calls Tryd.prog 6 #[.agg (shpA exShp h), .agg #[.int .i64 4, .int .i64 3, .int .u8 0]] V (Ret V (.tuple #[.string nm2, .int .i64 0]))) := Lib.hid fun V hV => by have := name_any exShp h ⟨4, 3, 0⟩ V hV.sh.rd ex_few ex_ints hV.q; rw [ex_name2] at this; exact this
  have KF1 : Hid (∀ V : World, ShQ w V w1.heap.size exShp h → Calls Tryd.prog 7 #[.agg (shpA exShp h), .string ⟨#[48, 48, 54, 48, 49, 56, 56]⟩] V (Ret V (.tuple #[.agg #[.int .i64 4, .int .i64 3, .int .u8 0], .int .i64 0]))) := Lib.hid fun V hV => by have := findS_any exShp h ⟨#[48, 48, 54, 48, 49, 56, 56]⟩ V hV.sh.rd ex_few ex_ints hV.q; rw [ex_fnd1] at this; exact this
  have KF2 : Hid (∀ V : World, ShQ w V w1.heap.size exShp h → Calls Tryd.prog 7 #[.agg (shpA exShp h), .string ⟨#[48, 48, 54, 48, 49, 57, 48]⟩] V (Ret V (.tuple #[.agg #[.int .i64 0, .int .i64 0, .int .u8 0], .int .i64 6]))) := Lib.hid fun V hV => by have := findS_any exShp h ⟨#[48, 48, 54, 48, 49, 57, 48]⟩ V hV.sh.rd ex_few ex_ints hV.q; rw [ex_fnd2] at this; exact this
  have KF3 : Hid (∀ V : World, ShQ w V w1.heap.size exShp h → Calls Tryd.prog 7 #[.agg (shpA exShp h), .string ⟨#[48, 48, 54, 48, 49, 56, 55]⟩] V (Ret V (.tuple #[.agg #[.int .i64 0, .int .i64 0, .int .u8 0], .int .i64 80]))) := Lib.hid fun V hV => by have := findS_any exShp h ⟨#[48, 48, 54, 48, 49, 56, 55]⟩ V hV.sh.rd ex_few ex_ints hV.q; rw [ex_fnd3] at this; exact this
  have KR1 : Hid (∀ V : World, ShQ w V w1.heap.size exShp h → Calls Tryd.prog 12 #[.agg (shpA exShp h), .agg #[.int .i64 1, .int .i64 1, .int .u8 2], .int .u8 20] V (Ret V (.bool true))) := Lib.hid fun V hV => by have := slotRight_any exShp h ⟨1, 1, 2⟩ 20 V hV.sh.rd; rw [ex_sr1] at this; exact this
  have KR2 : Hid (∀ V : World, ShQ w V w1.heap.size exShp h → Calls Tryd.prog 12 #[.agg (shpA exShp h), .agg #[.int .i64 1, .int .i64 1, .int .u8 2], .int .u8 40] V (Ret V (.bool false))) := Lib.hid fun V hV => by have := slotRight_any exShp h ⟨1, 1, 2⟩ 40 V hV.sh.rd; rw [ex_sr2] at this; exact this
  have KO : Hid (∀ V : World, Calls Tryd.prog 18 #[.agg #[.int .i64 0, .int .i64 2, .int .u8 1], .agg #[.int .i64 0, .int .i64 0, .int .u8 0]] V (Ret V (.bool true))) := Lib.hid fun V => by have := over_any ⟨0, 2, 1⟩ ⟨0, 0, 0⟩ V; rw [ex_over] at this; exact this
  have KC : Hid (∀ V : World, Calls Tryd.prog 19 #[.agg #[.int .i64 0, .int .i64 2, .int .u8 1], .agg #[.int .i64 1, .int .i64 0, .int .u8 0]] V (Ret V (.int .i64 (-1)))) := Lib.hid fun V => by have := compare_any ⟨0, 2, 1⟩ ⟨1, 0, 0⟩ V; rw [ex_cmp] at this; exact this
  have KA : Hid (∀ V : World, ShQ w V w1.heap.size exShp h → Calls Tryd.prog 10 #[.agg (shpA exShp h), .int .u8 20] V (OwnSlt V (allF exShp 20))) := Lib.hid fun V hV => all_any exShp h 20 V hV.sh.rd (by decide) ex_tiers (by rw [ex_all]; omega)
  unfold shpA at HS KN1 KN2 KF1 KF2 KF3 KR1 KR2 KA ⊢
  go_wp2_with fail
  generalize w1.heap.size = g at *
  generalize (w1.alloc _) = W at *
  clear w1
  have e0 : ∀ p : Gr W, p.W.cell? ⟨g, 0, none⟩ = some (.slice h.A1 exShp.cols.length h.c1) := HS.out.gr rfl
  have e1 : ∀ p : Gr W, p.W.cell? ⟨g, 1, none⟩ = some (.slice h.A2 exShp.covs.length h.c2) := HS.out.gr rfl
  have e2 : ∀ p : Gr W, p.W.cell? ⟨g, 2, none⟩ = some (.int .i64 exShp.l0) := HS.out.gr rfl
  have e3 : ∀ p : Gr W, p.W.cell? ⟨g, 3, none⟩ = some (.int .i64 exShp.l1) := HS.out.gr rfl
  have e4 : ∀ p : Gr W, p.W.cell? ⟨g, 4, none⟩ = some (.int .i64 exShp.l2) := HS.out.gr rfl
  have e5 : ∀ p : Gr W, p.W.cell? ⟨g, 5, none⟩ = some (.int .i64 exShp.l3) := HS.out.gr rfl
  have e6 : ∀ p : Gr W, p.W.cell? ⟨g, 6, none⟩ = some (.slice h.A3 exShp.rows.length h.c3) := HS.out.gr rfl
  have e7 : ∀ p : Gr W, p.W.cell? ⟨g, 7, none⟩ = some (.slice h.A4 exShp.frames.length h.c4) := HS.out.gr rfl
  have e8 : ∀ p : Gr W, p.W.cell? ⟨g, 8, none⟩ = some (.slice h.A5 exShp.tanks.length h.c5) := HS.out.gr rfl
  have e9 : ∀ p : Gr W, p.W.cell? ⟨g, 9, none⟩ = some (.int .i64 exShp.m0) := HS.out.gr rfl
  have e10 : ∀ p : Gr W, p.W.cell? ⟨g, 10, none⟩ = some (.int .i64 exShp.m1) := HS.out.gr rfl
  have e11 : ∀ p : Gr W, p.W.cell? ⟨g, 11, none⟩ = some (.int .i64 exShp.m2) := HS.out.gr rfl
  have e12 : ∀ p : Gr W, p.W.cell? ⟨g, 12, none⟩ = some (.int .i64 exShp.m3) := HS.out.gr rfl
  refine wp_region_gr (by kernel_rfl) (by kernel_rfl) ?_
  repeat (go_big_quiet_step ((first | with_reducible exact Gr.call _ (fun V _ => at_z _ _ _ V) | with_reducible exact Gr.call _ (fun V hV => KN1.out V (HS.out.on hV)))))
  refine wpQuiet_nil ?_
  rintro W1 ⟨⟨_, hb⟩, rfl⟩
  clear e0 e1 e2 e3 e4 e5 e6 e7 e8 e9 e10 e11 e12
  replace HS := Lib.hid (HS.out.on hb)
  clear hb KN1
  go_wp2_with fail
  have e0 : ∀ p : Gr W1, p.W.cell? ⟨g, 0, none⟩ = some (.slice h.A1 exShp.cols.length h.c1) := HS.out.gr rfl
  have e1 : ∀ p : Gr W1, p.W.cell? ⟨g, 1, none⟩ = some (.slice h.A2 exShp.covs.length h.c2) := HS.out.gr rfl
  have e2 : ∀ p : Gr W1, p.W.cell? ⟨g, 2, none⟩ = some (.int .i64 exShp.l0) := HS.out.gr rfl
  have e3 : ∀ p : Gr W1, p.W.cell? ⟨g, 3, none⟩ = some (.int .i64 exShp.l1) := HS.out.gr rfl
  have e4 : ∀ p : Gr W1, p.W.cell? ⟨g, 4, none⟩ = some (.int .i64 exShp.l2) := HS.out.gr rfl
  have e5 : ∀ p : Gr W1, p.W.cell? ⟨g, 5, none⟩ = some (.int .i64 exShp.l3) := HS.out.gr rfl
  have e6 : ∀ p : Gr W1, p.W.cell? ⟨g, 6, none⟩ = some (.slice h.A3 exShp.rows.length h.c3) := HS.out.gr rfl
  have e7 : ∀ p : Gr W1, p.W.cell? ⟨g, 7, none⟩ = some (.slice h.A4 exShp.frames.length h.c4) := HS.out.gr rfl
  have e8 : ∀ p : Gr W1, p.W.cell? ⟨g, 8, none⟩ = some (.slice h.A5 exShp.tanks.length h.c5) := HS.out.gr rfl
  have e9 : ∀ p : Gr W1, p.W.cell? ⟨g, 9, none⟩ = some (.int .i64 exShp.m0) := HS.out.gr rfl
  have e10 : ∀ p : Gr W1, p.W.cell? ⟨g, 10, none⟩ = some (.int .i64 exShp.m1) := HS.out.gr rfl
  have e11 : ∀ p : Gr W1, p.W.cell? ⟨g, 11, none⟩ = some (.int .i64 exShp.m2) := HS.out.gr rfl
  have e12 : ∀ p : Gr W1, p.W.cell? ⟨g, 12, none⟩ = some (.int .i64 exShp.m3) := HS.out.gr rfl
  refine wp_region_gr (by kernel_rfl) (by kernel_rfl) ?_
  repeat (go_big_quiet_step ((first | with_reducible exact Gr.call _ (fun V _ => at_z _ _ _ V) | with_reducible exact Gr.call _ (fun V hV => KN2.out V (HS.out.on hV)))))
  refine wpQuiet_nil ?_
  rintro W2 ⟨⟨_, hb⟩, rfl⟩
  clear e0 e1 e2 e3 e4 e5 e6 e7 e8 e9 e10 e11 e12
  replace HS := Lib.hid (HS.out.on hb)
  clear hb KN2 W W1
  have e0 : W2.cell? ⟨g, 0, none⟩ = some (.slice h.A1 exShp.cols.length h.c1) := HS.out.sh.bk.cell 0
  have e1 : W2.cell? ⟨g, 1, none⟩ = some (.slice h.A2 exShp.covs.length h.c2) := HS.out.sh.bk.cell 1
  have e2 : W2.cell? ⟨g, 2, none⟩ = some (.int .i64 exShp.l0) := HS.out.sh.bk.cell 2
  have e3 : W2.cell? ⟨g, 3, none⟩ = some (.int .i64 exShp.l1) := HS.out.sh.bk.cell 3
  have e4 : W2.cell? ⟨g, 4, none⟩ = some (.int .i64 exShp.l2) := HS.out.sh.bk.cell 4
  have e5 : W2.cell? ⟨g, 5, none⟩ = some (.int .i64 exShp.l3) := HS.out.sh.bk.cell 5
  have e6 : W2.cell? ⟨g, 6, none⟩ = some (.slice h.A3 exShp.rows.length h.c3) := HS.out.sh.bk.cell 6
  have e7 : W2.cell? ⟨g, 7, none⟩ = some (.slice h.A4 exShp.frames.length h.c4) := HS.out.sh.bk.cell 7
  have e8 : W2.cell? ⟨g, 8, none⟩ = some (.slice h.A5 exShp.tanks.length h.c5) := HS.out.sh.bk.cell 8
  have e9 : W2.cell? ⟨g, 9, none⟩ = some (.int .i64 exShp.m0) := HS.out.sh.bk.cell 9
  have e10 : W2.cell? ⟨g, 10, none⟩ = some (.int .i64 exShp.m1) := HS.out.sh.bk.cell 10
  have e11 : W2.cell? ⟨g, 11, none⟩ = some (.int .i64 exShp.m2) := HS.out.sh.bk.cell 11
  have e12 : W2.cell? ⟨g, 12, none⟩ = some (.int .i64 exShp.m3) := HS.out.sh.bk.cell 12
  go_wp2_with fail
  refine (KF1.out _ HS.out).mono ?_
  rintro e W3 ⟨rfl, hb⟩
  clear e0 e1 e2 e3 e4 e5 e6 e7 e8 e9 e10 e11 e12
  replace HS := Lib.hid (HS.out.on hb)
  clear hb KF1 W2
  have e0 : W3.cell? ⟨g, 0, none⟩ = some (.slice h.A1 exShp.cols.length h.c1) := HS.out.sh.bk.cell 0
  have e1 : W3.cell? ⟨g, 1, none⟩ = some (.slice h.A2 exShp.covs.length h.c2) := HS.out.sh.bk.cell 1
  have e2 : W3.cell? ⟨g, 2, none⟩ = some (.int .i64 exShp.l0) := HS.out.sh.bk.cell 2
  have e3 : W3.cell? ⟨g, 3, none⟩ = some (.int .i64 exShp.l1) := HS.out.sh.bk.cell 3
  have e4 : W3.cell? ⟨g, 4, none⟩ = some (.int .i64 exShp.l2) := HS.out.sh.bk.cell 4
  have e5 : W3.cell? ⟨g, 5, none⟩ = some (.int .i64 exShp.l3) := HS.out.sh.bk.cell 5
  have e6 : W3.cell? ⟨g, 6, none⟩ = some (.slice h.A3 exShp.rows.length h.c3) := HS.out.sh.bk.cell 6
  have e7 : W3.cell? ⟨g, 7, none⟩ = some (.slice h.A4 exShp.frames.length h.c4) := HS.out.sh.bk.cell 7
  have e8 : W3.cell? ⟨g, 8, none⟩ = some (.slice h.A5 exShp.tanks.length h.c5) := HS.out.sh.bk.cell 8
  have e9 : W3.cell? ⟨g, 9, none⟩ = some (.int .i64 exShp.m0) := HS.out.sh.bk.cell 9
  have e10 : W3.cell? ⟨g, 10, none⟩ = some (.int .i64 exShp.m1) := HS.out.sh.bk.cell 10
  have e11 : W3.cell? ⟨g, 11, none⟩ = some (.int .i64 exShp.m2) := HS.out.sh.bk.cell 11
  have e12 : W3.cell? ⟨g, 12, none⟩ = some (.int .i64 exShp.m3) := HS.out.sh.bk.cell 12
  have hlg := HS.out.sh.bk.lt
  have hBk := Bk.new W3 45 #[.int .i64 4, .int .i64 3, .int .u8 0]
  replace HS := Lib.hid (HS.out.on (ba1 W3 (.cells #[.int .i64 4, .int .i64 3, .int .u8 0] 45)))
  go_upto_region 5 with fail
  clear hlg
  clear e0 e1 e2 e3 e4 e5 e6 e7 e8 e9 e10 e11 e12
  generalize W3.heap.size = g6 at *
  generalize (W3.alloc _) = W4 at *
  have HX := Lib.hid hBk
  clear hBk
  have e0 : W4.cell? ⟨g, 0, none⟩ = some (.slice h.A1 exShp.cols.length h.c1) := HS.out.sh.bk.cell 0
  have e1 : W4.cell? ⟨g, 1, none⟩ = some (.slice h.A2 exShp.covs.length h.c2) := HS.out.sh.bk.cell 1
  have e2 : W4.cell? ⟨g, 2, none⟩ = some (.int .i64 exShp.l0) := HS.out.sh.bk.cell 2
  have e3 : W4.cell? ⟨g, 3, none⟩ = some (.int .i64 exShp.l1) := HS.out.sh.bk.cell 3
  have e4 : W4.cell? ⟨g, 4, none⟩ = some (.int .i64 exShp.l2) := HS.out.sh.bk.cell 4
  have e5 : W4.cell? ⟨g, 5, none⟩ = some (.int .i64 exShp.l3) := HS.out.sh.bk.cell 5
  have e6 : W4.cell? ⟨g, 6, none⟩ = some (.slice h.A3 exShp.rows.length h.c3) := HS.out.sh.bk.cell 6
  have e7 : W4.cell? ⟨g, 7, none⟩ = some (.slice h.A4 exShp.frames.length h.c4) := HS.out.sh.bk.cell 7
  have e8 : W4.cell? ⟨g, 8, none⟩ = some (.slice h.A5 exShp.tanks.length h.c5) := HS.out.sh.bk.cell 8
  have e9 : W4.cell? ⟨g, 9, none⟩ = some (.int .i64 exShp.m0) := HS.out.sh.bk.cell 9
  have e10 : W4.cell? ⟨g, 10, none⟩ = some (.int .i64 exShp.m1) := HS.out.sh.bk.cell 10
  have e11 : W4.cell? ⟨g, 11, none⟩ = some (.int .i64 exShp.m2) := HS.out.sh.bk.cell 11
  have e12 : W4.cell? ⟨g, 12, none⟩ = some (.int .i64 exShp.m3) := HS.out.sh.bk.cell 12
  go_wp2_with fail
  refine (KF2.out _ HS.out).mono ?_
  rintro e W5 ⟨rfl, hb⟩
  clear e0 e1 e2 e3 e4 e5 e6 e7 e8 e9 e10 e11 e12
  replace HS := Lib.hid (HS.out.on hb)
  replace HX := Lib.hid (HX.out.below hb HX.out.lt)
  clear hb KF2
  have e0 : W5.cell? ⟨g, 0, none⟩ = some (.slice h.A1 exShp.cols.length h.c1) := HS.out.sh.bk.cell 0
  have e1 : W5.cell? ⟨g, 1, none⟩ = some (.slice h.A2 exShp.covs.length h.c2) := HS.out.sh.bk.cell 1
  have e2 : W5.cell? ⟨g, 2, none⟩ = some (.int .i64 exShp.l0) := HS.out.sh.bk.cell 2
  have e3 : W5.cell? ⟨g, 3, none⟩ = some (.int .i64 exShp.l1) := HS.out.sh.bk.cell 3
  have e4 : W5.cell? ⟨g, 4, none⟩ = some (.int .i64 exShp.l2) := HS.out.sh.bk.cell 4
  have e5 : W5.cell? ⟨g, 5, none⟩ = some (.int .i64 exShp.l3) := HS.out.sh.bk.cell 5
  have e6 : W5.cell? ⟨g, 6, none⟩ = some (.slice h.A3 exShp.rows.length h.c3) := HS.out.sh.bk.cell 6
  have e7 : W5.cell? ⟨g, 7, none⟩ = some (.slice h.A4 exShp.frames.length h.c4) := HS.out.sh.bk.cell 7
  have e8 : W5.cell? ⟨g, 8, none⟩ = some (.slice h.A5 exShp.tanks.length h.c5) := HS.out.sh.bk.cell 8
  have e9 : W5.cell? ⟨g, 9, none⟩ = some (.int .i64 exShp.m0) := HS.out.sh.bk.cell 9
  have e10 : W5.cell? ⟨g, 10, none⟩ = some (.int .i64 exShp.m1) := HS.out.sh.bk.cell 10
  have e11 : W5.cell? ⟨g, 11, none⟩ = some (.int .i64 exShp.m2) := HS.out.sh.bk.cell 11
  have e12 : W5.cell? ⟨g, 12, none⟩ = some (.int .i64 exShp.m3) := HS.out.sh.bk.cell 12
  replace HX := Lib.hid (HX.out.alloc (.cells #[.int .i64 0, .int .i64 0, .int .u8 0] 45))
  have hlg := HS.out.sh.bk.lt
  replace HS := Lib.hid (HS.out.on (ba1 W5 (.cells #[.int .i64 0, .int .i64 0, .int .u8 0] 45)))
  go_upto_region 6 with fail
  clear hlg
  clear e0 e1 e2 e3 e4 e5 e6 e7 e8 e9 e10 e11 e12
  generalize W5.heap.size = g8 at *
  generalize (W5.alloc _) = W6 at *
  have e0 : W6.cell? ⟨g, 0, none⟩ = some (.slice h.A1 exShp.cols.length h.c1) := HS.out.sh.bk.cell 0
  have e1 : W6.cell? ⟨g, 1, none⟩ = some (.slice h.A2 exShp.covs.length h.c2) := HS.out.sh.bk.cell 1
  have e2 : W6.cell? ⟨g, 2, none⟩ = some (.int .i64 exShp.l0) := HS.out.sh.bk.cell 2
  have e3 : W6.cell? ⟨g, 3, none⟩ = some (.int .i64 exShp.l1) := HS.out.sh.bk.cell 3
  have e4 : W6.cell? ⟨g, 4, none⟩ = some (.int .i64 exShp.l2) := HS.out.sh.bk.cell 4
  have e5 : W6.cell? ⟨g, 5, none⟩ = some (.int .i64 exShp.l3) := HS.out.sh.bk.cell 5
  have e6 : W6.cell? ⟨g, 6, none⟩ = some (.slice h.A3 exShp.rows.length h.c3) := HS.out.sh.bk.cell 6
  have e7 : W6.cell? ⟨g, 7, none⟩ = some (.slice h.A4 exShp.frames.length h.c4) := HS.out.sh.bk.cell 7
  have e8 : W6.cell? ⟨g, 8, none⟩ = some (.slice h.A5 exShp.tanks.length h.c5) := HS.out.sh.bk.cell 8
  have e9 : W6.cell? ⟨g, 9, none⟩ = some (.int .i64 exShp.m0) := HS.out.sh.bk.cell 9
  have e10 : W6.cell? ⟨g, 10, none⟩ = some (.int .i64 exShp.m1) := HS.out.sh.bk.cell 10
  have e11 : W6.cell? ⟨g, 11, none⟩ = some (.int .i64 exShp.m2) := HS.out.sh.bk.cell 11
  have e12 : W6.cell? ⟨g, 12, none⟩ = some (.int .i64 exShp.m3) := HS.out.sh.bk.cell 12
  go_wp2_with fail
  refine (KF3.out _ HS.out).mono ?_
  rintro e W7 ⟨rfl, hb⟩
  clear e0 e1 e2 e3 e4 e5 e6 e7 e8 e9 e10 e11 e12
  replace HS := Lib.hid (HS.out.on hb)
  replace HX := Lib.hid (HX.out.below hb HX.out.lt)
  clear hb KF3
  have e0 : W7.cell? ⟨g, 0, none⟩ = some (.slice h.A1 exShp.cols.length h.c1) := HS.out.sh.bk.cell 0
  have e1 : W7.cell? ⟨g, 1, none⟩ = some (.slice h.A2 exShp.covs.length h.c2) := HS.out.sh.bk.cell 1
  have e2 : W7.cell? ⟨g, 2, none⟩ = some (.int .i64 exShp.l0) := HS.out.sh.bk.cell 2
  have e3 : W7.cell? ⟨g, 3, none⟩ = some (.int .i64 exShp.l1) := HS.out.sh.bk.cell 3
  have e4 : W7.cell? ⟨g, 4, none⟩ = some (.int .i64 exShp.l2) := HS.out.sh.bk.cell 4
  have e5 : W7.cell? ⟨g, 5, none⟩ = some (.int .i64 exShp.l3) := HS.out.sh.bk.cell 5
  have e6 : W7.cell? ⟨g, 6, none⟩ = some (.slice h.A3 exShp.rows.length h.c3) := HS.out.sh.bk.cell 6
  have e7 : W7.cell? ⟨g, 7, none⟩ = some (.slice h.A4 exShp.frames.length h.c4) := HS.out.sh.bk.cell 7
  have e8 : W7.cell? ⟨g, 8, none⟩ = some (.slice h.A5 exShp.tanks.length h.c5) := HS.out.sh.bk.cell 8
  have e9 : W7.cell? ⟨g, 9, none⟩ = some (.int .i64 exShp.m0) := HS.out.sh.bk.cell 9
  have e10 : W7.cell? ⟨g, 10, none⟩ = some (.int .i64 exShp.m1) := HS.out.sh.bk.cell 10
  have e11 : W7.cell? ⟨g, 11, none⟩ = some (.int .i64 exShp.m2) := HS.out.sh.bk.cell 11
  have e12 : W7.cell? ⟨g, 12, none⟩ = some (.int .i64 exShp.m3) := HS.out.sh.bk.cell 12
  replace HX := Lib.hid (HX.out.alloc (.cells #[.int .i64 0, .int .i64 0, .int .u8 0] 45))
  have hlg := HS.out.sh.bk.lt
  replace HS := Lib.hid (HS.out.on (ba1 W7 (.cells #[.int .i64 0, .int .i64 0, .int .u8 0] 45)))
  go_upto_region 7 with fail
  clear hlg
  clear e0 e1 e2 e3 e4 e5 e6 e7 e8 e9 e10 e11 e12
  generalize W7.heap.size = g10 at *
  generalize (W7.alloc _) = W8 at *
  refine wp_region_lit ?_
  refine wpList_grs 2 ?_
  simp only [List.take_succ_cons, List.take_zero, List.drop_succ_cons, List.drop_zero]
  repeat (go_big_quiet_step ((first | with_reducible exact Gr.call _ (fun V _ => at_z _ _ _ V))))
  refine wpQuiet_nil ?_
  rintro W9 ⟨⟨_, hb⟩, rfl⟩
  replace HS := Lib.hid (HS.out.on hb)
  replace HX := Lib.hid (HX.out.below hb HX.out.lt)
  clear hb
  refine wpList_plain rfl (fun K hK => ?_)
  go_big_op
  refine hK _ _ ?_
  clear hK K
  have hl := Bk.new W9 45 #[.int .i64 0, .int .i64 0, .int .u8 1, .int .i64 0, .int .i64 0, .int .u8 2]
  replace HX := Lib.hid (HX.out.alloc (.cells #[.int .i64 0, .int .i64 0, .int .u8 1, .int .i64 0, .int .i64 0, .int .u8 2] 45))
  replace HS := Lib.hid (HS.out.on (ba1 W9 (.cells #[.int .i64 0, .int .i64 0, .int .u8 1, .int .i64 0, .int .i64 0, .int .u8 2] 45)))
  generalize W9.heap.size = g12 at *
  generalize (W9.alloc _) = W10 at *
  go_upto_region 8 with fail
  simp only [List.append_eq, List.cons_append, List.nil_append]
  refine wp_region_at (by kernel_rfl) ?_
  have hd := below_drewN (Below.refl W10.heap.size W10) 1
  replace HS := Lib.hid (HS.out.on hd)
  replace HX := Lib.hid (HX.out.below hd HX.out.lt)
  replace hl := hl.below hd hl.lt
  clear hd
  generalize W10.drewN 1 = W10d at *
  have HL := Lib.hid (show SlT tSlt W10d (Lt W10d.heap.size) (some ⟨g12, 0, none⟩) [⟨0, 0, 1⟩, ⟨0, 0, 2⟩] from sl_slts hl)
  clear hl
  have KH1 : Hid (∀ V : World, Below W10d.heap.size W10d V → Calls Tryd.prog 17 #[.agg #[.int .i64 0, .int .i64 1, .int .u8 0], .slice (some ⟨g12, 0, none⟩) 2 2] V (Ret V (.bool true))) := Lib.hid fun V hV => by
    have := held_any ⟨0, 1, 0⟩ _ 2 _ V (HL.out.on hV) (by simp) (by decide); rw [ex_held1] at this; exact this
  have KH2 : Hid (∀ V : World, Below W10d.heap.size W10d V → Calls Tryd.prog 17 #[.agg #[.int .i64 0, .int .i64 1, .int .u8 0], .slice (some ⟨g12, 0, none⟩) 1 2] V (Ret V (.bool false))) := Lib.hid fun V hV => by
    have := held_any ⟨0, 1, 0⟩ _ 2 _ V (HL.out.on hV).one (by simp) (by decide); rw [ex_held2] at this; exact this
  have HE : ∀ W : World, (binOp .eql 45 (.agg #[.int .i64 4, .int .i64 3, .int .u8 0]) (.agg #[.int .i64 4, .int .i64 3, .int .u8 0])).run Tryd.prog W = .ok (.bool true) W := fun W => run_eql_slt ⟨4, 3, 0⟩ ⟨4, 3, 0⟩ W
  have hs1 : (nm1.toList == [48, 48, 51, 48, 49, 48, 50]) = true := by decide +kernel
  have hs2 : (nm2.toList == [48, 48, 54, 48, 49, 56, 56]) = true := by decide +kernel
  have x0 : ∀ p : Gr W10d, p.W.cell? ⟨g6, 0, none⟩ = some (.int .i64 4) := Gr.cell (HX.out.cell 0)
  have x1 : ∀ p : Gr W10d, p.W.cell? ⟨g6, 1, none⟩ = some (.int .i64 3) := Gr.cell (HX.out.cell 1)
  have x2 : ∀ p : Gr W10d, p.W.cell? ⟨g6, 2, none⟩ = some (.int .u8 0) := Gr.cell (HX.out.cell 2)
  refine AnyAt.gr 42 (by kernel_rfl) ?_
  simp only [List.drop_zero, Nat.reduceSub, List.take_succ_cons, List.take_zero]
  repeat (go_big_quiet_step ((first | with_reducible exact Gr.call _ (fun V _ => at_z _ _ _ V) | with_reducible exact Gr.call _ (fun V hV => KH1.out V hV) | with_reducible exact Gr.call _ (fun V hV => KH2.out V hV))))
  refine wpQuiet_nil ?_
  rintro W11 ⟨⟨_, hb⟩, rfl⟩
  replace HS := Lib.hid (HS.out.on hb)
  clear hb x0 x1 x2 HX HE hs1 hs2 KH1 KH2 HL
  refine AnyAt.one (by kernel_rfl) rfl (fun K hK => ?_)
  rw [if_pos (by rfl)]
  go_big_op
  refine hK _ _ ?_
  clear hK K
  have hl := Bk.new W11 45 #[.int .i64 0, .int .i64 0, .int .u8 0]
  replace HS := Lib.hid (HS.out.on (ba1 W11 (.cells #[.int .i64 0, .int .i64 0, .int .u8 0] 45)))
  generalize W11.heap.size = g13 at *
  generalize (W11.alloc _) = W12 at *
  have HL := Lib.hid (show SlT tSlt W12 (Lt W12.heap.size) (some ⟨g13, 0, none⟩) [⟨0, 0, 0⟩] from sl_slts hl)
  clear hl
  have KH3 : Hid (∀ V : World, Below W12.heap.size W12 V → Calls Tryd.prog 17 #[.agg #[.int .i64 0, .int .i64 1, .int .u8 2], .slice (some ⟨g13, 0, none⟩) 1 1] V (Ret V (.bool false))) := Lib.hid fun V hV => by
    have := held_any ⟨0, 1, 2⟩ _ 1 _ V (HL.out.on hV) (by simp) (by decide); rw [ex_held3] at this; exact this
  have e0 : ∀ p : Gr W12, p.W.cell? ⟨g, 0, none⟩ = some (.slice h.A1 exShp.cols.length h.c1) := HS.out.gr rfl
  have e1 : ∀ p : Gr W12, p.W.cell? ⟨g, 1, none⟩ = some (.slice h.A2 exShp.covs.length h.c2) := HS.out.gr rfl
  have e2 : ∀ p : Gr W12, p.W.cell? ⟨g, 2, none⟩ = some (.int .i64 exShp.l0) := HS.out.gr rfl
  have e3 : ∀ p : Gr W12, p.W.cell? ⟨g, 3, none⟩ = some (.int .i64 exShp.l1) := HS.out.gr rfl
  have e4 : ∀ p : Gr W12, p.W.cell? ⟨g, 4, none⟩ = some (.int .i64 exShp.l2) := HS.out.gr rfl
  have e5 : ∀ p : Gr W12, p.W.cell? ⟨g, 5, none⟩ = some (.int .i64 exShp.l3) := HS.out.gr rfl
  have e6 : ∀ p : Gr W12, p.W.cell? ⟨g, 6, none⟩ = some (.slice h.A3 exShp.rows.length h.c3) := HS.out.gr rfl
  have e7 : ∀ p : Gr W12, p.W.cell? ⟨g, 7, none⟩ = some (.slice h.A4 exShp.frames.length h.c4) := HS.out.gr rfl
  have e8 : ∀ p : Gr W12, p.W.cell? ⟨g, 8, none⟩ = some (.slice h.A5 exShp.tanks.length h.c5) := HS.out.gr rfl
  have e9 : ∀ p : Gr W12, p.W.cell? ⟨g, 9, none⟩ = some (.int .i64 exShp.m0) := HS.out.gr rfl
  have e10 : ∀ p : Gr W12, p.W.cell? ⟨g, 10, none⟩ = some (.int .i64 exShp.m1) := HS.out.gr rfl
  have e11 : ∀ p : Gr W12, p.W.cell? ⟨g, 11, none⟩ = some (.int .i64 exShp.m2) := HS.out.gr rfl
  have e12 : ∀ p : Gr W12, p.W.cell? ⟨g, 12, none⟩ = some (.int .i64 exShp.m3) := HS.out.gr rfl
  refine AnyAt.gr 70 (by kernel_rfl) ?_
  simp only [List.drop_succ_cons, List.drop_zero, List.take_succ_cons, List.take_zero]
  repeat (go_big_quiet_step ((first | with_reducible exact Gr.call _ (fun V _ => at_z _ _ _ V) | with_reducible exact Gr.call _ (fun V hV => KH3.out V hV) | with_reducible exact Gr.call _ (fun V hV => KR1.out V (HS.out.on hV)) | with_reducible exact Gr.call _ (fun V hV => KR2.out V (HS.out.on hV)) | with_reducible exact Gr.call _ (fun V _ => KO.out V) | with_reducible exact Gr.call _ (fun V _ => KC.out V))))
  refine wpQuiet_nil ?_
  rintro W13 ⟨⟨_, hb⟩, rfl⟩
  clear e0 e1 e2 e3 e4 e5 e6 e7 e8 e9 e10 e11 e12
  replace HS := Lib.hid (HS.out.on hb)
  clear hb KH3 HL KR1 KR2 KO KC
  refine AnyAt.one (by kernel_rfl) rfl (fun K hK => ?_)
  rw [if_pos (by rfl)]
  go_big_op
  refine (KA.out _ HS.out).mono ?_
  rintro e W14 ⟨v, rfl, hv, hb⟩
  obtain ⟨A, c, rfl, _⟩ := hv.sl
  refine hK _ _ ?_
  clear hK K
  have HBE := Lib.hid (HS.out.on hb).sh.be
  rw [ex_all]
  clear hv hb HS KA
  refine AnyAt.gr 75 (by kernel_rfl) ?_
  simp only [List.drop_succ_cons, List.drop_zero, List.take_succ_cons, List.take_zero]
  repeat (go_big_quiet_step (fail))
  refine wpQuiet_nil ?_
  rintro W15 ⟨⟨_, hb⟩, rfl⟩
  refine AnyAt.done rfl ?_
  go_wp2_with fail
  go_ret
  exact ⟨rfl, HBE.out.trans (hb.mono HBE.out.size)⟩
end Go.Proofs.YtdhhiaheonlldaaDoor
