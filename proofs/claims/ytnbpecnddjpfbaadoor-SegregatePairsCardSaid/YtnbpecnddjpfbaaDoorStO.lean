/-
  The walk of twistlocklaw09.Loaded.
-/
import Derived.Test.YtnbpecnddjpfbaaDoorStM
import Derived.Test.YtnbpecnddjpfbaaDoorQf
namespace Go.Proofs.YtnbpecnddjpfbaaDoor
open Go.RowKit

theorem el_bx : El Tryd.prog 42 41 tBx.k 64 := El.mk' Tryd.underlying42 (by kernel_rfl) (by decide)
theorem el_stw : El Tryd.prog 46 44 tStw.k 32 := El.mk' Tryd.underlying46 (by kernel_rfl) (by decide)
def drpL (d : Drp) : List Value := [.int .u8 (d.col : Nat), .int .u8 (d.kilos : Nat), .bool d.small, .bool d.high]
def tDrp : Ty Drp where
  k := 4
  pos := by decide
  rd := fun _ _ cs x => cs = drpL x
  len := by rintro _ _ _ _ rfl; rfl
  one := by rintro _ _ _ _ rfl; rfl
  keep := fun h _ => h
  more := fun h _ => h
theorem SlT.drp {w : World} {S : Nat → Prop} {A : Option Addr} {l : List Drp} (h : SlT tDrp w S A l) {j : Nat} (hj : j < l.length) :
    ∃ b off, A = some ⟨b, off, none⟩ ∧ S b ∧ w.cell? ⟨b, off + j * 4, none⟩ = some (.int .u8 ((l.getD j default).col : Nat)) ∧ w.cell? ⟨b, off + j * 4 + 1, none⟩ = some (.int .u8 ((l.getD j default).kilos : Nat)) ∧
      w.cell? ⟨b, off + j * 4 + 2, none⟩ = some (.bool (l.getD j default).small) ∧ w.cell? ⟨b, off + j * 4 + 3, none⟩ = some (.bool (l.getD j default).high) := by
  obtain ⟨b, off, cs, e, hb, h1, h2⟩ := h.at_ hj default
  rw [show cs = _ from h1] at h2
  exact ⟨b, off, e, hb, h2 0 _ rfl, h2 1 _ rfl, h2 2 _ rfl, h2 3 _ rfl⟩
/-- Elements that point to nothing. -/
def Plain {α : Type} (T : Ty α) : Prop := ∀ {w w' : World} {S S' : Nat → Prop} {cs : List Value} {x : α}, T.rd w S cs x → T.rd w' S' cs x
theorem plain_bx : Plain tBx := fun h => h
theorem plain_stw : Plain tStw := fun h => h
theorem Flat.plain {α : Type} {T : Ty α} (hp : Plain T) {w w' : World} {S S' : Nat → Prop} : ∀ {xs : List Value} {l : List α}, Flat T w S xs l → Flat T w' S' xs l
  | _, [], h => h
  | _, _ :: _, ⟨cs, ys, e, h1, h2⟩ => ⟨cs, ys, e, hp h1, Flat.plain hp h2⟩
theorem OwnS.lower {α : Type} {T : Ty α} (hp : Plain T) {e : TypeId} {w : World} {B B' : Nat} {v : Value} {l : List α} (h : OwnS T e w B (Lt B) v l) (hB : B' ≤ B) : OwnS T e w B' (Lt B') v l := by
  obtain ⟨xs, ho, hf, hS⟩ := h
  exact ⟨xs, own_mono ho hB, hf.plain hp, fun b hb => hS b (Nat.lt_of_lt_of_le hb hB)⟩
theorem OwnS.kept' {α : Type} {T : Ty α} {e : TypeId} {w w' : World} {B : Nat} {v : Value} {l : List α} {row : Option Nat} (h : OwnS T e w B (Lt B) v l) (hg : w.grownBy w' row) (hne : v.ownBlock = none ∨ v.ownBlock ≠ row) (hB : ∀ r, row = some r → B ≤ r) : OwnS T e w' B (Lt B) v l := by
  obtain ⟨xs, ho, hf, hS⟩ := h
  refine ⟨xs, ho.kept hg hne, hf.keep fun b o hb => World.cell?_of_block (hg.block b (hS b hb).1 fun e => ?_), fun b hb => ⟨Nat.lt_of_lt_of_le (hS b hb).1 hg.size, (hS b hb).2⟩⟩
  have h1 := hB b e.symm
  have h2 : b < B := hb
  omega
theorem OwnS.lt {α : Type} {T : Ty α} {e : TypeId} {w : World} {B : Nat} {S : Nat → Prop} {v : Value} {l : List α} (h : OwnS T e w B S v l) : ∀ g, v.ownBlock = some g → g < w.heap.size := own_ltT h.toT
/-- Boxes and a state of the call's own, and the ship in its variable. -/
structure LdI (w wr : World) (s : Shp) (h : Hd) (v1 v2 : Value) (bs : List Bx) (st : List Stw) : Prop where
  boxes : OwnS tBx 41 wr w.heap.size (Lt w.heap.size) v1 bs
  state : OwnS tStw 44 wr w.heap.size (Lt w.heap.size) v2 st
  be : Below w.heap.size w wr
  ship : Bk wr w.heap.size 32 (shpA s h)
theorem LdI.on {w wr wr' : World} {s : Shp} {h : Hd} {v1 v2 : Value} {bs : List Bx} {st : List Stw} (i : LdI w wr s h v1 v2 bs st) (hb : Below wr.heap.size wr wr') : LdI w wr' s h v1 v2 bs st :=
  ⟨i.boxes.below hb, i.state.below hb, i.be.trans (hb.mono i.be.size), i.ship.below hb i.ship.lt⟩
theorem LdI.grown {w wr wr' : World} {s : Shp} {h : Hd} {v1 v2 : Value} {bs : List Bx} {st : List Stw} {g : Nat} (i : LdI w wr s h v1 v2 bs st) (hg : wr.grownBy wr' (some g)) (hb : ∀ r, v1.ownBlock = some r → r < g) (hs : ∀ r, v2.ownBlock = some r → r < g) (hl : w.heap.size < g) : LdI w wr' s h v1 v2 bs st := by
  refine ⟨i.boxes.kept' hg (.inr fun e => Nat.lt_irrefl _ (hb g e)) (fun r e => ?_), i.state.kept' hg (.inr fun e => Nat.lt_irrefl _ (hs g e)) (fun r e => ?_), i.be.trans (below_of_grown hg (Nat.le_of_lt hl) i.be.size), i.ship.grown hg (fun e => ?_)⟩
  · injection e with e; omega
  · injection e with e; omega
  · injection e with e; omega
theorem loadTo_succ (s : Shp) (ds : List Drp) (k : Nat) : loadTo s ds (k + 1) = ((loadTo s ds k).1 ++ [dropB k (ds.getD k default)], dropS s ((loadTo s ds k).1 ++ [dropB k (ds.getD k default)]) (loadTo s ds k).2 (ds.getD k default) (dropB k (ds.getD k default))) := rfl
/-- Whether a box that is dropped can stand in a slot. -/
def dropP (s : Shp) (bs : List Bx) (st : List Stw) (d : Drp) (b : Bx) (x : Slt) : Bool := x.col == (d.col : Int) % s.cols.length && stowRight s bs (st ++ [⟨b.id, x⟩])
theorem drop_hit {s : Shp} {bs : List Bx} {st : List Stw} {d : Drp} {b : Bx} {j : Nat} (hj : j < (allF s b.size).length) (h0 : ∀ i, i < j → dropP s bs st d b ((allF s b.size).getD i default) = false) (h1 : dropP s bs st d b ((allF s b.size).getD j default) = true) : dropS s bs st d b = st ++ [⟨b.id, (allF s b.size).getD j default⟩] := by
  unfold dropS
  have hf : (allF s b.size).find? (fun x => x.col == (d.col : Int) % s.cols.length && stowRight s bs (st ++ [⟨b.id, x⟩])) = some ((allF s b.size).getD j default) := by
    rw [List.find?_eq_some_iff_getElem]
    refine ⟨h1, j, hj, by simp [hj], fun i hi => ?_⟩
    have := h0 i hi
    unfold dropP at this
    have hil : i < (allF s b.size).length := Nat.lt_trans hi hj
    rw [show (allF s b.size).getD i default = (allF s b.size)[i] by simp [hil]] at this
    rw [Bool.not_eq_true']
    exact this
  rw [hf]
theorem drop_miss {s : Shp} {bs : List Bx} {st : List Stw} {d : Drp} {b : Bx} (h0 : ∀ i, i < (allF s b.size).length → dropP s bs st d b ((allF s b.size).getD i default) = false) : dropS s bs st d b = st := by
  unfold dropS
  have hf : (allF s b.size).find? (fun x => x.col == (d.col : Int) % s.cols.length && stowRight s bs (st ++ [⟨b.id, x⟩])) = none := by
    rw [List.find?_eq_none]
    intro x hx
    obtain ⟨i, hi, rfl⟩ := List.getElem_of_mem hx
    have := h0 i hi
    unfold dropP at this
    rw [show (allF s b.size).getD i default = (allF s b.size)[i] by simp [hi]] at this
    simpa using this
  rw [hf]
/-- Slots of a right state are not too high. -/
theorem tier_le {s : Shp} {bs : List Bx} {l : List Stw} (hT : ∀ c, tiersN s c ≤ 1000000) (h : stowRight s bs l = true) : ∀ x ∈ l, x.slot.tier ≤ 1000000 := fun x hx => by
  obtain ⟨i, hi, rfl⟩ := List.getElem_of_mem hx
  have := (stowRight_parts.1 h).2.1 i hi
  unfold stowAt slotRight at this
  simp only [Bool.and_eq_true, decide_eq_true_eq] at this
  have h4 := this.1.1.2.2.2.2.1
  rw [show l.getD i default = l[i] by simp [hi]] at h4
  have h5 := hT l[i].slot.col.toNat
  unfold tiersN at h5
  omega
theorem tier_app {s : Shp} {bs : List Bx} {l : List Stw} (hT : ∀ c, tiersN s c ≤ 1000000) (h : stowRight s bs l = true) {b : Int} {x : Slt} {size : Nat} (hx : ∃ c t : Nat, c < s.cols.length ∧ t < tiersN s c ∧ x.col = (c : Int) ∧ x.tier = (t : Int) ∧ x.half ∈ halvesL size) : ∀ y ∈ l ++ [(⟨b, x⟩ : Stw)], y.slot.tier ≤ 9223372036854775807 := fun y hy => by
  rcases List.mem_append.1 hy with hy | hy
  · have := tier_le hT h y hy
    omega
  · obtain rfl : y = ⟨b, x⟩ := by simpa using hy
    obtain ⟨c', t', _, ht1, _, ht2, _⟩ := hx
    have h3 := hT c'
    show x.tier ≤ _
    omega
theorem len_app {α : Type} {l : List α} {x : α} (h : l.length ≤ 1000) : (l ++ [x]).length ≤ 1000000 := by simp; omega
theorem cast_ne0 {n : Nat} (h : 1 ≤ n) : (n : Int) ≠ 0 := by omega
theorem u8_in {d : Nat} (h : d < 256) : IntKind.i64.wrap (d : Int) = (d : Int) := IntWalk.i64_in _ (by omega)
theorem not_before {α : Type} [Inhabited α] {p : α → Bool} {l : List α} {j : Nat} (h : ∀ i, i < j → p (l.getD i default) = false) (h1 : p (l.getD j default) = false) : ∀ i, i < j + 1 → p (l.getD i default) = false := fun i hi => by
  by_cases he : i = j
  · subst he; exact h1
  · exact h i (by omega)
theorem load_blen (s : Shp) (ds : List Drp) (k : Nat) : (loadTo s ds k).1.length = k := by rw [load_boxes]; simp
/-- What Loaded returns. -/
def LoadRet (w : World) (r : List Bx × List Stw) (e : Ending) (w' : World) : Prop :=
  ∃ v1 v2, e = .returned (.tuple #[v1, v2]) ∧ OwnS tBx 41 w' w.heap.size (Lt w.heap.size) v1 r.1 ∧ OwnS tStw 44 w' w.heap.size (Lt w.heap.size) v2 r.2 ∧ Below w.heap.size w w'
set_option maxRecDepth 100000 in
set_option maxHeartbeats 8000000 in
theorem loaded_any (s : Shp) (h : Hd) (A : Option Addr) (c : Nat) (ds : List Drp) (most : Nat) (w : World) (hmost : most ≤ 1000) (hsh : ShpR w (Lt w.heap.size) s h) (hr : rightF s = true) (hf : Few s) (hi : Ints s) (h1 : 1 ≤ s.cols.length) (hcl : s.cols.length ≤ 1000000) (hT : ∀ c, tiersN s c ≤ 1000000) (hN : ∀ size, (allF s size).length ≤ 1000000)
    (hs : SlT tDrp w (Lt w.heap.size) A ds) (hd : ∀ d ∈ ds, d.col < 256 ∧ d.kilos < 256) (hc : ds.length ≤ c) (hcm : c ≤ maxLen) :
    Calls Tryd.prog 38 #[.agg (shpA s h), .slice A ds.length c, .int .i64 (most : Nat)] w (LoadRet w (loadedF s ds most)) := by
  have HSH := Lib.hid hsh
  have HDS := Lib.hid hs
  have hbx := ba1 w (.cells (shpA s h) 32)
  have HI0 : Hid (LdI w (w.alloc (.cells (shpA s h) 32)) s h (.slice none 0 0) (.slice none 0 0) [] []) := Lib.hid ⟨OwnS.nil (fun b hb => Nat.lt_of_lt_of_le hb hbx.size), OwnS.nil (fun b hb => Nat.lt_of_lt_of_le hb hbx.size), hbx, Bk.new w _ _⟩
  obtain ⟨N, hN0⟩ : ∃ N, N = min ds.length most := ⟨_, rfl⟩
  have HNN : Hid (loadedF s ds most = loadTo s ds N) := Lib.hid (by rw [hN0]; rfl)
  have hmn : (if most < ds.length then (most : Int) else (ds.length : Int)) = (N : Int) := by rw [hN0]; split <;> omega
  have hNd : N ≤ ds.length := by omega
  have hNm : N ≤ 1000 := by omega
  have hNc : N ≤ c := by omega
  unfold maxLen at hcm
  have hNi : (0 : Int) ≤ (N : Int) := by omega
  have hNci : (N : Int) ≤ (c : Int) := by omega
  clear hs hsh hN0 hbx
  unfold LoadRet
  rw [HNN.out]
  go_enter Tryd.func38, Tryd.ntmps38
  go_upto_block 0 with fail
  generalize (w.alloc _) = W0 at *
  have hNt : ((N : Int)).toNat = N := Int.toNat_natCast N
  have hNx : max (N : Int) 0 = (N : Int) := by omega
  try simp only [hmn, hNt, hNx]
  clear hmn hNt hNx
  go_wp2_with fail
  go_loopw [8, 9, 23] (fun v1 v2 i wr => ∃ k : Nat, k ≤ N ∧ i = .int .i64 k ∧ Hid (LdI w wr s h v1 v2 (loadTo s ds k).1 (loadTo s ds k).2)) (fun _ _ i _ => N - (intOf i).toNat)
  case atStart => exact ⟨0, Nat.zero_le _, rfl, HI0⟩
  case round =>
    clear HI0
    clear W0
    obtain ⟨k, hk, rfl, HI⟩ := hrel
    obtain ⟨V, rfl⟩ : ∃ V, V = wr := ⟨_, rfl⟩
    by_cases hlt : k < N
    · have hkd : k < ds.length := by omega
      obtain ⟨b, off, rfl, hbB, d0, d1, d2, d3⟩ := (HDS.out.below HI.out.be).drp hkd
      have hdb := hd _ (getD_memD hkd default)
      have HLS := Lib.hid (loadTo_succ s ds k)
      have hbl := load_blen s ds k
      have hsl := load_len s ds k
      have HRT := Lib.hid (load_right hr ds k)
      generalize (loadTo s ds k).1 = bs at *
      generalize (loadTo s ds k).2 = st at *
      generalize ds.getD k default = d at *
      obtain ⟨dc, dk, dsm, dhi⟩ := d
      simp only at d0 d1 d2 d3 hdb
      have i0 : (0 : Int) ≤ (k : Int) := by omega
      have i1 : (k : Int) < (N : Int) := by omega
      have hq1 := ba1 V (.cells #[.int .u8 (dc : Nat), .int .u8 (dk : Nat), .bool dsm, .bool dhi] 138)
      have HI1 := Lib.hid (HI.out.on hq1)
      have kd := Bk.new V 138 #[.int .u8 (dc : Nat), .int .u8 (dk : Nat), .bool dsm, .bool dhi]
      go_upto_region 6 with fail
      clear d0 d1 d2 d3 hq1 HI
      generalize V.heap.size = gd at *
      generalize (V.alloc _) = V1 at *
      clear V
      have g0 : V1.cell? ⟨gd, 0, none⟩ = some (.int .u8 (dc : Nat)) := kd.cell 0
      have g1 : V1.cell? ⟨gd, 1, none⟩ = some (.int .u8 (dk : Nat)) := kd.cell 1
      have g2 : V1.cell? ⟨gd, 2, none⟩ = some (.bool dsm) := kd.cell 2
      have g3 : V1.cell? ⟨gd, 3, none⟩ = some (.bool dhi) := kd.cell 3
      obtain ⟨hdc, hdk⟩ := hdb
      have hid : IntKind.i64.wrap (5 * ((k : Int) + 1)) = 5 * ((k : Int) + 1) := IntWalk.i64_in _ (by omega)
      have hcv : IntKind.i64.wrap (dk : Int) = (dk : Int) := IntWalk.i64_in _ (by omega)
      have hkg : IntKind.i64.wrap (1000 + 100 * (dk : Int)) = 1000 + 100 * (dk : Int) := IntWalk.i64_in _ (by omega)
      have hq2 := ba1 V1 (.cells #[.int .i64 (5 * ((k : Int) + 1)), .string ⟨#[]⟩, .int .u8 40, .bool dhi, .int .i64 (1000 + 100 * (dk : Int)), .int .i64 0, .int .i64 1, .int .u8 0, .bool false] 41)
      have HI2 := Lib.hid (HI1.out.on hq2)
      have HI1' := HI1
      have kb := Bk.new V1 41 #[.int .i64 (5 * ((k : Int) + 1)), .string ⟨#[]⟩, .int .u8 40, .bool dhi, .int .i64 (1000 + 100 * (dk : Int)), .int .i64 0, .int .i64 1, .int .u8 0, .bool false]
      have KD2 := Lib.hid (kd.below hq2 kd.lt)
      have HL8 := Lib.hid HI1.out.boxes.lt
      have HL9 := Lib.hid HI1.out.state.lt
      have hwb : w.heap.size < V1.heap.size := by
        have h9 := HI1.out.ship.lt
        exact h9
      clear hq2 kd HI1'
      clear HI1
      go_cut [12] (fun v wx => ∃ gb : Nat, v = .pointer (some ⟨gb, 0, none⟩) ∧ Hid (Bk wx gb 41 #[.int .i64 (5 * ((k : Int) + 1)), .string ⟨#[]⟩, .int .u8 40, .bool dhi, .int .i64 (1000 + 100 * (dk : Int)), .int .i64 0, .int .i64 1, .int .u8 0, .bool false]) ∧ Hid (LdI w wx s h u8 u9 bs st) ∧ Hid (Bk wx gd 138 #[.int .u8 (dc : Nat), .int .u8 (dk : Nat), .bool dsm, .bool dhi]) ∧
        Hid (∀ g, u8.ownBlock = some g → g < gb) ∧ Hid (∀ g, u9.ownBlock = some g → g < gb) ∧ Hid (w.heap.size < gb))
      case first =>
        have KB := Lib.hid kb
        have HWB := Lib.hid hwb
        clear kb hwb
        go_wp2_with fail
        go_meet
        exact ⟨_, rfl, KB, HI2, KD2, HL8, HL9, HWB⟩
      case rest =>
      clear hid hcv hkg g0 g1 g2 g3 kb hwb HL8 HL9 HI2 KD2
      clear V1
      obtain ⟨gb, rfl, HKB, HI2, KD2, HL8, HL9, hwb'⟩ := hcut
      have hwb := hwb'.out
      obtain ⟨V2, rfl⟩ : ∃ V, V = wc := ⟨_, rfl⟩
      have kb := HKB.out
      have g2 : V2.cell? ⟨gd, 2, none⟩ = some (.bool dsm) := KD2.out.cell 2
      have HDB : Hid ((bxL (dropB k ⟨dc, dk, dsm, dhi⟩)).toArray = #[.int .i64 (5 * ((k : Int) + 1)), .string ⟨#[]⟩, .int .u8 (if dsm then 20 else 40), .bool (if dsm then false else dhi), .int .i64 (1000 + 100 * (dk : Int)), .int .i64 0, .int .i64 1, .int .u8 0, .bool false]) := Lib.hid (by cases dsm <;> rfl)
      have b2 : V2.cell? ⟨gb, 2, none⟩ = some (.int .u8 40) := kb.cell 2
      have b3 : V2.cell? ⟨gb, 3, none⟩ = some (.bool dhi) := kb.cell 3
      have f2 : V2.frozen? ⟨gb, 2, none⟩ = false := kb.frozen 2
      have f3 : V2.frozen? ⟨gb, 3, none⟩ = false := kb.frozen 3
      clear kb
      go_step
      go_step
      go_cut [] (fun wx => Hid (Bk wx gb 41 (bxL (dropB k ⟨dc, dk, dsm, dhi⟩)).toArray) ∧ Hid (LdI w wx s h u8 u9 bs st) ∧ Hid (Bk wx gd 138 #[.int .u8 (dc : Nat), .int .u8 (dk : Nat), .bool dsm, .bool dhi]))
      case first =>
        cases dsm with
        | false =>
          go_wp2_with fail
          go_meet
          exact ⟨Lib.hid (by rw [HDB.out]; exact HKB.out), HI2, KD2⟩
        | true =>
          have hng : gd ≠ gb := Bk.ne_ KD2.out HKB.out (by decide)
          go_wp2_with fail
          go_meet
          refine ⟨Lib.hid ?_, Lib.hid ?_, Lib.hid ?_⟩
          · rw [HDB.out]
            have := (HKB.out.set_ 2 (.int .u8 20)).set_ 3 (.bool false)
            simpa using this
          · exact (HI2.out.grown (grown_setCell _ _ _) HL8.out HL9.out hwb).grown (grown_setCell _ _ _) HL8.out HL9.out hwb
          · exact (KD2.out.far (p := ⟨gb, 2, none⟩) hng _).far (p := ⟨gb, 3, none⟩) hng _
      case rest =>
        -- rest
        clear HKB HI2 KD2 HL9 hwb' hwb b2 b3 f2 f3 g2 HDB
        obtain ⟨HKB, HI3, KD3⟩ := hcut
        obtain ⟨V3, rfl⟩ : ∃ V, V = wc := ⟨_, rfl⟩
        have hsz20 : (dropB k ⟨dc, dk, dsm, dhi⟩).size = 40 ∨ (dropB k ⟨dc, dk, dsm, dhi⟩).size = 20 := by cases dsm <;> simp [dropB]
        generalize dropB k ⟨dc, dk, dsm, dhi⟩ = B at *
        obtain ⟨bid, bnum, bsz, bhi, bkg, bld, bdi, bcl, brf⟩ := B
        have HKB9 : Hid (Bk V3 gb 41 #[.int .i64 bid, .string bnum, .int .u8 (bsz : Nat), .bool bhi, .int .i64 bkg, .int .i64 bld, .int .i64 bdi, .int .u8 (bcl : Nat), .bool brf]) := HKB
        clear HKB
        have kb := HKB9.out
        have b0 : V3.cell? ⟨gb, 0, none⟩ = some (.int .i64 bid) := kb.cell 0
        have b1 : V3.cell? ⟨gb, 1, none⟩ = some (.string bnum) := kb.cell 1
        have b2 : V3.cell? ⟨gb, 2, none⟩ = some (.int .u8 (bsz : Nat)) := kb.cell 2
        have b3 : V3.cell? ⟨gb, 3, none⟩ = some (.bool bhi) := kb.cell 3
        have b4 : V3.cell? ⟨gb, 4, none⟩ = some (.int .i64 bkg) := kb.cell 4
        have b5 : V3.cell? ⟨gb, 5, none⟩ = some (.int .i64 bld) := kb.cell 5
        have b6 : V3.cell? ⟨gb, 6, none⟩ = some (.int .i64 bdi) := kb.cell 6
        have b7 : V3.cell? ⟨gb, 7, none⟩ = some (.int .u8 (bcl : Nat)) := kb.cell 7
        have b8 : V3.cell? ⟨gb, 8, none⟩ = some (.bool brf) := kb.cell 8
        have HB9 := Lib.hid (HI3.out.boxes.below (ba1 V3 (.cells #[.int .i64 bid, .string bnum, .int .u8 (bsz : Nat), .bool bhi, .int .i64 bkg, .int .i64 bld, .int .i64 bdi, .int .u8 (bcl : Nat), .bool brf] 41)))
        have HE9 := Lib.hid (HI3.out.be.size)
        have hbl9 : bs.length ≤ 1000 := by omega
        have hsl9 : st.length ≤ 1000 := by omega
        have hn0 := cast_ne0 h1
        have hdcw := u8_in hdc
        clear kb
        go_step
        go_step
        go_upto_region 10 with (at_builtin; (refine wpList_append_R el_bx rfl (.tmp 43) (.tmp 45) rfl w.heap.size (Lt w.heap.size) _ bs rfl HB9.out _ 1 1 [⟨bid, bnum, bsz, bhi, bkg, bld, bdi, bcl, brf⟩] rfl rfl (Src.new (Flat.single rfl) rfl) ?c1 ?c2 ?c3 ?_))
        case c1 => unfold maxLen; omega
        case c2 => omega
        case c3 => exact Nat.le_trans HE9.out (by simp)
        intro v8 w8 hown8 hg8 hbe8
        have HI4 : Hid (LdI w w8 s h v8 u9 (bs ++ [⟨bid, bnum, bsz, bhi, bkg, bld, bdi, bcl, brf⟩]) st) := Lib.hid ⟨hown8, OwnS.stay (HI3.out.state.below (ba1 V3 _)) HB9.out (by decide) hg8, (HI3.out.be.trans ((ba1 V3 _).mono HE9.out)).trans hbe8, (HI3.out.ship.alloc _).stay hg8 (HB9.out.ne (HI3.out.ship.alloc _) (by decide))⟩
        have KB4 := Lib.hid ((HKB9.out.alloc _).stay hg8 (fun e => Nat.lt_irrefl _ (HL8.out gb e)))
        have KD4 := Lib.hid ((KD3.out.alloc _).stay hg8 (HB9.out.ne (KD3.out.alloc _) (by decide)))
        clear hown8 hg8 hbe8 HB9 HE9 HI3 HKB9 KD3 HL8 b0 b1 b2 b3 b4 b5 b6 b7 b8
        try clear V3
        obtain ⟨A8, c8, rfl, hc8, hcm8, -⟩ := HI4.out.boxes.sl'
        obtain ⟨A3, q3, rfl, hc3, hcm3, -⟩ := HI4.out.state.sl'
        generalize hn8 : (bs ++ [(⟨bid, bnum, bsz, bhi, bkg, bld, bdi, bcl, brf⟩ : Bx)]).length = n8 at *
        obtain ⟨e0, e1, e2, e3, e4, e5, e6, e7, e8, e9, e10, e11, e12⟩ : w8.cell? ⟨w.heap.size, 0, none⟩ = some (.slice h.A1 s.cols.length h.c1) ∧ w8.cell? ⟨w.heap.size, 1, none⟩ = some (.slice h.A2 s.covs.length h.c2) ∧ w8.cell? ⟨w.heap.size, 2, none⟩ = some (.int .i64 s.l0) ∧ w8.cell? ⟨w.heap.size, 3, none⟩ = some (.int .i64 s.l1) ∧ w8.cell? ⟨w.heap.size, 4, none⟩ = some (.int .i64 s.l2) ∧ w8.cell? ⟨w.heap.size, 5, none⟩ = some (.int .i64 s.l3) ∧ w8.cell? ⟨w.heap.size, 6, none⟩ = some (.slice h.A3 s.rows.length h.c3) ∧ w8.cell? ⟨w.heap.size, 7, none⟩ = some (.slice h.A4 s.frames.length h.c4) ∧ w8.cell? ⟨w.heap.size, 8, none⟩ = some (.slice h.A5 s.tanks.length h.c5) ∧ w8.cell? ⟨w.heap.size, 9, none⟩ = some (.int .i64 s.m0) ∧ w8.cell? ⟨w.heap.size, 10, none⟩ = some (.int .i64 s.m1) ∧ w8.cell? ⟨w.heap.size, 11, none⟩ = some (.int .i64 s.m2) ∧ w8.cell? ⟨w.heap.size, 12, none⟩ = some (.int .i64 s.m3) := ⟨HI4.out.ship.cell 0, HI4.out.ship.cell 1, HI4.out.ship.cell 2, HI4.out.ship.cell 3, HI4.out.ship.cell 4, HI4.out.ship.cell 5, HI4.out.ship.cell 6, HI4.out.ship.cell 7, HI4.out.ship.cell 8, HI4.out.ship.cell 9, HI4.out.ship.cell 10, HI4.out.ship.cell 11, HI4.out.ship.cell 12⟩
        have b2 : w8.cell? ⟨gb, 2, none⟩ = some (.int .u8 (bsz : Nat)) := KB4.out.cell 2
        have HALL := Lib.hid (all_any s h bsz w8 ((HSH.out.below HI4.out.be).up HI4.out.be.size) hcl hT (hN bsz))
        unfold shpA at HALL
        go_wp2_with fail
        refine HALL.out.mono ?_
        rintro e w9 ⟨v9, rfl, ho9, hb9⟩
        simp only
        clear e0 e1 e2 e3 e4 e5 e6 e7 e8 e9 e10 e11 e12 b2 HALL
        obtain ⟨A4, c4, rfl, hc4, hcm4, hsl4⟩ := ho9.sl
        have HSL := Lib.hid hsl4
        have HI5 := Lib.hid (HI4.out.on hb9)
        have KB5 := Lib.hid (KB4.out.below hb9 KB4.out.lt)
        have KD5 := Lib.hid (KD4.out.below hb9 KD4.out.lt)
        have hm4 := hN bsz
        clear hsl4 ho9 hb9 HI4 KB4 KD4
        try clear w8
        have HMA := Lib.hid (fun (y : Slt) => (mem_all (s := s) (size := bsz) (y := y)).1)
        generalize hL : allF s bsz = L at *
        have HLE := Lib.hid hL
        clear hL
        unfold maxLen at hcm8 hcm3 hcm4
        go_wp2_with fail
        go_loopw [9, 52] (fun y i wr => ∃ j : Nat, y = .slice A3 st.length q3 ∧ j ≤ L.length ∧ i = .int .i64 j ∧ Hid (∀ i, i < j → dropP s (bs ++ [⟨bid, bnum, bsz, bhi, bkg, bld, bdi, bcl, brf⟩]) st ⟨dc, dk, dsm, dhi⟩ ⟨bid, bnum, bsz, bhi, bkg, bld, bdi, bcl, brf⟩ (L.getD i default) = false) ∧ Hid (Below w9.heap.size w9 wr)) (fun _ i _ => L.length - (intOf i).toNat)
        case atStart => exact ⟨0, rfl, Nat.zero_le _, rfl, Lib.hid (fun i hi => absurd hi (Nat.not_lt_zero _)), Lib.hid (Below.refl _ _)⟩
        case round =>
          obtain ⟨j, rfl, hj, rfl, HNO, HBR⟩ := hrel
          obtain ⟨V4, rfl⟩ : ∃ V, V = wr := ⟨_, rfl⟩
          by_cases hjl : j < L.length
          · obtain ⟨b4, off4, e4, hB4, s0, s1, s2⟩ := (HSL.out.below HBR.out).slt hjl
            subst e4
            have HXM := Lib.hid (HMA.out _ (getD_memD hjl default))
            have HXE : Hid (L.getD j default = L.getD j default) := Lib.hid rfl
            generalize hx : L.getD j default = x at s0 s1 s2 HXM HXE
            obtain ⟨xc, xt, xh⟩ := x
            simp only at s0 s1 s2
            have HX := Lib.hid hx
            clear hx HXE
            have j0 : (0 : Int) ≤ (j : Int) := by omega
            have j1 : (j : Int) < (L.length : Int) := by omega
            have hq4 := ba1 V4 (.cells #[.int .i64 xc, .int .i64 xt, .int .u8 (xh : Nat)] 37)
            have HI6 := Lib.hid ((HI5.out.on HBR.out).on hq4)
            have KB6 := Lib.hid ((KB5.out.below HBR.out KB5.out.lt).alloc (.cells #[.int .i64 xc, .int .i64 xt, .int .u8 (xh : Nat)] 37))
            have KD6 := Lib.hid ((KD5.out.below HBR.out KD5.out.lt).alloc (.cells #[.int .i64 xc, .int .i64 xt, .int .u8 (xh : Nat)] 37))
            have KX6 := Lib.hid (Bk.new V4 37 #[.int .i64 xc, .int .i64 xt, .int .u8 (xh : Nat)])
            have HBR6 := Lib.hid (HBR.out.trans (hq4.mono HBR.out.size))
            clear HBR hq4
            go_upto_region 13 with fail
            clear s0 s1 s2
            generalize V4.heap.size = gx at *
            generalize (V4.alloc _) = W at *
            clear V4
            have x0 : W.cell? ⟨gx, 0, none⟩ = some (.int .i64 xc) := KX6.out.cell 0
            have x1 : W.cell? ⟨gx, 1, none⟩ = some (.int .i64 xt) := KX6.out.cell 1
            have x2 : W.cell? ⟨gx, 2, none⟩ = some (.int .u8 (xh : Nat)) := KX6.out.cell 2
            have b0 : W.cell? ⟨gb, 0, none⟩ = some (.int .i64 bid) := KB6.out.cell 0
            have HSRC : Hid (∀ V : World, Cb W V → Src tStw V (Lt W.heap.size) A3 st.length st) := Lib.hid fun V hV => by
              obtain ⟨A', c', e', _, _, hs'⟩ := (HI6.out.state).sl'
              injection e' with e1 _ _
              subst e1
              exact (hs'.below hV).src rfl (fun b hb => Nat.lt_of_lt_of_le hb (Below.size hV))
            refine wp_region_og [.sl 0 0 44 #[] W.heap.size,
    .val 1 (.slice A3 st.length q3),
    .own tStw 44 W.heap.size (Lt W.heap.size) 2 st,
    .val 3 (.pointer (some ⟨gb, 0, none⟩)),
    .val 4 (.int .i64 bid),
    .val 5 (.agg #[.int .i64 xc, .int .i64 xt, .int .u8 (xh : Nat)]),
    .val 6 (.agg #[.int .i64 bid, .int .i64 xc, .int .i64 xt, .int .u8 (xh : Nat)]),
    .sl 7 1 44 #[.int .i64 bid, .int .i64 xc, .int .i64 xt, .int .u8 (xh : Nat)] W.heap.size,
    .own tStw 44 W.heap.size (Lt W.heap.size) 8 (st ++ [⟨bid, xc, xt, xh⟩]),
    .own tStw 44 W.heap.size (Lt W.heap.size) 9 (st ++ [⟨bid, xc, xt, xh⟩])]
              [[], [], [0, 1], [], [3], [], [4, 5], [6], [2, 7], [8]] [9] (Cb W) (by kernel_rfl) (by kernel_rfl) (Cb.drew W) ⟨?_, ?_, ?_, ?_, ?_, ?_, ?_, ?_, ?_, ?_, trivial⟩ ?_
            case refine_1 =>
              refine StepL.up fun x V hV hu K Q hK => ?_
              clear hu
              rw [owp_eq]
              go_big_op
              exact hK _ _ (ba1 V _) ⟨_, rfl, Below.size hV, Bk.new V _ _⟩
            case refine_2 =>
              refine StepL.up fun x V hV hu K Q hK => ?_
              clear hu
              simp only [putL, List.set_cons_zero, List.set_cons_succ] at hK ⊢
              rw [owp_eq]
              go_big_op
              exact hK _ _ (Below.refl _ _) rfl
            case refine_3 =>
              refine StepL.wr [3, 4, 5, 6, 7] (by kernel_rfl) fun x V hV hu K Q hK => ?_
              obtain ⟨gd, ud, hgd, hkd⟩ := hu 0 (by decide)
              have HO := own_of_empty (T := tStw) hkd hgd
              have uj : x 1 = _ := hu 1 (by decide)
              have HSRC := HSRC.out V hV
              clear hu
              simp only [putL, List.set_cons_zero, List.set_cons_succ] at hK ⊢
              refine wp_append_og el_stw (.tmp 56) (.tmp 57) rfl W.heap.size (Lt W.heap.size) _ _ ud HO _ _ _ _ rfl uj HSRC (by unfold maxLen; simp; omega) (by simp; omega) (Below.size hV) fun v' w' h1 h2 h3 => ?_
              refine hK v' _ (hV.app h3) h1 fun k hk' => ?_
              simp only [List.mem_cons, List.not_mem_nil, or_false] at hk'
              rcases hk' with rfl | rfl | rfl | rfl | rfl
              · exact fun h => h
              · exact fun h => h
              · exact fun h => h
              · exact fun h => h
              · rintro ⟨g', e', l', k'⟩; exact ⟨g', e', l', k'.stay h2 (fun q => (Bk.size_ne hkd k' (by simp)) (Option.some.inj q))⟩
            case refine_4 =>
              refine StepL.up fun x V hV hu K Q hK => ?_
              clear hu
              simp only [putL, List.set_cons_zero, List.set_cons_succ] at hK ⊢
              rw [owp_eq]
              go_big_op
              exact hK _ _ (Below.refl _ _) rfl
            case refine_5 =>
              refine StepL.up fun x V hV hu K Q hK => ?_
              have u3 : x 3 = _ := hu 3 (by decide)
              have fb0 := hV.cell b0
              clear hu
              simp only [putL, List.set_cons_zero, List.set_cons_succ] at hK ⊢
              rw [owp_eq]
              go_big_op
              exact hK _ _ (Below.refl _ _) rfl
            case refine_6 =>
              refine StepL.up fun x V hV hu K Q hK => ?_
              have fx0 := hV.cell x0
              have fx1 := hV.cell x1
              have fx2 := hV.cell x2
              clear hu
              simp only [putL, List.set_cons_zero, List.set_cons_succ] at hK ⊢
              rw [owp_eq]
              go_big_op
              exact hK _ _ (Below.refl _ _) rfl
            case refine_7 =>
              refine StepL.up fun x V hV hu K Q hK => ?_
              have u4 : x 4 = _ := hu 4 (by decide)
              have u5 : x 5 = _ := hu 5 (by decide)
              clear hu
              simp only [putL, List.set_cons_zero, List.set_cons_succ] at hK ⊢
              rw [owp_eq]
              go_big_op
              exact hK _ _ (Below.refl _ _) rfl
            case refine_8 =>
              refine StepL.up fun x V hV hu K Q hK => ?_
              have u6 : x 6 = _ := hu 6 (by decide)
              clear hu
              simp only [putL, List.set_cons_zero, List.set_cons_succ] at hK ⊢
              rw [owp_eq]
              go_big_op
              exact hK _ _ (ba1 V _) ⟨_, rfl, Below.size hV, Bk.new V _ _⟩
            case refine_9 =>
              refine StepL.wr [] (by kernel_rfl) fun x V hV hu K Q hK => ?_
              have HO : OwnS tStw 44 V W.heap.size (Lt W.heap.size) (x 2) _ := hu 2 (by decide)
              obtain ⟨gj, uj, hgj, hkj⟩ := hu 7 (by decide)
              have HSRC := Src.blk (T := tStw) (S := Lt W.heap.size) (ms := [(⟨bid, xc, xt, xh⟩ : Stw)]) hkj (Flat.single rfl) rfl
              clear hu
              simp only [putL, List.set_cons_zero, List.set_cons_succ] at hK ⊢
              refine wp_append_og el_stw (.tmp 58) (.tmp 63) rfl W.heap.size (Lt W.heap.size) _ _ rfl HO _ _ _ [(⟨bid, xc, xt, xh⟩ : Stw)] rfl uj HSRC (by unfold maxLen; simp; omega) (by simp; omega) (Below.size hV) fun v' w' h1 h2 h3 => ?_
              refine hK v' _ (hV.app h3) h1 fun k hk' => ?_
              cases hk'
            case refine_10 =>
              refine StepL.up fun x V hV hu K Q hK => ?_
              have h8 : OwnS tStw 44 V W.heap.size (Lt W.heap.size) (x 8) _ := hu 8 (by decide)
              clear hu
              simp only [putL, List.set_cons_zero, List.set_cons_succ] at hK ⊢
              rw [owp_eq]
              go_big_op
              exact hK _ _ (Below.refl _ _) h8
            case refine_11 =>

            intro x V hV hA
            have h9 : OwnS tStw 44 V W.heap.size (Lt W.heap.size) (x 9) (st ++ [⟨bid, xc, xt, xh⟩]) := hA 9 rfl (by decide)
            simp only [layL, putL, List.set_cons_zero, List.set_cons_succ]
            have HV7 := Lib.hid (show Below W.heap.size W V from hV)
            have HN7 := Lib.hid (h9.lower plain_stw (HI6.out.be.size))
            obtain ⟨A5, c5, e9, hc5, hcm5, hs5⟩ := h9.sl'
            rw [e9] at HN7
            rw [e9]
            clear e9
            generalize hn5 : (st ++ [(⟨bid, xc, xt, xh⟩ : Stw)]).length = n5 at *
            have HI7 := Lib.hid (HI6.out.on HV7.out)
            have HBR7 := Lib.hid (HBR6.out.trans (HV7.out.mono HBR6.out.size))
            have KB7 := Lib.hid (KB6.out.below HV7.out KB6.out.lt)
            have KD7 := Lib.hid (KD6.out.below HV7.out KD6.out.lt)
            have KX7 := Lib.hid (KX6.out.below HV7.out KX6.out.lt)
            have htt := tier_app hT HRT.out (b := bid) HXM.out
            have HRC : Hid (∀ U : World, Below V.heap.size V U → Calls Tryd.prog 67 #[.agg (shpA s h), .slice A8 n8 c8, .slice A5 n5 c5] U (Ret U (.bool (stowRight s (bs ++ [⟨bid, bnum, bsz, bhi, bkg, bld, bdi, bcl, brf⟩]) (st ++ [⟨bid, xc, xt, xh⟩]))))) := Lib.hid fun U hU => by
              obtain ⟨A', c', e', _, _, hs'⟩ := HI7.out.boxes.sl'
              injection e' with e1 _ _
              subst e1
              have hU' := HI7.out.be.trans (hU.mono HI7.out.be.size)
              have k1 := (hs'.below hU).up hU.size
              have k2 := (hs5.below hU).up hU.size
              have k3 := (HSH.out.below hU').up hU'.size
              have k4 := len_app (x := (⟨bid, bnum, bsz, bhi, bkg, bld, bdi, bcl, brf⟩ : Bx)) hbl9
              have k5 := len_app (x := (⟨bid, xc, xt, xh⟩ : Stw)) hsl9
              have k6 := stowRight_any s h A8 c8 (bs ++ [⟨bid, bnum, bsz, bhi, bkg, bld, bdi, bcl, brf⟩]) A5 c5 (st ++ [⟨bid, xc, xt, xh⟩]) U k3 hf hi hcl k1 k4 k2 k5 (by rw [hn5]; exact hc5) htt
              rw [hn8, hn5] at k6
              exact k6
            have HDP : Hid (dropP s (bs ++ [⟨bid, bnum, bsz, bhi, bkg, bld, bdi, bcl, brf⟩]) st ⟨dc, dk, dsm, dhi⟩ ⟨bid, bnum, bsz, bhi, bkg, bld, bdi, bcl, brf⟩ ⟨xc, xt, xh⟩ = ((xc == (dc : Int) % (s.cols.length : Int)) && stowRight s (bs ++ [⟨bid, bnum, bsz, bhi, bkg, bld, bdi, bcl, brf⟩]) (st ++ [⟨bid, xc, xt, xh⟩]))) := Lib.hid rfl
            have SC := HI7.out.ship
            unfold shpA at HRC SC
            clear htt hs5 hA h9 hV HSRC HI6 KB6 KD6 KX6 HBR6 x0 x1 x2 b0
            go_upto_region 14 with fail
            have x0 : ∀ p : Gr V, p.W.cell? ⟨gx, 0, none⟩ = some (.int .i64 xc) := Gr.cell (KX7.out.cell 0)
            have d0 : ∀ p : Gr V, p.W.cell? ⟨gd, 0, none⟩ = some (.int .u8 (dc : Nat)) := Gr.cell (KD7.out.cell 0)
            have e0 : ∀ p : Gr V, p.W.cell? ⟨w.heap.size, 0, none⟩ = some (.slice h.A1 s.cols.length h.c1) := Gr.cell (SC.cell 0)
            have e1 : ∀ p : Gr V, p.W.cell? ⟨w.heap.size, 1, none⟩ = some (.slice h.A2 s.covs.length h.c2) := Gr.cell (SC.cell 1)
            have e2 : ∀ p : Gr V, p.W.cell? ⟨w.heap.size, 2, none⟩ = some (.int .i64 s.l0) := Gr.cell (SC.cell 2)
            have e3 : ∀ p : Gr V, p.W.cell? ⟨w.heap.size, 3, none⟩ = some (.int .i64 s.l1) := Gr.cell (SC.cell 3)
            have e4 : ∀ p : Gr V, p.W.cell? ⟨w.heap.size, 4, none⟩ = some (.int .i64 s.l2) := Gr.cell (SC.cell 4)
            have e5 : ∀ p : Gr V, p.W.cell? ⟨w.heap.size, 5, none⟩ = some (.int .i64 s.l3) := Gr.cell (SC.cell 5)
            have e6 : ∀ p : Gr V, p.W.cell? ⟨w.heap.size, 6, none⟩ = some (.slice h.A3 s.rows.length h.c3) := Gr.cell (SC.cell 6)
            have e7 : ∀ p : Gr V, p.W.cell? ⟨w.heap.size, 7, none⟩ = some (.slice h.A4 s.frames.length h.c4) := Gr.cell (SC.cell 7)
            have e8 : ∀ p : Gr V, p.W.cell? ⟨w.heap.size, 8, none⟩ = some (.slice h.A5 s.tanks.length h.c5) := Gr.cell (SC.cell 8)
            have e9 : ∀ p : Gr V, p.W.cell? ⟨w.heap.size, 9, none⟩ = some (.int .i64 s.m0) := Gr.cell (SC.cell 9)
            have e10 : ∀ p : Gr V, p.W.cell? ⟨w.heap.size, 10, none⟩ = some (.int .i64 s.m1) := Gr.cell (SC.cell 10)
            have e11 : ∀ p : Gr V, p.W.cell? ⟨w.heap.size, 11, none⟩ = some (.int .i64 s.m2) := Gr.cell (SC.cell 11)
            have e12 : ∀ p : Gr V, p.W.cell? ⟨w.heap.size, 12, none⟩ = some (.int .i64 s.m3) := Gr.cell (SC.cell 12)
            clear SC
            generalize stowRight s (bs ++ [⟨bid, bnum, bsz, bhi, bkg, bld, bdi, bcl, brf⟩]) (st ++ [⟨bid, xc, xt, xh⟩]) = rb at *
            cases hqd : (xc == (dc : Int) % (s.cols.length : Int)) with
            | false =>
              rw [hqd] at HDP
              refine wp_region_gr (by kernel_rfl) (by kernel_rfl) ?_
              repeat (go_big_quiet_step ((with_reducible exact Gr.call _ (fun U hU => HRC.out U hU))))
              refine wpQuiet_nil ?_
              rintro Y ⟨⟨_, hbY⟩, rfl⟩
              clear x0 d0 e0 e1 e2 e3 e4 e5 e6 e7 e8 e9 e10 e11 e12 HRC
              have HBY := Lib.hid (HBR7.out.trans (hbY.mono HBR7.out.size))
              have HNY := Lib.hid (not_before HNO.out (by rw [HX.out, HDP.out]; rfl))
              go_wp2_with fail
              go_roundw
              case rel => (repeat apply Exists.intro); (first | exact ⟨⟨j + 1, rfl, hjl, by go_num, HNY, HBY⟩, rfl⟩ | exact ⟨rfl, hjl, by go_num, HNY, HBY⟩)
              case measure => simp [intOf]; omega
            | true =>
              rw [hqd] at HDP
              refine wp_region_gr (by kernel_rfl) (by kernel_rfl) ?_
              repeat (go_big_quiet_step ((with_reducible exact Gr.call _ (fun U hU => HRC.out U hU))))
              refine wpQuiet_nil ?_
              rintro Y ⟨⟨_, hbY⟩, rfl⟩
              clear x0 d0 e0 e1 e2 e3 e4 e5 e6 e7 e8 e9 e10 e11 e12 HRC
              have HBY := Lib.hid (HBR7.out.trans (hbY.mono HBR7.out.size))
              cases rb with
              | false =>
                have HNY := Lib.hid (not_before HNO.out (by rw [HX.out, HDP.out]; rfl))
                go_wp2_with fail
                go_roundw
                case rel => (repeat apply Exists.intro); (first | exact ⟨⟨j + 1, rfl, hjl, by go_num, HNY, HBY⟩, rfl⟩ | exact ⟨rfl, hjl, by go_num, HNY, HBY⟩)
                case measure => simp [intOf]; omega
              | true =>
                have HST : Hid (dropS s (bs ++ [⟨bid, bnum, bsz, bhi, bkg, bld, bdi, bcl, brf⟩]) st ⟨dc, dk, dsm, dhi⟩ ⟨bid, bnum, bsz, bhi, bkg, bld, bdi, bcl, brf⟩ = st ++ [⟨bid, xc, xt, xh⟩]) := Lib.hid (by
                  have h1 := drop_hit (s := s) (bs := bs ++ [⟨bid, bnum, bsz, bhi, bkg, bld, bdi, bcl, brf⟩]) (st := st) (d := ⟨dc, dk, dsm, dhi⟩) (b := ⟨bid, bnum, bsz, bhi, bkg, bld, bdi, bcl, brf⟩) (j := j) (by rw [HLE.out]; exact hjl) (by rw [HLE.out]; exact HNO.out) (by rw [HLE.out, HX.out, HDP.out]; rfl)
                  rw [h1, HLE.out, HX.out])
                have HLY : Hid (LdI w Y s h (.slice A8 n8 c8) (.slice A5 n5 c5) (loadTo s ds (k + 1)).1 (loadTo s ds (k + 1)).2) := Lib.hid (by
                  rw [HLS.out, HST.out]
                  have hi9 := HI7.out.on hbY
                  exact ⟨hi9.boxes, HN7.out.below hbY, hi9.be, hi9.ship⟩)
                go_wp2_with fail
                go_roundw
                case rel => (repeat apply Exists.intro); (first | exact ⟨⟨k + 1, hlt, by go_num, HLY⟩, rfl⟩ | exact ⟨hlt, by go_num, HLY⟩)
                case measure => simp [intOf]; omega
          · obtain rfl : j = L.length := by omega
            have HST : Hid (dropS s (bs ++ [⟨bid, bnum, bsz, bhi, bkg, bld, bdi, bcl, brf⟩]) st ⟨dc, dk, dsm, dhi⟩ ⟨bid, bnum, bsz, bhi, bkg, bld, bdi, bcl, brf⟩ = st) := Lib.hid (drop_miss (by rw [HLE.out]; exact HNO.out))
            have HLY : Hid (LdI w V4 s h (.slice A8 n8 c8) (.slice A3 st.length q3) (loadTo s ds (k + 1)).1 (loadTo s ds (k + 1)).2) := Lib.hid (by
              rw [HLS.out, HST.out]
              exact HI5.out.on HBR.out)
            go_wp2_with fail
            go_roundw
            case rel => (repeat apply Exists.intro); (first | exact ⟨⟨k + 1, hlt, by go_num, HLY⟩, rfl⟩ | exact ⟨hlt, by go_num, HLY⟩)
            case measure => simp [intOf]; omega
    · obtain rfl : k = N := by omega
      go_wp2
      go_ret2
      exact ⟨_, _, rfl, HI.out.boxes, HI.out.state, HI.out.be⟩
end Go.Proofs.YtnbpecnddjpfbaaDoor
