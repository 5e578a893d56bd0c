/-
  Contracts and lemmas, in one text: LnA, LnB, LnC, LnD, LnE, LnF, LnG.
-/
import Derived.Test.YtmhikcleekfbpaaGreatDoorB4
import Derived.IntWalk
namespace Go.Proofs.YtmhikcleekfbpaaGreatDoor
open Go.RowKit

theorem mark_any (k i : Int) (w : World) (hk : 0 ≤ k ∧ k ≤ 100) (hi : 0 ≤ i ∧ i ≤ 1000000) :
    Calls Tryz.prog 52 #[.int .i64 k, .int .i64 i] w fun e w' => e = .returned (.int .i64 (1000003 * (k + 7) + i)) ∧ w = w' := by
  go_enter Tryz.func52, Tryz.ntmps52
  go_wp2
  go_ret
  exact ⟨rfl, rfl⟩
/-- The marks behind a slice. -/
def mk1 (i : Nat) : Int := 8000024 + i
def marksI (n : Nat) : List Int := (List.range n).map mk1
theorem marksI_succ (n : Nat) : marksI (n + 1) = marksI n ++ [mk1 n] := by simp [marksI, List.range_succ]
theorem marksI_len (n : Nat) : (marksI n).length = n := by simp [marksI]
theorem mark1_any (i : Nat) (w : World) (hi : i ≤ 1000) : Calls Tryz.prog 52 #[.int .i64 1, .int .i64 (i : Int)] w fun e w' => e = .returned (.int .i64 (mk1 i)) ∧ w = w' :=
  (mark_any 1 i w (by omega) (by omega)).mono fun e w' ⟨h1, h2⟩ => ⟨by rw [h1]; rfl, h2⟩
/-- The call's own blocks. -/
def Fr (base : Nat) (w : World) (b : Nat) : Prop := base ≤ b ∧ b < w.heap.size
theorem Flat.intsK {w w' : World} {S S' : Nat → Prop} : ∀ {xs : List Value} {l : List Int}, Flat tInt w S xs l → Flat tInt w' S' xs l
  | _, [], h => h
  | _, _ :: _, ⟨cs, ys, e, h1, h2⟩ => ⟨cs, ys, e, h1, Flat.intsK h2⟩
theorem OwnS.none_ {w : World} {e : TypeId} {base : Nat} {S : Nat → Prop} {v : Value} {l : List Int} (h : OwnS tInt e w base S v l) : OwnS tInt e w base (fun _ => False) v l := by
  obtain ⟨xs, h1, h2, _⟩ := h
  exact ⟨xs, h1, h2.intsK, fun _ h => h.elim⟩
theorem or2_fr {S : Nat → Prop} {base : Nat} {w : World} (h : ∀ b, S b → Fr base w b) : ∀ b, Or2 S base w b → Fr base w b := fun b hb => by
  rcases hb with hb | hb
  · exact h b hb
  · exact hb
/-- What a Lent function returns: the list, the marks behind it; all of it is the call's own. -/
def LentRet {α : Type} (T : Ty α) (w : World) (l ms : List α) (e : Ending) (w' : World) : Prop :=
  ∃ A c, e = .returned (.slice A l.length c) ∧ l.length + ms.length ≤ c ∧ c ≤ maxLen ∧ SlT T w' (Fr w.heap.size w') A (l ++ ms) ∧ Below w.heap.size w w'
theorem or2_lt {w w' : World} (h : w.heap.size ≤ w'.heap.size) : ∀ b, Or2 (Lt w.heap.size) w.heap.size w' b → Lt w'.heap.size b := fun b hb => by
  rcases hb with hb | hb
  · exact Nat.lt_of_lt_of_le hb h
  · exact hb.2

set_option maxRecDepth 100000 in
set_option maxHeartbeats 2000000 in
theorem lentInts_any (A : Option Addr) (c : Nat) (l : List Int) (w : World) (hs : SlT tInt w (Lt w.heap.size) A l) (hr : l.length ≤ 17592186043904) :
    Calls Tryz.prog 83 #[.slice A l.length c] w (LentRet tInt w l (marksI 12)) := by
  obtain ⟨i0, z, hi, hz, h4, h5, _⟩ := el_int.info
  have HS := Lib.hid hs; clear hs
  have hfin : Hid (∀ wr v, OwnS tInt 3 wr w.heap.size (Lt w.heap.size) v (l ++ marksI 12) → Below w.heap.size w wr → ∃ A c, v = .slice A (l.length + 12) c ∧ l.length + 12 ≤ c ∧ c ≤ maxLen ∧ SlT tInt wr (Fr w.heap.size wr) A (l ++ marksI 12)) := Lib.hid fun wr v ho hb => by
    obtain ⟨A, c, rfl, h1, h2, h3⟩ := ho.none_.sl
    rw [List.length_append, marksI_len] at h1
    exact ⟨A, c, by rw [List.length_append, marksI_len], h1, h2, h3.more (or2_fr fun _ h => h.elim)⟩
  go_enter Tryz.func83, Tryz.ntmps83
  go_wp2_with (at_make; refine wpList_make_own _ rfl _ _ 48 rfl w.heap.size 3 i0 z 1 el_int.under hi hz h4 _ _ _ (l.length + 12) rfl rfl ?k1 ?k2 ?k3 ?k4 ?_)
  case k1 => omega
  case k2 => rw [h5]; omega
  case k3 => unfold maxLen; omega
  case k4 => exact Nat.le_refl _
  intro w1 ho1 hg1
  have hb1 : Below w.heap.size w w1 := ⟨hg1.os, hg1.tape, hg1.output, hg1.size, fun k hk => hg1.block k hk (by simp)⟩
  have hO1 : OwnS tInt 3 w1 w.heap.size (Lt w.heap.size) (.slice (some ⟨w.heap.size, 0, none⟩) 0 (l.length + 12)) [] := ⟨[], ho1, rfl, fun b hb => ⟨Nat.lt_of_lt_of_le hb hb1.size, by have hb : b < w.heap.size := hb; simp [Value.ownBlock]; omega⟩⟩
  clear ho1 hg1
  have hz1 := hb1.size
  go_wp2_with (at_builtin; refine wpList_append_R el_int rfl (.tmp 9) (.tmp 10) rfl w.heap.size (Lt w.heap.size) (.slice (some ⟨w.heap.size, 0, none⟩) 0 (l.length + 12)) [] rfl hO1 A l.length c l rfl rfl ((HS.out.keepB (B := w.heap.size) (fun _ h => h) hb1).src rfl fun b hb => Nat.lt_of_lt_of_le hb hz1) ?d1 ?d2 ?d3 ?_)
  case d1 => unfold maxLen; simp; omega
  case d2 => simp; omega
  case d3 => exact hz1
  intro v2 w2 hO2 hg2 hb2
  have hb2' := hb1.trans hb2
  clear hO1 hb1 hg2 hb2 hz1 HS
  go_wp2
  go_loopw [3, 4] (fun v i wr => ∃ k : Nat, k ≤ 12 ∧ i = .int .i64 k ∧ OwnS tInt 3 wr w.heap.size (Lt w.heap.size) v (l ++ marksI k) ∧ Below w.heap.size w wr) (fun _ i _ => 12 - (intOf i).toNat)
  case atStart => exact ⟨0, by omega, rfl, by simpa [marksI] using hO2, hb2'⟩
  case round =>
    clear hO2 hb2'
    obtain ⟨k, hk, rfl, hown, hb⟩ := hrel
    have hz := hb.size
    have hml := marksI_len k
    by_cases hlt : k < 12
    · obtain ⟨xs, ho, hfl, hS⟩ := id hown
      go_wp2_with (first | (go_at_call 52; refine (mark1_any k _ (by omega)).mono ?_; rintro e w' ⟨rfl, rfl⟩) | (at_builtin; refine wpList_append_R el_int rfl (.tmp 16) (.tmp 19) rfl w.heap.size (Lt w.heap.size) _ (l ++ marksI k) rfl (hown.below (ba1 wr (.cells #[.int .i64 (mk1 k)] 3))) (some ⟨wr.heap.size, 0, none⟩) 1 1 [mk1 k] rfl rfl (Src.new (Flat.single rfl) rfl) ?e1 ?e2 ?e3 ?_))
      case e1 => unfold maxLen; simp; omega
      case e2 => simp; omega
      case e3 => simp; omega
      intro v3 w3 hO3 hg3 hb3
      go_wp2
      go_roundw
      case rel => exact ⟨k + 1, by omega, by go_num, by rw [marksI_succ]; simpa using hO3, (hb.alloc hz _).trans hb3⟩
      case measure => simp [intOf]; omega
    · obtain rfl : k = 12 := by omega
      obtain ⟨A', c', rfl, h1, h2, h3⟩ := hfin.out _ _ hown hb
      clear hown
      have i1 : (0 : Int) ≤ (l.length : Int) := by omega
      have i2 : (l.length : Int) ≤ (c' : Int) := by omega
      unfold maxLen at h2
      go_wp2
      go_ret
      exact ⟨A', c', rfl, h1, by unfold maxLen; omega, h3, hb⟩

theorem getD_app_l {α : Type} {l m : List α} {i : Nat} (h : i < l.length) (d : α) : (l ++ m).getD i d = l.getD i d := by
  simp [List.getElem?_append_left h]
theorem getD_app_r {α : Type} {l m : List α} {i : Nat} (h : l.length ≤ i) (d : α) : (l ++ m).getD i d = m.getD (i - l.length) d := by
  simp [List.getElem?_append_right h]
theorem marksI_at {i : Nat} (h : i < 12) : (marksI 12).getD i 0 = mk1 i := by
  unfold marksI; simp [h]
end Go.Proofs.YtmhikcleekfbpaaGreatDoor
namespace Go.Proofs.YtmhikcleekfbpaaGreatDoor
open Go.RowKit

theorem info_colK : (Tryz.prog.info? 50).map (·.size) = some 12 := by kernel_rfl
/-- A lent column: its plugs' slice goes on into the marks ms. -/
def tColK : Ty (Col × List Int) where
  k := 12
  pos := by decide
  rd := fun w S cs c => ∃ A p, cs = colL c.1 A p ∧ c.1.plugs.length + c.2.length ≤ p ∧ SlT tInt w S A (c.1.plugs ++ c.2)
  len := by rintro _ _ _ _ ⟨A, c, rfl, _⟩; rfl
  one := by rintro _ _ _ _ ⟨A, c, rfl, _⟩; rfl
  keep := by rintro _ _ _ _ _ ⟨A, c, rfl, h1, h2⟩ hk; exact ⟨A, c, rfl, h1, h2.keep hk⟩
  more := by rintro _ _ _ _ _ ⟨A, c, rfl, h1, h2⟩ hk; exact ⟨A, c, rfl, h1, h2.more hk⟩
theorem SlT.fst {α : Type} {T : Ty α} {w : World} {S : Nat → Prop} {A : Option Addr} {l m : List α} (h : SlT T w S A (l ++ m)) : SlT T w S A l := fun hn => by
  obtain ⟨b, off, hA, hb, hc⟩ := h (by intro e; exact hn (List.append_eq_nil_iff.1 e).1)
  exact ⟨b, off, hA, hb, fun i x hx => hc i x (by rw [List.getElem?_append_left (List.getElem?_eq_some_iff.1 hx).1]; exact hx)⟩
theorem cell_farK {w : World} {p : Addr} {u : Value} {b o : Nat} (h : b ≠ p.block) : (w.setCell p u).cell? ⟨b, o, none⟩ = w.cell? ⟨b, o, none⟩ := World.cell?_of_block (Below.heap_setCell w p u b h)
theorem Bk.nxt {w : World} (o : Obj) (t : TypeId) (cs : Array Value) : Bk ((w.alloc o).alloc (.cells cs t)) (w.heap.size + 1) t cs := by
  have h := Bk.new (w.alloc o) t cs
  have e : (w.alloc o).heap.size = w.heap.size + 1 := by simp
  rw [e] at h
  exact h
def mkCol (i : Nat) : Col := { (default : Col) with bay := mk1 i }
set_option maxRecDepth 100000 in
set_option maxHeartbeats 2000000 in
theorem markColumn_any (i : Nat) (w : World) (hi : i ≤ 1000) :
    Calls Tryz.prog 45 #[.int .i64 1, .int .i64 (i : Int)] w (Ret w (.agg (colL (mkCol i) none 0).toArray)) := by
  go_enter Tryz.func45, Tryz.ntmps45
  go_wp2_with (go_at_call 52; refine (mark1_any i _ hi).mono ?_; rintro e w' ⟨rfl, rfl⟩)
  exact bodyPost_ret (results_row1 rfl _ _ w.heap.size 50 (colL (mkCol i) none 0).toArray _ rfl (Bk.new w _ _) Tryz.underlying50 rfl info_colK) rfl ⟨rfl, ba1 w _⟩
set_option maxRecDepth 100000 in
set_option maxHeartbeats 2000000 in
theorem lentColumn_any (x : Col) (A : Option Addr) (p : Nat) (w : World) (hs : SlT tInt w (Lt w.heap.size) A x.plugs) (hr : x.plugs.length ≤ 17592186043904) :
    Calls Tryz.prog 44 #[.agg (colL x A p).toArray] w (fun e w' => Below w.heap.size w w' ∧ ∃ A' p', e = .returned (.agg (colL x A' p').toArray) ∧ x.plugs.length + 12 ≤ p' ∧ SlT tInt w' (Fr w.heap.size w') A' (x.plugs ++ marksI 12)) := by
  have hb0 := ba2 w (.cells (colL x A p).toArray 50) (.cells (colL (default : Col) none 0).toArray 50)
  have HC := Lib.hid (lentInts_any A p x.plugs _ (hs.on hb0) hr)
  have HB0 := Lib.hid hb0
  have KX := Lib.hid ((Bk.new w 50 (colL x A p).toArray).alloc (.cells (colL (default : Col) none 0).toArray 50))
  have KZ := Lib.hid (Bk.nxt (w := w) (.cells (colL x A p).toArray 50) 50 (colL (default : Col) none 0).toArray)
  clear hs hb0
  have hx : Hid (∀ A' p', (colL x A' p').toArray = #[.int .i64 x.bay, .int .i64 x.row, .bool x.deck, .int .i64 x.tiers, .int .i64 x.height, .int .i64 x.k20, .int .i64 x.k40, .int .i64 x.lash, .slice A' x.plugs.length p', .int .i64 x.x, .int .i64 x.y, .int .i64 x.z]) := Lib.hid fun _ _ => rfl
  go_enter Tryz.func44, Tryz.ntmps44
  simp only [hx.out]
  go_wp2_with fail
  refine HC.out.mono ?_
  rintro e V ⟨A', p', rfl, hp, hpm, hs', hb⟩
  simp only
  have hb2 := HB0.out.trans (hb.mono HB0.out.size)
  have kx := KX.out.below hb KX.out.lt
  have kz := KZ.out.below hb KZ.out.lt
  have y8 : V.cell? ⟨w.heap.size, 8, none⟩ = some (.slice A x.plugs.length p) := kx.cell 8
  have f8 := kx.frozen 8
  have HK2 : Hid (Bk (V.setCell ⟨w.heap.size, 8, none⟩ (.slice A' x.plugs.length p')) w.heap.size 50 (colL x A' p').toArray) := Lib.hid (kx.set_ 8 _)
  have HZ2 : Hid (Bk (V.setCell ⟨w.heap.size, 8, none⟩ (.slice A' x.plugs.length p')) (w.heap.size + 1) 50 (colL (default : Col) none 0).toArray) := Lib.hid (kz.far (p := ⟨w.heap.size, 8, none⟩) (by show w.heap.size + 1 ≠ w.heap.size; omega) _)
  have HS : Hid (∀ V' : World, (V.setCell ⟨w.heap.size, 8, none⟩ (.slice A' x.plugs.length p')).grownBy V' (some (w.heap.size + 1)) → Below w.heap.size w V' ∧ SlT tInt V' (Fr w.heap.size V') A' (x.plugs ++ marksI 12)) := Lib.hid fun V' hg => by
    have hsz : ((w.alloc (.cells (colL x A p).toArray 50)).alloc (.cells (colL (default : Col) none 0).toArray 50)).heap.size = w.heap.size + 2 := by simp
    have hs0 : (V.setCell ⟨w.heap.size, 8, none⟩ (.slice A' x.plugs.length p')).heap.size = V.heap.size := by simp [World.setCell]
    have hk : ∀ b o, Fr (w.heap.size + 2) V b → V'.cell? ⟨b, o, none⟩ = V.cell? ⟨b, o, none⟩ := fun b o hb => by
      rw [World.cell?_of_block (hg.block b (by rw [hs0]; exact hb.2) (by intro e; injection e with e; have := hb.1; omega))]
      exact cell_farK (by show b ≠ w.heap.size; have := hb.1; omega)
    rw [hsz] at hs'
    refine ⟨?_, (hs'.keep hk).more fun b hb => ⟨by have := hb.1; omega, Nat.lt_of_lt_of_le hb.2 (hs0 ▸ hg.size)⟩⟩
    have h1 := hb2.setCell (p := ⟨w.heap.size, 8, none⟩) (Nat.le_refl _) (.slice A' x.plugs.length p')
    exact ⟨hg.os.trans h1.os, hg.tape.trans h1.tape, hg.output.trans h1.output, Nat.le_trans h1.size hg.size, fun k hk' => (hg.block k (Nat.lt_of_lt_of_le hk' h1.size) (by intro e; injection e with e; omega)).trans (h1.block k hk')⟩
  clear HC HB0 KX KZ hb hb2 kx kz hs'
  go_wp2_with (first | (refine wpList_load_row rfl 50 (.tmp 1) rfl w.heap.size rfl 50 (colL x A' p').toArray (0, 0) _ HK2.out.eq Tryz.underlying50 rfl info_colK ?_) | (refine wpList_store_abs rfl 50 (.tmp 2) (.tmp 7) rfl (w.heap.size + 1) (colL x A' p').toArray rfl rfl 50 _ HZ2.out info_colK rfl (by kernel_rfl) ?_; intro V' hk hg))
  exact bodyPost_ret (results_row1 rfl _ _ (w.heap.size + 1) 50 (colL x A' p').toArray _ rfl hk Tryz.underlying50 rfl info_colK) rfl ⟨(HS.out V' hg).1, A', p', rfl, by rw [marksI_len] at hp; exact hp, (HS.out V' hg).2⟩
end Go.Proofs.YtmhikcleekfbpaaGreatDoor
namespace Go.Proofs.YtmhikcleekfbpaaGreatDoor
open Go.RowKit

/-- A slice of the call's own whose elements point to blocks of the call's own. -/
def OwnF {α : Type} (T : Ty α) (e : TypeId) (w : World) (base : Nat) (v : Value) (l : List α) : Prop := ∃ S, (∀ b, S b → Fr base w b) ∧ OwnS T e w base S v l
theorem OwnF.sl {α : Type} {T : Ty α} {e : TypeId} {w : World} {base : Nat} {v : Value} {l : List α} (h : OwnF T e w base v l) : ∃ A c, v = .slice A l.length c ∧ l.length ≤ c ∧ c ≤ maxLen ∧ SlT T w (Fr base w) A l := by
  obtain ⟨S, hS, ho⟩ := h
  obtain ⟨A, c, rfl, h1, h2, h3⟩ := ho.sl
  exact ⟨A, c, rfl, h1, h2, h3.more (or2_fr hS)⟩
/-- Behind a call: the blocks that it has made may be pointed to. -/
theorem OwnF.wide {α : Type} {T : Ty α} {e : TypeId} {w w' : World} {base : Nat} {v : Value} {l : List α} (h : OwnF T e w base v l) (hb : Below w.heap.size w w') (hB : base ≤ w.heap.size) :
    ∃ S, (∀ b, S b → Fr base w' b) ∧ (∀ b, w.heap.size ≤ b → b < w'.heap.size → S b) ∧ OwnS T e w' base S v l := by
  obtain ⟨S, hS, xs, h1, h2, h3⟩ := h
  refine ⟨fun b => S b ∨ (w.heap.size ≤ b ∧ b < w'.heap.size), fun b hb' => ?_, fun b h1 h2 => .inr ⟨h1, h2⟩, xs, own_below h1 hb (Nat.le_refl _), (h2.keep fun b o hs => hb.cell (p := ⟨b, o, none⟩) (h3 b hs).1).more fun b h => .inl h, fun b hb' => ?_⟩
  · rcases hb' with h | h
    · exact ⟨(hS b h).1, Nat.lt_of_lt_of_le (hS b h).2 hb.size⟩
    · exact ⟨Nat.le_trans hB h.1, h.2⟩
  · rcases hb' with h | h
    · exact ⟨Nat.lt_of_lt_of_le (h3 b h).1 hb.size, (h3 b h).2⟩
    · refine ⟨h.2, fun e => ?_⟩
      have := (h1.lt b e.symm).2
      omega
theorem OwnF.of {α : Type} {T : Ty α} {e : TypeId} {w : World} {base : Nat} {S : Nat → Prop} {v : Value} {l : List α} (h : OwnS T e w base S v l) (hS : ∀ b, S b → Fr base w b) : OwnF T e w base v l := ⟨S, hS, h⟩
/-- The columns lent, the marks behind them. -/
def lentC (l : List Col) : List (Col × List Int) := l.map fun c => (c, marksI 12)
def marksC (n : Nat) : List (Col × List Int) := (List.range n).map fun i => (mkCol i, [])
theorem marksC_succ (n : Nat) : marksC (n + 1) = marksC n ++ [(mkCol n, [])] := by simp [marksC, List.range_succ]
theorem marksC_len (n : Nat) : (marksC n).length = n := by simp [marksC]
theorem lentC_len (l : List Col) : (lentC l).length = l.length := by simp [lentC]
theorem lentC_succ {l : List Col} {k : Nat} (h : k < l.length) : lentC (l.take (k + 1)) = lentC (l.take k) ++ [(l.getD k default, marksI 12)] := by
  unfold lentC
  rw [List.take_add_one, List.map_append]
  simp [h]
set_option maxRecDepth 100000 in
set_option maxHeartbeats 4000000 in
theorem lentColumns_any (A : Option Addr) (c : Nat) (l : List Col) (w : World) (hs : SlT tCol w (Lt w.heap.size) A l) (hr : l.length ≤ 1000000000) (hp : ∀ x ∈ l, x.plugs.length ≤ 17592186043904) :
    Calls Tryz.prog 19 #[.slice A l.length c] w (fun e w' => Below w.heap.size w w' ∧ ∃ v, e = .returned (.slice (v : Option Addr × Nat).1 l.length v.2) ∧ OwnF tColK 50 w' w.heap.size (.slice v.1 (l.length + 12) v.2) (lentC l ++ marksC 12)) := by
  obtain ⟨i0, z, hi, hz, h4, h5, _⟩ := el_col.info
  have HS := Lib.hid hs; clear hs
  have HP := Lib.hid hp; clear hp
  go_enter Tryz.func19, Tryz.ntmps19
  go_wp2_with (at_make; refine wpList_make_own _ rfl _ _ 22 rfl w.heap.size 50 i0 z 12 el_col.under hi hz h4 _ _ _ (l.length + 12) rfl rfl ?k1 ?k2 ?k3 ?k4 ?_)
  case k1 => omega
  case k2 => rw [h5]; omega
  case k3 => unfold maxLen; omega
  case k4 => exact Nat.le_refl _
  intro w1 ho1 hg1
  have hb1 : Below w.heap.size w w1 := ⟨hg1.os, hg1.tape, hg1.output, hg1.size, fun k hk => hg1.block k hk (by simp)⟩
  have HO1 : Hid (OwnF tColK 50 w1 w.heap.size (.slice (some ⟨w.heap.size, 0, none⟩) 0 (l.length + 12)) (lentC (l.take 0))) := Lib.hid (.of (S := fun _ => False) ⟨[], ho1, rfl, fun b h => h.elim⟩ fun _ h => h.elim)
  have HB1 := Lib.hid hb1
  clear ho1 hg1 hb1
  go_wp2_with fail
  go_loopw [3, 4] (fun v i wr => ∃ k : Nat, k ≤ l.length ∧ i = .int .i64 k ∧ Hid (OwnF tColK 50 wr w.heap.size v (lentC (l.take k)) ∧ Below w.heap.size w wr)) (fun _ i _ => l.length - (intOf i).toNat)
  case atStart => exact ⟨0, Nat.zero_le _, rfl, Lib.hid ⟨HO1.out, HB1.out⟩⟩
  case round =>
    clear HO1 HB1
    try clear w1
    rename_i v i wr
    obtain ⟨k, hk, rfl, HV⟩ := hrel
    obtain ⟨V, rfl⟩ : ∃ V, V = wr := ⟨_, rfl⟩
    by_cases hlt : k < l.length
    · obtain ⟨b, off, Ap, p, rfl, hbB, hpp, hps, d0, d1, d2, d3, d4, d5, d6, d7, d8, d9, d10, d11⟩ := (HS.out.on HV.out.2).col hlt
      have i0' : (0 : Int) ≤ (k : Int) := by omega
      have i1' : (k : Int) < (l.length : Int) := by omega
      have HXP := HP.out _ (getD_memD hlt default)
      have HSU := Lib.hid (lentC_succ hlt)
      have hln : (lentC (l.take k)).length = k := by rw [lentC_len, List.length_take]; omega
      generalize lentC (l.take k) = L at *
      generalize l.getD k default = x at *
      have HC := Lib.hid (lentColumn_any x Ap p V hps HXP)
      have hx : Hid (∀ A' p', (colL x A' p').toArray = #[.int .i64 x.bay, .int .i64 x.row, .bool x.deck, .int .i64 x.tiers, .int .i64 x.height, .int .i64 x.k20, .int .i64 x.k40, .int .i64 x.lash, .slice A' x.plugs.length p', .int .i64 x.x, .int .i64 x.y, .int .i64 x.z]) := Lib.hid fun _ _ => rfl
      clear hps HXP hpp
      go_wp2_with fail
      refine HC.out.mono ?_
      rintro e V2 ⟨hb, A', p', rfl, hp', hs'⟩
      simp only [hx.out]
      clear d0 d1 d2 d3 d4 d5 d6 d7 d8 d9 d10 d11
      have hz := HV.out.2.size
      have hb2 : Below V.heap.size V ((V2.alloc (.cells (colL x A' p').toArray 50)).alloc (.cells (colL x A' p').toArray 50)) := hb.trans ((ba2 V2 _ _).mono hb.size)
      obtain ⟨S, hS1, hS2, hO⟩ := HV.out.1.wide hb2 hz
      have HO := Lib.hid hO
      have hz2 : V2.heap.size ≤ ((V2.alloc (.cells (colL x A' p').toArray 50)).alloc (.cells (colL x A' p').toArray 50)).heap.size := by simp; omega
      have HSR : Hid (Src tColK ((V2.alloc (.cells (colL x A' p').toArray 50)).alloc (.cells (colL x A' p').toArray 50)) S (some ⟨V2.heap.size + 1, 0, none⟩) 1 [(x, marksI 12)]) := Lib.hid (Src.blk (Bk.nxt _ _ _) (Flat.single ⟨A', p', rfl, by rw [marksI_len]; exact hp', (hs'.keepB (B := V2.heap.size) (fun b h => h.2) (ba2 V2 _ _)).more fun b h => hS2 b h.1 (Nat.lt_of_lt_of_le h.2 hz2)⟩) rfl)
      have HB2 := Lib.hid (HV.out.2.trans (hb2.mono hz))
      have HF : Hid (∀ v' w', OwnS tColK 50 w' w.heap.size S v' (L ++ [(x, marksI 12)]) → Below w.heap.size ((V2.alloc (.cells (colL x A' p').toArray 50)).alloc (.cells (colL x A' p').toArray 50)) w' → OwnF tColK 50 w' w.heap.size v' (lentC (l.take (k + 1))) ∧ Below w.heap.size w w') := Lib.hid fun v' w' h1 h2 => by
        rw [HSU.out]
        exact ⟨.of h1 fun b h => ⟨(hS1 b h).1, Nat.lt_of_lt_of_le (hS1 b h).2 h2.size⟩, HB2.out.trans h2⟩
      have hzz : w.heap.size ≤ ((V2.alloc (.cells (colL x A' p').toArray 50)).alloc (.cells (colL x A' p').toArray 50)).heap.size := HB2.out.size
      clear HC hb hs' hp' hb2 hO hS1 hS2 hz2 HV HSU
      go_wp2_with (at_builtin; refine wpList_append_R (T := tColK) el_col rfl (.tmp 22) (.tmp 24) rfl w.heap.size S _ L rfl HO.out (some ⟨V2.heap.size + 1, 0, none⟩) 1 1 [(x, marksI 12)] rfl rfl HSR.out ?e1 ?e2 hzz ?_)
      case e1 => unfold maxLen; omega
      case e2 => omega
      intro v3 w3 hO3 hg3 hb3
      have HN := Lib.hid (HF.out v3 w3 hO3 hb3)
      clear HF HO HSR hO3 hg3 hb3
      go_wp2_with fail
      go_roundw
      case rel => first | exact ⟨k + 1, by omega, by go_num, HN⟩ | ((repeat apply Exists.intro); (first | exact ⟨⟨k + 1, by omega, by go_num, HN⟩, rfl⟩ | exact ⟨by omega, by go_num, HN⟩))
      case measure => simp [intOf]; omega
    · obtain rfl : k = l.length := by omega
      rw [List.take_length] at HV
      clear HS HP hk
      generalize hLl : lentC l = Ll at *
      have hln : Ll.length = l.length := by rw [← hLl, lentC_len]
      have HLL := Lib.hid hLl
      clear hLl
      go_wp2_with fail
      go_loopw [3, 6] (fun v i wr => ∃ k : Nat, k ≤ 12 ∧ i = .int .i64 k ∧ Hid (OwnF tColK 50 wr w.heap.size v (Ll ++ marksC k) ∧ Below w.heap.size w wr)) (fun _ i _ => 12 - (intOf i).toNat)
      case atStart => exact ⟨0, Nat.zero_le _, rfl, Lib.hid ⟨by simpa [marksC] using HV.out.1, HV.out.2⟩⟩
      case round =>
        clear HV
        try clear V
        rename_i v i wr
        obtain ⟨k, hk, rfl, HV⟩ := hrel
        obtain ⟨V, rfl⟩ : ∃ V, V = wr := ⟨_, rfl⟩
        by_cases hlt : k < 12
        · have i0' : (0 : Int) ≤ (k : Int) := by omega
          have i1' : (k : Int) < 12 := by omega
          have HSU := Lib.hid (marksC_succ k)
          have hmk : (marksC k).length = k := marksC_len k
          have HC := Lib.hid (markColumn_any k V (by omega))
          have hx : Hid ((colL (mkCol k) none 0).toArray = #[.int .i64 (mk1 k), .int .i64 0, .bool false, .int .i64 0, .int .i64 0, .int .i64 0, .int .i64 0, .int .i64 0, .slice none 0 0, .int .i64 0, .int .i64 0, .int .i64 0]) := Lib.hid rfl
          generalize marksC k = M at *
          go_wp2_with fail
          refine HC.out.mono ?_
          rintro e V2 ⟨rfl, hb⟩
          simp only [hx.out]
          have hz := HV.out.2.size
          have hb2 : Below V.heap.size V (V2.alloc (.cells (colL (mkCol k) none 0).toArray 50)) := hb.trans ((ba1 V2 _).mono hb.size)
          obtain ⟨S, hS1, hS2, hO⟩ := HV.out.1.wide hb2 hz
          have HO := Lib.hid hO
          have HSR : Hid (Src tColK (V2.alloc (.cells (colL (mkCol k) none 0).toArray 50)) S (some ⟨V2.heap.size, 0, none⟩) 1 [(mkCol k, [])]) := Lib.hid (Src.blk (Bk.new V2 _ _) (Flat.single ⟨none, 0, rfl, Nat.le_refl _, SlT.nil⟩) rfl)
          have HB2 := Lib.hid (HV.out.2.trans (hb2.mono hz))
          have HF : Hid (∀ v' w', OwnS tColK 50 w' w.heap.size S v' (Ll ++ M ++ [(mkCol k, [])]) → Below w.heap.size (V2.alloc (.cells (colL (mkCol k) none 0).toArray 50)) w' → OwnF tColK 50 w' w.heap.size v' (Ll ++ marksC (k + 1)) ∧ Below w.heap.size w w') := Lib.hid fun v' w' h1 h2 => by
            rw [HSU.out, ← List.append_assoc]
            exact ⟨.of h1 fun b h => ⟨(hS1 b h).1, Nat.lt_of_lt_of_le (hS1 b h).2 h2.size⟩, HB2.out.trans h2⟩
          have hzz : w.heap.size ≤ (V2.alloc (.cells (colL (mkCol k) none 0).toArray 50)).heap.size := HB2.out.size
          clear HC hb hb2 hO hS1 hS2 HV HSU
          go_wp2_with (at_builtin; refine wpList_append_R (T := tColK) el_col rfl (.tmp 30) (.tmp 33) rfl w.heap.size S _ (Ll ++ M) rfl HO.out (some ⟨V2.heap.size, 0, none⟩) 1 1 [(mkCol k, [])] rfl rfl HSR.out ?f1 ?f2 hzz ?_)
          case f1 => unfold maxLen; simp; omega
          case f2 => simp; omega
          intro v3 w3 hO3 hg3 hb3
          have HN := Lib.hid (HF.out v3 w3 (by rw [List.append_assoc]; exact hO3) hb3)
          clear HF HO HSR hO3 hg3 hb3
          go_wp2_with fail
          go_roundw
          case rel => first | exact ⟨k + 1, by omega, by go_num, HN⟩ | ((repeat apply Exists.intro); (first | exact ⟨⟨k + 1, by omega, by go_num, HN⟩, rfl⟩ | exact ⟨by omega, by go_num, HN⟩))
          case measure => simp [intOf]; omega
        · obtain rfl : k = 12 := by omega
          obtain ⟨A', c', rfl, h1, h2, _⟩ := HV.out.1.sl
          have hl12 : (Ll ++ marksC 12).length = l.length + 12 := by rw [List.length_append, marksC_len, hln]
          rw [hl12] at h1 HV ⊢
          have i0' : (0 : Int) ≤ (l.length : Int) := by omega
          have i1' : (l.length : Int) ≤ (c' : Int) := by omega
          unfold maxLen at h2
          go_wp2_with fail
          go_ret
          exact ⟨HV.out.2, (A', c'), rfl, by rw [HLL.out]; exact HV.out.1⟩
end Go.Proofs.YtmhikcleekfbpaaGreatDoor
namespace Go.Proofs.YtmhikcleekfbpaaGreatDoor
open Go.RowKit

theorem info_covK : (Tryz.prog.info? 52).map (·.size) = some 2 := by kernel_rfl
def covL (c : Cov) (A : Option Addr) (p : Nat) : List Value := [.int .i64 c.bay, .slice A c.rows.length p]
/-- A lent column: its rows' slice goes on into the marks ms. -/
def tCovK : Ty (Cov × List Int) where
  k := 2
  pos := by decide
  rd := fun w S cs c => ∃ A p, cs = covL c.1 A p ∧ c.1.rows.length + c.2.length ≤ p ∧ SlT tInt w S A (c.1.rows ++ c.2)
  len := by rintro _ _ _ _ ⟨A, c, rfl, _⟩; rfl
  one := by rintro _ _ _ _ ⟨A, c, rfl, _⟩; rfl
  keep := by rintro _ _ _ _ _ ⟨A, c, rfl, h1, h2⟩ hk; exact ⟨A, c, rfl, h1, h2.keep hk⟩
  more := by rintro _ _ _ _ _ ⟨A, c, rfl, h1, h2⟩ hk; exact ⟨A, c, rfl, h1, h2.more hk⟩
def mkCov (i : Nat) : Cov := { (default : Cov) with bay := mk1 i }
set_option maxRecDepth 100000 in
set_option maxHeartbeats 2000000 in
theorem markCover_any (i : Nat) (w : World) (hi : i ≤ 1000) :
    Calls Tryz.prog 47 #[.int .i64 1, .int .i64 (i : Int)] w (Ret w (.agg (covL (mkCov i) none 0).toArray)) := by
  go_enter Tryz.func47, Tryz.ntmps47
  go_wp2_with (go_at_call 52; refine (mark1_any i _ hi).mono ?_; rintro e w' ⟨rfl, rfl⟩)
  exact bodyPost_ret (results_row1 rfl _ _ w.heap.size 52 (covL (mkCov i) none 0).toArray _ rfl (Bk.new w _ _) Tryz.underlying52 rfl info_covK) rfl ⟨rfl, ba1 w _⟩
set_option maxRecDepth 100000 in
set_option maxHeartbeats 2000000 in
theorem lentCover_any (x : Cov) (A : Option Addr) (p : Nat) (w : World) (hs : SlT tInt w (Lt w.heap.size) A x.rows) (hr : x.rows.length ≤ 17592186043904) :
    Calls Tryz.prog 46 #[.agg (covL x A p).toArray] w (fun e w' => Below w.heap.size w w' ∧ ∃ A' p', e = .returned (.agg (covL x A' p').toArray) ∧ x.rows.length + 12 ≤ p' ∧ SlT tInt w' (Fr w.heap.size w') A' (x.rows ++ marksI 12)) := by
  have hb0 := ba2 w (.cells (covL x A p).toArray 52) (.cells (covL (default : Cov) none 0).toArray 52)
  have HC := Lib.hid (lentInts_any A p x.rows _ (hs.on hb0) hr)
  have HB0 := Lib.hid hb0
  have KX := Lib.hid ((Bk.new w 52 (covL x A p).toArray).alloc (.cells (covL (default : Cov) none 0).toArray 52))
  have KZ := Lib.hid (Bk.nxt (w := w) (.cells (covL x A p).toArray 52) 52 (covL (default : Cov) none 0).toArray)
  clear hs hb0
  have hx : Hid (∀ A' p', (covL x A' p').toArray = #[.int .i64 x.bay, .slice A' x.rows.length p']) := Lib.hid fun _ _ => rfl
  go_enter Tryz.func46, Tryz.ntmps46
  simp only [hx.out]
  go_wp2_with fail
  refine HC.out.mono ?_
  rintro e V ⟨A', p', rfl, hp, hpm, hs', hb⟩
  simp only
  have hb2 := HB0.out.trans (hb.mono HB0.out.size)
  have kx := KX.out.below hb KX.out.lt
  have kz := KZ.out.below hb KZ.out.lt
  have y8 : V.cell? ⟨w.heap.size, 1, none⟩ = some (.slice A x.rows.length p) := kx.cell 1
  have f8 := kx.frozen 1
  have HK2 : Hid (Bk (V.setCell ⟨w.heap.size, 1, none⟩ (.slice A' x.rows.length p')) w.heap.size 52 (covL x A' p').toArray) := Lib.hid (kx.set_ 1 _)
  have HZ2 : Hid (Bk (V.setCell ⟨w.heap.size, 1, none⟩ (.slice A' x.rows.length p')) (w.heap.size + 1) 52 (covL (default : Cov) none 0).toArray) := Lib.hid (kz.far (p := ⟨w.heap.size, 1, none⟩) (by show w.heap.size + 1 ≠ w.heap.size; omega) _)
  have HS : Hid (∀ V' : World, (V.setCell ⟨w.heap.size, 1, none⟩ (.slice A' x.rows.length p')).grownBy V' (some (w.heap.size + 1)) → Below w.heap.size w V' ∧ SlT tInt V' (Fr w.heap.size V') A' (x.rows ++ marksI 12)) := Lib.hid fun V' hg => by
    have hsz : ((w.alloc (.cells (covL x A p).toArray 52)).alloc (.cells (covL (default : Cov) none 0).toArray 52)).heap.size = w.heap.size + 2 := by simp
    have hs0 : (V.setCell ⟨w.heap.size, 1, none⟩ (.slice A' x.rows.length p')).heap.size = V.heap.size := by simp [World.setCell]
    have hk : ∀ b o, Fr (w.heap.size + 2) V b → V'.cell? ⟨b, o, none⟩ = V.cell? ⟨b, o, none⟩ := fun b o hb => by
      rw [World.cell?_of_block (hg.block b (by rw [hs0]; exact hb.2) (by intro e; injection e with e; have := hb.1; omega))]
      exact cell_farK (by show b ≠ w.heap.size; have := hb.1; omega)
    rw [hsz] at hs'
    refine ⟨?_, (hs'.keep hk).more fun b hb => ⟨by have := hb.1; omega, Nat.lt_of_lt_of_le hb.2 (hs0 ▸ hg.size)⟩⟩
    have h1 := hb2.setCell (p := ⟨w.heap.size, 1, none⟩) (Nat.le_refl _) (.slice A' x.rows.length p')
    exact ⟨hg.os.trans h1.os, hg.tape.trans h1.tape, hg.output.trans h1.output, Nat.le_trans h1.size hg.size, fun k hk' => (hg.block k (Nat.lt_of_lt_of_le hk' h1.size) (by intro e; injection e with e; omega)).trans (h1.block k hk')⟩
  clear HC HB0 KX KZ hb hb2 kx kz hs'
  go_wp2_with (first | (refine wpList_load_row rfl 52 (.tmp 1) rfl w.heap.size rfl 52 (covL x A' p').toArray (0, 0) _ HK2.out.eq Tryz.underlying52 rfl info_covK ?_) | (refine wpList_store_abs rfl 52 (.tmp 2) (.tmp 7) rfl (w.heap.size + 1) (covL x A' p').toArray rfl rfl 52 _ HZ2.out info_covK rfl (by kernel_rfl) ?_; intro V' hk hg))
  exact bodyPost_ret (results_row1 rfl _ _ (w.heap.size + 1) 52 (covL x A' p').toArray _ rfl hk Tryz.underlying52 rfl info_covK) rfl ⟨(HS.out V' hg).1, A', p', rfl, by rw [marksI_len] at hp; exact hp, (HS.out V' hg).2⟩
/-- The covs lent, the marks behind them. -/
def lentCo (l : List Cov) : List (Cov × List Int) := l.map fun c => (c, marksI 12)
def marksCo (n : Nat) : List (Cov × List Int) := (List.range n).map fun i => (mkCov i, [])
theorem marksCo_succ (n : Nat) : marksCo (n + 1) = marksCo n ++ [(mkCov n, [])] := by simp [marksCo, List.range_succ]
theorem marksCo_len (n : Nat) : (marksCo n).length = n := by simp [marksCo]
theorem lentCo_len (l : List Cov) : (lentCo l).length = l.length := by simp [lentCo]
theorem lentCo_succ {l : List Cov} {k : Nat} (h : k < l.length) : lentCo (l.take (k + 1)) = lentCo (l.take k) ++ [(l.getD k default, marksI 12)] := by
  unfold lentCo
  rw [List.take_add_one, List.map_append]
  simp [h]
set_option maxRecDepth 100000 in
set_option maxHeartbeats 4000000 in
theorem lentCovers_any (A : Option Addr) (c : Nat) (l : List Cov) (w : World) (hs : SlT tCov w (Lt w.heap.size) A l) (hr : l.length ≤ 1000000000) (hp : ∀ x ∈ l, x.rows.length ≤ 17592186043904) :
    Calls Tryz.prog 20 #[.slice A l.length c] w (fun e w' => Below w.heap.size w w' ∧ ∃ v, e = .returned (.slice (v : Option Addr × Nat).1 l.length v.2) ∧ OwnF tCovK 52 w' w.heap.size (.slice v.1 (l.length + 12) v.2) (lentCo l ++ marksCo 12)) := by
  obtain ⟨i0, z, hi, hz, h4, h5, _⟩ := el_cov.info
  have HS := Lib.hid hs; clear hs
  have HP := Lib.hid hp; clear hp
  go_enter Tryz.func20, Tryz.ntmps20
  go_wp2_with (at_make; refine wpList_make_own _ rfl _ _ 23 rfl w.heap.size 52 i0 z 2 el_cov.under hi hz h4 _ _ _ (l.length + 12) rfl rfl ?k1 ?k2 ?k3 ?k4 ?_)
  case k1 => omega
  case k2 => rw [h5]; omega
  case k3 => unfold maxLen; omega
  case k4 => exact Nat.le_refl _
  intro w1 ho1 hg1
  have hb1 : Below w.heap.size w w1 := ⟨hg1.os, hg1.tape, hg1.output, hg1.size, fun k hk => hg1.block k hk (by simp)⟩
  have HO1 : Hid (OwnF tCovK 52 w1 w.heap.size (.slice (some ⟨w.heap.size, 0, none⟩) 0 (l.length + 12)) (lentCo (l.take 0))) := Lib.hid (.of (S := fun _ => False) ⟨[], ho1, rfl, fun b h => h.elim⟩ fun _ h => h.elim)
  have HB1 := Lib.hid hb1
  clear ho1 hg1 hb1
  go_wp2_with fail
  go_loopw [3, 4] (fun v i wr => ∃ k : Nat, k ≤ l.length ∧ i = .int .i64 k ∧ Hid (OwnF tCovK 52 wr w.heap.size v (lentCo (l.take k)) ∧ Below w.heap.size w wr)) (fun _ i _ => l.length - (intOf i).toNat)
  case atStart => exact ⟨0, Nat.zero_le _, rfl, Lib.hid ⟨HO1.out, HB1.out⟩⟩
  case round =>
    clear HO1 HB1
    try clear w1
    rename_i v i wr
    obtain ⟨k, hk, rfl, HV⟩ := hrel
    obtain ⟨V, rfl⟩ : ∃ V, V = wr := ⟨_, rfl⟩
    by_cases hlt : k < l.length
    · obtain ⟨b, off, Ap, p, rfl, hbB, hpp, hps, d0, d1⟩ := (HS.out.on HV.out.2).cov hlt
      have i0' : (0 : Int) ≤ (k : Int) := by omega
      have i1' : (k : Int) < (l.length : Int) := by omega
      have HXP := HP.out _ (getD_memD hlt default)
      have HSU := Lib.hid (lentCo_succ hlt)
      have hln : (lentCo (l.take k)).length = k := by rw [lentCo_len, List.length_take]; omega
      generalize lentCo (l.take k) = L at *
      generalize l.getD k default = x at *
      have HC := Lib.hid (lentCover_any x Ap p V hps HXP)
      have hx : Hid (∀ A' p', (covL x A' p').toArray = #[.int .i64 x.bay, .slice A' x.rows.length p']) := Lib.hid fun _ _ => rfl
      clear hps HXP hpp
      go_wp2_with fail
      refine HC.out.mono ?_
      rintro e V2 ⟨hb, A', p', rfl, hp', hs'⟩
      simp only [hx.out]
      clear d0 d1
      have hz := HV.out.2.size
      have hb2 : Below V.heap.size V ((V2.alloc (.cells (covL x A' p').toArray 52)).alloc (.cells (covL x A' p').toArray 52)) := hb.trans ((ba2 V2 _ _).mono hb.size)
      obtain ⟨S, hS1, hS2, hO⟩ := HV.out.1.wide hb2 hz
      have HO := Lib.hid hO
      have hz2 : V2.heap.size ≤ ((V2.alloc (.cells (covL x A' p').toArray 52)).alloc (.cells (covL x A' p').toArray 52)).heap.size := by simp; omega
      have HSR : Hid (Src tCovK ((V2.alloc (.cells (covL x A' p').toArray 52)).alloc (.cells (covL x A' p').toArray 52)) S (some ⟨V2.heap.size + 1, 0, none⟩) 1 [(x, marksI 12)]) := Lib.hid (Src.blk (Bk.nxt _ _ _) (Flat.single ⟨A', p', rfl, by rw [marksI_len]; exact hp', (hs'.keepB (B := V2.heap.size) (fun b h => h.2) (ba2 V2 _ _)).more fun b h => hS2 b h.1 (Nat.lt_of_lt_of_le h.2 hz2)⟩) rfl)
      have HB2 := Lib.hid (HV.out.2.trans (hb2.mono hz))
      have HF : Hid (∀ v' w', OwnS tCovK 52 w' w.heap.size S v' (L ++ [(x, marksI 12)]) → Below w.heap.size ((V2.alloc (.cells (covL x A' p').toArray 52)).alloc (.cells (covL x A' p').toArray 52)) w' → OwnF tCovK 52 w' w.heap.size v' (lentCo (l.take (k + 1))) ∧ Below w.heap.size w w') := Lib.hid fun v' w' h1 h2 => by
        rw [HSU.out]
        exact ⟨.of h1 fun b h => ⟨(hS1 b h).1, Nat.lt_of_lt_of_le (hS1 b h).2 h2.size⟩, HB2.out.trans h2⟩
      have hzz : w.heap.size ≤ ((V2.alloc (.cells (covL x A' p').toArray 52)).alloc (.cells (covL x A' p').toArray 52)).heap.size := HB2.out.size
      clear HC hb hs' hp' hb2 hO hS1 hS2 hz2 HV HSU
      go_wp2_with (at_builtin; refine wpList_append_R (T := tCovK) el_cov rfl (.tmp 22) (.tmp 24) rfl w.heap.size S _ L rfl HO.out (some ⟨V2.heap.size + 1, 0, none⟩) 1 1 [(x, marksI 12)] rfl rfl HSR.out ?e1 ?e2 hzz ?_)
      case e1 => unfold maxLen; omega
      case e2 => omega
      intro v3 w3 hO3 hg3 hb3
      have HN := Lib.hid (HF.out v3 w3 hO3 hb3)
      clear HF HO HSR hO3 hg3 hb3
      go_wp2_with fail
      go_roundw
      case rel => first | exact ⟨k + 1, by omega, by go_num, HN⟩ | ((repeat apply Exists.intro); (first | exact ⟨⟨k + 1, by omega, by go_num, HN⟩, rfl⟩ | exact ⟨by omega, by go_num, HN⟩))
      case measure => simp [intOf]; omega
    · obtain rfl : k = l.length := by omega
      rw [List.take_length] at HV
      clear HS HP hk
      generalize hLl : lentCo l = Ll at *
      have hln : Ll.length = l.length := by rw [← hLl, lentCo_len]
      have HLL := Lib.hid hLl
      clear hLl
      go_wp2_with fail
      go_loopw [3, 6] (fun v i wr => ∃ k : Nat, k ≤ 12 ∧ i = .int .i64 k ∧ Hid (OwnF tCovK 52 wr w.heap.size v (Ll ++ marksCo k) ∧ Below w.heap.size w wr)) (fun _ i _ => 12 - (intOf i).toNat)
      case atStart => exact ⟨0, Nat.zero_le _, rfl, Lib.hid ⟨by simpa [marksCo] using HV.out.1, HV.out.2⟩⟩
      case round =>
        clear HV
        try clear V
        rename_i v i wr
        obtain ⟨k, hk, rfl, HV⟩ := hrel
        obtain ⟨V, rfl⟩ : ∃ V, V = wr := ⟨_, rfl⟩
        by_cases hlt : k < 12
        · have i0' : (0 : Int) ≤ (k : Int) := by omega
          have i1' : (k : Int) < 12 := by omega
          have HSU := Lib.hid (marksCo_succ k)
          have hmk : (marksCo k).length = k := marksCo_len k
          have HC := Lib.hid (markCover_any k V (by omega))
          have hx : Hid ((covL (mkCov k) none 0).toArray = #[.int .i64 (mk1 k), .slice none 0 0]) := Lib.hid rfl
          generalize marksCo k = M at *
          go_wp2_with fail
          refine HC.out.mono ?_
          rintro e V2 ⟨rfl, hb⟩
          simp only [hx.out]
          have hz := HV.out.2.size
          have hb2 : Below V.heap.size V (V2.alloc (.cells (covL (mkCov k) none 0).toArray 52)) := hb.trans ((ba1 V2 _).mono hb.size)
          obtain ⟨S, hS1, hS2, hO⟩ := HV.out.1.wide hb2 hz
          have HO := Lib.hid hO
          have HSR : Hid (Src tCovK (V2.alloc (.cells (covL (mkCov k) none 0).toArray 52)) S (some ⟨V2.heap.size, 0, none⟩) 1 [(mkCov k, [])]) := Lib.hid (Src.blk (Bk.new V2 _ _) (Flat.single ⟨none, 0, rfl, Nat.le_refl _, SlT.nil⟩) rfl)
          have HB2 := Lib.hid (HV.out.2.trans (hb2.mono hz))
          have HF : Hid (∀ v' w', OwnS tCovK 52 w' w.heap.size S v' (Ll ++ M ++ [(mkCov k, [])]) → Below w.heap.size (V2.alloc (.cells (covL (mkCov k) none 0).toArray 52)) w' → OwnF tCovK 52 w' w.heap.size v' (Ll ++ marksCo (k + 1)) ∧ Below w.heap.size w w') := Lib.hid fun v' w' h1 h2 => by
            rw [HSU.out, ← List.append_assoc]
            exact ⟨.of h1 fun b h => ⟨(hS1 b h).1, Nat.lt_of_lt_of_le (hS1 b h).2 h2.size⟩, HB2.out.trans h2⟩
          have hzz : w.heap.size ≤ (V2.alloc (.cells (covL (mkCov k) none 0).toArray 52)).heap.size := HB2.out.size
          clear HC hb hb2 hO hS1 hS2 HV HSU
          go_wp2_with (at_builtin; refine wpList_append_R (T := tCovK) el_cov rfl (.tmp 30) (.tmp 33) rfl w.heap.size S _ (Ll ++ M) rfl HO.out (some ⟨V2.heap.size, 0, none⟩) 1 1 [(mkCov k, [])] rfl rfl HSR.out ?f1 ?f2 hzz ?_)
          case f1 => unfold maxLen; simp; omega
          case f2 => simp; omega
          intro v3 w3 hO3 hg3 hb3
          have HN := Lib.hid (HF.out v3 w3 (by rw [List.append_assoc]; exact hO3) hb3)
          clear HF HO HSR hO3 hg3 hb3
          go_wp2_with fail
          go_roundw
          case rel => first | exact ⟨k + 1, by omega, by go_num, HN⟩ | ((repeat apply Exists.intro); (first | exact ⟨⟨k + 1, by omega, by go_num, HN⟩, rfl⟩ | exact ⟨by omega, by go_num, HN⟩))
          case measure => simp [intOf]; omega
        · obtain rfl : k = 12 := by omega
          obtain ⟨A', c', rfl, h1, h2, _⟩ := HV.out.1.sl
          have hl12 : (Ll ++ marksCo 12).length = l.length + 12 := by rw [List.length_append, marksCo_len, hln]
          rw [hl12] at h1 HV ⊢
          have i0' : (0 : Int) ≤ (l.length : Int) := by omega
          have i1' : (l.length : Int) ≤ (c' : Int) := by omega
          unfold maxLen at h2
          go_wp2_with fail
          go_ret
          exact ⟨HV.out.2, (A', c'), rfl, by rw [HLL.out]; exact HV.out.1⟩
end Go.Proofs.YtmhikcleekfbpaaGreatDoor
namespace Go.Proofs.YtmhikcleekfbpaaGreatDoor
open Go.RowKit

theorem info_tnkK : (Tryz.prog.info? 118).map (·.size) = some 6 := by kernel_rfl
def tnkL (c : Tnk) (A : Option Addr) (p : Nat) : List Value := [.int .i64 c.a0, .int .i64 c.a1, .int .i64 c.a2, .int .i64 c.a3, .int .i64 c.a4, .slice A c.steps.length p]
theorem el_tnkK : El Tryz.prog 28 118 6 64 := El.mk' Tryz.underlying28 (by kernel_rfl) (by decide)
theorem SlT.tnk {w : World} {S : Nat → Prop} {A : Option Addr} {l : List Tnk} (h : SlT tTnk w S A l) {i : Nat} (hi : i < l.length) :
    ∃ b off Ap p, A = some ⟨b, off, none⟩ ∧ S b ∧ (l.getD i default).steps.length ≤ p ∧ SlT tInt w S Ap (l.getD i default).steps ∧
      w.cell? ⟨b, off + i * 6, none⟩ = some (.int .i64 (l.getD i default).a0) ∧ w.cell? ⟨b, off + i * 6 + 1, none⟩ = some (.int .i64 (l.getD i default).a1) ∧ w.cell? ⟨b, off + i * 6 + 2, none⟩ = some (.int .i64 (l.getD i default).a2) ∧
      w.cell? ⟨b, off + i * 6 + 3, none⟩ = some (.int .i64 (l.getD i default).a3) ∧ w.cell? ⟨b, off + i * 6 + 4, none⟩ = some (.int .i64 (l.getD i default).a4) ∧ w.cell? ⟨b, off + i * 6 + 5, none⟩ = some (.slice Ap (l.getD i default).steps.length p) := by
  obtain ⟨b, off, cs, e, hb, ⟨Ap, p, rfl, h1, h2⟩, hc⟩ := h.at_ hi default
  exact ⟨b, off, Ap, p, e, hb, h1, h2, hc 0 _ rfl, hc 1 _ rfl, hc 2 _ rfl, hc 3 _ rfl, hc 4 _ rfl, hc 5 _ rfl⟩
/-- A lent column: its steps' slice goes on into the marks ms. -/
def tTnkK : Ty (Tnk × List Int) where
  k := 6
  pos := by decide
  rd := fun w S cs c => ∃ A p, cs = tnkL c.1 A p ∧ c.1.steps.length + c.2.length ≤ p ∧ SlT tInt w S A (c.1.steps ++ c.2)
  len := by rintro _ _ _ _ ⟨A, c, rfl, _⟩; rfl
  one := by rintro _ _ _ _ ⟨A, c, rfl, _⟩; rfl
  keep := by rintro _ _ _ _ _ ⟨A, c, rfl, h1, h2⟩ hk; exact ⟨A, c, rfl, h1, h2.keep hk⟩
  more := by rintro _ _ _ _ _ ⟨A, c, rfl, h1, h2⟩ hk; exact ⟨A, c, rfl, h1, h2.more hk⟩
def mkTnk (i : Nat) : Tnk := { (default : Tnk) with a0 := mk1 i }
set_option maxRecDepth 100000 in
set_option maxHeartbeats 2000000 in
theorem markTank_any (i : Nat) (w : World) (hi : i ≤ 1000) :
    Calls Tryz.prog 51 #[.int .i64 1, .int .i64 (i : Int)] w (Ret w (.agg (tnkL (mkTnk i) none 0).toArray)) := by
  go_enter Tryz.func51, Tryz.ntmps51
  go_wp2_with (go_at_call 52; refine (mark1_any i _ hi).mono ?_; rintro e w' ⟨rfl, rfl⟩)
  exact bodyPost_ret (results_row1 rfl _ _ w.heap.size 118 (tnkL (mkTnk i) none 0).toArray _ rfl (Bk.new w _ _) Tryz.underlying118 rfl info_tnkK) rfl ⟨rfl, ba1 w _⟩
set_option maxRecDepth 100000 in
set_option maxHeartbeats 2000000 in
theorem lentTank_any (x : Tnk) (A : Option Addr) (p : Nat) (w : World) (hs : SlT tInt w (Lt w.heap.size) A x.steps) (hr : x.steps.length ≤ 17592186043904) :
    Calls Tryz.prog 50 #[.agg (tnkL x A p).toArray] w (fun e w' => Below w.heap.size w w' ∧ ∃ A' p', e = .returned (.agg (tnkL x A' p').toArray) ∧ x.steps.length + 12 ≤ p' ∧ SlT tInt w' (Fr w.heap.size w') A' (x.steps ++ marksI 12)) := by
  have hb0 := ba2 w (.cells (tnkL x A p).toArray 118) (.cells (tnkL (default : Tnk) none 0).toArray 118)
  have HC := Lib.hid (lentInts_any A p x.steps _ (hs.on hb0) hr)
  have HB0 := Lib.hid hb0
  have KX := Lib.hid ((Bk.new w 118 (tnkL x A p).toArray).alloc (.cells (tnkL (default : Tnk) none 0).toArray 118))
  have KZ := Lib.hid (Bk.nxt (w := w) (.cells (tnkL x A p).toArray 118) 118 (tnkL (default : Tnk) none 0).toArray)
  clear hs hb0
  have hx : Hid (∀ A' p', (tnkL x A' p').toArray = #[.int .i64 x.a0, .int .i64 x.a1, .int .i64 x.a2, .int .i64 x.a3, .int .i64 x.a4, .slice A' x.steps.length p']) := Lib.hid fun _ _ => rfl
  go_enter Tryz.func50, Tryz.ntmps50
  simp only [hx.out]
  go_wp2_with fail
  refine HC.out.mono ?_
  rintro e V ⟨A', p', rfl, hp, hpm, hs', hb⟩
  simp only
  have hb2 := HB0.out.trans (hb.mono HB0.out.size)
  have kx := KX.out.below hb KX.out.lt
  have kz := KZ.out.below hb KZ.out.lt
  have y8 : V.cell? ⟨w.heap.size, 5, none⟩ = some (.slice A x.steps.length p) := kx.cell 5
  have f8 := kx.frozen 5
  have HK2 : Hid (Bk (V.setCell ⟨w.heap.size, 5, none⟩ (.slice A' x.steps.length p')) w.heap.size 118 (tnkL x A' p').toArray) := Lib.hid (kx.set_ 5 _)
  have HZ2 : Hid (Bk (V.setCell ⟨w.heap.size, 5, none⟩ (.slice A' x.steps.length p')) (w.heap.size + 1) 118 (tnkL (default : Tnk) none 0).toArray) := Lib.hid (kz.far (p := ⟨w.heap.size, 5, none⟩) (by show w.heap.size + 1 ≠ w.heap.size; omega) _)
  have HS : Hid (∀ V' : World, (V.setCell ⟨w.heap.size, 5, none⟩ (.slice A' x.steps.length p')).grownBy V' (some (w.heap.size + 1)) → Below w.heap.size w V' ∧ SlT tInt V' (Fr w.heap.size V') A' (x.steps ++ marksI 12)) := Lib.hid fun V' hg => by
    have hsz : ((w.alloc (.cells (tnkL x A p).toArray 118)).alloc (.cells (tnkL (default : Tnk) none 0).toArray 118)).heap.size = w.heap.size + 2 := by simp
    have hs0 : (V.setCell ⟨w.heap.size, 5, none⟩ (.slice A' x.steps.length p')).heap.size = V.heap.size := by simp [World.setCell]
    have hk : ∀ b o, Fr (w.heap.size + 2) V b → V'.cell? ⟨b, o, none⟩ = V.cell? ⟨b, o, none⟩ := fun b o hb => by
      rw [World.cell?_of_block (hg.block b (by rw [hs0]; exact hb.2) (by intro e; injection e with e; have := hb.1; omega))]
      exact cell_farK (by show b ≠ w.heap.size; have := hb.1; omega)
    rw [hsz] at hs'
    refine ⟨?_, (hs'.keep hk).more fun b hb => ⟨by have := hb.1; omega, Nat.lt_of_lt_of_le hb.2 (hs0 ▸ hg.size)⟩⟩
    have h1 := hb2.setCell (p := ⟨w.heap.size, 5, none⟩) (Nat.le_refl _) (.slice A' x.steps.length p')
    exact ⟨hg.os.trans h1.os, hg.tape.trans h1.tape, hg.output.trans h1.output, Nat.le_trans h1.size hg.size, fun k hk' => (hg.block k (Nat.lt_of_lt_of_le hk' h1.size) (by intro e; injection e with e; omega)).trans (h1.block k hk')⟩
  clear HC HB0 KX KZ hb hb2 kx kz hs'
  go_wp2_with (first | (refine wpList_load_row rfl 118 (.tmp 1) rfl w.heap.size rfl 118 (tnkL x A' p').toArray (0, 0) _ HK2.out.eq Tryz.underlying118 rfl info_tnkK ?_) | (refine wpList_store_abs rfl 118 (.tmp 2) (.tmp 7) rfl (w.heap.size + 1) (tnkL x A' p').toArray rfl rfl 118 _ HZ2.out info_tnkK rfl (by kernel_rfl) ?_; intro V' hk hg))
  exact bodyPost_ret (results_row1 rfl _ _ (w.heap.size + 1) 118 (tnkL x A' p').toArray _ rfl hk Tryz.underlying118 rfl info_tnkK) rfl ⟨(HS.out V' hg).1, A', p', rfl, by rw [marksI_len] at hp; exact hp, (HS.out V' hg).2⟩
/-- The tnks lent, the marks behind them. -/
def lentTn (l : List Tnk) : List (Tnk × List Int) := l.map fun c => (c, marksI 12)
def marksTn (n : Nat) : List (Tnk × List Int) := (List.range n).map fun i => (mkTnk i, [])
theorem marksTn_succ (n : Nat) : marksTn (n + 1) = marksTn n ++ [(mkTnk n, [])] := by simp [marksTn, List.range_succ]
theorem marksTn_len (n : Nat) : (marksTn n).length = n := by simp [marksTn]
theorem lentTn_len (l : List Tnk) : (lentTn l).length = l.length := by simp [lentTn]
theorem lentTn_succ {l : List Tnk} {k : Nat} (h : k < l.length) : lentTn (l.take (k + 1)) = lentTn (l.take k) ++ [(l.getD k default, marksI 12)] := by
  unfold lentTn
  rw [List.take_add_one, List.map_append]
  simp [h]
set_option maxRecDepth 100000 in
set_option maxHeartbeats 4000000 in
theorem lentTanks_any (A : Option Addr) (c : Nat) (l : List Tnk) (w : World) (hs : SlT tTnk w (Lt w.heap.size) A l) (hr : l.length ≤ 2199023255488) (hp : ∀ x ∈ l, x.steps.length ≤ 17592186043904) :
    Calls Tryz.prog 23 #[.slice A l.length c] w (fun e w' => Below w.heap.size w w' ∧ ∃ v, e = .returned (.slice (v : Option Addr × Nat).1 l.length v.2) ∧ OwnF tTnkK 118 w' w.heap.size (.slice v.1 (l.length + 12) v.2) (lentTn l ++ marksTn 12)) := by
  obtain ⟨i0, z, hi, hz, h4, h5, _⟩ := el_tnkK.info
  have HS := Lib.hid hs; clear hs
  have HP := Lib.hid hp; clear hp
  go_enter Tryz.func23, Tryz.ntmps23
  go_wp2_with (at_make; refine wpList_make_own _ rfl _ _ 28 rfl w.heap.size 118 i0 z 6 el_tnkK.under hi hz h4 _ _ _ (l.length + 12) rfl rfl ?k1 ?k2 ?k3 ?k4 ?_)
  case k1 => omega
  case k2 => rw [h5]; omega
  case k3 => unfold maxLen; omega
  case k4 => exact Nat.le_refl _
  intro w1 ho1 hg1
  have hb1 : Below w.heap.size w w1 := ⟨hg1.os, hg1.tape, hg1.output, hg1.size, fun k hk => hg1.block k hk (by simp)⟩
  have HO1 : Hid (OwnF tTnkK 118 w1 w.heap.size (.slice (some ⟨w.heap.size, 0, none⟩) 0 (l.length + 12)) (lentTn (l.take 0))) := Lib.hid (.of (S := fun _ => False) ⟨[], ho1, rfl, fun b h => h.elim⟩ fun _ h => h.elim)
  have HB1 := Lib.hid hb1
  clear ho1 hg1 hb1
  go_wp2_with fail
  go_loopw [3, 4] (fun v i wr => ∃ k : Nat, k ≤ l.length ∧ i = .int .i64 k ∧ Hid (OwnF tTnkK 118 wr w.heap.size v (lentTn (l.take k)) ∧ Below w.heap.size w wr)) (fun _ i _ => l.length - (intOf i).toNat)
  case atStart => exact ⟨0, Nat.zero_le _, rfl, Lib.hid ⟨HO1.out, HB1.out⟩⟩
  case round =>
    clear HO1 HB1
    try clear w1
    rename_i v i wr
    obtain ⟨k, hk, rfl, HV⟩ := hrel
    obtain ⟨V, rfl⟩ : ∃ V, V = wr := ⟨_, rfl⟩
    by_cases hlt : k < l.length
    · obtain ⟨b, off, Ap, p, rfl, hbB, hpp, hps, d0, d1, d2, d3, d4, d5⟩ := (HS.out.on HV.out.2).tnk hlt
      have i0' : (0 : Int) ≤ (k : Int) := by omega
      have i1' : (k : Int) < (l.length : Int) := by omega
      have HXP := HP.out _ (getD_memD hlt default)
      have HSU := Lib.hid (lentTn_succ hlt)
      have hln : (lentTn (l.take k)).length = k := by rw [lentTn_len, List.length_take]; omega
      generalize lentTn (l.take k) = L at *
      generalize l.getD k default = x at *
      have HC := Lib.hid (lentTank_any x Ap p V hps HXP)
      have hx : Hid (∀ A' p', (tnkL x A' p').toArray = #[.int .i64 x.a0, .int .i64 x.a1, .int .i64 x.a2, .int .i64 x.a3, .int .i64 x.a4, .slice A' x.steps.length p']) := Lib.hid fun _ _ => rfl
      clear hps HXP hpp
      go_wp2_with fail
      refine HC.out.mono ?_
      rintro e V2 ⟨hb, A', p', rfl, hp', hs'⟩
      simp only [hx.out]
      clear d0 d1 d2 d3 d4 d5
      have hz := HV.out.2.size
      have hb2 : Below V.heap.size V ((V2.alloc (.cells (tnkL x A' p').toArray 118)).alloc (.cells (tnkL x A' p').toArray 118)) := hb.trans ((ba2 V2 _ _).mono hb.size)
      obtain ⟨S, hS1, hS2, hO⟩ := HV.out.1.wide hb2 hz
      have HO := Lib.hid hO
      have hz2 : V2.heap.size ≤ ((V2.alloc (.cells (tnkL x A' p').toArray 118)).alloc (.cells (tnkL x A' p').toArray 118)).heap.size := by simp; omega
      have HSR : Hid (Src tTnkK ((V2.alloc (.cells (tnkL x A' p').toArray 118)).alloc (.cells (tnkL x A' p').toArray 118)) S (some ⟨V2.heap.size + 1, 0, none⟩) 1 [(x, marksI 12)]) := Lib.hid (Src.blk (Bk.nxt _ _ _) (Flat.single ⟨A', p', rfl, by rw [marksI_len]; exact hp', (hs'.keepB (B := V2.heap.size) (fun b h => h.2) (ba2 V2 _ _)).more fun b h => hS2 b h.1 (Nat.lt_of_lt_of_le h.2 hz2)⟩) rfl)
      have HB2 := Lib.hid (HV.out.2.trans (hb2.mono hz))
      have HF : Hid (∀ v' w', OwnS tTnkK 118 w' w.heap.size S v' (L ++ [(x, marksI 12)]) → Below w.heap.size ((V2.alloc (.cells (tnkL x A' p').toArray 118)).alloc (.cells (tnkL x A' p').toArray 118)) w' → OwnF tTnkK 118 w' w.heap.size v' (lentTn (l.take (k + 1))) ∧ Below w.heap.size w w') := Lib.hid fun v' w' h1 h2 => by
        rw [HSU.out]
        exact ⟨.of h1 fun b h => ⟨(hS1 b h).1, Nat.lt_of_lt_of_le (hS1 b h).2 h2.size⟩, HB2.out.trans h2⟩
      have hzz : w.heap.size ≤ ((V2.alloc (.cells (tnkL x A' p').toArray 118)).alloc (.cells (tnkL x A' p').toArray 118)).heap.size := HB2.out.size
      clear HC hb hs' hp' hb2 hO hS1 hS2 hz2 HV HSU
      go_wp2_with (at_builtin; refine wpList_append_R (T := tTnkK) el_tnkK rfl (.tmp 22) (.tmp 24) rfl w.heap.size S _ L rfl HO.out (some ⟨V2.heap.size + 1, 0, none⟩) 1 1 [(x, marksI 12)] rfl rfl HSR.out ?e1 ?e2 hzz ?_)
      case e1 => unfold maxLen; omega
      case e2 => omega
      intro v3 w3 hO3 hg3 hb3
      have HN := Lib.hid (HF.out v3 w3 hO3 hb3)
      clear HF HO HSR hO3 hg3 hb3
      go_wp2_with fail
      go_roundw
      case rel => first | exact ⟨k + 1, by omega, by go_num, HN⟩ | ((repeat apply Exists.intro); (first | exact ⟨⟨k + 1, by omega, by go_num, HN⟩, rfl⟩ | exact ⟨by omega, by go_num, HN⟩))
      case measure => simp [intOf]; omega
    · obtain rfl : k = l.length := by omega
      rw [List.take_length] at HV
      clear HS HP hk
      generalize hLl : lentTn l = Ll at *
      have hln : Ll.length = l.length := by rw [← hLl, lentTn_len]
      have HLL := Lib.hid hLl
      clear hLl
      go_wp2_with fail
      go_loopw [3, 6] (fun v i wr => ∃ k : Nat, k ≤ 12 ∧ i = .int .i64 k ∧ Hid (OwnF tTnkK 118 wr w.heap.size v (Ll ++ marksTn k) ∧ Below w.heap.size w wr)) (fun _ i _ => 12 - (intOf i).toNat)
      case atStart => exact ⟨0, Nat.zero_le _, rfl, Lib.hid ⟨by simpa [marksTn] using HV.out.1, HV.out.2⟩⟩
      case round =>
        clear HV
        try clear V
        rename_i v i wr
        obtain ⟨k, hk, rfl, HV⟩ := hrel
        obtain ⟨V, rfl⟩ : ∃ V, V = wr := ⟨_, rfl⟩
        by_cases hlt : k < 12
        · have i0' : (0 : Int) ≤ (k : Int) := by omega
          have i1' : (k : Int) < 12 := by omega
          have HSU := Lib.hid (marksTn_succ k)
          have hmk : (marksTn k).length = k := marksTn_len k
          have HC := Lib.hid (markTank_any k V (by omega))
          have hx : Hid ((tnkL (mkTnk k) none 0).toArray = #[.int .i64 (mk1 k), .int .i64 0, .int .i64 0, .int .i64 0, .int .i64 0, .slice none 0 0]) := Lib.hid rfl
          generalize marksTn k = M at *
          go_wp2_with fail
          refine HC.out.mono ?_
          rintro e V2 ⟨rfl, hb⟩
          simp only [hx.out]
          have hz := HV.out.2.size
          have hb2 : Below V.heap.size V (V2.alloc (.cells (tnkL (mkTnk k) none 0).toArray 118)) := hb.trans ((ba1 V2 _).mono hb.size)
          obtain ⟨S, hS1, hS2, hO⟩ := HV.out.1.wide hb2 hz
          have HO := Lib.hid hO
          have HSR : Hid (Src tTnkK (V2.alloc (.cells (tnkL (mkTnk k) none 0).toArray 118)) S (some ⟨V2.heap.size, 0, none⟩) 1 [(mkTnk k, [])]) := Lib.hid (Src.blk (Bk.new V2 _ _) (Flat.single ⟨none, 0, rfl, Nat.le_refl _, SlT.nil⟩) rfl)
          have HB2 := Lib.hid (HV.out.2.trans (hb2.mono hz))
          have HF : Hid (∀ v' w', OwnS tTnkK 118 w' w.heap.size S v' (Ll ++ M ++ [(mkTnk k, [])]) → Below w.heap.size (V2.alloc (.cells (tnkL (mkTnk k) none 0).toArray 118)) w' → OwnF tTnkK 118 w' w.heap.size v' (Ll ++ marksTn (k + 1)) ∧ Below w.heap.size w w') := Lib.hid fun v' w' h1 h2 => by
            rw [HSU.out, ← List.append_assoc]
            exact ⟨.of h1 fun b h => ⟨(hS1 b h).1, Nat.lt_of_lt_of_le (hS1 b h).2 h2.size⟩, HB2.out.trans h2⟩
          have hzz : w.heap.size ≤ (V2.alloc (.cells (tnkL (mkTnk k) none 0).toArray 118)).heap.size := HB2.out.size
          clear HC hb hb2 hO hS1 hS2 HV HSU
          go_wp2_with (at_builtin; refine wpList_append_R (T := tTnkK) el_tnkK rfl (.tmp 30) (.tmp 33) rfl w.heap.size S _ (Ll ++ M) rfl HO.out (some ⟨V2.heap.size, 0, none⟩) 1 1 [(mkTnk k, [])] rfl rfl HSR.out ?f1 ?f2 hzz ?_)
          case f1 => unfold maxLen; simp; omega
          case f2 => simp; omega
          intro v3 w3 hO3 hg3 hb3
          have HN := Lib.hid (HF.out v3 w3 (by rw [List.append_assoc]; exact hO3) hb3)
          clear HF HO HSR hO3 hg3 hb3
          go_wp2_with fail
          go_roundw
          case rel => first | exact ⟨k + 1, by omega, by go_num, HN⟩ | ((repeat apply Exists.intro); (first | exact ⟨⟨k + 1, by omega, by go_num, HN⟩, rfl⟩ | exact ⟨by omega, by go_num, HN⟩))
          case measure => simp [intOf]; omega
        · obtain rfl : k = 12 := by omega
          obtain ⟨A', c', rfl, h1, h2, _⟩ := HV.out.1.sl
          have hl12 : (Ll ++ marksTn 12).length = l.length + 12 := by rw [List.length_append, marksTn_len, hln]
          rw [hl12] at h1 HV ⊢
          have i0' : (0 : Int) ≤ (l.length : Int) := by omega
          have i1' : (l.length : Int) ≤ (c' : Int) := by omega
          unfold maxLen at h2
          go_wp2_with fail
          go_ret
          exact ⟨HV.out.2, (A', c'), rfl, by rw [HLL.out]; exact HV.out.1⟩
end Go.Proofs.YtmhikcleekfbpaaGreatDoor
namespace Go.Proofs.YtmhikcleekfbpaaGreatDoor
open Go.RowKit

theorem Flat.rowsK {w w' : World} {S S' : Nat → Prop} : ∀ {xs : List Value} {l : List (List Int)}, Flat tRow w S xs l → Flat tRow w' S' xs l
  | _, [], h => h
  | _, _ :: _, ⟨cs, ys, e, h1, h2⟩ => ⟨cs, ys, e, h1, Flat.rowsK h2⟩
theorem OwnS.noneR {w : World} {e : TypeId} {base : Nat} {S : Nat → Prop} {v : Value} {l : List (List Int)} (h : OwnS tRow e w base S v l) : OwnS tRow e w base (fun _ => False) v l := by
  obtain ⟨xs, h1, h2, _⟩ := h
  exact ⟨xs, h1, h2.rowsK, fun _ h => h.elim⟩
theorem info_rowK : (Tryz.prog.info? 112).map (·.size) = some 5 := by kernel_rfl
theorem el_rowK : El Tryz.prog 26 112 5 40 := El.mk' Tryz.underlying26 (by kernel_rfl) (by decide)
def mkRow (i : Nat) : List Int := [0, mk1 i, 0, 0, 0]
def marksRow (n : Nat) : List (List Int) := (List.range n).map mkRow
theorem marksRow_succ (n : Nat) : marksRow (n + 1) = marksRow n ++ [mkRow n] := by simp [marksRow, List.range_succ]
theorem marksRow_len (n : Nat) : (marksRow n).length = n := by simp [marksRow]
set_option maxRecDepth 100000 in
set_option maxHeartbeats 2000000 in
theorem markRow_any (i : Nat) (w : World) (hi : i ≤ 1000) :
    Calls Tryz.prog 48 #[.int .i64 1, .int .i64 (i : Int)] w (Ret w (.agg #[.int .i64 0, .int .i64 (mk1 i), .int .i64 0, .int .i64 0, .int .i64 0])) := by
  go_enter Tryz.func48, Tryz.ntmps48
  go_wp2_with (go_at_call 52; refine (mark1_any i _ hi).mono ?_; rintro e w' ⟨rfl, rfl⟩)
  exact bodyPost_ret (results_row1 rfl _ _ w.heap.size 112 #[.int .i64 0, .int .i64 (mk1 i), .int .i64 0, .int .i64 0, .int .i64 0] _ rfl (Bk.new w _ _) Tryz.underlying112 rfl info_rowK) rfl ⟨rfl, ba1 w _⟩
set_option maxRecDepth 100000 in
set_option maxHeartbeats 2000000 in
theorem lentRows_any (A : Option Addr) (c : Nat) (l : List (List Int)) (w : World) (hs : SlT tRow w (Lt w.heap.size) A l) (hr : l.length ≤ 3518437208780) :
    Calls Tryz.prog 21 #[.slice A l.length c] w (LentRet tRow w l (marksRow 12)) := by
  obtain ⟨i0, z, hi, hz, h4, h5, _⟩ := el_rowK.info
  have HS := Lib.hid hs; clear hs
  have hfin : Hid (∀ wr v, OwnS tRow 112 wr w.heap.size (Lt w.heap.size) v (l ++ marksRow 12) → Below w.heap.size w wr → ∃ A c, v = .slice A (l.length + 12) c ∧ l.length + 12 ≤ c ∧ c ≤ maxLen ∧ SlT tRow wr (Fr w.heap.size wr) A (l ++ marksRow 12)) := Lib.hid fun wr v ho hb => by
    obtain ⟨A, c, rfl, h1, h2, h3⟩ := ho.noneR.sl
    rw [List.length_append, marksRow_len] at h1
    exact ⟨A, c, by rw [List.length_append, marksRow_len], h1, h2, h3.more (or2_fr fun _ h => h.elim)⟩
  go_enter Tryz.func21, Tryz.ntmps21
  go_wp2_with (at_make; refine wpList_make_own _ rfl _ _ 26 rfl w.heap.size 112 i0 z 5 el_rowK.under hi hz h4 _ _ _ (l.length + 12) rfl rfl ?k1 ?k2 ?k3 ?k4 ?_)
  case k1 => omega
  case k2 => rw [h5]; omega
  case k3 => unfold maxLen; omega
  case k4 => exact Nat.le_refl _
  intro w1 ho1 hg1
  have hb1 : Below w.heap.size w w1 := ⟨hg1.os, hg1.tape, hg1.output, hg1.size, fun k hk => hg1.block k hk (by simp)⟩
  have hO1 : OwnS tRow 112 w1 w.heap.size (Lt w.heap.size) (.slice (some ⟨w.heap.size, 0, none⟩) 0 (l.length + 12)) [] := ⟨[], ho1, rfl, fun b hb => ⟨Nat.lt_of_lt_of_le hb hb1.size, by have hb : b < w.heap.size := hb; simp [Value.ownBlock]; omega⟩⟩
  clear ho1 hg1
  have hz1 := hb1.size
  go_wp2_with (at_builtin; refine wpList_append_R el_rowK rfl (.tmp 9) (.tmp 10) rfl w.heap.size (Lt w.heap.size) (.slice (some ⟨w.heap.size, 0, none⟩) 0 (l.length + 12)) [] rfl hO1 A l.length c l rfl rfl ((HS.out.keepB (B := w.heap.size) (fun _ h => h) hb1).src rfl fun b hb => Nat.lt_of_lt_of_le hb hz1) ?d1 ?d2 ?d3 ?_)
  case d1 => unfold maxLen; simp; omega
  case d2 => simp; omega
  case d3 => exact hz1
  intro v2 w2 hO2 hg2 hb2
  have HV := Lib.hid hO2
  have HB := Lib.hid (hb1.trans hb2)
  clear hO1 hb1 hg2 hb2 hz1 HS hO2
  go_wp2_with fail
  go_loopw [3, 4] (fun v i wr => ∃ k : Nat, k ≤ 12 ∧ i = .int .i64 k ∧ Hid (OwnS tRow 112 wr w.heap.size (Lt w.heap.size) v (l ++ marksRow k) ∧ Below w.heap.size w wr)) (fun _ i _ => 12 - (intOf i).toNat)
  case atStart => exact ⟨0, by omega, rfl, Lib.hid ⟨by simpa [marksRow] using HV.out, HB.out⟩⟩
  case round =>
    clear HV HB
    rename_i v i wr
    obtain ⟨k, hk, rfl, HV⟩ := hrel
    obtain ⟨V, rfl⟩ : ∃ V, V = wr := ⟨_, rfl⟩
    by_cases hlt : k < 12
    · have i0' : (0 : Int) ≤ (k : Int) := by omega
      have i1' : (k : Int) < 12 := by omega
      have HSU := Lib.hid (marksRow_succ k)
      have hmk : (marksRow k).length = k := marksRow_len k
      have HC := Lib.hid (markRow_any k V (by omega))
      generalize marksRow k = M at *
      go_wp2_with fail
      refine HC.out.mono ?_
      rintro e V2 ⟨rfl, hb⟩
      simp only
      have hz := HV.out.2.size
      have hb2 : Below V.heap.size V (V2.alloc (.cells #[.int .i64 0, .int .i64 (mk1 k), .int .i64 0, .int .i64 0, .int .i64 0] 112)) := hb.trans ((ba1 V2 _).mono hb.size)
      have HO := Lib.hid (HV.out.1.below hb2)
      have HSR : Hid (Src tRow (V2.alloc (.cells #[.int .i64 0, .int .i64 (mk1 k), .int .i64 0, .int .i64 0, .int .i64 0] 112)) (Lt w.heap.size) (some ⟨V2.heap.size, 0, none⟩) 1 [mkRow k]) := Lib.hid (Src.blk (Bk.new V2 _ _) (Flat.single ⟨rfl, rfl⟩) rfl)
      have HB2 := Lib.hid (HV.out.2.trans (hb2.mono hz))
      have hzz : w.heap.size ≤ (V2.alloc (.cells #[.int .i64 0, .int .i64 (mk1 k), .int .i64 0, .int .i64 0, .int .i64 0] 112)).heap.size := HB2.out.size
      clear HC hb hb2 HV
      go_wp2_with (at_builtin; refine wpList_append_R el_rowK rfl (.tmp 16) (.tmp 19) rfl w.heap.size (Lt w.heap.size) _ (l ++ M) rfl HO.out (some ⟨V2.heap.size, 0, none⟩) 1 1 [mkRow k] rfl rfl HSR.out ?f1 ?f2 hzz ?_)
      case f1 => unfold maxLen; simp; omega
      case f2 => simp; omega
      intro v3 w3 hO3 hg3 hb3
      have HN : Hid (OwnS tRow 112 w3 w.heap.size (Lt w.heap.size) v3 (l ++ marksRow (k + 1)) ∧ Below w.heap.size w w3) := Lib.hid ⟨by rw [HSU.out, ← List.append_assoc]; first | exact hO3 | (rw [List.append_assoc]; exact hO3), HB2.out.trans hb3⟩
      clear HO HSR hO3 hg3 hb3 HSU HB2
      go_wp2_with fail
      go_roundw
      case rel => first | exact ⟨k + 1, by omega, by go_num, HN⟩ | ((repeat apply Exists.intro); (first | exact ⟨⟨k + 1, by omega, by go_num, HN⟩, rfl⟩ | exact ⟨by omega, by go_num, HN⟩))
      case measure => simp [intOf]; omega
    · obtain rfl : k = 12 := by omega
      obtain ⟨A', c', rfl, h1, h2, h3⟩ := hfin.out _ _ HV.out.1 HV.out.2
      have hb := HV.out.2
      have hm12 := marksRow_len 12
      clear HV
      have i1 : (0 : Int) ≤ (l.length : Int) := by omega
      have i2 : (l.length : Int) ≤ (c' : Int) := by omega
      unfold maxLen at h2
      go_wp2_with fail
      go_ret
      exact ⟨A', c', rfl, by omega, by unfold maxLen; omega, h3, hb⟩
theorem info_frmK : (Tryz.prog.info? 115).map (·.size) = some 5 := by kernel_rfl
theorem el_frmK : El Tryz.prog 27 115 5 40 := El.mk' Tryz.underlying27 (by kernel_rfl) (by decide)
def mkFrame (i : Nat) : List Int := [mk1 i, 0, 0, 0, 0]
def marksFrame (n : Nat) : List (List Int) := (List.range n).map mkFrame
theorem marksFrame_succ (n : Nat) : marksFrame (n + 1) = marksFrame n ++ [mkFrame n] := by simp [marksFrame, List.range_succ]
theorem marksFrame_len (n : Nat) : (marksFrame n).length = n := by simp [marksFrame]
set_option maxRecDepth 100000 in
set_option maxHeartbeats 2000000 in
theorem markFrame_any (i : Nat) (w : World) (hi : i ≤ 1000) :
    Calls Tryz.prog 49 #[.int .i64 1, .int .i64 (i : Int)] w (Ret w (.agg #[.int .i64 (mk1 i), .int .i64 0, .int .i64 0, .int .i64 0, .int .i64 0])) := by
  go_enter Tryz.func49, Tryz.ntmps49
  go_wp2_with (go_at_call 52; refine (mark1_any i _ hi).mono ?_; rintro e w' ⟨rfl, rfl⟩)
  exact bodyPost_ret (results_row1 rfl _ _ w.heap.size 115 #[.int .i64 (mk1 i), .int .i64 0, .int .i64 0, .int .i64 0, .int .i64 0] _ rfl (Bk.new w _ _) Tryz.underlying115 rfl info_frmK) rfl ⟨rfl, ba1 w _⟩
set_option maxRecDepth 100000 in
set_option maxHeartbeats 2000000 in
theorem lentFrames_any (A : Option Addr) (c : Nat) (l : List (List Int)) (w : World) (hs : SlT tRow w (Lt w.heap.size) A l) (hr : l.length ≤ 3518437208780) :
    Calls Tryz.prog 22 #[.slice A l.length c] w (LentRet tRow w l (marksFrame 12)) := by
  obtain ⟨i0, z, hi, hz, h4, h5, _⟩ := el_frmK.info
  have HS := Lib.hid hs; clear hs
  have hfin : Hid (∀ wr v, OwnS tRow 115 wr w.heap.size (Lt w.heap.size) v (l ++ marksFrame 12) → Below w.heap.size w wr → ∃ A c, v = .slice A (l.length + 12) c ∧ l.length + 12 ≤ c ∧ c ≤ maxLen ∧ SlT tRow wr (Fr w.heap.size wr) A (l ++ marksFrame 12)) := Lib.hid fun wr v ho hb => by
    obtain ⟨A, c, rfl, h1, h2, h3⟩ := ho.noneR.sl
    rw [List.length_append, marksFrame_len] at h1
    exact ⟨A, c, by rw [List.length_append, marksFrame_len], h1, h2, h3.more (or2_fr fun _ h => h.elim)⟩
  go_enter Tryz.func22, Tryz.ntmps22
  go_wp2_with (at_make; refine wpList_make_own _ rfl _ _ 27 rfl w.heap.size 115 i0 z 5 el_frmK.under hi hz h4 _ _ _ (l.length + 12) rfl rfl ?k1 ?k2 ?k3 ?k4 ?_)
  case k1 => omega
  case k2 => rw [h5]; omega
  case k3 => unfold maxLen; omega
  case k4 => exact Nat.le_refl _
  intro w1 ho1 hg1
  have hb1 : Below w.heap.size w w1 := ⟨hg1.os, hg1.tape, hg1.output, hg1.size, fun k hk => hg1.block k hk (by simp)⟩
  have hO1 : OwnS tRow 115 w1 w.heap.size (Lt w.heap.size) (.slice (some ⟨w.heap.size, 0, none⟩) 0 (l.length + 12)) [] := ⟨[], ho1, rfl, fun b hb => ⟨Nat.lt_of_lt_of_le hb hb1.size, by have hb : b < w.heap.size := hb; simp [Value.ownBlock]; omega⟩⟩
  clear ho1 hg1
  have hz1 := hb1.size
  go_wp2_with (at_builtin; refine wpList_append_R el_frmK rfl (.tmp 9) (.tmp 10) rfl w.heap.size (Lt w.heap.size) (.slice (some ⟨w.heap.size, 0, none⟩) 0 (l.length + 12)) [] rfl hO1 A l.length c l rfl rfl ((HS.out.keepB (B := w.heap.size) (fun _ h => h) hb1).src rfl fun b hb => Nat.lt_of_lt_of_le hb hz1) ?d1 ?d2 ?d3 ?_)
  case d1 => unfold maxLen; simp; omega
  case d2 => simp; omega
  case d3 => exact hz1
  intro v2 w2 hO2 hg2 hb2
  have HV := Lib.hid hO2
  have HB := Lib.hid (hb1.trans hb2)
  clear hO1 hb1 hg2 hb2 hz1 HS hO2
  go_wp2_with fail
  go_loopw [3, 4] (fun v i wr => ∃ k : Nat, k ≤ 12 ∧ i = .int .i64 k ∧ Hid (OwnS tRow 115 wr w.heap.size (Lt w.heap.size) v (l ++ marksFrame k) ∧ Below w.heap.size w wr)) (fun _ i _ => 12 - (intOf i).toNat)
  case atStart => exact ⟨0, by omega, rfl, Lib.hid ⟨by simpa [marksFrame] using HV.out, HB.out⟩⟩
  case round =>
    clear HV HB
    rename_i v i wr
    obtain ⟨k, hk, rfl, HV⟩ := hrel
    obtain ⟨V, rfl⟩ : ∃ V, V = wr := ⟨_, rfl⟩
    by_cases hlt : k < 12
    · have i0' : (0 : Int) ≤ (k : Int) := by omega
      have i1' : (k : Int) < 12 := by omega
      have HSU := Lib.hid (marksFrame_succ k)
      have hmk : (marksFrame k).length = k := marksFrame_len k
      have HC := Lib.hid (markFrame_any k V (by omega))
      generalize marksFrame k = M at *
      go_wp2_with fail
      refine HC.out.mono ?_
      rintro e V2 ⟨rfl, hb⟩
      simp only
      have hz := HV.out.2.size
      have hb2 : Below V.heap.size V (V2.alloc (.cells #[.int .i64 (mk1 k), .int .i64 0, .int .i64 0, .int .i64 0, .int .i64 0] 115)) := hb.trans ((ba1 V2 _).mono hb.size)
      have HO := Lib.hid (HV.out.1.below hb2)
      have HSR : Hid (Src tRow (V2.alloc (.cells #[.int .i64 (mk1 k), .int .i64 0, .int .i64 0, .int .i64 0, .int .i64 0] 115)) (Lt w.heap.size) (some ⟨V2.heap.size, 0, none⟩) 1 [mkFrame k]) := Lib.hid (Src.blk (Bk.new V2 _ _) (Flat.single ⟨rfl, rfl⟩) rfl)
      have HB2 := Lib.hid (HV.out.2.trans (hb2.mono hz))
      have hzz : w.heap.size ≤ (V2.alloc (.cells #[.int .i64 (mk1 k), .int .i64 0, .int .i64 0, .int .i64 0, .int .i64 0] 115)).heap.size := HB2.out.size
      clear HC hb hb2 HV
      go_wp2_with (at_builtin; refine wpList_append_R el_frmK rfl (.tmp 16) (.tmp 19) rfl w.heap.size (Lt w.heap.size) _ (l ++ M) rfl HO.out (some ⟨V2.heap.size, 0, none⟩) 1 1 [mkFrame k] rfl rfl HSR.out ?f1 ?f2 hzz ?_)
      case f1 => unfold maxLen; simp; omega
      case f2 => simp; omega
      intro v3 w3 hO3 hg3 hb3
      have HN : Hid (OwnS tRow 115 w3 w.heap.size (Lt w.heap.size) v3 (l ++ marksFrame (k + 1)) ∧ Below w.heap.size w w3) := Lib.hid ⟨by rw [HSU.out, ← List.append_assoc]; first | exact hO3 | (rw [List.append_assoc]; exact hO3), HB2.out.trans hb3⟩
      clear HO HSR hO3 hg3 hb3 HSU HB2
      go_wp2_with fail
      go_roundw
      case rel => first | exact ⟨k + 1, by omega, by go_num, HN⟩ | ((repeat apply Exists.intro); (first | exact ⟨⟨k + 1, by omega, by go_num, HN⟩, rfl⟩ | exact ⟨by omega, by go_num, HN⟩))
      case measure => simp [intOf]; omega
    · obtain rfl : k = 12 := by omega
      obtain ⟨A', c', rfl, h1, h2, h3⟩ := hfin.out _ _ HV.out.1 HV.out.2
      have hb := HV.out.2
      have hm12 := marksFrame_len 12
      clear HV
      have i1 : (0 : Int) ≤ (l.length : Int) := by omega
      have i2 : (l.length : Int) ≤ (c' : Int) := by omega
      unfold maxLen at h2
      go_wp2_with fail
      go_ret
      exact ⟨A', c', rfl, by omega, by unfold maxLen; omega, h3, hb⟩
end Go.Proofs.YtmhikcleekfbpaaGreatDoor
namespace Go.Proofs.YtmhikcleekfbpaaGreatDoor
open Go.RowKit

theorem info_shpK : (Tryz.prog.info? 32).map (·.size) = some 13 := by kernel_rfl
theorem below_grownK {g : Nat} {w w1 w2 : World} (h1 : Below w.heap.size w w1) (hg : w1.grownBy w2 (some g)) (hb : w.heap.size ≤ g) : Below w.heap.size w w2 :=
  ⟨hg.os.trans h1.os, hg.tape.trans h1.tape, hg.output.trans h1.output, Nat.le_trans h1.size hg.size, fun k hk' => (hg.block k (Nat.lt_of_lt_of_le hk' h1.size) (by intro e; injection e with e; omega)).trans (h1.block k hk')⟩
theorem OwnF.on {α : Type} {T : Ty α} {e : TypeId} {w w' : World} {base : Nat} {v : Value} {l : List α} (h : OwnF T e w base v l) (hb : Below w.heap.size w w') : OwnF T e w' base v l := by
  obtain ⟨S, hS, ho⟩ := h
  exact ⟨S, fun b h => ⟨(hS b h).1, Nat.lt_of_lt_of_le (hS b h).2 hb.size⟩, ho.below hb⟩
theorem OwnF.off {α : Type} {T : Ty α} {e : TypeId} {w w' : World} {base g : Nat} {v : Value} {l : List α} (h : OwnF T e w base v l) (hg : w.grownBy w' (some g)) (hlt : g < base) : OwnF T e w' base v l := by
  obtain ⟨S, hS, xs, h1, h2, h3⟩ := h
  have hne : ∀ b, S b → some b ≠ some g := fun b hb e => by injection e with e; have := (hS b hb).1; omega
  refine ⟨S, fun b h => ⟨(hS b h).1, Nat.lt_of_lt_of_le (hS b h).2 hg.size⟩, xs, h1.kept hg (.inr fun e => ?_), h2.keep fun b o hb => World.cell?_of_block (hg.block b (h3 b hb).1 (hne b hb)), fun b hb => ⟨Nat.lt_of_lt_of_le (h3 b hb).1 hg.size, (h3 b hb).2⟩⟩
  have := (h1.lt g e).1
  omega
theorem OwnF.lower {α : Type} {T : Ty α} {e : TypeId} {w : World} {base B : Nat} {v : Value} {l : List α} (h : OwnF T e w base v l) (hB : B ≤ base) : OwnF T e w B v l := by
  obtain ⟨S, hS, xs, h1, h2, h3⟩ := h
  exact ⟨S, fun b h => ⟨Nat.le_trans hB (hS b h).1, (hS b h).2⟩, xs, own_mono h1 hB, h2, h3⟩
theorem SlT.frOn {α : Type} {T : Ty α} {w w' : World} {base : Nat} {A : Option Addr} {l : List α} (h : SlT T w (Fr base w) A l) (hb : Below w.heap.size w w') : SlT T w' (Fr base w') A l :=
  (h.keepB (B := w.heap.size) (fun _b h => h.2) hb).more fun _b h => ⟨h.1, Nat.lt_of_lt_of_le h.2 hb.size⟩
theorem SlT.frOff {α : Type} {T : Ty α} {w w' : World} {base g : Nat} {A : Option Addr} {l : List α} (h : SlT T w (Fr base w) A l) (hg : w.grownBy w' (some g)) (hlt : g < base) : SlT T w' (Fr base w') A l :=
  (h.keep fun b o hb => World.cell?_of_block (hg.block b hb.2 fun e => by injection e with e; have := hb.1; omega)).more fun b h => ⟨h.1, Nat.lt_of_lt_of_le h.2 hg.size⟩
/-- A lent ship: all is the call's own. -/
structure LentR (base B1 : Nat) (w : World) (s : Shp) (h : Hd) : Prop where
  mid : base ≤ B1 ∧ B1 ≤ w.heap.size
  lt : ∀ q, (Value.slice h.A1 (s.cols.length + 12) h.c1).ownBlock = some q → q < B1
  cols : OwnF tColK 50 w base (.slice h.A1 (s.cols.length + 12) h.c1) (lentC s.cols ++ marksC 12)
  covs : OwnF tCovK 52 w B1 (.slice h.A2 (s.covs.length + 12) h.c2) (lentCo s.covs ++ marksCo 12)
  rows : s.rows.length + 12 ≤ h.c3 ∧ h.c3 ≤ maxLen ∧ SlT tRow w (Fr B1 w) h.A3 (s.rows ++ marksRow 12)
  frames : s.frames.length + 12 ≤ h.c4 ∧ h.c4 ≤ maxLen ∧ SlT tRow w (Fr B1 w) h.A4 (s.frames ++ marksFrame 12)
  tanks : OwnF tTnkK 118 w B1 (.slice h.A5 (s.tanks.length + 12) h.c5) (lentTn s.tanks ++ marksTn 12)
/-- Few enough to be lent. -/
structure FewL (s : Shp) : Prop where
  cols : s.cols.length ≤ 1000000000
  covs : s.covs.length ≤ 1000000000
  rows : s.rows.length ≤ 3518437208780
  frames : s.frames.length ≤ 3518437208780
  tanks : s.tanks.length ≤ 2199023255488
  plugs : ∀ x ∈ s.cols, x.plugs.length ≤ 17592186043904
  hrows : ∀ x ∈ s.covs, x.rows.length ≤ 17592186043904
  steps : ∀ x ∈ s.tanks, x.steps.length ≤ 17592186043904
set_option maxRecDepth 100000 in
set_option maxHeartbeats 8000000 in
theorem lentShip_any (s : Shp) (h : Hd) (w : World) (hs : ShpR w (Lt w.heap.size) s h) (hf : FewL s) :
    Calls Tryz.prog 6 #[.agg (shpA s h)] w (fun e w' => Below w.heap.size w w' ∧ ∃ h' B1, e = .returned (.agg (shpA s h')) ∧ LentR (w.heap.size + 2) B1 w' s h') := by
  have hb0 := ba2 w (.cells (shpA s h) 32) (.cells #[.slice none 0 0, .slice none 0 0, .int .i64 0, .int .i64 0, .int .i64 0, .int .i64 0, .slice none 0 0, .slice none 0 0, .slice none 0 0, .int .i64 0, .int .i64 0, .int .i64 0, .int .i64 0] 32)
  have HSH := Lib.hid hs
  have HB := Lib.hid hb0
  have KX := Lib.hid ((Bk.new w 32 (shpA s h)).alloc (.cells #[.slice none 0 0, .slice none 0 0, .int .i64 0, .int .i64 0, .int .i64 0, .int .i64 0, .slice none 0 0, .slice none 0 0, .slice none 0 0, .int .i64 0, .int .i64 0, .int .i64 0, .int .i64 0] 32))
  have KZ := Lib.hid (Bk.nxt (w := w) (.cells (shpA s h) 32) 32 #[.slice none 0 0, .slice none 0 0, .int .i64 0, .int .i64 0, .int .i64 0, .int .i64 0, .slice none 0 0, .slice none 0 0, .slice none 0 0, .int .i64 0, .int .i64 0, .int .i64 0, .int .i64 0])
  have HSZ : Hid (((w.alloc (.cells (shpA s h) 32)).alloc (.cells #[.slice none 0 0, .slice none 0 0, .int .i64 0, .int .i64 0, .int .i64 0, .int .i64 0, .slice none 0 0, .slice none 0 0, .slice none 0 0, .int .i64 0, .int .i64 0, .int .i64 0, .int .i64 0] 32)).heap.size = w.heap.size + 2) := Lib.hid (by simp)
  have HFE := Lib.hid hf
  clear hs hb0 hf
  have hu : Hid (∀ h' : Hd, (Value.agg (shpA s h')) = .agg #[.slice h'.A1 s.cols.length h'.c1, .slice h'.A2 s.covs.length h'.c2, .int .i64 s.l0, .int .i64 s.l1, .int .i64 s.l2, .int .i64 s.l3, .slice h'.A3 s.rows.length h'.c3, .slice h'.A4 s.frames.length h'.c4, .slice h'.A5 s.tanks.length h'.c5, .int .i64 s.m0, .int .i64 s.m1, .int .i64 s.m2, .int .i64 s.m3]) := Lib.hid fun _ => rfl
  go_enter Tryz.func6, Tryz.ntmps6
  unfold shpA at HB KX KZ HSZ ⊢
  have e0 : ((w.alloc (.cells #[.slice h.A1 s.cols.length h.c1, .slice h.A2 s.covs.length h.c2, .int .i64 s.l0, .int .i64 s.l1, .int .i64 s.l2, .int .i64 s.l3, .slice h.A3 s.rows.length h.c3, .slice h.A4 s.frames.length h.c4, .slice h.A5 s.tanks.length h.c5, .int .i64 s.m0, .int .i64 s.m1, .int .i64 s.m2, .int .i64 s.m3] 32)).alloc (.cells #[.slice none 0 0, .slice none 0 0, .int .i64 0, .int .i64 0, .int .i64 0, .int .i64 0, .slice none 0 0, .slice none 0 0, .slice none 0 0, .int .i64 0, .int .i64 0, .int .i64 0, .int .i64 0] 32)).cell? ⟨w.heap.size, 0, none⟩ = some (.slice h.A1 s.cols.length h.c1) := KX.out.cell 0
  go_upto_region 1 with fail
  generalize ((w.alloc _).alloc _) = U0 at *
  have HGT : Hid (U0.heap.size = w.heap.size + 2) := HSZ
  clear HSZ
  go_wp2_with fail
  refine (lentColumns_any h.A1 h.c1 s.cols U0 (HSH.out.on HB.out).cols HFE.out.cols HFE.out.plugs).mono ?_
  rintro e V1 ⟨hb, ⟨A1', c1'⟩, rfl, ho⟩
  simp only
  have hw2 : w.heap.size + 2 ≤ U0.heap.size := Nat.le_of_eq HGT.out.symm
  have hbw : Below w.heap.size w V1 := HB.out.trans (hb.mono HB.out.size)
  have kx := KX.out.below hb KX.out.lt
  have kz := KZ.out.below hb KZ.out.lt
  have yj : V1.cell? ⟨w.heap.size, 0, none⟩ = some (.slice h.A1 s.cols.length h.c1) := kx.cell 0
  have fj := kx.frozen 0
  have hgr : V1.grownBy (V1.setCell ⟨w.heap.size, 0, none⟩ (.slice A1' s.cols.length c1')) (some w.heap.size) := ⟨rfl, rfl, rfl, by simp [World.setCell], fun x _ hne => Below.heap_setCell V1 ⟨w.heap.size, 0, none⟩ _ x (fun e => hne (by rw [e]))⟩
  have HB' : Hid (Below w.heap.size w (V1.setCell ⟨w.heap.size, 0, none⟩ (.slice A1' s.cols.length c1'))) := Lib.hid (hbw.setCell (p := ⟨w.heap.size, 0, none⟩) (Nat.le_refl _) _)
  have KX' : Hid (Bk (V1.setCell ⟨w.heap.size, 0, none⟩ (.slice A1' s.cols.length c1')) w.heap.size 32 #[.slice A1' s.cols.length c1', .slice h.A2 s.covs.length h.c2, .int .i64 s.l0, .int .i64 s.l1, .int .i64 s.l2, .int .i64 s.l3, .slice h.A3 s.rows.length h.c3, .slice h.A4 s.frames.length h.c4, .slice h.A5 s.tanks.length h.c5, .int .i64 s.m0, .int .i64 s.m1, .int .i64 s.m2, .int .i64 s.m3]) := Lib.hid (kx.set_ 0 _)
  have KZ' : Hid (Bk (V1.setCell ⟨w.heap.size, 0, none⟩ (.slice A1' s.cols.length c1')) (w.heap.size + 1) 32 #[.slice none 0 0, .slice none 0 0, .int .i64 0, .int .i64 0, .int .i64 0, .int .i64 0, .slice none 0 0, .slice none 0 0, .slice none 0 0, .int .i64 0, .int .i64 0, .int .i64 0, .int .i64 0]) := Lib.hid (kz.far (p := ⟨w.heap.size, 0, none⟩) (by show w.heap.size + 1 ≠ w.heap.size; omega) _)
  have HGT' : Hid ((w.heap.size + 2) ≤ (V1.setCell ⟨w.heap.size, 0, none⟩ (.slice A1' s.cols.length c1')).heap.size) := Lib.hid (Nat.le_trans hw2 (Nat.le_trans hb.size hgr.size))
  have P1' : Hid (OwnF tColK 50 (V1.setCell ⟨w.heap.size, 0, none⟩ (.slice A1' s.cols.length c1')) (w.heap.size + 2) (.slice A1' (s.cols.length + 12) c1') (lentC s.cols ++ marksC 12)) := Lib.hid ((ho.lower hw2).off hgr (by omega))
  clear HB KX KZ HGT hbw kx kz hgr hw2 hb ho
  go_upto_region 2 with fail
  clear yj fj
  generalize (World.setCell _ _ _) = U1 at *
  have HB := HB'
  have KX := KX'
  have KZ := KZ'
  have HGT := HGT'
  have P1 := P1'
  clear HB' KX' KZ' HGT' P1'
  have HLT : Hid (∀ q, (Value.slice A1' (s.cols.length + 12) c1').ownBlock = some q → q < U1.heap.size) := Lib.hid fun q hq => by
    obtain ⟨S, hS, xs, h1, _⟩ := P1.out
    exact (h1.lt q hq).2
  obtain ⟨B1, hB1⟩ : ∃ B, U1.heap.size = B := ⟨_, rfl⟩
  have HG2 : Hid (w.heap.size + 2 ≤ B1) := Lib.hid (hB1 ▸ HGT.out)
  rw [hB1] at HLT
  clear HGT
  have HGT : Hid (B1 ≤ U1.heap.size) := Lib.hid (Nat.le_of_eq hB1.symm)
  clear hB1
  try clear V1
  try clear U0
  have e1 : U1.cell? ⟨w.heap.size, 1, none⟩ = some (.slice h.A2 s.covs.length h.c2) := KX.out.cell 1
  go_wp2_with fail
  clear e1
  refine (lentCovers_any h.A2 h.c2 s.covs U1 (HSH.out.on HB.out).covs HFE.out.covs HFE.out.hrows).mono ?_
  rintro e V2 ⟨hb, ⟨A2', c2'⟩, rfl, ho⟩
  simp only
  have hw2 : B1 ≤ U1.heap.size := HGT.out
  have hg2 := HG2.out
  have hbw : Below w.heap.size w V2 := HB.out.trans (hb.mono HB.out.size)
  have kx := KX.out.below hb KX.out.lt
  have kz := KZ.out.below hb KZ.out.lt
  have yj : V2.cell? ⟨w.heap.size, 1, none⟩ = some (.slice h.A2 s.covs.length h.c2) := kx.cell 1
  have fj := kx.frozen 1
  have hgr : V2.grownBy (V2.setCell ⟨w.heap.size, 1, none⟩ (.slice A2' s.covs.length c2')) (some w.heap.size) := ⟨rfl, rfl, rfl, by simp [World.setCell], fun x _ hne => Below.heap_setCell V2 ⟨w.heap.size, 1, none⟩ _ x (fun e => hne (by rw [e]))⟩
  have HB' : Hid (Below w.heap.size w (V2.setCell ⟨w.heap.size, 1, none⟩ (.slice A2' s.covs.length c2'))) := Lib.hid (hbw.setCell (p := ⟨w.heap.size, 1, none⟩) (Nat.le_refl _) _)
  have KX' : Hid (Bk (V2.setCell ⟨w.heap.size, 1, none⟩ (.slice A2' s.covs.length c2')) w.heap.size 32 #[.slice A1' s.cols.length c1', .slice A2' s.covs.length c2', .int .i64 s.l0, .int .i64 s.l1, .int .i64 s.l2, .int .i64 s.l3, .slice h.A3 s.rows.length h.c3, .slice h.A4 s.frames.length h.c4, .slice h.A5 s.tanks.length h.c5, .int .i64 s.m0, .int .i64 s.m1, .int .i64 s.m2, .int .i64 s.m3]) := Lib.hid (kx.set_ 1 _)
  have KZ' : Hid (Bk (V2.setCell ⟨w.heap.size, 1, none⟩ (.slice A2' s.covs.length c2')) (w.heap.size + 1) 32 #[.slice none 0 0, .slice none 0 0, .int .i64 0, .int .i64 0, .int .i64 0, .int .i64 0, .slice none 0 0, .slice none 0 0, .slice none 0 0, .int .i64 0, .int .i64 0, .int .i64 0, .int .i64 0]) := Lib.hid (kz.far (p := ⟨w.heap.size, 1, none⟩) (by show w.heap.size + 1 ≠ w.heap.size; omega) _)
  have HGT' : Hid (B1 ≤ (V2.setCell ⟨w.heap.size, 1, none⟩ (.slice A2' s.covs.length c2')).heap.size) := Lib.hid (Nat.le_trans hw2 (Nat.le_trans hb.size hgr.size))
  have P1' := Lib.hid ((P1.out.on hb).off hgr (by omega))
  have P2' : Hid (OwnF tCovK 52 (V2.setCell ⟨w.heap.size, 1, none⟩ (.slice A2' s.covs.length c2')) B1 (.slice A2' (s.covs.length + 12) c2') (lentCo s.covs ++ marksCo 12)) := Lib.hid ((ho.lower hw2).off hgr (by omega))
  clear HB KX KZ HGT hbw kx kz hgr hw2 hb ho hg2 P1
  go_upto_region 3 with fail
  clear yj fj
  generalize (World.setCell _ _ _) = U2 at *
  have HB := HB'
  have KX := KX'
  have KZ := KZ'
  have HGT := HGT'
  have P1 := P1'
  have P2 := P2'
  clear HB' KX' KZ' HGT' P1' P2'
  try clear V2
  try clear U1
  have e2 : U2.cell? ⟨w.heap.size, 6, none⟩ = some (.slice h.A3 s.rows.length h.c3) := KX.out.cell 6
  go_wp2_with fail
  clear e2
  refine (lentRows_any h.A3 h.c3 s.rows U2 (HSH.out.on HB.out).rows HFE.out.rows).mono ?_
  rintro e V3 ⟨A3', c3', rfl, hq1, hq2, ho, hb⟩
  simp only
  have hw2 : B1 ≤ U2.heap.size := HGT.out
  have hg2 := HG2.out
  have hbw : Below w.heap.size w V3 := HB.out.trans (hb.mono HB.out.size)
  have kx := KX.out.below hb KX.out.lt
  have kz := KZ.out.below hb KZ.out.lt
  have yj : V3.cell? ⟨w.heap.size, 6, none⟩ = some (.slice h.A3 s.rows.length h.c3) := kx.cell 6
  have fj := kx.frozen 6
  have hgr : V3.grownBy (V3.setCell ⟨w.heap.size, 6, none⟩ (.slice A3' s.rows.length c3')) (some w.heap.size) := ⟨rfl, rfl, rfl, by simp [World.setCell], fun x _ hne => Below.heap_setCell V3 ⟨w.heap.size, 6, none⟩ _ x (fun e => hne (by rw [e]))⟩
  have HB' : Hid (Below w.heap.size w (V3.setCell ⟨w.heap.size, 6, none⟩ (.slice A3' s.rows.length c3'))) := Lib.hid (hbw.setCell (p := ⟨w.heap.size, 6, none⟩) (Nat.le_refl _) _)
  have KX' : Hid (Bk (V3.setCell ⟨w.heap.size, 6, none⟩ (.slice A3' s.rows.length c3')) w.heap.size 32 #[.slice A1' s.cols.length c1', .slice A2' s.covs.length c2', .int .i64 s.l0, .int .i64 s.l1, .int .i64 s.l2, .int .i64 s.l3, .slice A3' s.rows.length c3', .slice h.A4 s.frames.length h.c4, .slice h.A5 s.tanks.length h.c5, .int .i64 s.m0, .int .i64 s.m1, .int .i64 s.m2, .int .i64 s.m3]) := Lib.hid (kx.set_ 6 _)
  have KZ' : Hid (Bk (V3.setCell ⟨w.heap.size, 6, none⟩ (.slice A3' s.rows.length c3')) (w.heap.size + 1) 32 #[.slice none 0 0, .slice none 0 0, .int .i64 0, .int .i64 0, .int .i64 0, .int .i64 0, .slice none 0 0, .slice none 0 0, .slice none 0 0, .int .i64 0, .int .i64 0, .int .i64 0, .int .i64 0]) := Lib.hid (kz.far (p := ⟨w.heap.size, 6, none⟩) (by show w.heap.size + 1 ≠ w.heap.size; omega) _)
  have HGT' : Hid (B1 ≤ (V3.setCell ⟨w.heap.size, 6, none⟩ (.slice A3' s.rows.length c3')).heap.size) := Lib.hid (Nat.le_trans hw2 (Nat.le_trans hb.size hgr.size))
  have P1' := Lib.hid ((P1.out.on hb).off hgr (by omega))
  have P2' := Lib.hid ((P2.out.on hb).off hgr (by omega))
  have P3' : Hid (SlT tRow (V3.setCell ⟨w.heap.size, 6, none⟩ (.slice A3' s.rows.length c3')) (Fr B1 (V3.setCell ⟨w.heap.size, 6, none⟩ (.slice A3' s.rows.length c3'))) A3' (s.rows ++ marksRow 12)) := Lib.hid ((ho.more fun b h => ⟨Nat.le_trans hw2 h.1, h.2⟩).frOff (w := V3) hgr (by omega))
  have Q3 := Lib.hid (And.intro hq1 hq2)
  clear HB KX KZ HGT hbw kx kz hgr hw2 hb ho hg2 hq1 hq2 P1 P2
  go_upto_region 4 with fail
  clear yj fj
  generalize (World.setCell _ _ _) = U3 at *
  have HB := HB'
  have KX := KX'
  have KZ := KZ'
  have HGT := HGT'
  have P1 := P1'
  have P2 := P2'
  have P3 := P3'
  clear HB' KX' KZ' HGT' P1' P2' P3'
  try clear V3
  try clear U2
  have e3 : U3.cell? ⟨w.heap.size, 7, none⟩ = some (.slice h.A4 s.frames.length h.c4) := KX.out.cell 7
  go_wp2_with fail
  clear e3
  refine (lentFrames_any h.A4 h.c4 s.frames U3 (HSH.out.on HB.out).frames HFE.out.frames).mono ?_
  rintro e V4 ⟨A4', c4', rfl, hq1, hq2, ho, hb⟩
  simp only
  have hw2 : B1 ≤ U3.heap.size := HGT.out
  have hg2 := HG2.out
  have hbw : Below w.heap.size w V4 := HB.out.trans (hb.mono HB.out.size)
  have kx := KX.out.below hb KX.out.lt
  have kz := KZ.out.below hb KZ.out.lt
  have yj : V4.cell? ⟨w.heap.size, 7, none⟩ = some (.slice h.A4 s.frames.length h.c4) := kx.cell 7
  have fj := kx.frozen 7
  have hgr : V4.grownBy (V4.setCell ⟨w.heap.size, 7, none⟩ (.slice A4' s.frames.length c4')) (some w.heap.size) := ⟨rfl, rfl, rfl, by simp [World.setCell], fun x _ hne => Below.heap_setCell V4 ⟨w.heap.size, 7, none⟩ _ x (fun e => hne (by rw [e]))⟩
  have HB' : Hid (Below w.heap.size w (V4.setCell ⟨w.heap.size, 7, none⟩ (.slice A4' s.frames.length c4'))) := Lib.hid (hbw.setCell (p := ⟨w.heap.size, 7, none⟩) (Nat.le_refl _) _)
  have KX' : Hid (Bk (V4.setCell ⟨w.heap.size, 7, none⟩ (.slice A4' s.frames.length c4')) w.heap.size 32 #[.slice A1' s.cols.length c1', .slice A2' s.covs.length c2', .int .i64 s.l0, .int .i64 s.l1, .int .i64 s.l2, .int .i64 s.l3, .slice A3' s.rows.length c3', .slice A4' s.frames.length c4', .slice h.A5 s.tanks.length h.c5, .int .i64 s.m0, .int .i64 s.m1, .int .i64 s.m2, .int .i64 s.m3]) := Lib.hid (kx.set_ 7 _)
  have KZ' : Hid (Bk (V4.setCell ⟨w.heap.size, 7, none⟩ (.slice A4' s.frames.length c4')) (w.heap.size + 1) 32 #[.slice none 0 0, .slice none 0 0, .int .i64 0, .int .i64 0, .int .i64 0, .int .i64 0, .slice none 0 0, .slice none 0 0, .slice none 0 0, .int .i64 0, .int .i64 0, .int .i64 0, .int .i64 0]) := Lib.hid (kz.far (p := ⟨w.heap.size, 7, none⟩) (by show w.heap.size + 1 ≠ w.heap.size; omega) _)
  have HGT' : Hid (B1 ≤ (V4.setCell ⟨w.heap.size, 7, none⟩ (.slice A4' s.frames.length c4')).heap.size) := Lib.hid (Nat.le_trans hw2 (Nat.le_trans hb.size hgr.size))
  have P1' := Lib.hid ((P1.out.on hb).off hgr (by omega))
  have P2' := Lib.hid ((P2.out.on hb).off hgr (by omega))
  have P3' := Lib.hid ((P3.out.frOn hb).frOff hgr (by omega))
  have P4' : Hid (SlT tRow (V4.setCell ⟨w.heap.size, 7, none⟩ (.slice A4' s.frames.length c4')) (Fr B1 (V4.setCell ⟨w.heap.size, 7, none⟩ (.slice A4' s.frames.length c4'))) A4' (s.frames ++ marksFrame 12)) := Lib.hid ((ho.more fun b h => ⟨Nat.le_trans hw2 h.1, h.2⟩).frOff (w := V4) hgr (by omega))
  have Q4 := Lib.hid (And.intro hq1 hq2)
  clear HB KX KZ HGT hbw kx kz hgr hw2 hb ho hg2 hq1 hq2 P1 P2 P3
  go_upto_region 5 with fail
  clear yj fj
  generalize (World.setCell _ _ _) = U4 at *
  have HB := HB'
  have KX := KX'
  have KZ := KZ'
  have HGT := HGT'
  have P1 := P1'
  have P2 := P2'
  have P3 := P3'
  have P4 := P4'
  clear HB' KX' KZ' HGT' P1' P2' P3' P4'
  try clear V4
  try clear U3
  have e4 : U4.cell? ⟨w.heap.size, 8, none⟩ = some (.slice h.A5 s.tanks.length h.c5) := KX.out.cell 8
  go_wp2_with fail
  clear e4
  refine (lentTanks_any h.A5 h.c5 s.tanks U4 (HSH.out.on HB.out).tanks HFE.out.tanks HFE.out.steps).mono ?_
  rintro e V5 ⟨hb, ⟨A5', c5'⟩, rfl, ho⟩
  simp only
  have hw2 : B1 ≤ U4.heap.size := HGT.out
  have hg2 := HG2.out
  have hbw : Below w.heap.size w V5 := HB.out.trans (hb.mono HB.out.size)
  have kx := KX.out.below hb KX.out.lt
  have kz := KZ.out.below hb KZ.out.lt
  have yj : V5.cell? ⟨w.heap.size, 8, none⟩ = some (.slice h.A5 s.tanks.length h.c5) := kx.cell 8
  have fj := kx.frozen 8
  have hgr : V5.grownBy (V5.setCell ⟨w.heap.size, 8, none⟩ (.slice A5' s.tanks.length c5')) (some w.heap.size) := ⟨rfl, rfl, rfl, by simp [World.setCell], fun x _ hne => Below.heap_setCell V5 ⟨w.heap.size, 8, none⟩ _ x (fun e => hne (by rw [e]))⟩
  have HB' : Hid (Below w.heap.size w (V5.setCell ⟨w.heap.size, 8, none⟩ (.slice A5' s.tanks.length c5'))) := Lib.hid (hbw.setCell (p := ⟨w.heap.size, 8, none⟩) (Nat.le_refl _) _)
  have KX' : Hid (Bk (V5.setCell ⟨w.heap.size, 8, none⟩ (.slice A5' s.tanks.length c5')) w.heap.size 32 #[.slice A1' s.cols.length c1', .slice A2' s.covs.length c2', .int .i64 s.l0, .int .i64 s.l1, .int .i64 s.l2, .int .i64 s.l3, .slice A3' s.rows.length c3', .slice A4' s.frames.length c4', .slice A5' s.tanks.length c5', .int .i64 s.m0, .int .i64 s.m1, .int .i64 s.m2, .int .i64 s.m3]) := Lib.hid (kx.set_ 8 _)
  have KZ' : Hid (Bk (V5.setCell ⟨w.heap.size, 8, none⟩ (.slice A5' s.tanks.length c5')) (w.heap.size + 1) 32 #[.slice none 0 0, .slice none 0 0, .int .i64 0, .int .i64 0, .int .i64 0, .int .i64 0, .slice none 0 0, .slice none 0 0, .slice none 0 0, .int .i64 0, .int .i64 0, .int .i64 0, .int .i64 0]) := Lib.hid (kz.far (p := ⟨w.heap.size, 8, none⟩) (by show w.heap.size + 1 ≠ w.heap.size; omega) _)
  have HGT' : Hid (B1 ≤ (V5.setCell ⟨w.heap.size, 8, none⟩ (.slice A5' s.tanks.length c5')).heap.size) := Lib.hid (Nat.le_trans hw2 (Nat.le_trans hb.size hgr.size))
  have P1' := Lib.hid ((P1.out.on hb).off hgr (by omega))
  have P2' := Lib.hid ((P2.out.on hb).off hgr (by omega))
  have P3' := Lib.hid ((P3.out.frOn hb).frOff hgr (by omega))
  have P4' := Lib.hid ((P4.out.frOn hb).frOff hgr (by omega))
  have P5' : Hid (OwnF tTnkK 118 (V5.setCell ⟨w.heap.size, 8, none⟩ (.slice A5' s.tanks.length c5')) B1 (.slice A5' (s.tanks.length + 12) c5') (lentTn s.tanks ++ marksTn 12)) := Lib.hid ((ho.lower hw2).off hgr (by omega))
  clear HB KX KZ HGT hbw kx kz hgr hw2 hb ho hg2 P1 P2 P3 P4
  go_upto_region 6 with fail
  clear yj fj
  generalize (World.setCell _ _ _) = U5 at *
  try clear V5
  try clear U4
  go_wp2_with (first | (refine wpList_load_row rfl 32 (.tmp 1) rfl w.heap.size rfl 32 #[.slice A1' s.cols.length c1', .slice A2' s.covs.length c2', .int .i64 s.l0, .int .i64 s.l1, .int .i64 s.l2, .int .i64 s.l3, .slice A3' s.rows.length c3', .slice A4' s.frames.length c4', .slice A5' s.tanks.length c5', .int .i64 s.m0, .int .i64 s.m1, .int .i64 s.m2, .int .i64 s.m3] (0, 0) _ KX'.out.eq Tryz.underlying32 rfl info_shpK ?_) | (refine wpList_store_abs rfl 32 (.tmp 2) (.tmp 23) rfl (w.heap.size + 1) #[.slice A1' s.cols.length c1', .slice A2' s.covs.length c2', .int .i64 s.l0, .int .i64 s.l1, .int .i64 s.l2, .int .i64 s.l3, .slice A3' s.rows.length c3', .slice A4' s.frames.length c4', .slice A5' s.tanks.length c5', .int .i64 s.m0, .int .i64 s.m1, .int .i64 s.m2, .int .i64 s.m3] rfl rfl 32 _ KZ'.out info_shpK rfl (by kernel_rfl) ?_; intro W hk hgw))
  have hg2 := HG2.out
  exact bodyPost_ret (results_row1 rfl _ _ (w.heap.size + 1) 32 #[.slice A1' s.cols.length c1', .slice A2' s.covs.length c2', .int .i64 s.l0, .int .i64 s.l1, .int .i64 s.l2, .int .i64 s.l3, .slice A3' s.rows.length c3', .slice A4' s.frames.length c4', .slice A5' s.tanks.length c5', .int .i64 s.m0, .int .i64 s.m1, .int .i64 s.m2, .int .i64 s.m3] _ rfl hk Tryz.underlying32 rfl info_shpK) rfl ⟨below_grownK HB'.out hgw (by omega), ⟨A1', c1', A2', c2', A3', c3', A4', c4', A5', c5'⟩, B1, rfl, ⟨HG2.out, Nat.le_trans HGT'.out hgw.size⟩, HLT.out, P1'.out.off hgw (by omega), P2'.out.off hgw (by omega), ⟨by have := Q3.out.1; rw [marksRow_len] at this; exact this, Q3.out.2, P3'.out.frOff hgw (by omega)⟩, ⟨by have := Q4.out.1; rw [marksFrame_len] at this; exact this, Q4.out.2, P4'.out.frOff hgw (by omega)⟩, P5'.out.off hgw (by omega)⟩
end Go.Proofs.YtmhikcleekfbpaaGreatDoor
