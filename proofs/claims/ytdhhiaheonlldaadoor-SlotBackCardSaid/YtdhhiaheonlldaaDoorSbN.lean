/-
  Facts for the walk of SlotBack: the cells of covers in place, the ship as shifted, its slots, their names.
-/
import Derived.Test.YtdhhiaheonlldaaDoorSbA
namespace Go.Proofs.YtdhhiaheonlldaaDoor
open Go.RowKit

theorem tiersN_shift (b r : Int) (s : Shp) (c : Nat) : tiersN (shiftS b r s) c = tiersN s c := by
  unfold tiersN shiftS
  simp only [List.getD_eq_getElem?_getD, List.getElem?_map]
  cases s.cols[c]? with
  | none => rfl
  | some x => rfl
theorem all_shift (b r : Int) (s : Shp) (size : Nat) : allF (shiftS b r s) size = allF s size := by
  unfold allF colsTo
  have h1 : (shiftS b r s).cols.length = s.cols.length := by show (s.cols.map _).length = _; rw [List.length_map]
  rw [h1]
  congr 1
  funext c
  rw [tiersN_shift]
theorem every_shift (b r : Int) (s : Shp) : everyF (shiftS b r s) = everyF s := by
  unfold everyF
  rw [all_shift, all_shift]
theorem halves_two (size : Nat) : (halvesL size).length ≤ 2 := by unfold halvesL; split <;> (try split) <;> simp
theorem colSl_len (c size : Nat) : ∀ n, (colSlots c size n).length ≤ 2 * n
  | 0 => by simp [colSlots]
  | n + 1 => by
    have := colSl_len c size n
    have h2 := halves_two size
    rw [colSlots_succ, List.length_append]
    have h3 : (tierSlots c n size).length = (halvesL size).length := by unfold tierSlots; simp
    omega
theorem colsB_len (s : Shp) (size : Nat) (hT : ∀ c, tiersN s c ≤ 5) : ∀ n, (colsTo s size n).length ≤ 10 * n
  | 0 => by simp [colsTo]
  | n + 1 => by
    have := colsB_len s size hT n
    have := colSl_len n size (tiersN s n)
    have := hT n
    rw [colsTo_succ, List.length_append]
    omega
theorem Bu.tiersN_le {s : Shp} (h : Bu s) (c : Nat) : tiersN s c ≤ 5 := by
  unfold tiersN
  by_cases hc : c < s.cols.length
  · have := (h.col hc).tiers
    omega
  · rw [List.getD_eq_getElem?_getD, List.getElem?_eq_none (by omega)]
    decide
theorem Bu.all_le {s : Shp} (h : Bu s) (size : Nat) : (allF s size).length ≤ 120 := by
  have := colsB_len s size h.tiersN_le s.cols.length
  have := h.few
  unfold allF
  omega
theorem Bu.every_le {s : Shp} (h : Bu s) : (everyF s).length ≤ 240 := by
  have h1 := h.all_le 20
  have h2 := h.all_le 40
  unfold everyF
  rw [List.length_append]
  omega
def namesTo (s : Shp) (L : List Slt) (k : Nat) : List ByteArray := (L.take k).map fun x => strN (nameL s x)
theorem namesTo_succ (s : Shp) {L : List Slt} {k : Nat} (h : k < L.length) : namesTo s L (k + 1) = namesTo s L k ++ [strN (nameL s (L.getD k default))] := by
  unfold namesTo
  rw [List.take_succ_eq_append_getElem h, List.map_append]
  simp [h]
theorem namesTo_new {s : Shp} (hr : rightF s = true) {k : Nat} (h : k < (everyF s).length) : strN (nameL s ((everyF s).getD k default)) ∉ namesTo s (everyF s) k := by
  intro hm
  unfold namesTo at hm
  obtain ⟨x, hx, e⟩ := List.mem_map.1 hm
  obtain ⟨j, hj, e2⟩ := List.getElem_of_mem hx
  have hjk : j < k := by
    have := hj
    simp at this
    omega
  have : x = (everyF s).getD j default := by
    rw [← e2]
    simp [show j < (everyF s).length by omega]
  subst this
  exact every_apart hr h hjk e
/-- The covers' block, where there are covers. -/
theorem own_at {w : World} {base k n c : Nat} {e : TypeId} {A : Option Addr} {xs : List Value} (h : w.ownsRow base e k (.slice A n c) n xs) (hn : 0 < n) : ∃ b, A = some ⟨b, 0, none⟩ ∧ n ≤ c := by
  obtain ⟨_, h0 | ⟨g, cap, cur, hv, hb, _, h1, h2, _⟩⟩ := h
  · omega
  · injection hv with e1 _ e3
    exact ⟨g, e1, e3 ▸ h1⟩
theorem covCells_at {gs : List Nat} : ∀ {l : List Cov} {gs : List Nat} {i : Nat}, l.length = gs.length → i < l.length →
    (covCells l gs)[i * 2]? = some (.int .i64 (l.getD i default).bay) ∧ (covCells l gs)[i * 2 + 1]? = some (.slice (some ⟨gs.getD i 0, 0, none⟩) (l.getD i default).rows.length (l.getD i default).rows.length)
  | _ :: _, _ :: _, 0, _, _ => ⟨rfl, rfl⟩
  | x :: l, g :: gs, i + 1, hl, hi => by
    have h := covCells_at (gs := gs) (l := l) (i := i) (by simpa using hl) (by simpa using hi)
    have e : covCells (x :: l) (g :: gs) = .int .i64 x.bay :: .slice (some ⟨g, 0, none⟩) x.rows.length x.rows.length :: covCells l gs := rfl
    rw [e, Nat.add_mul]
    exact ⟨h.1, h.2⟩
  | [], _, _, _, hi => absurd hi (by simp)
  | _ :: _, [], _, hl, _ => by simp at hl
section
variable {w V V' : World} {g b cc : Nat} {gs : List Nat} {s : Shp} {h : Hd} {l : List Col}
theorem LW.covAt (r : LW w V g b cc gs s h l) {i : Nat} (hi : i < s.covs.length) : ∃ bc, h.A2 = some ⟨bc, 0, none⟩ ∧
    V.cell? ⟨bc, i * 2, none⟩ = some (.int .i64 (s.covs.getD i default).bay) ∧ V.cell? ⟨bc, i * 2 + 1, none⟩ = some (.slice (some ⟨gs.getD i 0, 0, none⟩) (s.covs.getD i default).rows.length (s.covs.getD i default).rows.length) ∧
    V.frozen? ⟨bc, i * 2, none⟩ = false := by
  obtain ⟨bc, hA, _⟩ := own_at r.cov.own (by omega)
  obtain ⟨h1, h2⟩ := covCells_at (gs := gs) r.cov.rows.len hi
  have ho := r.cov.own
  rw [hA] at ho
  refine ⟨bc, hA, ?_, ?_, ho.frozenAt _⟩
  · have := ho.cells (g := bc) rfl (i * 2) _ h1
    rw [add_mk, Nat.zero_add] at this
    exact this
  · have := ho.cells (g := bc) rfl (i * 2 + 1) _ h2
    rw [add_mk, Nat.zero_add] at this
    exact this
theorem LW.rowAt (r : LW w V g b cc gs s h l) {i : Nat} (hi : i < s.covs.length) {j : Nat} (hj : j < (s.covs.getD i default).rows.length) : V.cell? ⟨gs.getD i 0, j, none⟩ = some (.int .i64 ((s.covs.getD i default).rows.getD j 0)) ∧ V.frozen? ⟨gs.getD i 0, j, none⟩ = false := by
  obtain ⟨a1, _, _⟩ := r.cov.rows.at_ hi
  refine ⟨?_, a1.frozen _⟩
  generalize (s.covs.getD i default).rows = R at *
  rw [a1.cell j]
  simp [i64s, hj]
theorem LW.ships (r : LW w V g b cc gs s h l) (h1 : s.rows = []) (h2 : s.frames = []) (h3 : s.tanks = []) {w0 : World} {S : Nat → Prop} {s0 : Shp} (h0 : ShpR w0 S s0 h) (hl : s.covs.length = s0.covs.length) : ShpR V (Lt V.heap.size) { s with cols := l } { h with A1 := some ⟨b, 0, none⟩, c1 := cc } := by
  obtain ⟨A, c', e, _, _, hsl⟩ := r.own.sl'
  injection e with e1 _ e2
  subst e1 e2
  refine ⟨r.lc, by show s.covs.length ≤ _; rw [hl]; exact h0.n2, ?_, ?_, ?_, r.cm, h0.m2, h0.m3, h0.m4, h0.m5, hsl, ownT_sl r.cov.ownT, ?_, ?_, ?_⟩
  · show s.rows.length ≤ _; rw [h1]; exact Nat.zero_le _
  · show s.frames.length ≤ _; rw [h2]; exact Nat.zero_le _
  · show s.tanks.length ≤ _; rw [h3]; exact Nat.zero_le _
  · show SlT tRow V _ h.A3 s.rows; rw [h1]; exact SlT.nil
  · show SlT tRow V _ h.A4 s.frames; rw [h2]; exact SlT.nil
  · show SlT tTnk V _ h.A5 s.tanks; rw [h3]; exact SlT.nil
end
theorem cov_mem {s : Shp} (h : Bu s) {x : Cov} (hx : x ∈ s.covs) : (0 ≤ x.bay ∧ x.bay ≤ 4) ∧ x.rows.length ≤ 3 ∧ ∀ y ∈ x.rows, 0 ≤ y ∧ y ≤ 4 := by
  obtain ⟨k, hk, rfl | rfl⟩ := cov_cases x (h.sub.subset hx)
  · refine ⟨by simp only; omega, by simp, ?_⟩
    intro y hy
    simp at hy
    omega
  · refine ⟨by simp only; omega, by simp, ?_⟩
    intro y hy
    simp at hy
    omega
theorem Bu.covs_le {s : Shp} (h : Bu s) : s.covs.length ≤ 10 := h.sub.length_le
/-- What the two last loops find of a slot. -/
theorem neq_self (x : Slt) (W : World) : (binOp .neq 45 (.agg #[.int .i64 x.col, .int .i64 x.tier, .int .u8 (x.half : Nat)]) (.agg #[.int .i64 x.col, .int .i64 x.tier, .int .u8 (x.half : Nat)])).run Tryd.prog W = .ok (.bool false) W := by
  have h := run_eql_slt x x W
  obtain ⟨xc, xt, xh⟩ := x
  simp [go_sem]
end Go.Proofs.YtdhhiaheonlldaaDoor
