/-
  The ship of the example of the chapter of plugs, the plugs of one column written again and again, beside boxes that are written.
-/
import Derived.Test.YtmkplemdnglhmaaSmA
import Derived.Test.YtmkplemdnglhmaaTmC
import Derived.Test.YtmkplemdnglhmaaPlS
namespace Go.Proofs.Ytmkplemdnglhmaa
open Go.RowKit

/-- A slice of at most two ints in a block of its own, or nil. -/
def Pl (V : World) (v : Value) : Prop := v = .slice none 0 0 ∨ ∃ (a : Nat) (pl : List Int), v = .slice (some ⟨a, 0, none⟩) pl.length pl.length ∧ pl.length ≤ 2 ∧ Bk V a 3 (pl.map (Value.int .i64)).toArray
theorem Pl.on {V V' : World} {v : Value} (h : Pl V v) (hb : Below V.heap.size V V') : Pl V' v := by
  rcases h with rfl | ⟨a, pl, rfl, h1, h2⟩
  · exact .inl rfl
  · exact .inr ⟨a, pl, rfl, h1, h2.below hb h2.lt⟩
theorem Pl.far {V : World} {v : Value} (h : Pl V v) {g j : Nat} {t : TypeId} {cs : Array Value} (hk : Bk V g t cs) (ht : 3 ≠ t) (u : Value) : Pl (V.setCell ⟨g, j, none⟩ u) v := by
  rcases h with rfl | ⟨a, pl, rfl, h1, h2⟩
  · exact .inl rfl
  · exact .inr ⟨a, pl, rfl, h1, h2.far (p := ⟨g, j, none⟩) (Bk.ne_ h2 hk ht) u⟩
theorem flat_ints {w : World} {S : Nat → Prop} : ∀ l : List Int, Flat tInt w S (l.map (Value.int .i64)) l
  | [] => rfl
  | x :: l => ⟨[.int .i64 x], l.map (Value.int .i64), rfl, rfl, flat_ints l⟩
theorem Pl.rd {V : World} {v : Value} (h : Pl V v) : ∃ A n pl, v = .slice A pl.length n ∧ pl.length ≤ n ∧ pl.length ≤ 2 ∧ n ≤ 2 ∧ SlT tInt V (Lt V.heap.size) A pl := by
  rcases h with rfl | ⟨a, pl, rfl, h1, h2⟩
  · exact ⟨none, 0, [], rfl, Nat.le_refl _, by decide, by decide, SlT.nil⟩
  · exact ⟨_, _, pl, rfl, Nat.le_refl _, h1, h1, sl_flat h2 (by simpa using flat_ints pl) h2.lt⟩
/-- Where all of it lies. -/
structure S12 (w V : World) (g gb b rr cc p q gp : Nat) : Prop where
  kg : Bk V g 32 (X12 b cc)
  kb : ∃ v, Pl V v ∧ Bk V b 46 ((C12 p q).setIfInBounds 32 v)
  kr : Bk V rr 3 #[.int .i64 0, .int .i64 1]
  kc : Bk V cc 102 #[.int .i64 0, .slice (some ⟨rr, 0, none⟩) 2 2]
  kp : Bk V p 3 #[.int .i64 0]
  bx : ∃ x1 x2 x3 x4, (x1.size < 256 ∧ x2.size < 256 ∧ x3.size < 256 ∧ x4.size < 256) ∧ Bk V gb 37 (bA x1 x2 x3 x4)
  ps : ∃ cs : Array Value, cs.size = 8 ∧ (∀ v ∈ cs, Pl V v) ∧ Bk V gp 44 cs
  be : Below w.heap.size w V
  lo : w.heap.size ≤ gb ∧ w.heap.size ≤ b
section
variable {w V V' : World} {g gb b rr cc p q gp : Nat}
theorem S12.on (r : S12 w V g gb b rr cc p q gp) (hb : Below V.heap.size V V') : S12 w V' g gb b rr cc p q gp := by
  obtain ⟨v, h1, h2⟩ := r.kb
  obtain ⟨x1, x2, x3, x4, h3, h4⟩ := r.bx
  obtain ⟨cs, h5, h6, h7⟩ := r.ps
  exact ⟨r.kg.below hb r.kg.lt, ⟨v, h1.on hb, h2.below hb h2.lt⟩, r.kr.below hb r.kr.lt, r.kc.below hb r.kc.lt, r.kp.below hb r.kp.lt, ⟨x1, x2, x3, x4, h3, h4.below hb h4.lt⟩, ⟨cs, h5, fun v hv => (h6 v hv).on hb, h7.below hb h7.lt⟩, r.be.trans (hb.mono r.be.size), r.lo⟩
theorem S12.plug (r : S12 w V g gb b rr cc p q gp) {v : Value} (hv : Pl V v) : S12 w (V.setCell ⟨b, 32, none⟩ v) g gb b rr cc p q gp := by
  obtain ⟨v0, h1, h2⟩ := r.kb
  obtain ⟨x1, x2, x3, x4, h3, h4⟩ := r.bx
  obtain ⟨cs, h5, h6, h7⟩ := r.ps
  have f : ∀ {x : Nat} {t : TypeId} {cs : Array Value}, Bk V x t cs → t ≠ 46 → Bk (V.setCell ⟨b, 32, none⟩ v) x t cs := fun {x t cs} h ht => h.far (p := ⟨b, 32, none⟩) (Bk.ne_ h h2 ht) v
  refine ⟨f r.kg (by decide), ⟨v, hv.far h2 (by decide) v, ?_⟩, f r.kr (by decide), f r.kc (by decide), f r.kp (by decide), ⟨x1, x2, x3, x4, h3, f h4 (by decide)⟩, ⟨cs, h5, fun u hu => (h6 u hu).far h2 (by decide) v, f h7 (by decide)⟩, r.be.setCell (p := ⟨b, 32, none⟩) r.lo.2 v, r.lo⟩
  have := h2.set_ 32 v
  rw [show ((C12 p q).setIfInBounds 32 v0).setIfInBounds 32 v = (C12 p q).setIfInBounds 32 v by simp] at this
  exact this
theorem S12.box (r : S12 w V g gb b rr cc p q gp) (j : Nat) (u : Value)
    (hq : ∀ x1 x2 x3 x4 : Bx, (x1.size < 256 ∧ x2.size < 256 ∧ x3.size < 256 ∧ x4.size < 256) → ∃ y1 y2 y3 y4 : Bx, (y1.size < 256 ∧ y2.size < 256 ∧ y3.size < 256 ∧ y4.size < 256) ∧ (bA x1 x2 x3 x4).setIfInBounds j u = bA y1 y2 y3 y4) : S12 w (V.setCell ⟨gb, j, none⟩ u) g gb b rr cc p q gp := by
  obtain ⟨v0, h1, h2⟩ := r.kb
  obtain ⟨x1, x2, x3, x4, h3, h4⟩ := r.bx
  obtain ⟨cs, h5, h6, h7⟩ := r.ps
  obtain ⟨y1, y2, y3, y4, hy, he⟩ := hq x1 x2 x3 x4 h3
  have f : ∀ {x : Nat} {t : TypeId} {cs : Array Value}, Bk V x t cs → t ≠ 37 → Bk (V.setCell ⟨gb, j, none⟩ u) x t cs := fun {x t cs} h ht => h.far (p := ⟨gb, j, none⟩) (Bk.ne_ h h4 ht) u
  refine ⟨f r.kg (by decide), ⟨v0, h1.far h4 (by decide) u, f h2 (by decide)⟩, f r.kr (by decide), f r.kc (by decide), f r.kp (by decide), ⟨y1, y2, y3, y4, hy, ?_⟩, ⟨cs, h5, fun v hv => (h6 v hv).far h4 (by decide) u, f h7 (by decide)⟩, r.be.setCell (p := ⟨gb, j, none⟩) r.lo.1 u, r.lo⟩
  rw [← he]
  exact h4.set_ j u
theorem S12.reef (r : S12 w V g gb b rr cc p q gp) {i : Nat} (hi : i < 3) (d : Bool) : S12 w (V.setCell ⟨gb, i * 9 + 8, none⟩ (.bool d)) g gb b rr cc p q gp := by
  refine r.box _ _ fun x1 x2 x3 x4 h => ?_
  match i, hi with
  | 0, _ => exact ⟨{ x1 with reefer := d }, x2, x3, x4, h, rfl⟩
  | 1, _ => exact ⟨x1, { x2 with reefer := d }, x3, x4, h, rfl⟩
  | 2, _ => exact ⟨x1, x2, { x3 with reefer := d }, x4, h, rfl⟩
theorem S12.size (r : S12 w V g gb b rr cc p q gp) {i : Nat} (hi : i < 3) (n : Nat) (hn : n < 256) : S12 w (V.setCell ⟨gb, i * 9 + 2, none⟩ (.int .u8 (n : Nat))) g gb b rr cc p q gp := by
  refine r.box _ _ fun x1 x2 x3 x4 h => ?_
  match i, hi with
  | 0, _ => exact ⟨{ x1 with size := n }, x2, x3, x4, ⟨hn, h.2⟩, rfl⟩
  | 1, _ => exact ⟨x1, { x2 with size := n }, x3, x4, ⟨h.1, hn, h.2.2⟩, rfl⟩
  | 2, _ => exact ⟨x1, x2, { x3 with size := n }, x4, ⟨h.1, h.2.1, hn, h.2.2.2⟩, rfl⟩
theorem S12.bc (r : S12 w V g gb b rr cc p q gp) (j : Nat) (hj : j < 36) : (∃ v, V.cell? ⟨gb, j, none⟩ = some v) ∧ V.frozen? ⟨gb, j, none⟩ = false := by
  obtain ⟨x1, x2, x3, x4, hk, kb⟩ := r.bx
  have hz : (bA x1 x2 x3 x4).size = 36 := rfl
  refine ⟨⟨(bA x1 x2 x3 x4)[j]'(by omega), ?_⟩, kb.frozen j⟩
  rw [kb.cell j]
  exact Array.getElem?_eq_getElem (by omega)
theorem S12.c32 (r : S12 w V g gb b rr cc p q gp) : (∃ v, V.cell? ⟨b, 32, none⟩ = some v) ∧ V.frozen? ⟨b, 32, none⟩ = false := by
  obtain ⟨v, h1, h2⟩ := r.kb
  refine ⟨⟨v, ?_⟩, h2.frozen 32⟩
  rw [h2.cell 32]
  simp [C12, exC, exShp, colL, col0]
theorem S12.pl (r : S12 w V g gb b rr cc p q gp) {j : Nat} (hj : j < 8) : ∃ v, V.cell? ⟨gp, j, none⟩ = some v ∧ Pl V v := by
  obtain ⟨cs, h5, h6, h7⟩ := r.ps
  have hlt : j < cs.size := by omega
  exact ⟨cs[j], by rw [h7.cell j]; exact Array.getElem?_eq_getElem hlt, h6 _ (Array.getElem_mem hlt)⟩
theorem C12_set (p q : Nat) (A : Option Addr) (n m : Nat) (pl : List Int) (hn : pl.length = n) : ((C12 p q).setIfInBounds 32 (.slice A n m)).toList = colL (c12.getD 0 default) (some ⟨p, 0, none⟩) 1 ++ (colL (c12.getD 1 default) none 0 ++ (colL { c12.getD 2 default with plugs := pl } A m ++ (colL (c12.getD 3 default) none 0 ++ (colL (c12.getD 4 default) none 0 ++ [])))) := by
  subst hn
  simp [C12, exC, exShp, c12, colL, col0]
def shS (pl : List Int) : Shp := { exShp with cols := [c12.getD 0 default, c12.getD 1 default, { c12.getD 2 default with plugs := pl }, c12.getD 3 default, c12.getD 4 default] }
theorem S12.rd (r : S12 w V g gb b rr cc p q gp) : ∃ pl : List Int, pl.length ≤ 2 ∧ ShpR V (Lt V.heap.size) (shS pl) (h12 b cc) := by
  obtain ⟨v, hv, kb⟩ := r.kb
  obtain ⟨A, n, pl, rfl, h1, h2, h3, hs⟩ := hv.rd
  refine ⟨pl, h2, ?_⟩
  have k0 : ∀ c : Col, c.plugs = [] → tCol.rd V (Lt V.heap.size) (colL c none 0) c := fun c hc => rd_col0 c hc _ rfl
  have hf : Flat tCol V (Lt V.heap.size) ((C12 p q).setIfInBounds 32 (.slice A pl.length n)).toList (shS pl).cols := by
    rw [C12_set p q A pl.length n pl rfl]
    exact ⟨_, _, rfl, ⟨_, 1, rfl, by decide, sl1 r.kp⟩, _, _, rfl, k0 _ rfl, _, _, rfl, ⟨A, n, rfl, h1, hs⟩, _, _, rfl, k0 _ rfl, _, _, rfl, k0 _ rfl, rfl⟩
  have hc : Flat tCov V (Lt V.heap.size) [.int .i64 0, .slice (some ⟨rr, 0, none⟩) 2 2] [(⟨0, [0, 1]⟩ : Cov)] := Flat.single ⟨_, 2, rfl, by decide, sl2 r.kr⟩
  exact ⟨(by decide : (5 : Nat) ≤ 5), (by decide : (1 : Nat) ≤ 1), (by decide : (0 : Nat) ≤ 0), (by decide : (0 : Nat) ≤ 0), (by decide : (0 : Nat) ≤ 0), (by decide : (5 : Nat) ≤ maxLen), (by decide : (1 : Nat) ≤ maxLen), (by decide : (0 : Nat) ≤ maxLen), (by decide : (0 : Nat) ≤ maxLen), (by decide : (0 : Nat) ≤ maxLen), sl_flat kb hf kb.lt, sl_flat r.kc hc r.kc.lt, SlT.nil, SlT.nil, SlT.nil⟩
theorem few_small12 {pl : List Int} (hp : pl.length ≤ 2) {bl : List Bx} (hb : bl.length = 4) {l : List Stw} (hl : l.length ≤ 3) : fewP12 (shS pl) bl l := by
  refine ⟨(by decide : (5 : Nat) ≤ 20), (by decide : (1 : Nat) ≤ 20), by omega, by omega, (by decide : ∀ x ∈ exShp.covs, x.rows.length ≤ 40), ?_⟩
  intro c hc
  simp only [shS, List.mem_cons, List.not_mem_nil, or_false] at hc
  rcases hc with rfl | rfl | rfl | rfl | rfl
  · decide
  · decide
  · exact ⟨Nat.le_trans hp (by decide), show (3 : Int) ≤ 12 by decide⟩
  · decide
  · decide
theorem ints_small12 (pl : List Int) : Ints (shS pl) := by
  refine ⟨?_⟩
  intro c hc
  simp only [shS, List.mem_cons, List.not_mem_nil, or_false] at hc
  rcases hc with rfl | rfl | rfl | rfl | rfl
  · unfold I64; decide
  · unfold I64; decide
  · exact (show I64 0 ∧ I64 0 ∧ I64 3 by unfold I64; decide)
  · unfold I64; decide
  · unfold I64; decide
theorem S12.tells (r : S12 w V g gb b rr cc p q gp) {A2 : Option Addr} {c2 : Nat} {l : List Stw} (x : Slt) (size : Nat) (hs : SlT tStw V (Lt V.heap.size) A2 l) (hl : l.length ≤ c2) (hl3 : l.length ≤ 3) (hti : ∀ y ∈ l, I64 y.slot.col ∧ I64 y.slot.tier) (ht : I64 x.col ∧ I64 x.tier) (hz : size < 256) :
    Calls Try.prog 12 #[.agg (X12 b cc), .slice (some ⟨gb, 0, none⟩) 4 4, .slice A2 l.length c2, .agg (sltL x).toArray, .int .u8 (size : Nat)] V (Ret V (.bool true)) := by
  obtain ⟨pl, hp, hr⟩ := r.rd
  obtain ⟨x1, x2, x3, x4, ⟨k1, k2, k3, k4⟩, kb⟩ := r.bx
  have hbs : SlT tBx V (Lt V.heap.size) (some ⟨gb, 0, none⟩) [x1, x2, x3, x4] := sl_flat kb (flat_bA x1 x2 x3 x4) kb.lt
  have := tells12_any (shS pl) (h12 b cc) (some ⟨gb, 0, none⟩) 4 [x1, x2, x3, x4] A2 c2 l x size V hr (ints_small12 pl) hbs hs hl (few_small12 hp rfl hl3) (by
    intro y hy
    simp only [List.mem_cons, List.not_mem_nil, or_false] at hy
    rcases hy with rfl | rfl | rfl | rfl <;> assumption) hti ht hz
  exact this
end
end Go.Proofs.Ytmkplemdnglhmaa
