/-
  Plain laws for SegregatePairs: the clashes of a box are those against it.
-/
import Derived.Test.YtnbpecnddjpfbaaDoorSgW
namespace Go.Proofs.YtnbpecnddjpfbaaDoor
open Go.RowKit

theorem gds_len (bs : List Bx) (st : List Stw) : (gdsF bs st).length = st.length := by unfold gdsF; simp
theorem gds_at (bs : List Bx) (st : List Stw) {i : Nat} (h : i < st.length) : (gdsF bs st).getD i default = ⟨st.getD i default, clsF bs (st.getD i default).box⟩ := by
  unfold gdsF
  simp [List.getD_eq_getElem?_getD, h]
theorem mine_succ (x : Int) (cs : List Cl) {k : Nat} (h : k < cs.length) : mineF x (cs.take (k + 1)) = mineF x (cs.take k) ++ ((if (cs.getD k default).a == x then [(cs.getD k default).b] else []) ++ (if (cs.getD k default).b == x then [(cs.getD k default).a] else [])) := by
  rw [List.take_succ_eq_append_getElem h, mine_append]
  have e : cs.getD k default = cs[k] := by simp [h]
  rw [e]
  simp [mineF]
theorem mine_len (x : Int) : ∀ cs : List Cl, (mineF x cs).length ≤ 2 * cs.length
  | [] => by simp [mineF]
  | c :: cs => by
    have := mine_len x cs
    show (mineF x ([c] ++ cs)).length ≤ _
    rw [mine_append, List.length_append, List.length_cons]
    have h1 : (mineF x [c]).length ≤ 2 := by
      unfold mineF
      simp only [List.flatMap_cons, List.flatMap_nil, List.append_nil, List.length_append]
      split <;> split <;> simp
    omega
theorem Sd.mine {s : Shp} (hb : Bu s) {bs : List Bx} {st : List Stw} (h : Sd s bs st) {x : Stw} (hx : x ∈ st) : againstF s (goodsF bs st) x (clsF bs x.box) = mineF x.box (clashF s bs st) := by
  rw [clash_all hb.cs h.cls]
  have hm : (⟨x, clsF bs x.box⟩ : Gd) ∈ gdsF bs st := List.mem_map.2 ⟨x, hx, rfl⟩
  have := mine_all s (x := ⟨x, clsF bs x.box⟩) h.nodup (h.near_symm hb) hm
  simp only at this
  rw [this]
  unfold againstF goodsF
  congr 1
  rw [List.filter_filter]
  refine List.filter_congr fun g hg => ?_
  obtain ⟨y, _, rfl⟩ := List.mem_map.1 hg
  unfold agB nr codeG dngB
  simp only
  cases hz : decide (0 < clsF bs y.box) with
  | true => rw [Bool.and_true]
  | false =>
    have h0 : clsF bs y.box = 0 := by have := of_decide_eq_false hz; omega
    rw [h0]
    have ht : Dg.tab 0 (clsF bs x.box) = 0 := by
      rcases Dg.tab_zero 0 _ (by decide) (cls_lt h.cls x.box) with h1 | h1
      · exact h1
      · omega
    rw [ht, near_eq hb.cs, nearR_zero]
    simp
theorem pairs_end {s : Shp} (hb : Bu s) {bs : List Bx} {st : List Stw} (h : Sd s bs st) : ((pairsTo default (gdsF bs st) st.length).filterMap (clB s)).length = (clashF s bs st).length := by
  rw [clash_all hb.cs h.cls, ← gds_len bs st, pairsTo_all]
theorem row_end {s : Shp} {bs : List Bx} {st : List Stw} {i : Nat} (hi : i < st.length) : (pairsTo default (gdsF bs st) i ++ (rowG default (gdsF bs st) i).take (st.length - (i + 1))) = pairsTo default (gdsF bs st) (i + 1) := by
  rw [pairsTo_succ, List.take_of_length_le (by rw [rowG_len, gds_len]; exact Nat.le_refl _)]
/-- The next pair. -/
theorem pair_hit {s : Shp} (hb : Bu s) {bs : List Bx} {st : List Stw} (h : Sd s bs st) {i k : Nat} (hk : i + 1 + k < st.length) {a b : Stw} (ha : st.getD i default = a) (hb' : st.getD (i + 1 + k) default = b)
    (hn : nearF s a.slot b.slot (Dg.tab (clsF bs a.box) (clsF bs b.box)) = true) :
    ((pairsTo default (gdsF bs st) i ++ (rowG default (gdsF bs st) i).take k).filterMap (clB s)).length < (clashF s bs st).length ∧
    (clashF s bs st).getD ((pairsTo default (gdsF bs st) i ++ (rowG default (gdsF bs st) i).take k).filterMap (clB s)).length default = ⟨a.box, b.box, Dg.tab (clsF bs a.box) (clsF bs b.box)⟩ ∧
    ((pairsTo default (gdsF bs st) i ++ (rowG default (gdsF bs st) i).take (k + 1)).filterMap (clB s)).length = ((pairsTo default (gdsF bs st) i ++ (rowG default (gdsF bs st) i).take k).filterMap (clB s)).length + 1 := by
  rw [clash_all hb.cs h.cls]
  have hp := pairs_pre default (gdsF bs st) (i := i) (by rw [gds_len]; omega) (k + 1)
  have ht := rowG_take default (gdsF bs st) i (k := k) (by rw [gds_len]; exact hk)
  rw [gds_at bs st (by omega), gds_at bs st hk, ha, hb'] at ht
  rw [ht, ← List.append_assoc] at hp
  have hc : clB s ((⟨a, clsF bs a.box⟩ : Gd), (⟨b, clsF bs b.box⟩ : Gd)) = some ⟨a.box, b.box, Dg.tab (clsF bs a.box) (clsF bs b.box)⟩ := by
    rw [clB_eq]
    unfold nr codeG
    simp only
    rw [hn]
    rfl
  refine ⟨(hit_at (clB s) default hp hc).1, (hit_at (clB s) default hp hc).2, ?_⟩
  rw [ht, ← List.append_assoc, hit_len (clB s) hc]
theorem pair_miss {s : Shp} {bs : List Bx} {st : List Stw} {i k : Nat} (hk : i + 1 + k < st.length) {a b : Stw} (ha : st.getD i default = a) (hb' : st.getD (i + 1 + k) default = b)
    (hn : nearF s a.slot b.slot (Dg.tab (clsF bs a.box) (clsF bs b.box)) = false) :
    ((pairsTo default (gdsF bs st) i ++ (rowG default (gdsF bs st) i).take (k + 1)).filterMap (clB s)).length = ((pairsTo default (gdsF bs st) i ++ (rowG default (gdsF bs st) i).take k).filterMap (clB s)).length := by
  have ht := rowG_take default (gdsF bs st) i (k := k) (by rw [gds_len]; exact hk)
  rw [gds_at bs st (by omega), gds_at bs st hk, ha, hb'] at ht
  have hc : clB s ((⟨a, clsF bs a.box⟩ : Gd), (⟨b, clsF bs b.box⟩ : Gd)) = none := by
    rw [clB_eq]
    unfold nr codeG
    simp only
    rw [hn]
    rfl
  rw [ht, ← List.append_assoc, miss_at (clB s) hc]
end Go.Proofs.YtnbpecnddjpfbaaDoor
