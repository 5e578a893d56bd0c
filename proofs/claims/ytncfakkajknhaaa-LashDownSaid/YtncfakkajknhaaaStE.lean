/-
  Walks of package stow: Above.
-/
import Derived.Test.YtncfakkajknhaaaStD
namespace Go.Proofs.Ytncfakkajknhaaa
open Go.RowKit

def aboveL (l : List Stw) (y : Slt) : List Int := (l.filter fun x => overB x.slot y).map (·.box)
theorem above_take (l : List Stw) (y : Slt) {k : Nat} (h : k < l.length) : aboveL (l.take (k + 1)) y = aboveL (l.take k) y ++ if overB (l.getD k default).slot y then [(l.getD k default).box] else [] := by
  unfold aboveL
  rw [List.take_succ_eq_append_getElem h, List.filter_append, List.map_append]
  congr 1
  have : l.getD k default = l[k] := by simp [List.getD_eq_getElem?_getD, h]
  rw [this]
  simp only [List.filter_cons, List.filter_nil]
  cases overB l[k].slot y <;> rfl
theorem above_len (l : List Stw) (y : Slt) : (aboveL l y).length ≤ l.length := by unfold aboveL; rw [List.length_map]; exact List.length_filter_le _ _
/-- What Above leaves. -/
def AboveRet (w : World) (l : List Stw) (id : Int) (e : Ending) (w' : World) : Prop :=
  (idxF (idS id) l = -1 ∧ e = .returned (.tuple #[.slice none 0 0, .int .i64 6]) ∧ Below w.heap.size w w') ∨
  ∃ (at_ : Nat) (v : Value), at_ < l.length ∧ idxF (idS id) l = at_ ∧ e = .returned (.tuple #[v, .int .i64 0]) ∧ OwnT tInt 3 w' w.heap.size v (aboveL l (l.getD at_ default).slot) ∧ Below w.heap.size w w'
set_option maxRecDepth 100000 in
set_option maxHeartbeats 4000000 in
theorem above_any (A : Option Addr) (c : Nat) (l : List Stw) (id : Int) (w : World) (hs : SlT tStw w (Lt w.heap.size) A l) (hl : l.length ≤ 1000000) :
    Calls Try.prog 27 #[.slice A l.length c, .int .i64 id] w (AboveRet w l id) := by
  have HS := Lib.hid hs; clear hs
  go_enter Try.func27, Try.ntmps27
  go_wp2_with fail
  refine (stowfind_any A c l id w HS.out hl).mono ?_
  rintro e w1 ⟨rfl, hb1⟩
  simp only
  rcases idx_cases (idS id) l with hn | ⟨a, ha, hn⟩
  · rw [hn]
    have HN := Lib.hid hn
    clear hn
    go_wp2_with fail
    go_ret2
    exact .inl ⟨HN.out, rfl, hb1⟩
  · rw [hn]
    have HN := Lib.hid hn
    clear hn
    have ha0 : (0 : Int) ≤ (a : Int) := Int.natCast_nonneg _
    have ha1 : (a : Int) < (l.length : Int) := Int.ofNat_lt.2 ha
    have HB1 := Lib.hid hb1
    clear hb1
    go_wp2_with fail
    go_loopw [7, 17] (fun v i wr => ∃ (k : Nat) (m : List Int), k ≤ l.length ∧ i = .int .i64 k ∧ Hid (m = aboveL (l.take k) (l.getD a default).slot) ∧ m.length ≤ 1000000 ∧ OwnT tInt 3 wr w.heap.size v m ∧ Below w.heap.size w wr) (fun _ i _ => l.length - (intOf i).toNat)
    case atStart => exact ⟨0, [], Nat.zero_le _, rfl, Lib.hid (by simp [aboveL]), by simp, OwnT.nil, HB1.out⟩
    case round =>
      obtain ⟨k, m, hk, rfl, HM, hm, hown, hb⟩ := hrel
      by_cases hlt : k < l.length
      · obtain ⟨b, off, rfl, hbB, c0, c1, c2, c3⟩ := (HS.out.below hb).stw hlt
        have HPA := Lib.hid (fun (ha : a < l.length) => (HS.out.below hb).stw ha)
        have HP := Lib.hid (above_take l (l.getD a default).slot hlt)
        have hk0 : (0 : Int) ≤ (k : Int) := Int.natCast_nonneg _
        have hk1 : (k : Int) < (l.length : Int) := Int.ofNat_lt.2 hlt
        have a1 : k + 1 ≤ l.length := hlt
        have hx := Bk.new wr 61 (stwL (l.getD k default)).toArray
        have hbx := ba1 wr (.cells (stwL (l.getD k default)).toArray 61)
        have hbW : Below w.heap.size w (wr.alloc (.cells (stwL (l.getD k default)).toArray 61)) := hb.alloc hb.size _
        have hown' := hown.below hbx
        obtain ⟨b', off', e', hb', d0, d1, d2, d3⟩ := HPA.out ha
        cases e'
        have d1 := (hbx.cell (p := ⟨b, off + a * 4 + 1, none⟩) (Nat.lt_of_lt_of_le hb' hb.size)).trans d1
        have d2 := (hbx.cell (p := ⟨b, off + a * 4 + 2, none⟩) (Nat.lt_of_lt_of_le hb' hb.size)).trans d2
        have d3 := (hbx.cell (p := ⟨b, off + a * 4 + 3, none⟩) (Nat.lt_of_lt_of_le hb' hb.size)).trans d3
        clear d0 HPA hown hbx
        generalize (l.getD a default).slot = y at *
        generalize l.getD k default = x at *
        obtain ⟨xb, xc, xt, xh⟩ := x
        obtain ⟨yc, yt, yh⟩ := y
        unfold stwL at hx hbW hown' d1 d2 d3
        simp only at hx hbW hown' d1 d2 d3 c0 c1 c2 c3 HP
        have KO := Lib.hid (fun V => over_any ⟨xc, xt, xh⟩ ⟨yc, yt, yh⟩ V)
        unfold sltL at KO
        simp only at KO
        generalize overB ⟨xc, xt, xh⟩ ⟨yc, yt, yh⟩ = ob at *
        go_upto_region 8 with fail
        clear c0 c1 c2 c3 hb
        generalize wr.heap.size = gx at *
        generalize (wr.alloc _) = W at *
        have HX := Lib.hid hx
        have HO := Lib.hid hown'
        have HBW := Lib.hid hbW
        have x1 : ∀ p : Gr W, p.W.cell? ⟨gx, 1, none⟩ = some (.int .i64 xc) := Gr.cell (hx.cell 1)
        have x2 : ∀ p : Gr W, p.W.cell? ⟨gx, 2, none⟩ = some (.int .i64 xt) := Gr.cell (hx.cell 2)
        have x3 : ∀ p : Gr W, p.W.cell? ⟨gx, 3, none⟩ = some (.int .u8 (xh : Nat)) := Gr.cell (hx.cell 3)
        have y1 : ∀ p : Gr W, p.W.cell? ⟨b, off + a * 4 + 1, none⟩ = some (.int .i64 yc) := Gr.cell d1
        have y2 : ∀ p : Gr W, p.W.cell? ⟨b, off + a * 4 + 2, none⟩ = some (.int .i64 yt) := Gr.cell d2
        have y3 : ∀ p : Gr W, p.W.cell? ⟨b, off + a * 4 + 3, none⟩ = some (.int .u8 (yh : Nat)) := Gr.cell d3
        clear d1 d2 d3 hx hown' hbW
        refine wp_region_gr (by kernel_rfl) (by kernel_rfl) ?_
        repeat (go_big_quiet_step ((with_reducible exact Gr.call _ (fun V hV => KO.out V))))
        refine wpQuiet_nil ?_
        rintro Y ⟨⟨_, hbY⟩, rfl⟩
        clear x1 x2 x3 y1 y2 y3 KO
        have HBY := Lib.hid (HBW.out.trans (hbY.mono HBW.out.size))
        have HXY := Lib.hid (HX.out.below hbY HX.out.lt)
        have hownY := HO.out.below hbY
        clear hbY HX HO HBW
        cases ob with
        | true =>
          obtain ⟨xs, ho, hfl⟩ := hownY
          have x0 : Y.cell? ⟨gx, 0, none⟩ = some (.int .i64 xb) := HXY.out.cell 0
          have hz0 := HBY.out.size
          have HM2 : Hid (m ++ [xb] = aboveL (l.take (k + 1)) ⟨yc, yt, yh⟩) := Lib.hid (by rw [HP.out, ← HM.out]; rfl)
          have hlen := above_len (l.take k) ⟨yc, yt, yh⟩
          rw [← HM.out, List.length_take] at hlen
          have hm2 : (m ++ [xb]).length ≤ 1000000 := by simp; omega
          have hb3 := HBY.out
          clear hlen
          go_wp2_with (at_builtin; (refine wpList_append1 el_int rfl (.tmp 29) (.tmp 32) rfl w.heap.size _ m.length xs rfl ho #[.int .i64 xb] _ rfl rfl rfl ?c1 ?c2 ?c3 ?_))
          case c1 => unfold maxLen; omega
          case c2 => omega
          intro v' w3 hown' hgr hd3 hbel
          go_wp2
          go_roundw
          case rel => (repeat apply Exists.intro); (first | exact ⟨⟨k + 1, m ++ [xb], a1, by go_num, HM2, hm2, OwnT.int1 hfl hown' hgr hd3, hb3.trans hbel⟩, rfl⟩ | exact ⟨a1, by go_num, HM2, hm2, OwnT.int1 hfl hown' hgr hd3, hb3.trans hbel⟩)
          case measure => simp [intOf]; omega
        | false =>
          have HM2 : Hid (m = aboveL (l.take (k + 1)) ⟨yc, yt, yh⟩) := Lib.hid (by rw [HP.out, ← HM.out]; simp)
          have hb3 := HBY.out
          go_wp2_with fail
          go_roundw
          case rel => (repeat apply Exists.intro); (first | exact ⟨⟨k + 1, m, a1, by go_num, HM2, hm, hownY, hb3⟩, rfl⟩ | exact ⟨a1, by go_num, HM2, hm, hownY, hb3⟩)
          case measure => simp [intOf]; omega
      · have hmm : m = aboveL l (l.getD a default).slot := by rw [HM.out, List.take_of_length_le (Nat.not_lt.1 hlt)]
        subst hmm
        go_wp2_with fail
        go_ret2
        exact .inr ⟨a, _, ha, HN.out, rfl, hown, hb⟩
end Go.Proofs.Ytncfakkajknhaaa
