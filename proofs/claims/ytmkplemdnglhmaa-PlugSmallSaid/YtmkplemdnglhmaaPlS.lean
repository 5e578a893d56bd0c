/-
  The examples of the chapter of plugs.
-/
import Derived.Test.YtmkplemdnglhmaaPlR
import Derived.Test.YtmkplemdnglhmaaStS
import Derived.Test.YtmkplemdnglhmaaSame
namespace Go.Proofs.Ytmkplemdnglhmaa
open Go.RowKit

theorem info_stw12 : (Try.prog.info? 42).map (·.size) = some 4 := by kernel_rfl
set_option maxHeartbeats 1000000 in
theorem at12 (i a b h : Int) (w : World) : Calls Try.prog 11 #[.int .i64 i, .int .i64 a, .int .i64 b, .int .u8 h] w (Ret w (.agg #[.int .i64 i, .int .i64 a, .int .i64 b, .int .u8 h])) := by
  go_enter Try.func11, Try.ntmps11
  go_wp2
  exact bodyPost_ret (results_row1 rfl _ _ w.heap.size 42 #[.int .i64 i, .int .i64 a, .int .i64 b, .int .u8 h] _ rfl (Bk.new w _ _) Try.underlying42 rfl info_stw12) rfl ⟨rfl, ba1 w _⟩
def c12 : List Col := [{ col0 with tiers := 2, plugs := [0] }, { col0 with row := 1, tiers := 2 }, { col0 with deck := true, tiers := 3, plugs := [0, 1] }, { col0 with row := 1, deck := true, tiers := 3 }, { col0 with bay := 1, row := 1, deck := true, tiers := 4 }]
def s12 : Shp := { exShp with cols := c12 }
def b12 : List Bx := [⟨1, ⟨#[]⟩, 40, false, 0, 0, 0, 0, true⟩, ⟨2, ⟨#[]⟩, 20, false, 0, 0, 0, 0, true⟩, ⟨3, ⟨#[]⟩, 20, false, 0, 0, 0, 0, true⟩, ⟨4, ⟨#[]⟩, 20, false, 0, 0, 0, 0, false⟩]
def l12 : List Stw := [⟨1, ⟨2, 1, 0⟩⟩, ⟨2, ⟨2, 0, 1⟩⟩, ⟨3, ⟨3, 0, 1⟩⟩, ⟨4, ⟨2, 0, 2⟩⟩]
@[reducible] def b12A : Array Value := #[.int .i64 1, .string ⟨#[]⟩, .int .u8 40, .bool false, .int .i64 0, .int .i64 0, .int .i64 0, .int .u8 0, .bool true, .int .i64 2, .string ⟨#[]⟩, .int .u8 20, .bool false, .int .i64 0, .int .i64 0, .int .i64 0, .int .u8 0, .bool true, .int .i64 3, .string ⟨#[]⟩, .int .u8 20, .bool false, .int .i64 0, .int .i64 0, .int .i64 0, .int .u8 0, .bool true, .int .i64 4, .string ⟨#[]⟩, .int .u8 20, .bool false, .int .i64 0, .int .i64 0, .int .i64 0, .int .u8 0, .bool false]
@[reducible] def l12A : Array Value := #[.int .i64 1, .int .i64 2, .int .i64 1, .int .u8 0, .int .i64 2, .int .i64 2, .int .i64 0, .int .u8 1, .int .i64 3, .int .i64 3, .int .i64 0, .int .u8 1, .int .i64 4, .int .i64 2, .int .i64 0, .int .u8 2]
def C12 (p q : Nat) : Array Value := (exC.setIfInBounds 8 (.slice (some ⟨p, 0, none⟩) 1 1)).setIfInBounds 32 (.slice (some ⟨q, 0, none⟩) 2 2)
@[reducible] def h12 (b cc : Nat) : Hd := ⟨some ⟨b, 0, none⟩, 5, some ⟨cc, 0, none⟩, 1, none, 0, none, 0, none, 0⟩
/-- Where the ship of the example lies. -/
structure Ex12 (w V : World) (b rr cc p q : Nat) : Prop where
  kb : Bk V b 46 (C12 p q)
  kr : Bk V rr 3 #[.int .i64 0, .int .i64 1]
  kc : Bk V cc 102 #[.int .i64 0, .slice (some ⟨rr, 0, none⟩) 2 2]
  kp : Bk V p 3 #[.int .i64 0]
  kq : Bk V q 3 #[.int .i64 0, .int .i64 1]
  be : Below w.heap.size w V
  lo : w.heap.size < b ∧ w.heap.size < rr ∧ w.heap.size < cc ∧ w.heap.size < p ∧ w.heap.size < q
theorem Ex12.on {w V V' : World} {b rr cc p q : Nat} (r : Ex12 w V b rr cc p q) (hb : Below V.heap.size V V') : Ex12 w V' b rr cc p q :=
  ⟨r.kb.below hb r.kb.lt, r.kr.below hb r.kr.lt, r.kc.below hb r.kc.lt, r.kp.below hb r.kp.lt, r.kq.below hb r.kq.lt, r.be.trans (hb.mono r.be.size), r.lo⟩
theorem Ex12.grown {w V V' : World} {b rr cc p q : Nat} (r : Ex12 w V b rr cc p q) (hg : V.grownBy V' (some w.heap.size)) : Ex12 w V' b rr cc p q := by
  obtain ⟨l1, l2, l3, l4, l5⟩ := r.lo
  have n : ∀ x, w.heap.size < x → some x ≠ some w.heap.size := fun x hx e => by injection e with e; omega
  exact ⟨r.kb.grown hg (n _ l1), r.kr.grown hg (n _ l2), r.kc.grown hg (n _ l3), r.kp.grown hg (n _ l4), r.kq.grown hg (n _ l5), r.be.trans (below_of_grown hg (Nat.le_refl _) r.be.size), r.lo⟩
theorem C12_eq (p q : Nat) : (C12 p q).toList = colL (c12.getD 0 default) (some ⟨p, 0, none⟩) 1 ++ (colL (c12.getD 1 default) none 0 ++ (colL (c12.getD 2 default) (some ⟨q, 0, none⟩) 2 ++ (colL (c12.getD 3 default) none 0 ++ (colL (c12.getD 4 default) none 0 ++ [])))) := by
  simp [C12, exC, exShp, c12, colL, col0]
theorem sl1 {V : World} {p : Nat} (h : Bk V p 3 #[.int .i64 0]) : SlT tInt V (Lt V.heap.size) (some ⟨p, 0, none⟩) [0] := sl_flat h (Flat.single rfl) h.lt
theorem sl2 {V : World} {p : Nat} (h : Bk V p 3 #[.int .i64 0, .int .i64 1]) : SlT tInt V (Lt V.heap.size) (some ⟨p, 0, none⟩) [0, 1] := sl_flat h ⟨[.int .i64 0], [.int .i64 1], rfl, rfl, [.int .i64 1], [], rfl, rfl, rfl⟩ h.lt
theorem Ex12.rd {w V : World} {b rr cc p q : Nat} (r : Ex12 w V b rr cc p q) : ShpR V (Lt V.heap.size) s12 (h12 b cc) := by
  have k0 : ∀ c : Col, c.plugs = [] → tCol.rd V (Lt V.heap.size) (colL c none 0) c := fun c hc => rd_col0 c hc _ rfl
  have hf : Flat tCol V (Lt V.heap.size) (C12 p q).toList c12 := by
    rw [C12_eq]
    exact ⟨_, _, rfl, ⟨_, 1, rfl, by decide, sl1 r.kp⟩, _, _, rfl, k0 _ rfl, _, _, rfl, ⟨_, 2, rfl, by decide, sl2 r.kq⟩, _, _, rfl, k0 _ rfl, _, _, rfl, k0 _ rfl, rfl⟩
  have hc : Flat tCov V (Lt V.heap.size) [.int .i64 0, .slice (some ⟨rr, 0, none⟩) 2 2] [(⟨0, [0, 1]⟩ : Cov)] := Flat.single ⟨_, 2, rfl, by decide, sl2 r.kr⟩
  exact ⟨(by decide : (5 : Nat) ≤ 5), (by decide : (1 : Nat) ≤ 1), (by decide : (0 : Nat) ≤ 0), (by decide : (0 : Nat) ≤ 0), (by decide : (0 : Nat) ≤ 0), (by decide : (5 : Nat) ≤ maxLen), (by decide : (1 : Nat) ≤ maxLen), (by decide : (0 : Nat) ≤ maxLen), (by decide : (0 : Nat) ≤ maxLen), (by decide : (0 : Nat) ≤ maxLen), sl_flat r.kb hf r.kb.lt, sl_flat r.kc hc r.kc.lt, SlT.nil, SlT.nil, SlT.nil⟩
@[reducible] def X12 (b cc : Nat) : Array Value := #[.slice (some ⟨b, 0, none⟩) 5 5, .slice (some ⟨cc, 0, none⟩) 1 1, .int .i64 0, .int .i64 0, .int .i64 0, .int .i64 0, .slice none 0 0, .slice none 0 0, .slice none 0 0, .int .i64 0, .int .i64 0, .int .i64 0, .int .i64 0]
theorem x12_ex (n : Nat) : shpA exShp (exH n) = X12 (n + 1) (n + 1 + 1 + 1) := rfl
theorem x12_s (b cc : Nat) : shpA s12 (h12 b cc) = X12 b cc := rfl
theorem ex_st {w V : World} {b rr cc p q g : Nat} {gs : Array Value} {o1 o2 : Obj} (kb : Bk V b 46 exC) (kr : Bk V rr 3 #[.int .i64 0, .int .i64 1]) (kc : Bk V cc 102 #[.int .i64 0, .slice (some ⟨rr, 0, none⟩) 2 2])
    (be : Below w.heap.size w V) (kg : Bk V g 32 gs) (kz : Bk V w.heap.size 32 zS) (lo : w.heap.size < b ∧ w.heap.size < rr ∧ w.heap.size < cc ∧ w.heap.size < p ∧ w.heap.size < q)
    (kp : Bk ((((V.setCell ⟨b, 8, none⟩ (.slice (some ⟨p, 0, none⟩) 1 1)).setCell ⟨b, 32, none⟩ (.slice (some ⟨q, 0, none⟩) 2 2)).alloc o1).alloc o2).drew p 3 #[.int .i64 0]) (kq : Bk ((((V.setCell ⟨b, 8, none⟩ (.slice (some ⟨p, 0, none⟩) 1 1)).setCell ⟨b, 32, none⟩ (.slice (some ⟨q, 0, none⟩) 2 2)).alloc o1).alloc o2).drew q 3 #[.int .i64 0, .int .i64 1]) :
    Ex12 w ((((V.setCell ⟨b, 8, none⟩ (.slice (some ⟨p, 0, none⟩) 1 1)).setCell ⟨b, 32, none⟩ (.slice (some ⟨q, 0, none⟩) 2 2)).alloc o1).alloc o2).drew b rr cc p q ∧ Bk ((((V.setCell ⟨b, 8, none⟩ (.slice (some ⟨p, 0, none⟩) 1 1)).setCell ⟨b, 32, none⟩ (.slice (some ⟨q, 0, none⟩) 2 2)).alloc o1).alloc o2).drew g 32 gs ∧
      Bk ((((V.setCell ⟨b, 8, none⟩ (.slice (some ⟨p, 0, none⟩) 1 1)).setCell ⟨b, 32, none⟩ (.slice (some ⟨q, 0, none⟩) 2 2)).alloc o1).alloc o2).drew w.heap.size 32 zS := by
  have hb : w.heap.size ≤ b := Nat.le_of_lt lo.1
  have be1 := (be.setCell (p := ⟨b, 8, none⟩) hb (.slice (some ⟨p, 0, none⟩) 1 1)).setCell (p := ⟨b, 32, none⟩) hb (.slice (some ⟨q, 0, none⟩) 2 2)
  have f : ∀ {x : Nat} {t : TypeId} {cs : Array Value}, Bk V x t cs → t ≠ 46 → Bk ((V.setCell ⟨b, 8, none⟩ (.slice (some ⟨p, 0, none⟩) 1 1)).setCell ⟨b, 32, none⟩ (.slice (some ⟨q, 0, none⟩) 2 2)) x t cs := fun {x t cs} h ht => by
    have hne : x ≠ b := Bk.ne_ h kb ht
    exact (h.far (p := ⟨b, 8, none⟩) hne _).far (p := ⟨b, 32, none⟩) hne _
  have k1 : Bk ((V.setCell ⟨b, 8, none⟩ (.slice (some ⟨p, 0, none⟩) 1 1)).setCell ⟨b, 32, none⟩ (.slice (some ⟨q, 0, none⟩) 2 2)) b 46 (C12 p q) := (kb.set_ 8 _).set_ 32 _
  have k2 := f kr (by decide)
  have k3 := f kc (by decide)
  have k4 := f kg (by decide)
  have k5 := f kz (by decide)
  clear f
  generalize (V.setCell ⟨b, 8, none⟩ (.slice (some ⟨p, 0, none⟩) 1 1)).setCell ⟨b, 32, none⟩ (.slice (some ⟨q, 0, none⟩) 2 2) = V1 at *
  have hx := ba2 V1 o1 o2
  have hy : Below V1.heap.size V1 ((V1.alloc o1).alloc o2).drew := hx.drew
  exact ⟨⟨k1.below hy k1.lt, k2.below hy k2.lt, k3.below hy k3.lt, kp, kq, be1.trans (hy.mono be1.size), lo⟩, k4.below hy k4.lt, k5.below hy k5.lt⟩
theorem bk_a {V V1 : World} {cs : Array Value} {t : TypeId} {o : Obj} (h : V1.heap.size = V.heap.size) : Bk ((V1.alloc (.cells cs t)).alloc o).drew V.heap.size t cs := by
  rw [← h]; exact (Bk.new V1 t cs).alloc o
theorem bk_b {V V1 : World} {cs : Array Value} {t : TypeId} {o : Obj} (h : V1.heap.size = V.heap.size) : Bk ((V1.alloc o).alloc (.cells cs t)).drew (V.heap.size + 1) t cs :=
  Bk.at_ (w := V1.alloc o) (g := V.heap.size + 1) t cs (by simp [h])
/-- What example returns. -/
def ExRet12 (w : World) (e : Ending) (w' : World) : Prop := ∃ (b rr cc p q gb gs : Nat), e = .returned (.tuple #[.agg (shpA s12 (h12 b cc)), .slice (some ⟨gb, 0, none⟩) 4 4, .slice (some ⟨gs, 0, none⟩) 4 4]) ∧ Ex12 w w' b rr cc p q ∧ Bk w' gb 37 b12A ∧ Bk w' gs 42 l12A ∧ (w.heap.size < gb ∧ w.heap.size < gs)
set_option maxRecDepth 100000 in
set_option maxHeartbeats 8000000 in
theorem example12_any (w : World) : Calls Try.prog 10 #[] w (ExRet12 w) := by
  have kr := Bk.new w 32 zS
  have bw := ba1 w (.cells zS 32)
  obtain ⟨W, hW⟩ : ∃ W, W = w.alloc (.cells zS 32) := ⟨_, rfl⟩
  have hWs : W.heap.size = w.heap.size + 1 := by rw [hW]; simp
  rw [← hW] at bw kr
  have HX := Lib.hid (ex_exact W)
  have hbx := exW_below W
  have HKB := Lib.hid (exW_cols W)
  have HKR := Lib.hid (exW_rows W)
  have HKC := Lib.hid (exW_covs W)
  have HKZ := Lib.hid (kr.below hbx kr.lt)
  have HBE := Lib.hid (bw.trans (hbx.mono bw.size))
  have hW' := hW.symm
  dsimp only [zS] at hW'
  have hzw := exW_size W
  clear bw kr hW hbx
  go_enter Try.func10, Try.ntmps10
  go_upto_region 1 with fail
  try rw [hW']
  clear hW'
  go_wp2_with fail
  refine HX.out.mono ?_
  rintro e w1 ⟨rfl, hw1⟩
  simp only
  rw [← hw1] at HKB HKR HKC HKZ HBE hzw
  clear HX hw1
  have hx := ba1 w1 (.cells (shpA exShp (exH W.heap.size)) 32)
  replace HKB := Lib.hid (HKB.out.below hx HKB.out.lt)
  replace HKR := Lib.hid (HKR.out.below hx HKR.out.lt)
  replace HKC := Lib.hid (HKC.out.below hx HKC.out.lt)
  replace HKZ := Lib.hid (HKZ.out.below hx HKZ.out.lt)
  replace HBE := Lib.hid (HBE.out.trans (hx.mono HBE.out.size))
  have HKS := Lib.hid (Bk.new w1 32 (shpA exShp (exH W.heap.size)))
  clear hx
  rw [x12_ex] at HKB HKR HKC HKZ HBE HKS ⊢
  dsimp only [X12] at HKB HKR HKC HKZ HBE HKS ⊢
  generalize hbb : W.heap.size + 1 = b at *
  have hlo : w.heap.size < b := by omega
  have HKB0 : Hid (b < w1.heap.size) := Lib.hid (by omega)
  clear hbb hWs hzw
  go_upto_region 2 with fail
  have hgb := HKC.out.lt
  have hgg := HKS.out.lt
  have HGZ0 : Hid (w1.heap.size ≠ w.heap.size) := Lib.hid (by have := HKB0.out; omega)
  generalize w1.heap.size = g at *
  generalize (w1.alloc _) = V at *
  clear w1
  try clear W
  have e0 : V.cell? ⟨g, 0, none⟩ = some (.slice (some ⟨b, 0, none⟩) 5 5) := HKS.out.cell 0
  have c8 : V.cell? ⟨b, 8, none⟩ = some (.slice none 0 0) := HKB.out.cell 8
  have c32 : V.cell? ⟨b, 32, none⟩ = some (.slice none 0 0) := HKB.out.cell 32
  have f8 := HKB.out.frozen 8
  have f32 := HKB.out.frozen 32
  have hbV : b < V.heap.size := by omega
  have hwV := HBE.out.size
  have hP := ba2 V (.cells #[.int .i64 0] 3) (.cells #[.int .i64 0, .int .i64 1] 3)
  have hQ := ba2 V (.cells #[.int .i64 0, .int .i64 1] 3) (.cells #[.int .i64 0] 3)
  have HP := Lib.hid hP
  have HQ := Lib.hid hQ
  clear hP hQ
  go_cut [6, 7, 8, 9, 10, 11, 12, 13, 14, 15] (fun _ _ _ _ v10 v11 _ _ _ _ wz => ∃ p q : Nat, v10 = .slice (some ⟨p, 0, none⟩) 1 1 ∧ v11 = .slice (some ⟨q, 0, none⟩) 2 2 ∧ Hid (Ex12 w wz b (b + 1) (b + 1 + 1) p q ∧ Bk wz g 32 (X12 b (b + 1 + 1)) ∧ Bk wz w.heap.size 32 zS))
  case first =>
    go_region
    all_goals (go_wp2_with fail; go_meet; refine ⟨_, _, rfl, rfl, Lib.hid (ex_st HKB.out HKR.out HKC.out HBE.out HKS.out HKZ.out ⟨by omega, by omega, by omega, by omega, by omega⟩ ?_ ?_)⟩)
    all_goals (first | exact bk_a (by simp [World.setCell]) | exact bk_b (by simp [World.setCell]))
  case rest =>
    obtain ⟨p, q, rfl, rfl, HE⟩ := hcut
    obtain ⟨Z, rfl⟩ : ∃ V, V = wc := ⟨_, rfl⟩
    clear HKB HKR HKC HKZ HKS HBE e0 c8 c32 f8 f32 HP HQ hgb hgg hbV hwV
    try clear V
    have hxb := ba1 Z (.cells b12A 37)
    have HB := Lib.hid (Bk.new Z 37 b12A)
    have HE1 := Lib.hid (And.intro (HE.out.1.on hxb) (And.intro (HE.out.2.1.below hxb HE.out.2.1.lt) (HE.out.2.2.below hxb HE.out.2.2.lt)))
    have hwZ : w.heap.size < Z.heap.size := HE.out.2.2.lt
    have HGZ : Hid (g ≠ w.heap.size) := HGZ0
    clear HE hxb
    dsimp only [b12A] at HB HE1
    go_upto_region 4 with fail
    generalize hgb : Z.heap.size = gb at *
    have hwgb : w.heap.size < gb := by omega
    generalize (Z.alloc _) = V at *
    try clear Z
    let C : World → Prop := fun V => ∃ cs, cs.size = 13 ∧ Hid (Bk V w.heap.size 32 cs) ∧ Hid (Ex12 w V b (b + 1) (b + 1 + 1) p q) ∧ Hid (Bk V g 32 #[.slice (some ⟨b, 0, none⟩) 5 5, .slice (some ⟨b + 1 + 1, 0, none⟩) 1 1, .int .i64 0, .int .i64 0, .int .i64 0, .int .i64 0, .slice none 0 0, .slice none 0 0, .slice none 0 0, .int .i64 0, .int .i64 0, .int .i64 0, .int .i64 0]) ∧ Hid (Bk V gb 37 #[.int .i64 1, .string ⟨#[]⟩, .int .u8 40, .bool false, .int .i64 0, .int .i64 0, .int .i64 0, .int .u8 0, .bool true, .int .i64 2, .string ⟨#[]⟩, .int .u8 20, .bool false, .int .i64 0, .int .i64 0, .int .i64 0, .int .u8 0, .bool true, .int .i64 3, .string ⟨#[]⟩, .int .u8 20, .bool false, .int .i64 0, .int .i64 0, .int .i64 0, .int .u8 0, .bool true, .int .i64 4, .string ⟨#[]⟩, .int .u8 20, .bool false, .int .i64 0, .int .i64 0, .int .i64 0, .int .u8 0, .bool false])
    have hC : ∀ {w w' : World}, C w → Below w.heap.size w w' → C w' := fun ⟨cs, h0, h1, h2, h3, h4⟩ hb => ⟨cs, h0, Lib.hid (h1.out.below hb h1.out.lt), Lib.hid (h2.out.on hb), Lib.hid (h3.out.below hb h3.out.lt), Lib.hid (h4.out.below hb h4.out.lt)⟩
    have hC0 : C V := ⟨zS, rfl, Lib.hid HE1.out.2.2, Lib.hid HE1.out.1, Lib.hid HE1.out.2.1, HB⟩
    refine wp_region_og [.val 0 (.agg #[.slice (some ⟨b, 0, none⟩) 5 5, .slice (some ⟨b + 1 + 1, 0, none⟩) 1 1, .int .i64 0, .int .i64 0, .int .i64 0, .int .i64 0, .slice none 0 0, .slice none 0 0, .slice none 0 0, .int .i64 0, .int .i64 0, .int .i64 0, .int .i64 0]),
      .val 1 (.slice (some ⟨gb, 0, none⟩) 4 4),
      .val 2 (.agg #[.int .i64 1, .int .i64 2, .int .i64 1, .int .u8 0]),
      .val 3 (.agg #[.int .i64 2, .int .i64 2, .int .i64 0, .int .u8 1]),
      .val 4 (.agg #[.int .i64 3, .int .i64 3, .int .i64 0, .int .u8 1]),
      .val 5 (.agg #[.int .i64 4, .int .i64 2, .int .i64 0, .int .u8 2]),
      .sl 6 4 42 #[.int .i64 1, .int .i64 2, .int .i64 1, .int .u8 0, .int .i64 2, .int .i64 2, .int .i64 0, .int .u8 1, .int .i64 3, .int .i64 3, .int .i64 0, .int .u8 1, .int .i64 4, .int .i64 2, .int .i64 0, .int .u8 2] (w.heap.size + 1),
      ⟨[], fun _ V => Bk V w.heap.size 32 #[.slice (some ⟨b, 0, none⟩) 5 5, .slice (some ⟨b + 1 + 1, 0, none⟩) 1 1, .int .i64 0, .int .i64 0, .int .i64 0, .int .i64 0, .slice none 0 0, .slice none 0 0, .slice none 0 0, .int .i64 0, .int .i64 0, .int .i64 0, .int .i64 0], fun _ h => h, fun hb h => h.below hb h.lt⟩,
      .val 8 (.slice (some ⟨gb, 0, none⟩) 4 4),
      ⟨[9], fun x V => ∃ gl, x 9 = .slice (some ⟨gl, 0, none⟩) 4 4 ∧ Bk V gl 42 #[.int .i64 1, .int .i64 2, .int .i64 1, .int .u8 0, .int .i64 2, .int .i64 2, .int .i64 0, .int .u8 1, .int .i64 3, .int .i64 3, .int .i64 0, .int .u8 1, .int .i64 4, .int .i64 2, .int .i64 0, .int .u8 2] ∧ w.heap.size < gl, fun h ⟨g, e, r⟩ => ⟨g, (h 9 (by simp)).symm.trans e, r⟩, fun hb ⟨g, e, k, r⟩ => ⟨g, e, k.below hb k.lt, r⟩⟩]
      [[], [], [], [], [], [], [2, 3, 4, 5], [0], [1], [6]] [7, 8, 9] C (by kernel_rfl) (by kernel_rfl) (hC hC0 (Cb.drew V)) ⟨?_, ?_, ?_, ?_, ?_, ?_, ?_, ?_, ?_, ?_, trivial⟩ ?_
    case refine_1 =>
      refine StepL.grow hC fun x V hV hu K Q hK => ?_
      obtain ⟨cs, h0, h1, h2, h3, h4⟩ := hV
      have ks := h3.out
      clear h1 h2 h3 h4
      have e0 : V.cell? ⟨g, 0, none⟩ = some (.slice (some ⟨b, 0, none⟩) 5 5) := ks.cell 0
      have e1 : V.cell? ⟨g, 1, none⟩ = some (.slice (some ⟨b + 1 + 1, 0, none⟩) 1 1) := ks.cell 1
      have e2 : V.cell? ⟨g, 2, none⟩ = some (.int .i64 0) := ks.cell 2
      have e3 : V.cell? ⟨g, 3, none⟩ = some (.int .i64 0) := ks.cell 3
      have e4 : V.cell? ⟨g, 4, none⟩ = some (.int .i64 0) := ks.cell 4
      have e5 : V.cell? ⟨g, 5, none⟩ = some (.int .i64 0) := ks.cell 5
      have e6 : V.cell? ⟨g, 6, none⟩ = some (.slice none 0 0) := ks.cell 6
      have e7 : V.cell? ⟨g, 7, none⟩ = some (.slice none 0 0) := ks.cell 7
      have e8 : V.cell? ⟨g, 8, none⟩ = some (.slice none 0 0) := ks.cell 8
      have e9 : V.cell? ⟨g, 9, none⟩ = some (.int .i64 0) := ks.cell 9
      have e10 : V.cell? ⟨g, 10, none⟩ = some (.int .i64 0) := ks.cell 10
      have e11 : V.cell? ⟨g, 11, none⟩ = some (.int .i64 0) := ks.cell 11
      have e12 : V.cell? ⟨g, 12, none⟩ = some (.int .i64 0) := ks.cell 12
      clear ks
      clear hu
      rw [owp_eq]
      go_big_op
      exact hK _ _ (Below.refl _ _) rfl
    case refine_2 =>
      refine StepL.grow hC fun x V hV hu K Q hK => ?_
      clear hu
      simp only [putL, List.set_cons_zero, List.set_cons_succ] at hK ⊢
      rw [owp_eq]
      go_big_op
      exact hK _ _ (Below.refl _ _) rfl
    case refine_3 =>
      refine StepL.grow hC fun x V hV hu K Q hK => ?_
      clear hu
      simp only [putL, List.set_cons_zero, List.set_cons_succ] at hK ⊢
      rw [owp_eq]
      go_big_op
      refine (at12 _ _ _ _ _).mono ?_
      rintro e V' ⟨rfl, hb⟩
      exact hK _ _ hb rfl
    case refine_4 =>
      refine StepL.grow hC fun x V hV hu K Q hK => ?_
      clear hu
      simp only [putL, List.set_cons_zero, List.set_cons_succ] at hK ⊢
      rw [owp_eq]
      go_big_op
      refine (at12 _ _ _ _ _).mono ?_
      rintro e V' ⟨rfl, hb⟩
      exact hK _ _ hb rfl
    case refine_5 =>
      refine StepL.grow hC fun x V hV hu K Q hK => ?_
      clear hu
      simp only [putL, List.set_cons_zero, List.set_cons_succ] at hK ⊢
      rw [owp_eq]
      go_big_op
      refine (at12 _ _ _ _ _).mono ?_
      rintro e V' ⟨rfl, hb⟩
      exact hK _ _ hb rfl
    case refine_6 =>
      refine StepL.grow hC fun x V hV hu K Q hK => ?_
      clear hu
      simp only [putL, List.set_cons_zero, List.set_cons_succ] at hK ⊢
      rw [owp_eq]
      go_big_op
      refine (at12 _ _ _ _ _).mono ?_
      rintro e V' ⟨rfl, hb⟩
      exact hK _ _ hb rfl
    case refine_7 =>
      refine StepL.grow hC fun x V hV hu K Q hK => ?_
      have u2 : x 2 = _ := hu 2 (by decide)
      have u3 : x 3 = _ := hu 3 (by decide)
      have u4 : x 4 = _ := hu 4 (by decide)
      have u5 : x 5 = _ := hu 5 (by decide)
      have hwz : w.heap.size + 1 ≤ V.heap.size := by
        obtain ⟨cs, h0, h1, h2, h3, h4⟩ := hV
        exact h1.out.lt
      clear hu
      simp only [putL, List.set_cons_zero, List.set_cons_succ] at hK ⊢
      rw [owp_eq]
      go_big_op
      exact hK _ _ (ba1 V _) ⟨_, rfl, hwz, Bk.new V _ _⟩
    case refine_8 =>
      refine StepL.wr [1, 2, 3, 4, 5, 6] (by kernel_rfl) fun x V hV hu K Q hK => ?_
      have u0 : x 0 = _ := hu 0 (by decide)
      obtain ⟨cs, h0, h1, h2, h3, h4⟩ := hV
      clear hu
      simp only [putL, List.set_cons_zero, List.set_cons_succ] at hK ⊢
      refine wp_store_og 32 (.tmp 0) (.tmp 21) rfl w.heap.size #[.slice (some ⟨b, 0, none⟩) 5 5, .slice (some ⟨b + 1 + 1, 0, none⟩) 1 1, .int .i64 0, .int .i64 0, .int .i64 0, .int .i64 0, .slice none 0 0, .slice none 0 0, .slice none 0 0, .int .i64 0, .int .i64 0, .int .i64 0, .int .i64 0] rfl u0 32 cs h1.out info_ship h0 (by kernel_rfl) fun V' k1 k2 => ?_
      have hgz : g ≠ w.heap.size := HGZ.out
      refine hK undef _ ⟨_, rfl, Lib.hid k1, Lib.hid (h2.out.grown k2), Lib.hid (h3.out.grown k2 (by simpa using hgz)), Lib.hid (h4.out.grown k2 (by have := Bk.ne_ h4.out h1.out (by decide); simpa using this))⟩ k1 fun j hj => ?_
      simp only [List.mem_cons, List.not_mem_nil, or_false] at hj
      rcases hj with rfl | rfl | rfl | rfl | rfl | rfl
      · exact fun h => h
      · exact fun h => h
      · exact fun h => h
      · exact fun h => h
      · exact fun h => h
      · rintro ⟨g', e', l', k'⟩; exact ⟨g', e', l', k'.grown k2 (by have := Bk.ne_ k' h1.out (by decide); simpa using this)⟩
    case refine_9 =>
      refine StepL.grow hC fun x V hV hu K Q hK => ?_
      have u1 : x 1 = _ := hu 1 (by decide)
      clear hu
      simp only [putL, List.set_cons_zero, List.set_cons_succ] at hK ⊢
      rw [owp_eq]
      go_big_op
      exact hK _ _ (Below.refl _ _) rfl
    case refine_10 =>
      refine StepL.grow hC fun x V hV hu K Q hK => ?_
      obtain ⟨g6, u6, l6, k6⟩ := hu 6 (by decide)
      clear hu
      simp only [putL, List.set_cons_zero, List.set_cons_succ] at hK ⊢
      rw [owp_eq]
      go_big_op
      exact hK _ _ (Below.refl _ _) ⟨g6, rfl, k6, l6⟩
    case refine_11 =>
      intro x V hV hA
      have k7 : Bk V w.heap.size 32 #[.slice (some ⟨b, 0, none⟩) 5 5, .slice (some ⟨b + 1 + 1, 0, none⟩) 1 1, .int .i64 0, .int .i64 0, .int .i64 0, .int .i64 0, .slice none 0 0, .slice none 0 0, .slice none 0 0, .int .i64 0, .int .i64 0, .int .i64 0, .int .i64 0] := hA 7 rfl (by decide)
      have x8 : x 8 = _ := hA 8 rfl (by decide)
      obtain ⟨gl, x9, k9, hlw⟩ := hA 9 rfl (by decide)
      obtain ⟨cs, h0, h1, h2, h3, h4⟩ := hV
      simp only [layL, putL, List.set_cons_zero, List.set_cons_succ]
      rw [x8, x9]
      clear hA x8 x9 hC hC0 C
      go_wp2_with fail
      refine bodyPost_ret (results_row_tmp2 rfl _ _ w.heap.size 32 #[.slice (some ⟨b, 0, none⟩) 5 5, .slice (some ⟨b + 1 + 1, 0, none⟩) 1 1, .int .i64 0, .int .i64 0, .int .i64 0, .int .i64 0, .slice none 0 0, .slice none 0 0, .slice none 0 0, .int .i64 0, .int .i64 0, .int .i64 0, .int .i64 0] _ rfl k7 Try.underlying32 rfl info_ship) rfl ?_
      exact ⟨b, b + 1, b + 1 + 1, p, q, gb, gl, rfl, h2.out, h4.out, k9, by omega, hlw⟩
end Go.Proofs.Ytmkplemdnglhmaa
