/-
  The walk of the statements' search 'coloured'.
-/
import Derived.Test.YtcjnabbggmbfgaaDoorDgF
import Derived.Test.YtcjnabbggmbfgaaDoorLib3
import Derived.Test.YtcjnabbggmbfgaaDoorDgPlain3
import Derived.Deep.DeepCutAuto
import Derived.Deep.RegionLaw
namespace Go.Proofs.YtcjnabbggmbfgaaDoor
open Go.RowKit

theorem colF_cons (many c : Nat) (cs : List Nat) (G : List (List Nat)) : Dg.colF many (c :: cs) G = (List.range (min (G.length + 1) many)).any fun g =>
      if g = G.length then Dg.colF many cs (G ++ [[c]]) else Dg.fits (G.getD g []) c && Dg.colF many cs (G.set g (G.getD g [] ++ [c])) := rfl
def ColPost (w : World) (v : Value) (r : Bool) (e : Ending) (w' : World) : Prop := e = .returned (.bool r) ∧ w.grownBy w' v.ownBlock

theorem Groups.below {w w' : World} {base B : Nat} {v : Value} {G : List (List Nat)} (h : Groups w base v G) (hb : Below B w w') (hB : w.heap.size ≤ B) : Groups w' base v G := by
  obtain ⟨vs, h1, h2, h3⟩ := h
  exact ⟨vs, own_below h1 hb hB, h2, fun i hi => own_below (h3 i hi) hb hB⟩
theorem Groups.drew {w : World} {base : Nat} {v : Value} {G : List (List Nat)} (h : Groups w base v G) : Groups w.drew base v G := h
/-- One group more, appended to the row of groups (which may be the row that is there). -/
theorem Groups.more {w w' : World} {base : Nat} {v v' : Value} {G : List (List Nat)} {vs : List Value} {u : Value} {l : List Nat}
    (hvs : vs.length = G.length) (hin : ∀ i, i < G.length → w.ownsRow base 5 1 (vs.getD i undef) (G.getD i []).length (u8s (G.getD i [])))
    (hou : w.ownsRow base 22 1 v G.length vs) (hu : w.ownsRow base 5 1 u l.length (u8s l)) (ho : w'.ownsRow base 22 1 v' (G.length + 1) (vs ++ [u])) (hg : w.grownBy w' v.ownBlock) : Groups w' base v' (G ++ [l]) := by
  have hne : ∀ (z : Value) (m : Nat) (xs : List Value), w.ownsRow base 5 1 z m xs → z.ownBlock = none ∨ z.ownBlock ≠ v.ownBlock := by
    intro z m xs hz
    rcases hz.2 with ⟨rfl, _⟩ | ⟨g, cap, cur, rfl, _, hh, _⟩
    · exact .inl rfl
    · refine .inr ?_
      rcases hou.2 with ⟨rfl, _⟩ | ⟨g', cap', cur', rfl, _, hh', _⟩
      · simp [Value.ownBlock]
      · simp only [Value.ownBlock, ne_eq, Option.some.injEq]
        exact Bk.ne_ (show Bk w g 5 cur from hh) (show Bk w g' 22 cur' from hh') (by decide)
  refine ⟨vs ++ [u], by simpa using ho, by simp [hvs], fun i hi => ?_⟩
  simp only [List.length_append, List.length_singleton] at hi
  by_cases e : i < G.length
  · rw [show (vs ++ [u]).getD i undef = vs.getD i undef by simp [List.getElem?_append_left (show i < vs.length by omega)], show (G ++ [l]).getD i [] = G.getD i [] by simp [List.getElem?_append_left e]]
    exact (hin i e).kept hg (hne _ _ _ (hin i e))
  · obtain rfl : i = G.length := by omega
    rw [show (vs ++ [u]).getD G.length undef = u by rw [← hvs]; simp, show (G ++ [l]).getD G.length [] = l by simp]
    exact hu.kept hg (hne _ _ _ hu)

/-- The hypotheses of a call of 'coloured'. -/
structure ColPre (w : World) (base : Nat) (A : Option Addr) (n c : Nat) (l : List Nat) (v : Value) (G : List (List Nat)) : Prop where
  tab : TabOK w
  sl : Sl w base 1 A n (u8s l)
  cap : n ≤ c
  small : ∀ x ∈ l, x < 10
  gr : Groups w base v G
  gsmall : ∀ g ∈ G, ∀ x ∈ g, x < 10
  room : G.length + n ≤ 20
  rooms : ∀ i, (G.getD i []).length + n ≤ 20
  bt : 0 < base
  bs : base ≤ w.heap.size

theorem beq0 (t : Nat) : (((t : Nat) : Int) == 0) = (t == 0) := by rw [Bool.eq_iff_iff]; simp
theorem own_one {w : World} {base : Nat} {e : TypeId} {k n : Nat} {v : Value} {xs : List Value} (h : w.ownsRow base e k v n xs) : v.oneCell' = true := by
  rcases h.2 with ⟨rfl, _⟩ | ⟨g, cap, cur, rfl, _⟩ <;> rfl
theorem groups_one {w : World} {base : Nat} {G : List (List Nat)} {vs : List Value} (hvl : vs.length = G.length) (hin : ∀ i, i < G.length → w.ownsRow base 5 1 (vs.getD i undef) (G.getD i []).length (u8s (G.getD i []))) : vs.all (·.oneCell') = true := by
  rw [List.all_eq_true]
  intro v hv
  obtain ⟨i, hi, rfl⟩ := List.getElem_of_mem hv
  have := own_one (hin i (by omega))
  simpa [hi] using this
theorem grown_chain {w wr W2 w3 w4 : World} {v v' : Value} (h1 : Below w.heap.size w wr) (h2 : Below wr.heap.size wr W2) (h3 : W2.grownBy w3 v.ownBlock) (h4 : v'.ownBlock = v.ownBlock ∨ ∃ g, v'.ownBlock = some g ∧ W2.heap.size ≤ g) (h5 : w3.grownBy w4 v'.ownBlock) :
    w.grownBy w4 v.ownBlock := by
  have s1 := h1.size; have s2 := h2.size; have s3 := h3.size
  refine ⟨h5.os.trans (h3.os.trans (h2.os.trans h1.os)), h5.tape.trans (h3.tape.trans (h2.tape.trans h1.tape)), h5.output.trans (h3.output.trans (h2.output.trans h1.output)), by have := h5.size; omega, fun k hk hne => ?_⟩
  have hne' : some k ≠ v'.ownBlock := by
    rcases h4 with h4 | ⟨g, h4, hg⟩
    · rw [h4]; exact hne
    · rw [h4]; intro e; injection e; omega
  exact (h5.block k (by omega) hne').trans ((h3.block k (by omega) hne).trans ((h2.block k (by omega)).trans (h1.block k hk)))
def litW (w : World) (x : Nat) : World := (w.alloc (.cells #[.int .u8 x] 5)).alloc (.cells #[.slice (some ⟨w.heap.size, 0, none⟩) 1 1] 22)
theorem litW_below (w : World) (x : Nat) : Below w.heap.size w (litW w x) := ((Below.refl _ _).alloc (Nat.le_refl _) _).alloc (by simp) _
theorem litW_size (w : World) (x : Nat) : (litW w x).heap.size = w.heap.size + 2 := by simp [litW]
theorem litW_src (w : World) (x : Nat) : Bk (litW w x) (w.heap.size + 1) 22 #[.slice (some ⟨w.heap.size, 0, none⟩) 1 1] := by
  have := Bk.new (w.alloc (.cells #[.int .u8 x] 5)) 22 #[.slice (some ⟨w.heap.size, 0, none⟩) 1 1]
  simp at this
  exact this
theorem litW_own (w : World) (x : Nat) (base : Nat) (hb : base ≤ w.heap.size) : (litW w x).ownsRow base 5 1 (.slice (some ⟨w.heap.size, 0, none⟩) 1 1) [x].length (u8s [x]) :=
  (World.ownsRow_lit (base := base) (e := 5) (size := 1) w #[.int .u8 x] 1 hb (by simp [maxLen]) rfl).alloc _
/-- The call of 'coloured' with one group more. -/
theorem next_new {wr w3 : World} {base n c x : Nat} {A : Option Addr} {l : List Nat} {Av A3 : Option Addr} {cv c3 : Nat} {G : List (List Nat)} {vs : List Value} (hP : ColPre wr base A n c (x :: l) (.slice Av G.length cv) G)
    (ho : wr.ownsRow base 22 1 (.slice Av G.length cv) G.length vs) (hvl : vs.length = G.length) (hin : ∀ i, i < G.length → wr.ownsRow base 5 1 (vs.getD i undef) (G.getD i []).length (u8s (G.getD i [])))
    (ho3 : w3.ownsRow base 22 1 (.slice A3 (G.length + 1) c3) (G.length + 1) (vs ++ [.slice (some ⟨wr.heap.size, 0, none⟩) 1 1])) (hg3 : (litW wr x).grownBy w3 (Value.slice Av G.length cv).ownBlock) (hb3 : Below base (litW wr x) w3) :
    ColPre w3 base (if c = 1 then A else A.map (·.add 1)) (n - 1) (c - 1) l (.slice A3 (G ++ [[x]]).length c3) (G ++ [[x]]) := by
  have hlb := litW_below wr x
  have hn : 1 ≤ n := by have := hP.sl.len; simp [u8s] at this; omega
  have hs := hP.sl.cut (j := 1) hn hP.cap
  have hbw : Below base wr w3 := (hlb.mono hP.bs).trans hb3
  refine ⟨hP.tab.below hbw hP.bt, ?_, by have := hP.cap; omega, fun y hy => hP.small y (by simp [hy]), ?_, ?_, ?_, fun i => ?_, hP.bt, ?_⟩
  · have := hs.below hbw
    simpa [u8s] using this
  · rw [List.length_append, List.length_singleton]
    refine Groups.more (w := litW wr x) hvl (fun i hi => own_below (hin i hi) hlb (Nat.le_refl _)) (own_below ho hlb (Nat.le_refl _)) (litW_own wr x base hP.bs) ho3 hg3
  · intro g hg
    rcases List.mem_append.1 hg with h | h
    · exact hP.gsmall g h
    · simp at h; subst h; intro y hy; simp at hy; subst hy; exact hP.small y (by simp)
  · have := hP.room; simp; omega
  · by_cases e : i < G.length
    · rw [show (G ++ [[x]]).getD i [] = G.getD i [] by simp [List.getElem?_append_left e]]; have := hP.rooms i; omega
    · by_cases e2 : i = G.length
      · subst e2; have := hP.room; simp; omega
      · rw [show (G ++ [[x]]).getD i [] = [] by simp [List.getElem?_append_right (show G.length ≤ i by omega), show ¬ i - G.length = 0 by omega]]
        have := hP.room; simp; omega
  · have := hbw.size; have := hP.bs; omega

theorem groups_set {w5 w7 : World} {base g5 c5 g : Nat} {G : List (List Nat)} {vs : List Value} {u : Value} {l : List Nat} (ho5 : w5.ownsRow base 22 1 (.slice (some ⟨g5, 0, none⟩) G.length c5) G.length vs) (hvl : vs.length = G.length)
    (hin : ∀ i, i < G.length → w5.ownsRow base 5 1 (vs.getD i undef) (G.getD i []).length (u8s (G.getD i []))) (hbs : base ≤ w5.heap.size) (hB : Below w5.heap.size w5 w7) (hu : w7.ownsRow w5.heap.size 5 1 u l.length (u8s l)) (hg : g < G.length) :
    Groups (w7.setCell ⟨g5, g, none⟩ u) base (.slice (some ⟨g5, 0, none⟩) G.length c5) (G.set g l) := by
  have ho7 := own_below ho5 hB (Nat.le_refl _)
  obtain ⟨_, ⟨h0, _⟩ | ⟨q, cap, cur, hv, _, hh, _⟩⟩ := id ho7
  · cases h0
  injection hv with hv1 _ hv3
  injection hv1 with hv1
  injection hv1 with hv1 _
  subst hv1
  have hk : Bk w7 g5 22 cur := hh
  refine ⟨vs.set g u, by rw [List.length_set]; exact (ho7.stored g u).1, by simp [hvl], fun i hi => ?_⟩
  rw [List.length_set] at hi
  by_cases e : i = g
  · subst e
    rw [getD_set_eq _ _ _ _ (by omega), getD_set_eq _ _ _ _ hg]
    exact own_far (own_mono hu hbs) _ _ (own_ne hu hk (by decide))
  · rw [getD_set_ne _ _ _ _ _ e, getD_set_ne _ _ _ _ _ e]
    have := own_below (hin i hi) hB (Nat.le_refl _)
    exact own_far this _ _ (own_ne this hk (by decide))
theorem next_set {wr wc : World} {base n c x g : Nat} {A : Option Addr} {l : List Nat} {v v' : Value} {G : List (List Nat)} (hP : ColPre wr base A n c (x :: l) v G) (hB : Below wr.heap.size wr wc) (hg : g < G.length) (hG : Groups wc base v' (G.set g (G.getD g [] ++ [x]))) :
    ColPre wc base (if c = 1 then A else A.map (·.add 1)) (n - 1) (c - 1) l v' (G.set g (G.getD g [] ++ [x])) := by
  have hn : 1 ≤ n := by have := hP.sl.len; simp [u8s] at this; omega
  have hs := hP.sl.cut (j := 1) hn hP.cap
  have hbw : Below base wr wc := hB.mono hP.bs
  refine ⟨hP.tab.below hbw hP.bt, ?_, by have := hP.cap; omega, fun y hy => hP.small y (by simp [hy]), hG, ?_, ?_, fun i => ?_, hP.bt, by have := hB.size; have := hP.bs; omega⟩
  · have := hs.below hbw
    simpa [u8s] using this
  · intro q hq
    rcases List.mem_or_eq_of_mem_set hq with h | h
    · exact hP.gsmall q h
    · subst h
      intro y hy
      rcases List.mem_append.1 hy with h | h
      · exact getD_all hP.gsmall g y h
      · simp at h; subst h; exact hP.small y (by simp)
  · have := hP.room; simp; omega
  · by_cases e : i = g
    · subst e; rw [getD_set_eq _ _ _ _ hg]; have := hP.rooms i; simp at this ⊢; omega
    · rw [getD_set_ne _ _ _ _ _ e]; have := hP.rooms i; omega

set_option maxRecDepth 100000 in
set_option maxHeartbeats 4000000 in
theorem col_any (many : Nat) (hmany : many ≤ 20) (base : Nat) : ∀ (l : List Nat) (w : World) (A : Option Addr) (n c : Nat) (Av : Option Addr) (cv : Nat) (G : List (List Nat)), ColPre w base A n c l (.slice Av G.length cv) G →
    Calls Tryd.prog 13 #[.slice A n c, .int .i64 many, .slice Av G.length cv] w (ColPost w (.slice Av G.length cv) (Dg.colF many l G)) := by
  intro l
  induction l with
  | nil =>
    intro w A n c Av cv G hP
    have hn : n = 0 := by have := hP.sl.len; simp [u8s] at this; omega
    subst hn
    go_enter Tryd.func13, Tryd.ntmps13
    go_wp2
    go_ret
    exact ⟨rfl, ⟨rfl, rfl, rfl, Nat.le_refl _, fun _ _ _ => rfl⟩⟩
  | cons x l ih =>
    intro w A n c Av cv G hP
    have hn : n = l.length + 1 := by have := hP.sl.len; simp [u8s] at this; omega
    have hx10 := hP.small x (by simp)
    have HIH := Lib.hid ih; clear ih
    rw [colF_cons]
    generalize hf : (fun g => if g = G.length then Dg.colF many l (G ++ [[x]]) else Dg.fits (G.getD g []) x && Dg.colF many l (G.set g (G.getD g [] ++ [x]))) = f at *
    have HF := Lib.hid hf; clear hf
    have HN := Lib.hid hn
    have hr := hP.room
    have hn20 : n ≤ 20 := by omega
    have hn1 : 1 ≤ n := by omega
    clear hn
    have hne : ((n : Int) == 0) = false := by simp; omega
    have HP := Lib.hid hP; clear hP
    go_enter Tryd.func13, Tryd.ntmps13
    go_wp2
    go_loopw [7] (fun i wr => ∃ (g : Nat), g ≤ min (G.length + 1) many ∧ i = .int .i64 g ∧ Below w.heap.size w wr ∧ Hid ((List.range g).any f = false)) (fun i _ => 30 - (intOf i).toNat)
    case atStart => exact ⟨0, Nat.zero_le _, rfl, Below.refl _ _, Lib.hid rfl⟩
    case round =>
      obtain ⟨g, hg, rfl, hb, HM⟩ := hrel
      have hbs := hb.size
      obtain ⟨b0, off, rfl, hb0, hcx⟩ := (HP.out.sl.below (hb.mono HP.out.bs)).u8 (j := 0) (by omega)
      rw [show (x :: l).getD 0 0 = x from rfl, Nat.add_zero] at hcx
      by_cases hgl : g ≤ G.length
      · by_cases hgm : g < many
        · by_cases hge : g = G.length
          · have heq : ((g : Int) == (G.length : Int)) = true := by simp; omega
            have HPR := Lib.hid (show ColPre wr base (some ⟨b0, off, none⟩) n c (x :: l) (.slice Av G.length cv) G from
              ⟨HP.out.tab.below hb (by have := HP.out.bt; have := HP.out.bs; omega), HP.out.sl.below (hb.mono HP.out.bs), HP.out.cap, HP.out.small, HP.out.gr.below hb (Nat.le_refl _), HP.out.gsmall, HP.out.room, HP.out.rooms, HP.out.bt, Nat.le_trans HP.out.bs hbs⟩)
            obtain ⟨vs, ho, hvl, hin⟩ := HPR.out.gr
            have HO := Lib.hid (And.intro ho (And.intro hvl hin)); clear ho hvl hin
            have HFg := Lib.hid (show f g = Dg.colF many l (G ++ [[x]]) from by rw [← HF.out]; exact if_pos hge)
            have HGE := Lib.hid hge; clear hge
            have hbb : base ≤ wr.heap.size := HPR.out.bs
            have HCALL := Lib.hid (show ∀ (w3 : World) (A3 : Option Addr) (c3 : Nat), w3.ownsRow base 22 1 (.slice A3 (G.length + 1) c3) (G.length + 1) (vs ++ [.slice (some ⟨wr.heap.size, 0, none⟩) 1 1]) → (litW wr x).drew.grownBy w3 (Value.slice Av G.length cv).ownBlock → Below base (litW wr x).drew w3 →
                Calls Tryd.prog 13 #[.slice (if c = 1 then some ⟨b0, off, none⟩ else (some (⟨b0, off, none⟩ : Addr)).map (·.add 1)) (n - 1) (c - 1), .int .i64 many, .slice A3 (G.length + 1) c3] w3 (ColPost w3 (.slice A3 (G.length + 1) c3) (Dg.colF many l (G ++ [[x]]))) from
              fun w3 A3 c3 ho3 hg3 hb3 => by
                have h := HIH.out w3 _ _ _ A3 c3 _ (next_new HPR.out HO.out.1 HO.out.2.1 HO.out.2.2 ho3 ⟨hg3.os, hg3.tape, hg3.output, hg3.size, hg3.block⟩ ⟨hb3.os, hb3.tape, hb3.output, hb3.size, hb3.block⟩)
                rw [List.length_append, List.length_singleton] at h
                exact h)
            have HFIN := Lib.hid (show ∀ (w3 w4 : World) (A3 : Option Addr) (c3 : Nat), (litW wr x).drew.grownBy w3 (Value.slice Av G.length cv).ownBlock → ((Value.slice A3 (G.length + 1) c3).ownBlock = (Value.slice Av G.length cv).ownBlock ∨ ∃ q, (Value.slice A3 (G.length + 1) c3).ownBlock = some q ∧ (litW wr x).drew.heap.size ≤ q) → w3.grownBy w4 (Value.slice A3 (G.length + 1) c3).ownBlock →
                w.grownBy w4 (Value.slice Av G.length cv).ownBlock from fun w3 w4 A3 c3 h3 h4 h5 => grown_chain (v := .slice Av G.length cv) (v' := .slice A3 (G.length + 1) c3) hb (litW_below wr x).drew h3 h4 h5)
            have HRES := Lib.hid (show (List.range (min (G.length + 1) many)).any f = Dg.colF many l (G ++ [[x]]) from by
              have hlt : g < min (G.length + 1) many := by have := HGE.out; omega
              cases hq : Dg.colF many l (G ++ [[x]]) with
              | true => exact Dg.any_hit hlt (by rw [HFg.out, hq])
              | false =>
                by_cases hmm : G.length + 1 ≤ many
                · have : min (G.length + 1) many = g + 1 := by have := HGE.out; omega
                  rw [this]; exact Dg.any_miss HM.out (by rw [HFg.out, hq])
                · have : min (G.length + 1) many = g + 1 := by have := HGE.out; omega
                  rw [this]; exact Dg.any_miss HM.out (by rw [HFg.out, hq]))
            by_cases hc1 : c = 1
            · have hi1 : (1 : Int) ≤ (n : Int) := by omega
              have hi0 : 0 < n := by omega
              subst hc1
              have hcl := HCALL.out
              rw [if_pos rfl, Nat.sub_self] at hcl
              clear HCALL
              have HCALL := Lib.hid hcl; clear hcl
              go_wp2
              go_region_law (first
                | (refine step_append1 el_u8s rfl (.tmp 33) (.tmp 38) rfl base (.slice Av G.length cv) G.length vs (by simp [Act.eval]) (own_below HO.out.1 (litW_below wr x).drew (Nat.le_refl _)) (wr.heap.size + 1) #[.slice (some ⟨wr.heap.size, 0, none⟩) 1 1] 1 (by simp [Act.eval]) (litW_src wr x) rfl rfl (by unfold maxLen; omega) (by omega) (by show base ≤ (litW wr x).heap.size; rw [litW_size]; omega) ?_; intro v' w3 ho3 hg3 hd3 hb3; obtain ⟨A3, c3, rfl, hA1, hA2, hS3⟩ := own_sl ho3; clear hS3 hA1 hA2; have H3 := Lib.hid (And.intro ho3 (And.intro hg3 (And.intro hd3 hb3))); clear ho3 hg3 hd3 hb3)
                | (go_simp; go_at_call 13; refine (HCALL.out _ _ _ H3.out.1 H3.out.2.1 H3.out.2.2.2).mono ?_; rintro e w4 ⟨rfl, hg4⟩))
              all_goals
                go_wp2
                go_ret
                exact ⟨by rw [HRES.out]; rfl, HFIN.out _ _ _ _ H3.out.2.1 H3.out.2.2.1 hg4⟩
            · have hi1 : (1 : Int) ≤ (n : Int) := by omega
              have hi0 : 0 < n := by omega
              have hcl := HCALL.out
              rw [if_neg hc1] at hcl
              simp only [Option.map_some, add_mk] at hcl
              clear HCALL
              have HCALL := Lib.hid hcl; clear hcl
              go_wp2
              go_region_law (first
                | (refine step_append1 el_u8s rfl (.tmp 33) (.tmp 38) rfl base (.slice Av G.length cv) G.length vs (by simp [Act.eval]) (own_below HO.out.1 (litW_below wr x).drew (Nat.le_refl _)) (wr.heap.size + 1) #[.slice (some ⟨wr.heap.size, 0, none⟩) 1 1] 1 (by simp [Act.eval]) (litW_src wr x) rfl rfl (by unfold maxLen; omega) (by omega) (by show base ≤ (litW wr x).heap.size; rw [litW_size]; omega) ?_; intro v' w3 ho3 hg3 hd3 hb3; obtain ⟨A3, c3, rfl, hA1, hA2, hS3⟩ := own_sl ho3; clear hS3 hA1 hA2; have H3 := Lib.hid (And.intro ho3 (And.intro hg3 (And.intro hd3 hb3))); clear ho3 hg3 hd3 hb3)
                | (go_simp; go_at_call 13; refine (HCALL.out _ _ _ H3.out.1 H3.out.2.1 H3.out.2.2.2).mono ?_; rintro e w4 ⟨rfl, hg4⟩))
              all_goals
                go_wp2
                go_ret
                exact ⟨by rw [HRES.out]; rfl, HFIN.out _ _ _ _ H3.out.2.1 H3.out.2.2.1 hg4⟩
          · have heq : ((g : Int) == (G.length : Int)) = false := by simp; omega
            have hglt : g < G.length := by omega
            have HPR := Lib.hid (show ColPre wr base (some ⟨b0, off, none⟩) n c (x :: l) (.slice Av G.length cv) G from
              ⟨HP.out.tab.below hb (by have := HP.out.bt; have := HP.out.bs; omega), HP.out.sl.below (hb.mono HP.out.bs), HP.out.cap, HP.out.small, HP.out.gr.below hb (Nat.le_refl _), HP.out.gsmall, HP.out.room, HP.out.rooms, HP.out.bt, Nat.le_trans HP.out.bs hbs⟩)
            obtain ⟨vs, ho, hvl, hin⟩ := HPR.out.gr
            obtain ⟨Av', cv', hveq, _, _, hslv⟩ := own_sl ho
            obtain ⟨bv, offv, hAv, hbv, hcv⟩ := hslv.at_ hglt
            obtain ⟨rfl, rfl⟩ : Av = Av' ∧ cv = cv' := by injection hveq with h1 _ h3; exact ⟨h1, h3⟩
            subst hAv
            obtain ⟨Ag, cg, hvg, hcg1, hcg2, hslg⟩ := own_sl (hin g hglt)
            rw [hvg] at hcv
            have hGl := HPR.out.rooms g
            have HSM := Lib.hid (getD_all HPR.out.gsmall g)
            have HFg := Lib.hid (show f g = (Dg.fits (G.getD g []) x && Dg.colF many l (G.set g (G.getD g [] ++ [x]))) from by rw [← HF.out]; exact if_neg hge)
            have HVG := Lib.hid hvg; clear hvg
            have HO := Lib.hid (And.intro ho (And.intro hvl hin)); clear ho hvl hin
            have Hslv := Lib.hid hslv; clear hslv
            have Hslg := Lib.hid hslg; clear hslg hveq
            clear hge
            generalize hGg : G.getD g [] = Gg at *
            have HGg := Lib.hid hGg; clear hGg
            go_wp2
            go_loop [8, 46] (fun fr i => ∃ k : Nat, k ≤ Gg.length ∧ i = .int .i64 k ∧ fr = .bool (Dg.fits (Gg.take k) x)) (fun _ i => Gg.length - (intOf i).toNat)
            case atStart => exact ⟨0, Nat.zero_le _, rfl, rfl⟩
            case round =>
              obtain ⟨k, hk, rfl, rfl⟩ := hrel
              by_cases hkl : k < Gg.length
              · obtain ⟨bg, offg, rfl, hbg, hcg⟩ := Hslg.out.u8 hkl
                have hy10 := HSM.out _ (getD_mem hkl)
                have HT := Lib.hid (fits_take (c := x) hkl)
                generalize Gg.getD k 0 = y at *
                have hi0 : 0 < n := by omega
                by_cases hft : Dg.fits (Gg.take k) x = true
                · rw [hft]
                  go_wp2_with (go_at_call 12; refine (lcode_ok y x _ hy10 hx10 HPR.out.tab).mono ?_; rintro e w' ⟨rfl, rfl⟩)
                  go_round
                  case rel => exact ⟨k + 1, by omega, by go_num, by rw [HT.out, hft]; simp [beq0]⟩
                  case measure => simp [intOf]; omega
                · have hff : Dg.fits (Gg.take k) x = false := by simpa using hft
                  rw [hff]
                  go_wp2_with fail
                  go_round
                  case rel => exact ⟨k + 1, by omega, by go_num, by rw [HT.out, hff]; rfl⟩
                  case measure => simp [intOf]; omega
              · have hkk : Gg.take k = Gg := List.take_of_length_le (by omega)
                rw [hkk]
                clear hkk
                by_cases hft : Dg.fits Gg x = true
                · rw [hft]
                  have hbb : base ≤ wr.heap.size := HPR.out.bs
                  have hone := groups_one HO.out.2.1 HO.out.2.2
                  have hr2 := HPR.out.room
                  have HONE := Lib.hid hone; clear hone
                  go_wp2_with (at_builtin; (refine wpList_append_sl el_u8s rfl (.tmp 61) (.tmp 62) rfl base _ 0 [] rfl (own_empty wr base 22 1 hbb) wr.heap.size (some ⟨bv, offv, none⟩) G.length cv vs rfl (Hslv.out.below ((Below.refl _ _).alloc (Nat.le_refl _) _)) HONE.out ?c1 ?c2 ?c3 ?_))
                  case c1 => unfold maxLen; omega
                  case c2 => omega
                  case c3 => first | omega | (simp; omega)
                  intro v5 w5 ho5 hg5 hd5 hb5
                  have hbw5 : Below wr.heap.size wr w5 := ((Below.refl _ _).alloc (Nat.le_refl _) _).trans (below_of_grown hg5 (Nat.le_refl _) (by simp))
                  have hz5 := hbw5.size
                  obtain ⟨_, ⟨_, h0⟩ | ⟨g5, c5, cur5, rfl, hg5b, hh5, hn5, hm5, hs5, ht5⟩⟩ := id ho5
                  · omega
                  have hg5w : wr.heap.size ≤ g5 := by
                    rcases hd5 with h | ⟨q, h, hq⟩
                    · simp [Value.ownBlock] at h; omega
                    · simp [Value.ownBlock] at h; omega
                  have hg5l : g5 < w5.heap.size := Bk.lt hh5
                  have c5v : w5.cell? ⟨bv, offv + g, none⟩ = some (.slice Ag Gg.length cg) := (hbw5.cell (p := ⟨bv, offv + g, none⟩) hbv).trans hcv
                  have c5x : w5.cell? ⟨b0, off, none⟩ = some (.int .u8 x) := (hbw5.cell (p := ⟨b0, off, none⟩) (by have := HPR.out.bs; show b0 < _; omega)).trans hcx
                  have Hs5 := Lib.hid ((Hslg.out.below hbw5).more hz5)
                  have HK5 := Lib.hid (show Bk w5 g5 22 cur5 from hh5)
                  have HO5 := Lib.hid ho5
                  have hsz5 : g < cur5.size := by rw [hs5]; omega
                  have hb0l : b0 < w5.heap.size := by have := HPR.out.bs; omega
                  have hbvl : bv < w5.heap.size := by omega
                  clear hg5 hd5 hb5 ht5 hs5 hh5 ho5 hcv hcx
                  have hi0 : 0 < n := by omega
                  have hig : (g : Int) < (G.length : Int) := by omega
                  go_upto_region 16 with fail
                  go_cut [7, 11] (fun i v wx => i = .int .i64 g ∧ v = .slice (some ⟨g5, 0, none⟩) G.length c5 ∧ Groups wx base (.slice (some ⟨g5, 0, none⟩) G.length c5) (G.set g (Gg ++ [x])) ∧ Below wr.heap.size wr wx)
                  case first =>
                    go_region_law (first
                      | (refine step_append_sl el_u8 rfl (.tmp 66) (.tmp 70) rfl w5.heap.size (.slice (some ⟨w5.heap.size, 0, none⟩) 0 0) 0 [] (by simp [Act.eval]) (own_empty w5 w5.heap.size 5 1 (Nat.le_refl _)) w5.heap.size Ag Gg.length cg (u8s Gg) (by simp [Act.eval]) (Hs5.out.below (by repeat (first | exact Below.refl _ _ | apply Below.drew | refine Below.alloc ?_ (by first | omega | (simp; done) | (simp; omega)) _))) (u8s_one _) (by unfold maxLen; omega) (by omega) (by first | omega | (simp; done) | (simp; omega)) ?_; intro v6 w6 ho6 hg6 hd6 hb6;  have hB6 : Below w5.heap.size w5 w6 := Below.trans (by repeat (first | exact Below.refl _ _ | apply Below.drew | refine Below.alloc ?_ (by first | omega | (simp; done) | (simp; omega)) _)) hb6; have k6 := HK5.out.below hB6 hg5l; have c6x : w6.cell? ⟨b0, off, none⟩ = some (.int .u8 x) := (hB6.cell (p := ⟨b0, off, none⟩) hb0l).trans c5x; have c6g := k6.cell g; have f6g : w6.frozen? ⟨g5, g, none⟩ = false := k6.frozen g; have hz6 : w5.heap.size ≤ w6.heap.size := hB6.size; obtain ⟨A6, c6, rfl, h61, h62, hS6⟩ := own_sl ho6; simp only [Nat.zero_add, List.nil_append] at ho6 hS6 ⊢; have H6 := Lib.hid (And.intro ho6 (And.intro hB6 hd6)); clear ho6 hg6 hd6 hb6 hS6 hB6 k6 h61 h62)
                      | (refine step_append_sl el_u8 rfl (.tmp 66) (.tmp 70) rfl w5.heap.size (.slice (some ⟨w5.heap.size, 0, none⟩) 0 0) 0 [] (by simp [Act.eval]) ((own_empty w5 w5.heap.size 5 1 (Nat.le_refl _)).alloc _) w5.heap.size Ag Gg.length cg (u8s Gg) (by simp [Act.eval]) (Hs5.out.below (by repeat (first | exact Below.refl _ _ | apply Below.drew | refine Below.alloc ?_ (by first | omega | (simp; done) | (simp; omega)) _))) (u8s_one _) (by unfold maxLen; omega) (by omega) (by first | omega | (simp; done) | (simp; omega)) ?_; intro v6 w6 ho6 hg6 hd6 hb6; have hx6 : Bk w6 (w5.heap.size + 1) 5 #[.int .u8 x] := Bk.grown (by have := Bk.new (w5.alloc (.cells #[] 5)) 5 #[.int .u8 x]; simp at this; exact this) hg6 (by simp [Value.ownBlock]); have HX6 := Lib.hid hx6; clear hx6; have hB6 : Below w5.heap.size w5 w6 := Below.trans (by repeat (first | exact Below.refl _ _ | apply Below.drew | refine Below.alloc ?_ (by first | omega | (simp; done) | (simp; omega)) _)) hb6; have k6 := HK5.out.below hB6 hg5l; have c6x : w6.cell? ⟨b0, off, none⟩ = some (.int .u8 x) := (hB6.cell (p := ⟨b0, off, none⟩) hb0l).trans c5x; have c6g := k6.cell g; have f6g : w6.frozen? ⟨g5, g, none⟩ = false := k6.frozen g; have hz6 : w5.heap.size ≤ w6.heap.size := hB6.size; obtain ⟨A6, c6, rfl, h61, h62, hS6⟩ := own_sl ho6; simp only [Nat.zero_add, List.nil_append] at ho6 hS6 ⊢; have H6 := Lib.hid (And.intro ho6 (And.intro hB6 hd6)); clear ho6 hg6 hd6 hb6 hS6 hB6 k6 h61 h62)
                      | (refine step_append1 el_u8 rfl (.tmp 71) (.tmp 75) rfl w5.heap.size (.slice A6 Gg.length c6) Gg.length (u8s Gg) (by simp [Act.eval]) (H6.out.1.alloc _) (w6.heap.size) #[.int .u8 x] 1 (by simp [Act.eval]) (Bk.new w6 _ _) rfl rfl (by unfold maxLen; omega) (by omega) (by first | omega | (simp; done) | (simp; omega)) ?_; intro v7 w7 ho7 hg7 hd7 hb7; have hB7 : Below w5.heap.size w6 w7 := Below.trans (by repeat (first | exact Below.refl _ _ | apply Below.drew | refine Below.alloc ?_ (by first | omega | (simp; done) | (simp; omega)) _)) hb7; have hB5 : Below w5.heap.size w5 w7 := H6.out.2.1.trans hB7; have k7 := HK5.out.below hB5 hg5l; have c7g : w7.cell? ⟨g5, g, none⟩ = some cur5[g] := (k7.cell g).trans (by simp [hsz5]); have f7g : w7.frozen? ⟨g5, g, none⟩ = false := k7.frozen g; obtain ⟨A7, c7, rfl, h71, h72, hS7⟩ := own_sl ho7; have H7 := Lib.hid (And.intro ho7 hB5); clear ho7 hg7 hd7 hb7 hS7 hB7 hB5 k7 h71 h72)
                      | (refine step_append1 el_u8 rfl (.tmp 71) (.tmp 75) rfl w5.heap.size (.slice A6 Gg.length c6) Gg.length (u8s Gg) (by simp [Act.eval]) H6.out.1 (w5.heap.size + 1) #[.int .u8 x] 1 (by simp [Act.eval]) HX6.out rfl rfl (by unfold maxLen; omega) (by omega) (by first | omega | (simp; done) | (simp; omega)) ?_; intro v7 w7 ho7 hg7 hd7 hb7; have hB7 : Below w5.heap.size w6 w7 := Below.trans (by repeat (first | exact Below.refl _ _ | apply Below.drew | refine Below.alloc ?_ (by first | omega | (simp; done) | (simp; omega)) _)) hb7; have hB5 : Below w5.heap.size w5 w7 := H6.out.2.1.trans hB7; have k7 := HK5.out.below hB5 hg5l; have c7g : w7.cell? ⟨g5, g, none⟩ = some cur5[g] := (k7.cell g).trans (by simp [hsz5]); have f7g : w7.frozen? ⟨g5, g, none⟩ = false := k7.frozen g; obtain ⟨A7, c7, rfl, h71, h72, hS7⟩ := own_sl ho7; have H7 := Lib.hid (And.intro ho7 hB5); clear ho7 hg7 hd7 hb7 hS7 hB7 hB5 k7 h71 h72)
                      | (refine step_append1 el_u8 rfl (.tmp 71) (.tmp 75) rfl w5.heap.size (.slice A6 Gg.length c6) Gg.length (u8s Gg) (by simp [Act.eval]) H6.out.1 (w5.heap.size) #[.int .u8 x] 1 (by simp [Act.eval]) HX6.out rfl rfl (by unfold maxLen; omega) (by omega) (by first | omega | (simp; done) | (simp; omega)) ?_; intro v7 w7 ho7 hg7 hd7 hb7; have hB7 : Below w5.heap.size w6 w7 := Below.trans (by repeat (first | exact Below.refl _ _ | apply Below.drew | refine Below.alloc ?_ (by first | omega | (simp; done) | (simp; omega)) _)) hb7; have hB5 : Below w5.heap.size w5 w7 := H6.out.2.1.trans hB7; have k7 := HK5.out.below hB5 hg5l; have c7g : w7.cell? ⟨g5, g, none⟩ = some cur5[g] := (k7.cell g).trans (by simp [hsz5]); have f7g : w7.frozen? ⟨g5, g, none⟩ = false := k7.frozen g; obtain ⟨A7, c7, rfl, h71, h72, hS7⟩ := own_sl ho7; have H7 := Lib.hid (And.intro ho7 hB5); clear ho7 hg7 hd7 hb7 hS7 hB7 hB5 k7 h71 h72)
                      | (refine step_append_sl el_u8 rfl (.tmp 66) (.tmp 70) rfl w5.heap.size (.slice (some ⟨w5.heap.size + 1, 0, none⟩) 0 0) 0 [] (by simp [Act.eval]) (own_empty_at (w5.alloc (.cells #[.int .u8 x] 5)) w5.heap.size 5 1 (w5.heap.size + 1) (by simp) (by simp)) w5.heap.size Ag Gg.length cg (u8s Gg) (by simp [Act.eval]) (Hs5.out.below (by repeat (first | exact Below.refl _ _ | apply Below.drew | refine Below.alloc ?_ (by first | omega | (simp; done) | (simp; omega)) _))) (u8s_one _) (by unfold maxLen; omega) (by omega) (by first | omega | (simp; done) | (simp; omega)) ?_; intro v6 w6 ho6 hg6 hd6 hb6; have hx6 : Bk w6 w5.heap.size 5 #[.int .u8 x] := Bk.grown (by exact (Bk.new w5 5 #[.int .u8 x]).alloc (.cells #[] 5)) hg6 (by simp [Value.ownBlock]); have HX6 := Lib.hid hx6; clear hx6; have hB6 : Below w5.heap.size w5 w6 := Below.trans (by repeat (first | exact Below.refl _ _ | apply Below.drew | refine Below.alloc ?_ (by first | omega | (simp; done) | (simp; omega)) _)) hb6; have k6 := HK5.out.below hB6 hg5l; have c6x : w6.cell? ⟨b0, off, none⟩ = some (.int .u8 x) := (hB6.cell (p := ⟨b0, off, none⟩) hb0l).trans c5x; have c6g := k6.cell g; have f6g : w6.frozen? ⟨g5, g, none⟩ = false := k6.frozen g; have hz6 : w5.heap.size ≤ w6.heap.size := hB6.size; obtain ⟨A6, c6, rfl, h61, h62, hS6⟩ := own_sl ho6; simp only [Nat.zero_add, List.nil_append] at ho6 hS6 ⊢; have H6 := Lib.hid (And.intro ho6 (And.intro hB6 hd6)); clear ho6 hg6 hd6 hb6 hS6 hB6 k6 h61 h62))
                    all_goals
                      go_wp2_with fail
                      go_meet
                      exact ⟨rfl, rfl, groups_set HO5.out HO.out.2.1 (fun i hi => own_below (HO.out.2.2 i hi) hbw5 (Nat.le_refl _)) (by omega) H7.out.2 (by simpa [u8s] using H7.out.1) hglt, hbw5.trans ((H7.out.2.mono hz5).setCell hg5w _)⟩
                  case rest =>
                    obtain ⟨rfl, rfl, hGr, hBx⟩ := hcut
                    clear c5v c5x Hs5 HK5 HO5 hsz5
                    rw [← HGg.out] at hGr
                    have hcl := HIH.out wc _ _ _ (some ⟨g5, 0, none⟩) c5 _ (by rw [List.length_set]; exact next_set HPR.out hBx hglt hGr)
                    rw [List.length_set, HGg.out] at hcl
                    clear hGr
                    have HFc := Lib.hid (show f g = Dg.colF many l (G.set g (Gg ++ [x])) from by rw [HFg.out, hft]; rfl)
                    generalize Dg.colF many l (G.set g (Gg ++ [x])) = r at *
                    clear HFg hft
                    have HB := Lib.hid (show ∀ w8, wc.grownBy w8 (Value.slice (some ⟨g5, 0, none⟩) G.length c5).ownBlock → Below w.heap.size w w8 from fun w8 h8 =>
                      hb.trans ((hBx.mono hbs).trans (below_of_grown (g := g5) (B := w.heap.size) h8 (by omega) (by have := hBx.size; omega))))
                    have hi1 : (1 : Int) ≤ (n : Int) := by omega
                    by_cases hc1 : c = 1
                    all_goals
                      first
                        | (subst hc1; rw [if_pos rfl, Nat.sub_self] at hcl)
                        | (rw [if_neg hc1] at hcl; simp only [Option.map_some, add_mk] at hcl)
                      have HCALL := Lib.hid hcl; clear hcl
                      go_wp2_with fail
                      refine HCALL.out.mono ?_
                      rintro e w8 ⟨rfl, hg8⟩
                      cases r with
                      | true =>
                        go_wp2
                        go_ret
                        have hb8 := HB.out w8 hg8
                        exact ⟨by rw [Dg.any_hit (K := min (G.length + 1) many) (by omega) HFc.out]; rfl, ⟨hb8.os, hb8.tape, hb8.output, hb8.size, fun k hk _ => hb8.block k hk⟩⟩
                      | false =>
                        have HM2 := Lib.hid (Dg.any_miss HM.out HFc.out)
                        go_wp2
                        go_roundw
                        case rel =>
                          first
                            | exact ⟨g + 1, by omega, by go_num, HB.out w8 hg8, HM2⟩
                            | ((repeat apply Exists.intro); exact ⟨⟨g + 1, by omega, by go_num, HB.out w8 hg8, HM2⟩, rfl⟩)
                        case measure => simp [intOf]; omega
                · have hff : Dg.fits Gg x = false := by simpa using hft
                  rw [hff]
                  have HM2 := Lib.hid (Dg.any_miss HM.out (by rw [HFg.out, hff]; rfl))
                  go_wp2_with fail
                  go_roundw
                  case rel => exact ⟨g + 1, by omega, by go_num, hb, HM2⟩
                  case measure => simp [intOf]; omega
        · have hd : decide ((g : Int) < (many : Int)) = false := by simp; omega
          obtain rfl : g = min (G.length + 1) many := by omega
          go_wp2
          go_ret
          exact ⟨by rw [HM.out]; rfl, ⟨hb.os, hb.tape, hb.output, hb.size, fun k hk _ => hb.block k hk⟩⟩
      · have hd : decide ((g : Int) ≤ (G.length : Int)) = false := by simp; omega
        obtain rfl : g = min (G.length + 1) many := by omega
        go_wp2
        go_ret
        exact ⟨by rw [HM.out]; rfl, ⟨hb.os, hb.tape, hb.output, hb.size, fun k hk _ => hb.block k hk⟩⟩
end Go.Proofs.YtcjnabbggmbfgaaDoor
