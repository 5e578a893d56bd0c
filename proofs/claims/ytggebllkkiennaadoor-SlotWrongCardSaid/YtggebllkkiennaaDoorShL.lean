/-
  The walk of the statements' Built: the columns.
-/
import Derived.Test.YtggebllkkiennaaDoorShK
namespace Go.Proofs.YtggebllkkiennaaDoor
open Go.RowKit

theorem el_col : El Tryd.prog 22 54 12 112 := El.mk' Tryd.underlying22 (by kernel_rfl) (by decide)
theorem el_cov : El Tryd.prog 23 56 2 32 := El.mk' Tryd.underlying23 (by kernel_rfl) (by decide)

def plL (p : Nat × Nat × Nat × Bool) : List Value := [.int .u8 (p.1 : Nat), .int .u8 (p.2.1 : Nat), .int .u8 (p.2.2.1 : Nat), .bool p.2.2.2]
def tPl : Ty (Nat × Nat × Nat × Bool) where
  k := 4
  pos := by decide
  rd := fun _ _ cs t => cs = plL t
  len := by rintro _ _ _ _ rfl; rfl
  one := by rintro _ _ _ _ rfl; rfl
  keep := fun h _ => h
  more := fun h _ => h
theorem SlT.pl {w : World} {S : Nat → Prop} {A : Option Addr} {l : List (Nat × Nat × Nat × Bool)} (h : SlT tPl w S A l) {i : Nat} (hi : i < l.length) :
    ∃ b off, A = some ⟨b, off, none⟩ ∧ S b ∧ w.cell? ⟨b, off + i * 4, none⟩ = some (.int .u8 ((l.getD i default).1 : Nat)) ∧ w.cell? ⟨b, off + i * 4 + 1, none⟩ = some (.int .u8 ((l.getD i default).2.1 : Nat)) ∧ w.cell? ⟨b, off + i * 4 + 2, none⟩ = some (.int .u8 ((l.getD i default).2.2.1 : Nat)) ∧ w.cell? ⟨b, off + i * 4 + 3, none⟩ = some (.bool (l.getD i default).2.2.2) := by
  obtain ⟨b, off, cs, e, hb, h1, hc⟩ := h.at_ hi default
  rw [show cs = _ from h1] at hc
  exact ⟨b, off, e, hb, hc 0 _ rfl, hc 1 _ rfl, hc 2 _ rfl, hc 3 _ rfl⟩
/-- A ship of columns and covers alone. -/
def shp0 (cols : List Col) (covs : List Cov) : Shp := { cols := cols, covs := covs, l0 := 0, l1 := 0, l2 := 0, l3 := 0, rows := [], frames := [], tanks := [], m0 := 0, m1 := 0, m2 := 0, m3 := 0 }
def hd0 (A1 : Option Addr) (c1 : Nat) (A2 : Option Addr) (c2 : Nat) : Hd := ⟨A1, c1, A2, c2, none, 0, none, 0, none, 0⟩
/-- A column as Built makes it. -/
structure GoodCol (c : Col) : Prop where
  bay : 0 ≤ c.bay ∧ c.bay ≤ 4
  row : 0 ≤ c.row ∧ c.row ≤ 4
  tiers : 2 ≤ c.tiers ∧ c.tiers ≤ 5
  height : c.height = 0
  k20 : c.k20 = 500000000
  k40 : c.k40 = 500000000
  lash : c.lash = 0
  plugs : c.plugs = []
  x : -26000 ≤ c.x ∧ c.x ≤ 26000
  y : -5000 ≤ c.y ∧ c.y ≤ 5000
  z : c.z = if c.deck then 20000 else 2000
def Cols (l : List Col) : Prop := (∀ c ∈ l, GoodCol c) ∧ (l.map keyC).Nodup
theorem find_none {l : List Col} {bay row : Int} {deck : Bool} (h : (findF (shp0 l []) bay row deck).2 = false) : ∀ c ∈ l, findB bay row deck c = false := by
  intro c hc
  unfold findF at h
  have key : ∀ (l : List Col) (k : Nat), c ∈ l → findB bay row deck c = true → pickFrom (findB bay row deck) l k ≠ [] := by
    intro l
    induction l with
    | nil => intro k h; cases h
    | cons x l ih =>
      intro k hm hp
      unfold pickFrom
      rcases List.mem_cons.1 hm with rfl | hm
      · rw [if_pos hp]; simp
      · split
        · simp
        · exact ih _ hm hp
  cases hp : findB bay row deck c with
  | false => rfl
  | true =>
    exfalso
    have := key (shp0 l []).cols 0 hc hp
    unfold pick at h
    cases hq : pickFrom (findB bay row deck) (shp0 l []).cols 0 with
    | nil => exact this hq
    | cons i L => rw [hq] at h; simp at h
theorem cols_add {l : List Col} {c : Col} (h : Cols l) (hc : GoodCol c) (hf : ∀ x ∈ l, findB c.bay c.row c.deck x = false) : Cols (l ++ [c]) := by
  refine ⟨fun x hx => ?_, ?_⟩
  · rcases List.mem_append.1 hx with hx | hx
    · exact h.1 x hx
    · simp at hx; subst hx; exact hc
  · rw [List.map_append, List.nodup_append]
    refine ⟨h.2, by simp, fun a ha b hb => ?_⟩
    simp only [List.map_cons, List.map_nil, List.mem_singleton] at hb
    subst hb
    obtain ⟨x, hx, rfl⟩ := List.mem_map.1 ha
    intro e
    have := hf x hx
    unfold keyC at e
    simp only [Prod.mk.injEq] at e
    obtain ⟨e1, e2, e3⟩ := e
    have e4 : x.deck = c.deck := by
      cases h1 : x.deck <;> cases h2 : c.deck <;> simp_all
    simp [findB, e1, e2, e4] at this
end Go.Proofs.YtggebllkkiennaaDoor
