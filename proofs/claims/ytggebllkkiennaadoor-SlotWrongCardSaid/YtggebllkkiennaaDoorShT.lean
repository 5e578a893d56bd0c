/-
  Ships as structures, and how they read in memory. No program in sight.
-/
import Derived.Test.YtggebllkkiennaaDoorRep
namespace Go.Proofs.YtggebllkkiennaaDoor
open Go.RowKit

structure Col where
  bay : Int
  row : Int
  deck : Bool
  tiers : Int
  height : Int
  k20 : Int
  k40 : Int
  lash : Int
  plugs : List Int
  x : Int
  y : Int
  z : Int
  deriving DecidableEq, Inhabited
structure Cov where
  bay : Int
  rows : List Int
  deriving DecidableEq, Inhabited
structure Tnk where
  a0 : Int
  a1 : Int
  a2 : Int
  a3 : Int
  a4 : Int
  steps : List Int
  deriving DecidableEq, Inhabited
structure Shp where
  cols : List Col
  covs : List Cov
  l0 : Int
  l1 : Int
  l2 : Int
  l3 : Int
  rows : List (List Int)
  frames : List (List Int)
  tanks : List Tnk
  m0 : Int
  m1 : Int
  m2 : Int
  m3 : Int
  deriving DecidableEq, Inhabited
def colL (c : Col) (A : Option Addr) (p : Nat) : List Value :=
  [.int .i64 c.bay, .int .i64 c.row, .bool c.deck, .int .i64 c.tiers, .int .i64 c.height, .int .i64 c.k20, .int .i64 c.k40, .int .i64 c.lash, .slice A c.plugs.length p, .int .i64 c.x, .int .i64 c.y, .int .i64 c.z]
def tCol : Ty Col where
  k := 12
  pos := by decide
  rd := fun w S cs c => ∃ A p, cs = colL c A p ∧ c.plugs.length ≤ p ∧ SlT tInt w S A c.plugs
  len := by rintro _ _ _ _ ⟨A, c, rfl, _⟩; rfl
  one := by rintro _ _ _ _ ⟨A, c, rfl, _⟩; rfl
  keep := by rintro _ _ _ _ _ ⟨A, c, rfl, h1, h2⟩ hk; exact ⟨A, c, rfl, h1, h2.keep hk⟩
  more := by rintro _ _ _ _ _ ⟨A, c, rfl, h1, h2⟩ hk; exact ⟨A, c, rfl, h1, h2.more hk⟩
def tCov : Ty Cov where
  k := 2
  pos := by decide
  rd := fun w S cs c => ∃ A p, cs = [.int .i64 c.bay, .slice A c.rows.length p] ∧ c.rows.length ≤ p ∧ SlT tInt w S A c.rows
  len := by rintro _ _ _ _ ⟨A, c, rfl, _⟩; rfl
  one := by rintro _ _ _ _ ⟨A, c, rfl, _⟩; rfl
  keep := by rintro _ _ _ _ _ ⟨A, c, rfl, h1, h2⟩ hk; exact ⟨A, c, rfl, h1, h2.keep hk⟩
  more := by rintro _ _ _ _ _ ⟨A, c, rfl, h1, h2⟩ hk; exact ⟨A, c, rfl, h1, h2.more hk⟩
def tTnk : Ty Tnk where
  k := 6
  pos := by decide
  rd := fun w S cs c => ∃ A p, cs = [.int .i64 c.a0, .int .i64 c.a1, .int .i64 c.a2, .int .i64 c.a3, .int .i64 c.a4, .slice A c.steps.length p] ∧ c.steps.length ≤ p ∧ SlT tInt w S A c.steps
  len := by rintro _ _ _ _ ⟨A, c, rfl, _⟩; rfl
  one := by rintro _ _ _ _ ⟨A, c, rfl, _⟩; rfl
  keep := by rintro _ _ _ _ _ ⟨A, c, rfl, h1, h2⟩ hk; exact ⟨A, c, rfl, h1, h2.keep hk⟩
  more := by rintro _ _ _ _ _ ⟨A, c, rfl, h1, h2⟩ hk; exact ⟨A, c, rfl, h1, h2.more hk⟩
def tRow : Ty (List Int) := tInts 5 (by decide)
/-- Where the slices of a ship lie. -/
structure Hd where
  A1 : Option Addr
  c1 : Nat
  A2 : Option Addr
  c2 : Nat
  A3 : Option Addr
  c3 : Nat
  A4 : Option Addr
  c4 : Nat
  A5 : Option Addr
  c5 : Nat
def shpA (s : Shp) (h : Hd) : Array Value :=
  #[.slice h.A1 s.cols.length h.c1, .slice h.A2 s.covs.length h.c2, .int .i64 s.l0, .int .i64 s.l1, .int .i64 s.l2, .int .i64 s.l3, .slice h.A3 s.rows.length h.c3, .slice h.A4 s.frames.length h.c4, .slice h.A5 s.tanks.length h.c5, .int .i64 s.m0, .int .i64 s.m1, .int .i64 s.m2, .int .i64 s.m3]
/-- The ship s reads at h. -/
structure ShpR (w : World) (S : Nat → Prop) (s : Shp) (h : Hd) : Prop where
  n1 : s.cols.length ≤ h.c1
  n2 : s.covs.length ≤ h.c2
  n3 : s.rows.length ≤ h.c3
  n4 : s.frames.length ≤ h.c4
  n5 : s.tanks.length ≤ h.c5
  m1 : h.c1 ≤ maxLen
  m2 : h.c2 ≤ maxLen
  m3 : h.c3 ≤ maxLen
  m4 : h.c4 ≤ maxLen
  m5 : h.c5 ≤ maxLen
  cols : SlT tCol w S h.A1 s.cols
  covs : SlT tCov w S h.A2 s.covs
  rows : SlT tRow w S h.A3 s.rows
  frames : SlT tRow w S h.A4 s.frames
  tanks : SlT tTnk w S h.A5 s.tanks
section
variable {w w' : World} {S S' : Nat → Prop} {s : Shp} {h : Hd}
theorem ShpR.keep (r : ShpR w S s h) (hk : ∀ b o, S b → w'.cell? ⟨b, o, none⟩ = w.cell? ⟨b, o, none⟩) : ShpR w' S s h :=
  { r with cols := r.cols.keep hk, covs := r.covs.keep hk, rows := r.rows.keep hk, frames := r.frames.keep hk, tanks := r.tanks.keep hk }
theorem ShpR.more (r : ShpR w S s h) (hS : ∀ b, S b → S' b) : ShpR w S' s h :=
  { r with cols := r.cols.more hS, covs := r.covs.more hS, rows := r.rows.more hS, frames := r.frames.more hS, tanks := r.tanks.more hS }
end
theorem ShpR.below {w w' : World} {s : Shp} {h : Hd} {B : Nat} (r : ShpR w (Lt B) s h) (hb : Below B w w') : ShpR w' (Lt B) s h := r.keep (keep_below hb)
theorem ShpR.up {w : World} {s : Shp} {h : Hd} {B B' : Nat} (r : ShpR w (Lt B) s h) (hb : B ≤ B') : ShpR w (Lt B') s h := r.more (lt_more hb)
theorem ShpR.on {w w' : World} {s : Shp} {h : Hd} (r : ShpR w (Lt w.heap.size) s h) (hb : Below w.heap.size w w') : ShpR w' (Lt w'.heap.size) s h := (r.below hb).up hb.size

/-- A column's cells, one by one. -/
theorem SlT.col {w : World} {S : Nat → Prop} {A : Option Addr} {l : List Col} (h : SlT tCol w S A l) {i : Nat} (hi : i < l.length) :
    ∃ b off Ap p, A = some ⟨b, off, none⟩ ∧ S b ∧ (l.getD i default).plugs.length ≤ p ∧ SlT tInt w S Ap (l.getD i default).plugs ∧
      (w.cell? ⟨b, off + i * 12, none⟩ = some (.int .i64 (l.getD i default).bay) ∧ w.cell? ⟨b, off + i * 12 + 1, none⟩ = some (.int .i64 (l.getD i default).row) ∧ w.cell? ⟨b, off + i * 12 + 2, none⟩ = some (.bool (l.getD i default).deck) ∧ w.cell? ⟨b, off + i * 12 + 3, none⟩ = some (.int .i64 (l.getD i default).tiers) ∧
       w.cell? ⟨b, off + i * 12 + 4, none⟩ = some (.int .i64 (l.getD i default).height) ∧ w.cell? ⟨b, off + i * 12 + 5, none⟩ = some (.int .i64 (l.getD i default).k20) ∧ w.cell? ⟨b, off + i * 12 + 6, none⟩ = some (.int .i64 (l.getD i default).k40) ∧ w.cell? ⟨b, off + i * 12 + 7, none⟩ = some (.int .i64 (l.getD i default).lash) ∧
       w.cell? ⟨b, off + i * 12 + 8, none⟩ = some (.slice Ap (l.getD i default).plugs.length p) ∧ w.cell? ⟨b, off + i * 12 + 9, none⟩ = some (.int .i64 (l.getD i default).x) ∧ w.cell? ⟨b, off + i * 12 + 10, none⟩ = some (.int .i64 (l.getD i default).y) ∧ w.cell? ⟨b, off + i * 12 + 11, none⟩ = some (.int .i64 (l.getD i default).z)) := by
  obtain ⟨b, off, cs, e, hb, ⟨Ap, p, rfl, h1, h2⟩, hc⟩ := h.at_ hi default
  exact ⟨b, off, Ap, p, e, hb, h1, h2, hc 0 _ rfl, hc 1 _ rfl, hc 2 _ rfl, hc 3 _ rfl, hc 4 _ rfl, hc 5 _ rfl, hc 6 _ rfl, hc 7 _ rfl, hc 8 _ rfl, hc 9 _ rfl, hc 10 _ rfl, hc 11 _ rfl⟩
theorem SlT.cov {w : World} {S : Nat → Prop} {A : Option Addr} {l : List Cov} (h : SlT tCov w S A l) {i : Nat} (hi : i < l.length) :
    ∃ b off Ap p, A = some ⟨b, off, none⟩ ∧ S b ∧ (l.getD i default).rows.length ≤ p ∧ SlT tInt w S Ap (l.getD i default).rows ∧
      w.cell? ⟨b, off + i * 2, none⟩ = some (.int .i64 (l.getD i default).bay) ∧ w.cell? ⟨b, off + i * 2 + 1, none⟩ = some (.slice Ap (l.getD i default).rows.length p) := by
  obtain ⟨b, off, cs, e, hb, ⟨Ap, p, rfl, h1, h2⟩, hc⟩ := h.at_ hi default
  exact ⟨b, off, Ap, p, e, hb, h1, h2, hc 0 _ rfl, hc 1 _ rfl⟩
end Go.Proofs.YtggebllkkiennaaDoor
