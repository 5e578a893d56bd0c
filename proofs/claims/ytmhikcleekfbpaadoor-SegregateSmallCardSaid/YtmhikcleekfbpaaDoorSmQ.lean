/-
  What SegregateSmall builds: a ship of 14 columns, three boxes, two of them in slots; contracts over it.
-/
import Derived.Test.YtmhikcleekfbpaaDoorMaC
import Derived.Test.YtmhikcleekfbpaaDoorRwG
import Derived.Test.YtmhikcleekfbpaaDoorNrA
import Derived.Test.YtmhikcleekfbpaaDoorSgL
namespace Go.Proofs.YtmhikcleekfbpaaDoor
open Go.RowKit

def colS (n : Nat) : Col := ⟨(n : Int) / 4, (n : Int) % 2, (n : Int) / 2 % 2 == 1, 2, 0, 0, 0, 0, [], 0, 0, 0⟩
def clS (n : Nat) : List Col := (List.range n).map colS
def cE1 : Col := ⟨1, 2, false, 2, 0, 0, 0, 0, [], 0, 0, 0⟩
def cE2 : Col := ⟨5, 0, false, 2, 0, 0, 0, 0, [], 0, 0, 0⟩
def CX : List Col := clS 12 ++ [cE1, cE2]
def sX : Shp := shp0 CX []
theorem clS_len (n : Nat) : (clS n).length = n := by unfold clS; simp
theorem clS_succ (n : Nat) : clS (n + 1) = clS n ++ [colS n] := by unfold clS; rw [List.range_succ, List.map_append]; rfl
theorem CX_len : CX.length = 14 := by decide +kernel
theorem CX_all : ∀ c ∈ CX, c.plugs = [] ∧ ((0 ≤ c.bay ∧ c.bay < 40) ∧ 0 ≤ c.row ∧ c.row ≤ 1000000) ∧ c.tiers = 2 := by decide +kernel
theorem few_X : Few sX := ⟨by show CX.length ≤ _; rw [CX_len]; decide, by decide, fun x hx => (by cases hx), fun x hx => by rw [(CX_all x hx).1]; exact Nat.zero_le _⟩
theorem ints_X : Ints sX := ⟨fun c hc => by obtain ⟨_, h1, h2⟩ := CX_all c hc; unfold I64; omega⟩
theorem rows_X : ∀ c ∈ sX.cols, I64 c.row := fun c hc => (ints_X.cols c hc).2.1
theorem cs_X : Cs sX := fun c hc => (CX_all c hc).2.1
theorem tiers_X (c : Nat) : tiersN sX c ≤ 12 := tiers_leG (fun c hc => by rw [(CX_all c hc).2.2]; decide) c
theorem all_X (size : Nat) : (allF sX size).length ≤ 1000000 := all_leG tiers_X (by show CX.length ≤ _; rw [CX_len]; decide) size
theorem sX_eq (A1 : Option Addr) (c1 : Nat) : shpA sX (hd0 A1 c1 none 0) = #[.slice A1 14 c1, .slice none 0 0, .int .i64 0, .int .i64 0, .int .i64 0, .int .i64 0, .slice none 0 0, .slice none 0 0, .slice none 0 0, .int .i64 0, .int .i64 0, .int .i64 0, .int .i64 0] := by
  unfold shpA sX shp0 hd0
  simp only [CX_len]
  rfl
theorem MA.ksX {w V : World} {g : Nat} {A1 : Option Addr} {c1 : Nat} (h : MA w V g CX A1 c1 (.slice none 0 0) [] (.slice none 0 0) []) : Bk V g 32 #[.slice A1 14 c1, .slice none 0 0, .int .i64 0, .int .i64 0, .int .i64 0, .int .i64 0, .slice none 0 0, .slice none 0 0, .slice none 0 0, .int .i64 0, .int .i64 0, .int .i64 0, .int .i64 0] := by
  have := h.ks
  rw [show shpA (shp0 CX []) (hd0 A1 c1 none 0) = #[.slice A1 14 c1, .slice none 0 0, .int .i64 0, .int .i64 0, .int .i64 0, .int .i64 0, .slice none 0 0, .slice none 0 0, .slice none 0 0, .int .i64 0, .int .i64 0, .int .i64 0, .int .i64 0] from sX_eq A1 c1] at this
  exact this
theorem MA.near {w V : World} {g : Nat} {A1 : Option Addr} {c1 : Nat} (h : MA w V g CX A1 c1 (.slice none 0 0) [] (.slice none 0 0) []) (c d t1 t2 : Int) (h1 h2 code : Nat) (hc : code < 256) :
    Calls Tryd.prog 4 #[.agg #[.slice A1 14 c1, .slice none 0 0, .int .i64 0, .int .i64 0, .int .i64 0, .int .i64 0, .slice none 0 0, .slice none 0 0, .slice none 0 0, .int .i64 0, .int .i64 0, .int .i64 0, .int .i64 0], .agg #[.int .i64 c, .int .i64 t1, .int .u8 (h1 : Nat)], .agg #[.int .i64 d, .int .i64 t2, .int .u8 (h2 : Nat)], .int .u8 (code : Nat)] V (Ret V (.bool true)) := by
  have k := nearLaw_any sX (hd0 A1 c1 none 0) ⟨c, t1, h1⟩ ⟨d, t2, h2⟩ code V h.rd few_X.cols rows_X cs_X hc
  rw [sX_eq] at k
  exact k
def bxS (a b : Nat) : List Bx := [⟨1, ⟨#[]⟩, 40, false, 0, 0, 0, a, false⟩, ⟨2, ⟨#[]⟩, 40, false, 0, 0, 0, b, false⟩, ⟨3, ⟨#[]⟩, 20, false, 0, 0, 0, b, false⟩]
def stS (z T : Int) : List Stw := [⟨1, ⟨0, 0, 0⟩⟩, ⟨2, ⟨z, T, 0⟩⟩]
theorem MA.ch {w V : World} {g : Nat} {A1 : Option Addr} {c1 : Nat} {gx gl : Nat} {a b : Nat} {z T : Int} (h : MA w V g CX A1 c1 (.slice none 0 0) [] (.slice none 0 0) []) (ht : TabOK w) (hn : NamesOK w) (kx : Bk V gx 41 #[.int .i64 1, .string ⟨#[]⟩, .int .u8 40, .bool false, .int .i64 0, .int .i64 0, .int .i64 0, .int .u8 (a : Nat), .bool false, .int .i64 2, .string ⟨#[]⟩, .int .u8 40, .bool false, .int .i64 0, .int .i64 0, .int .i64 0, .int .u8 (b : Nat), .bool false, .int .i64 3, .string ⟨#[]⟩, .int .u8 20, .bool false, .int .i64 0, .int .i64 0, .int .i64 0, .int .u8 (b : Nat), .bool false]) (kl : Bk V gl 44 #[.int .i64 1, .int .i64 0, .int .i64 0, .int .u8 0, .int .i64 2, .int .i64 z, .int .i64 T, .int .u8 0]) (hT : T ≤ 9223372036854775807) : CH V sX (hd0 A1 c1 none 0) (some ⟨gx, 0, none⟩) (bxS a b) (some ⟨gl, 0, none⟩) 2 (stS z T) :=
  ⟨h.rd, few_X, ints_X, by show CX.length ≤ _; rw [CX_len]; decide, tiers_X, all_X, rows_X, sl_flat kx (flat_bxs14 (bxS a b)) kx.lt, (by decide : (3 : Nat) ≤ 1000000), sl_flat kl (flat_stws14 (stS z T)) kl.lt, (by decide : (2 : Nat) ≤ 200), Nat.le_refl 2, fun x hx => by
    unfold stS at hx
    simp only [List.mem_cons, List.not_mem_nil, or_false] at hx
    rcases hx with rfl | rfl
    · exact (by decide : (0 : Int) ≤ 9223372036854775807)
    · exact hT, fun x hx => by
    unfold bxS at hx
    simp only [List.mem_cons, List.not_mem_nil, or_false] at hx
    rcases hx with rfl | rfl | rfl
    · exact (by decide : (40 : Nat) < 256)
    · exact (by decide : (40 : Nat) < 256)
    · exact (by decide : (20 : Nat) < 256), hn.below h.be hn.lt, ht.below h.be ht.lt, fun _ => cs_X⟩
theorem CH.one {w : World} {A1 A A2 : Option Addr} {c1 : Nat} {a b : Nat} {z T : Int} (r : CH w sX (hd0 A1 c1 none 0) A (bxS a b) A2 2 (stS z T)) : CH w sX (hd0 A1 c1 none 0) A (bxS a b) A2 2 [⟨1, ⟨0, 0, 0⟩⟩] :=
  ⟨r.rd, r.few, r.ints, r.cl, r.tn, r.al, r.row, r.bx, r.bl, r.sx.take 1, (by decide : (1 : Nat) ≤ 200), (by decide : (1 : Nat) ≤ 2), fun x hx => by
    simp only [List.mem_cons, List.not_mem_nil, or_false] at hx
    rw [hx]
    exact (by decide : (0 : Int) ≤ 9223372036854775807), r.sz, r.nm, r.tb, fun _ => cs_X⟩
section
variable {w : World} {A1 : Option Addr} {c1 gx gl : Nat} {a b : Nat} {z T : Int}
theorem CH.s1 (r : CH w sX (hd0 A1 c1 none 0) (some ⟨gx, 0, none⟩) (bxS a b) (some ⟨gl, 0, none⟩) 2 (stS z T)) : Calls Tryd.prog 6 #[.agg #[.slice A1 14 c1, .slice none 0 0, .int .i64 0, .int .i64 0, .int .i64 0, .int .i64 0, .slice none 0 0, .slice none 0 0, .slice none 0 0, .int .i64 0, .int .i64 0, .int .i64 0, .int .i64 0], .slice (some ⟨gx, 0, none⟩) 3 3, .slice (some ⟨gl, 0, none⟩) 2 2] w (Ret w (.bool true)) := by
  have k := clashesLaw_any sX (hd0 A1 c1 none 0) _ 3 (bxS a b) _ 2 (stS z T) w r
  rw [sX_eq] at k
  exact k
theorem CH.s2 (r : CH w sX (hd0 A1 c1 none 0) (some ⟨gx, 0, none⟩) (bxS a b) (some ⟨gl, 0, none⟩) 2 (stS z T)) : Calls Tryd.prog 7 #[.agg #[.slice A1 14 c1, .slice none 0 0, .int .i64 0, .int .i64 0, .int .i64 0, .int .i64 0, .slice none 0 0, .slice none 0 0, .slice none 0 0, .int .i64 0, .int .i64 0, .int .i64 0, .int .i64 0], .slice (some ⟨gx, 0, none⟩) 3 3, .slice (some ⟨gl, 0, none⟩) 1 2, .agg #[.int .i64 2, .int .i64 z, .int .i64 T, .int .u8 0]] w (Ret w (.bool true)) := by
  have k := againstLaw_any sX (hd0 A1 c1 none 0) _ 3 (bxS a b) _ 2 [⟨1, ⟨0, 0, 0⟩⟩] ⟨2, ⟨z, T, 0⟩⟩ w r.one
  rw [sX_eq] at k
  exact k
theorem CH.s3 (r : CH w sX (hd0 A1 c1 none 0) (some ⟨gx, 0, none⟩) (bxS a b) (some ⟨gl, 0, none⟩) 2 (stS z T)) : Calls Tryd.prog 7 #[.agg #[.slice A1 14 c1, .slice none 0 0, .int .i64 0, .int .i64 0, .int .i64 0, .int .i64 0, .slice none 0 0, .slice none 0 0, .slice none 0 0, .int .i64 0, .int .i64 0, .int .i64 0, .int .i64 0], .slice (some ⟨gx, 0, none⟩) 3 3, .slice (some ⟨gl, 0, none⟩) 2 2, .agg #[.int .i64 3, .int .i64 z, .int .i64 1, .int .u8 1]] w (Ret w (.bool true)) := by
  have k := againstLaw_any sX (hd0 A1 c1 none 0) _ 3 (bxS a b) _ 2 (stS z T) ⟨3, ⟨z, 1, 1⟩⟩ w r
  rw [sX_eq] at k
  exact k
end
@[reducible] def UA14 : Array Value := #[.int .u8 0, .int .u8 1, .int .u8 2, .int .u8 3, .int .u8 255]
theorem ua14_at {j : Nat} (h : j < 5) : ∃ z : Nat, UA14[j]? = some (.int .u8 (z : Nat)) ∧ z < 256 := by
  match j, h with
  | 0, _ => exact ⟨0, rfl, by decide⟩
  | 1, _ => exact ⟨1, rfl, by decide⟩
  | 2, _ => exact ⟨2, rfl, by decide⟩
  | 3, _ => exact ⟨3, rfl, by decide⟩
  | 4, _ => exact ⟨255, rfl, by decide⟩
@[reducible] def IA14 : Array Value := #[.int .i64 0, .int .i64 1, .int .i64 2, .int .i64 4, .int .i64 8, .int .i64 12, .int .i64 13]
theorem ia14_at {j : Nat} (h : j < 7) : ∃ z : Int, IA14[j]? = some (.int .i64 z) ∧ 0 ≤ z ∧ z ≤ 13 := by
  match j, h with
  | 0, _ => exact ⟨0, rfl, by decide⟩
  | 1, _ => exact ⟨1, rfl, by decide⟩
  | 2, _ => exact ⟨2, rfl, by decide⟩
  | 3, _ => exact ⟨4, rfl, by decide⟩
  | 4, _ => exact ⟨8, rfl, by decide⟩
  | 5, _ => exact ⟨12, rfl, by decide⟩
  | 6, _ => exact ⟨13, rfl, by decide⟩
theorem MA.setL {w U : World} {g gl : Nat} {cols : List Col} {A1 : Option Addr} {c1 : Nat} {cs : Array Value} (h : MA w U g cols A1 c1 (.slice none 0 0) [] (.slice none 0 0) []) (hk : Bk U gl 44 cs) (hgl : g < gl) (i : Nat) (v : Value) : MA w (U.setCell ⟨gl, i, none⟩ v) g cols A1 c1 (.slice none 0 0) [] (.slice none 0 0) [] := by
  have hlt := h.ks.lt
  have hz : ∀ b, Lt (g + 1) b → b < (U.setCell ⟨gl, i, none⟩ v).heap.size := fun b hb => by
    have h1 : b < g + 1 := hb
    have h2 := (grown_setCell U ⟨gl, i, none⟩ v).size
    omega
  refine ⟨h.gw, h.pl, ?_, h.cap, h.ks.far (show g ≠ gl by omega) _, OwnS.nil hz, OwnS.nil hz, h.be.setCell (p := ⟨gl, i, none⟩) (show w.heap.size ≤ gl by have := h.gw; omega) _⟩
  obtain ⟨xs, h1, h2, h3⟩ := h.own
  exact ⟨xs, own_far h1 _ _ (own_ne h1 hk (by decide)), h2.plainG plainG_colN, fun b hb => ⟨hz b hb, (h3 b hb).2⟩⟩
theorem flat_two {w : World} {S : Nat → Prop} : Flat tColN w S (colL cE1 none 0 ++ colL cE2 none 0) [cE1, cE2] := ⟨colL cE1 none 0, colL cE2 none 0, rfl, rd_colN cE1 rfl _ rfl, Flat.single (rd_colN cE2 rfl _ rfl)⟩
end Go.Proofs.YtmhikcleekfbpaaDoor
