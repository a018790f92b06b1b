/- CountG: contracts of the counter of games: count (a memo map) and counterOf. Conditions: the map's and the lines' form. -/
import Derived.Test.YtfmplmlilmalpaaMapM
import Derived.Test.YtfmplmlilmalpaaGames0
import Derived.Test.YtfmplmlilmalpaaMem3
import Derived.Deep.RegionWith
import Derived.Deep.DeepCutAuto
import Derived.Deep.Cut
import Derived.IntWalk
set_option linter.unusedVariables false
set_option linter.unusedSimpArgs false
namespace Peg
theorem sum_take_f (F : Ln → Nat) (P : Ln → Bool) (L : List Ln) (j : Nat) (h : j < L.length) : (((L.take (j + 1)).filter P).map F).sum = (((L.take j).filter P).map F).sum + if P (gD L Ln0 j) = true then F (gD L Ln0 j) else 0 := by
  rw [take_gD L Ln0 j h, List.filter_append, List.map_append, List.sum_append]
  cases hp : P (gD L Ln0 j) <;> simp [hp]
theorem sum_take_le (F : Ln → Nat) (P : Ln → Bool) (L : List Ln) (j : Nat) : (((L.take j).filter P).map F).sum ≤ ((L.filter P).map F).sum := by
  conv => rhs; rw [← List.take_append_drop j L]
  rw [List.filter_append, List.map_append, List.sum_append]
  omega
end Peg
namespace Go.Proofs.Ytfmplmlilmalpaa
open Go.ChangeShapes Go.WideShapes Go.ChangeAt Go.RowKit Peg Go.Sort
def GK : List Lit := (List.range 65536).map fun n : Nat => Lit.int .i64 n
def gk (a b o g : Int) : Lit → Int
  | .int _ p => (games a b o g p : Nat)
  | _ => 0
theorem GK_len : GK.length < maxLen := by unfold GK maxLen; rw [List.length_map, List.length_range]; omega
theorem GK_mem {p : Int} (h0 : 0 ≤ p) (h : p < 65536) : Lit.int .i64 p ∈ GK := by
  unfold GK
  refine List.mem_map.2 ⟨p.toNat, List.mem_range.2 (by omega), ?_⟩
  rw [show ((p.toNat : Nat) : Int) = p from by omega]
/-- lines that can be read -/
def LnAt (w : World) (aL : Option Addr) (L : List Ln) : Prop :=
  ∀ i, i < L.length → ∃ b, aL = some ⟨b, 0, none⟩ ∧ b < w.heap.size ∧ w.cell? ⟨b, i * 3, none⟩ = some (.int .i64 (gD L Ln0 i).f) ∧ w.cell? ⟨b, i * 3 + 1, none⟩ = some (.int .i64 (gD L Ln0 i).o) ∧ w.cell? ⟨b, i * 3 + 2, none⟩ = some (.int .i64 (gD L Ln0 i).t)
theorem LnAt.below {w w' : World} {aL : Option Addr} {L : List Ln} (h : LnAt w aL L) (hb : Below w.heap.size w w') : LnAt w' aL L := fun i hi => by
  obtain ⟨b, h1, h2, h3, h4, h5⟩ := h i hi
  exact ⟨b, h1, Nat.lt_of_lt_of_le h2 hb.size, (hb.cell h2).trans h3, (hb.cell h2).trans h4, (hb.cell h2).trans h5⟩
theorem LnAt.gro {w w' : World} {aL : Option Addr} {L : List Ln} {K E : TypeId} {B : Nat} {KS : List Lit} {G : Lit → Int} (h : LnAt w aL L) (hm : Memo w K E B KS G) (hg : w.grownBy w' (some B)) : LnAt w' aL L := fun i hi => by
  obtain ⟨b, h1, h2, h3, h4, h5⟩ := h i hi
  have hne := hm.nocell h3
  exact ⟨b, h1, Nat.lt_of_lt_of_le h2 hg.size, (gro_cell hg h2 hne).trans h3, (gro_cell hg h2 hne).trans h4, (gro_cell hg h2 hne).trans h5⟩
theorem lnN {a b o : Int} (hs : isSmall a b o = true) : (linesOf a b o).length ≤ 256 := by
  have h := linesFrom_le a b o (holesOf a b o)
  have := holesOf_length a b o
  unfold linesOf
  omega
theorem zero3 (w : World) : (zeroValue 3).run Try.prog w = .ok (.int .i64 0) w := by kernel_rfl
end Go.Proofs.Ytfmplmlilmalpaa
