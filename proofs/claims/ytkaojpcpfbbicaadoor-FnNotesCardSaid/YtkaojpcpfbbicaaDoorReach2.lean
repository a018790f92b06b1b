/- Reach2: contracts of the lists of all positions that are reached: list, ReachOf and the reference's. Conditions: numbers in range. -/
import Derived.Test.YtkaojpcpfbbicaaDoorReach
set_option linter.unusedVariables false
set_option linter.unusedSimpArgs false
namespace Peg
def listTo (l : List Bool) (k : Nat) : List Int := ((List.range k).filter (fun i => l.getD i false)).map (fun (i : Nat) => (i : Int))
def listOf (l : List Bool) : List Int := listTo l l.length
theorem listTo_yes (l : List Bool) (k : Nat) (h : l.getD k false = true) : listTo l (k + 1) = listTo l k ++ [(k : Int)] := by
  unfold listTo
  rw [List.range_succ, List.filter_append, List.map_append]
  simp only [List.filter_cons, h, if_true, List.filter_nil, List.map_cons, List.map_nil]
theorem listTo_no (l : List Bool) (k : Nat) (h : l.getD k false = false) : listTo l (k + 1) = listTo l k := by
  unfold listTo
  rw [List.range_succ, List.filter_append, List.map_append]
  simp only [List.filter_cons, h, List.filter_nil, List.map_nil, List.append_nil, Bool.false_eq_true, if_false]
theorem listTo_length (l : List Bool) (k : Nat) : (listTo l k).length ≤ k := by
  unfold listTo
  rw [List.length_map]
  exact Nat.le_trans (List.length_filter_le _ _) (by simp)
theorem listOf_mem {l : List Bool} {p : Int} (h : p ∈ listOf l) : 0 ≤ p ∧ p < l.length ∧ l.getD p.toNat false = true := by
  simp only [listOf, listTo, List.mem_map, List.mem_filter, List.mem_range] at h
  obtain ⟨i, ⟨h1, h2⟩, rfl⟩ := h
  exact ⟨by omega, by omega, by simpa using h2⟩
def reachList (a b o p : Int) : List Int := listOf (spreadOf a b o p false)
theorem spreadOf_le (a b o p : Int) (back : Bool) : (spreadOf a b o p back).length ≤ 65536 := by
  by_cases h : isSmall a b o = true
  · by_cases h2 : posOk a b o p = true
    · rw [spreadOf_length h h2]; exact (small_N h).2.2.2.1
    · simp [spreadOf, h2]
  · simp [spreadOf, h]
end Peg
namespace Go.Proofs.YtkaojpcpfbbicaaDoor
open Go.ChangeShapes Go.WideShapes Go.ChangeAt Go.RowKit Peg Go.Sort
end Go.Proofs.YtkaojpcpfbbicaaDoor
