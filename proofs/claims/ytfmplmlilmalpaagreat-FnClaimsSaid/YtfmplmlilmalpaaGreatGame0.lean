/- Game0: boards, holes, lines, as plain data; no program in sight. No condition. -/
import Derived.Test.YtfmplmlilmalpaaGreatBits2
import Derived.Test.YtfmplmlilmalpaaGreatNum0
set_option linter.unusedVariables false
set_option linter.unusedSimpArgs false
namespace Peg
structure Ln where
  f : Int
  o : Int
  t : Int
deriving DecidableEq
def Ln0 : Ln := ⟨0, 0, 0⟩
/-- the holes of a board of size n, in ascending order -/
def holesTo (o : Int) (k : Nat) : List Int := ((List.range k).filter fun i : Nat => tb o (i : Int)).map fun i : Nat => (i : Int)
theorem holesTo_succ_yes (o : Int) (k : Nat) (h : tb o k = true) : holesTo o (k + 1) = holesTo o k ++ [(k : Int)] := by
  simp [holesTo, List.range_succ, h]
theorem holesTo_succ_no (o : Int) (k : Nat) (h : tb o k = false) : holesTo o (k + 1) = holesTo o k := by
  simp [holesTo, List.range_succ, h]
theorem holesTo_length (o : Int) (k : Nat) : (holesTo o k).length ≤ k := by
  unfold holesTo
  rw [List.length_map]
  have := List.length_filter_le (fun i : Nat => tb o (i : Int)) (List.range k)
  simpa using this
end Peg
namespace Peg
def dx (way : Int) : Int := if way = 0 then 1 else if way = 2 then -1 else 0
def dy (way : Int) : Int := if way = 1 then 1 else if way = 3 then -1 else 0
def stepTo (a b o k way : Int) : Int :=
  let x := k % a + dx way
  let y := k / a + dy way
  if inR x 0 (a - 1) = true then if inR y 0 (b - 1) = true then if tb o (y * a + x) = true then y * a + x else -1 else -1 else -1
theorem dx_bd (way : Int) : -1 ≤ dx way ∧ dx way ≤ 1 := by unfold dx; split <;> (try split) <;> omega
theorem dy_bd (way : Int) : -1 ≤ dy way ∧ dy way ≤ 1 := by unfold dy; split <;> (try split) <;> omega
end Peg
