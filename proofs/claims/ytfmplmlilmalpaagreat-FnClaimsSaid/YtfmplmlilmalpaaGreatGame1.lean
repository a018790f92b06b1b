/- Game1: the lines of a board, as plain data; no program in sight. No condition. -/
import Derived.Test.YtfmplmlilmalpaaGreatGame0
set_option linter.unusedVariables false
set_option linter.unusedSimpArgs false
namespace Peg
def lineTo (a b o k way : Int) : Option Ln :=
  if 0 ≤ stepTo a b o k way then
    if 0 ≤ stepTo a b o (stepTo a b o k way) way then some ⟨k, stepTo a b o k way, stepTo a b o (stepTo a b o k way) way⟩ else none
  else none
/-- the lines from the hole k, in the first q directions -/
def linesPart (a b o k : Int) (q : Nat) : List Ln := (List.range q).filterMap fun way : Nat => lineTo a b o k way
theorem linesPart_succ (a b o k : Int) (q : Nat) : linesPart a b o k (q + 1) = linesPart a b o k q ++ (lineTo a b o k q).toList := by
  simp only [linesPart, List.range_succ, List.filterMap_append]
  cases h : lineTo a b o k q <;> simp [h]
theorem linesPart_length (a b o k : Int) (q : Nat) : (linesPart a b o k q).length ≤ q := by
  unfold linesPart
  have := List.length_filterMap_le (fun way : Nat => lineTo a b o k way) (List.range q)
  simpa using this
def linesFrom (a b o k : Int) : List Ln := linesPart a b o k 4
theorem linesFrom_le (a b o : Int) (H : List Int) : (H.flatMap (linesFrom a b o)).length ≤ 4 * H.length := by
  induction H with
  | nil => simp
  | cons x r ih => have := linesPart_length a b o x 4; simp [linesFrom] at *; omega
theorem flatMap_take_succ {α β : Type} (f : α → List β) (l : List α) (j : Nat) (d : α) (h : j < l.length) : (l.take (j + 1)).flatMap f = (l.take j).flatMap f ++ f (l.getD j d) := by
  rw [List.take_succ_eq_append_getElem h, List.flatMap_append]
  simp [h]
end Peg
