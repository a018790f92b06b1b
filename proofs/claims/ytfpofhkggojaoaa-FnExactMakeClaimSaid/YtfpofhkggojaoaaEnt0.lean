/- Ent0: entrants' totals and best results, as plain data; no program in sight. No condition. -/
import Derived.Test.YtfpofhkggojaoaaMemR
import Derived.Test.YtfpofhkggojaoaaScore
set_option linter.unusedVariables false
set_option linter.unusedSimpArgs false
namespace Peg
def ptsR (r : Rs) : Int := pointsOf r.l r.c r.s r.t
def okR (r : Rs) : Bool := resultOk r.l r.s r.t
def betR (r s : Rs) : Bool := isBetter r.l r.c r.s r.t s.l s.c s.s s.t
theorem ptsR_bd (r : Rs) : 0 ≤ ptsR r ∧ ptsR r ≤ 125 := by
  unfold ptsR pointsOf pts
  repeat' split
  all_goals omega
def totalOf : List Rs → Int
  | [] => 0
  | r :: l => ptsR r + totalOf l
theorem totalOf_append (l m : List Rs) : totalOf (l ++ m) = totalOf l + totalOf m := by
  induction l with
  | nil => simp [totalOf]
  | cons x l ih => simp [totalOf, ih]; omega
theorem totalOf_bd (l : List Rs) : 0 ≤ totalOf l ∧ totalOf l ≤ 125 * l.length := by
  induction l with
  | nil => simp [totalOf]
  | cons x l ih => have := ptsR_bd x; simp [totalOf]; omega
theorem totalOf_take {l : List Rs} {k : Nat} (h : k < l.length) : totalOf (l.take (k + 1)) = totalOf (l.take k) + ptsR (gD l Rs0 k) := by
  rw [take_gD l Rs0 k h, totalOf_append]; simp [totalOf]
theorem totalOf_take_bd (l : List Rs) (k : Nat) : 0 ≤ totalOf (l.take k) ∧ totalOf (l.take k) ≤ 125 * k := by
  have h1 := totalOf_bd (l.take k)
  have : (l.take k).length ≤ k := List.length_take_le _ _
  omega
def bestStep (rs : List Rs) (best : Int) (i : Nat) : Int := if best < 0 then i else if betR (gD rs Rs0 i) (gD rs Rs0 best.toNat) = true then i else best
def bestRun (rs : List Rs) : Nat → Int
  | 0 => -1
  | k + 1 => bestStep rs (bestRun rs k) k
theorem bestRun_bd (rs : List Rs) (k : Nat) : -1 ≤ bestRun rs k ∧ bestRun rs k < k ∧ (0 < k → 0 ≤ bestRun rs k) := by
  induction k with
  | zero => simp [bestRun]
  | succ k ih =>
    simp only [bestRun, bestStep]
    repeat' split
    all_goals omega
def bestOf (rs : List Rs) : Int := if rs.all okR = true then bestRun rs rs.length else -1
theorem all_take_yes {α : Type} {P : α → Bool} {l : List α} {d : α} {k : Nat} (h : k < l.length) (h0 : (l.take k).all P = true) (h1 : P (gD l d k) = true) : (l.take (k + 1)).all P = true := by
  rw [take_gD l d k h, List.all_append, h0]; simp [h1]
theorem all_take_no {α : Type} {P : α → Bool} {l : List α} {d : α} {k : Nat} (h : k < l.length) (h1 : P (gD l d k) = false) : l.all P = false := by
  rw [List.all_eq_false]
  exact ⟨_, gD_mem l d k h, by simp [h1]⟩
end Peg
