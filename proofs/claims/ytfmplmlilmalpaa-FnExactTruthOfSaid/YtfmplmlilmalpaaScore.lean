/- Score: contracts of the functions on clocks and results, of package impl and of package spec. No condition. -/
import Derived.Test.YtfmplmlilmalpaaNum
set_option linter.unusedVariables false
set_option linter.unusedSimpArgs false
namespace Peg
def pts (l : Int) (c : Bool) : Int := if l = 1 then (if c then 125 else 100) else if l = 2 then 60 else if l = 3 then 30 else if l = 4 then 10 else 0
def pointsOf (l : Int) (c : Bool) (s t : Int) : Int := if resultOk l s t then pts l c else 0
def isBetter (l : Int) (c : Bool) (s t : Int) (l' : Int) (c' : Bool) (s' t' : Int) : Bool :=
  if resultOk l s t = true then if resultOk l' s' t' = true then
    if pointsOf l c s t = pointsOf l' c' s' t' then
      if l = l' then if s = s' then decide (t < t') else decide (s < s') else decide (l < l')
    else decide (pointsOf l' c' s' t' < pointsOf l c s t)
  else false else false
def areTied (l : Int) (c : Bool) (s t : Int) (l' : Int) (c' : Bool) (s' t' : Int) : Bool :=
  resultOk l s t && resultOk l' s' t' && !isBetter l c s t l' c' s' t' && !isBetter l' c' s' t' l c s t
def secondsUsed (st x y z : Int) : Int := if clockOk x y z = true then if inR st 0 100000 = true then st + y * z - x else 0 else 0
def nextSeed (s : Int) : Int := if inR s 0 65536 = true then (75 * s + 74) % 65537 else 0
theorem resultOk_bd {l s t : Int} (h : resultOk l s t = true) : (1 ≤ l ∧ l ≤ 49) ∧ (0 ≤ s ∧ s ≤ 60) ∧ (0 ≤ t ∧ t ≤ 100000) := by
  simp [resultOk, inR] at h; omega
theorem clockOk_bd {l b m : Int} (h : clockOk l b m = true) : (0 ≤ l ∧ l ≤ 100000) ∧ (0 ≤ b ∧ b ≤ 600) ∧ (0 ≤ m ∧ m ≤ 1000) := by
  simp [clockOk, inR] at h; omega
theorem prod_bd {y z : Int} (h : 0 ≤ y ∧ y ≤ 600) (h' : 0 ≤ z ∧ z ≤ 1000) : 0 ≤ y * z ∧ y * z ≤ 600000 := by
  have h1 : y * z ≤ 600 * 1000 := Int.mul_le_mul h.2 h'.2 h'.1 (by omega)
  have h2 : 0 ≤ y * z := Int.mul_nonneg h.1 h'.1
  omega
end Peg
namespace Go.Proofs.Ytfmplmlilmalpaa
open Go.ChangeShapes Go.WideShapes Go.ChangeAt Go.RowKit Peg Go.Sort
theorem ret_int {k : IntKind} {a b : Int} (h : a = b) : Ending.returned (.int k a) = .returned (.int k b) := by rw [h]
end Go.Proofs.Ytfmplmlilmalpaa
