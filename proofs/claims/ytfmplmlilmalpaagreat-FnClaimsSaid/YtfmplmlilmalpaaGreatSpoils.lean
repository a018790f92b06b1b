/- Spoils: contracts of CountSpoils and the reference's. Conditions: numbers in range. -/
import Derived.Test.YtfmplmlilmalpaaGreatReach2
set_option linter.unusedVariables false
set_option linter.unusedSimpArgs false
namespace Peg
def spoilsBy (B : List Bool) (p : Int) (l : Ln) : Bool := canJ p l && !hasB B (flip p l)
def spoilsAt (L : List Ln) (B : List Bool) (p : Int) : Nat := if hasB B p = true then L.countP (spoilsBy B p) else 0
def spoilsTo (L : List Ln) (B : List Bool) (R : List Int) (k : Nat) : Nat := ((R.take k).map (spoilsAt L B)).sum
def spoils (a b o s g : Int) : Int := if puzzleOk a b o s g = true then (spoilsTo (linesOf a b o) (spreadOf a b o g true) (reachList a b o s) (reachList a b o s).length : Int) else 0
theorem countP_take {α : Type} (f : α → Bool) (L : List α) (d : α) (j : Nat) (h : j < L.length) : (L.take (j + 1)).countP f = (L.take j).countP f + (if f (L.getD j d) = true then 1 else 0) := by
  rw [List.take_succ_eq_append_getElem h, List.countP_append]
  simp [List.countP_cons, h]
theorem spoilsTo_succ (L : List Ln) (B : List Bool) (R : List Int) (k : Nat) (h : k < R.length) : spoilsTo L B R (k + 1) = spoilsTo L B R k + spoilsAt L B (R.getD k 0) := by
  unfold spoilsTo
  rw [List.take_succ_eq_append_getElem h, List.map_append, List.sum_append]
  simp [h]
theorem spoilsAt_le (L : List Ln) (B : List Bool) (p : Int) : spoilsAt L B p ≤ L.length := by
  unfold spoilsAt
  split
  · exact List.countP_le_length
  · omega
theorem spoilsTo_le (L : List Ln) (B : List Bool) (R : List Int) (k : Nat) : spoilsTo L B R k ≤ k * L.length := by
  unfold spoilsTo
  have h : ∀ (X : List Int), (X.map (spoilsAt L B)).sum ≤ X.length * L.length := by
    intro X
    induction X with
    | nil => simp
    | cons x r ih =>
      simp only [List.map_cons, List.sum_cons, List.length_cons, Nat.add_mul]
      have := spoilsAt_le L B x
      omega
  refine Nat.le_trans (h _) (Nat.mul_le_mul_right _ ?_)
  simp; omega
theorem linesOf_le (a b o : Int) : (linesOf a b o).length ≤ 196 := by
  have h1 := linesFrom_le a b o (holesOf a b o)
  have h2 := holesOf_length a b o
  have e : linesOf a b o = (holesOf a b o).flatMap (linesFrom a b o) := rfl
  rw [← e] at h1
  omega
end Peg
namespace Go.Proofs.YtfmplmlilmalpaaGreat
open Go.ChangeShapes Go.WideShapes Go.ChangeAt Go.RowKit Peg Go.Sort
end Go.Proofs.YtfmplmlilmalpaaGreat
