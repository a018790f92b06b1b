/- Reach: contracts of has, CanReach, l15Back and the reference's; IsSolvable. Conditions: numbers in range. -/
import Derived.Test.YtkaojpcpfbbicaaDoorSpread
import Derived.Test.YtkaojpcpfbbicaaDoorSSpread
set_option linter.unusedVariables false
set_option linter.unusedSimpArgs false
namespace Peg
def hasB (l : List Bool) (p : Int) : Bool := decide (0 ≤ p) && decide (p < l.length) && l.getD p.toNat false
theorem visits_size (back : Bool) (p : Int) : ∀ (ls : List Ln) (s : St), (visits back p ls s).seen.length = s.seen.length := by
  intro ls
  induction ls with
  | nil => intro s; rfl
  | cons l r ih =>
    intro s
    show (visits back p r (visit back p s l)).seen.length = _
    rw [ih]
    unfold visit
    split
    · split <;> simp
    · rfl
theorem seenOf_length (back : Bool) (ls : List Ln) (N : Nat) (p : Int) : (seenOf back ls N p).length = N := by
  unfold seenOf
  have : ∀ i, (stAt back ls (st0 N p) i).seen.length = N := by
    intro i
    induction i with
    | zero => simp [stAt, st0]
    | succ i ih =>
      unfold stAt
      split
      · rw [visits_size, ih]
      · exact ih
  exact this _
theorem spreadOf_length {a b o p : Int} {back : Bool} (h : isSmall a b o = true) (h2 : posOk a b o p = true) : (spreadOf a b o p back).length = boardN a b := by
  simp [spreadOf, h, h2, seenOf_length]
/-- whether the position q is reached from p, where both are positions -/
def reach (a b o p q : Int) (back : Bool) : Bool := hasB (spreadOf a b o p back) q
theorem reach_pos {a b o p q : Int} {back : Bool} (h : isSmall a b o = true) (h2 : posOk a b o p = true) (h3 : posOk a b o q = true) : reach a b o p q back = (spreadOf a b o p back).getD q.toNat false := by
  have h4 := pos_N h3
  simp only [reach, hasB, spreadOf_length h h2, h4.1, h4.2, decide_true, Bool.true_and]
def isSolvable (a b o s g : Int) : Bool := puzzleOk a b o s g && reach a b o s g false
end Peg
namespace Go.Proofs.YtkaojpcpfbbicaaDoor
open Go.ChangeShapes Go.WideShapes Go.ChangeAt Go.RowKit Peg Go.Sort
theorem Own.boolsSmall {w : World} {base : Nat} {v : Value} {l : List Bool} (h : Own EBool w base v l) : ∃ a cap, v = .slice a l.length cap ∧ l.length ≤ 9223372036854775807 := by
  obtain ⟨a, cap, hv, h1, _⟩ := h.bool
  exact ⟨a, cap, hv, h1⟩
end Go.Proofs.YtkaojpcpfbbicaaDoor
