/- ArgE: contracts of the laws' own loops over slices of entrants. Conditions: lengths in range. -/
import Derived.Test.YtfpofhkggojaoaaMemE
set_option linter.unusedVariables false
set_option linter.unusedSimpArgs false
namespace Peg
def szGo : Int → List Ent → Int
  | left, [] => left
  | left, e :: r => if (e.rs.length : Int) ≤ left then szGo (left - e.rs.length) r else -1
def szEnts (left : Int) (es : List Ent) : Int := if (es.length : Int) ≤ left then szGo (left - es.length) es else -1
theorem szGo_ok : ∀ (es : List Ent) (left : Int), 0 ≤ left → 0 ≤ szGo left es → ∀ e ∈ es, (e.rs.length : Int) ≤ left := by
  intro es
  induction es with
  | nil => intro left _ _ e he; simp at he
  | cons x r ih =>
    intro left h0 h e he
    simp only [szGo] at h
    split at h
    · rcases List.mem_cons.1 he with rfl | he
      · assumption
      · have := ih _ (by omega) h e he; omega
    · omega
theorem szEnts_ok {es : List Ent} {left : Int} (h0 : 0 ≤ left) (h : 0 ≤ szEnts left es) : (es.length : Int) ≤ left ∧ ∀ e ∈ es, (e.rs.length : Int) ≤ left := by
  unfold szEnts at h
  split at h
  · rename_i h1
    refine ⟨h1, fun e he => ?_⟩
    have := szGo_ok es _ (by omega) h e he
    omega
  · omega
theorem szGo_drop {es : List Ent} {left : Int} {k : Nat} (h : k < es.length) : szGo left (es.drop k) = if ((gD es Ent0 k).rs.length : Int) ≤ left then szGo (left - (gD es Ent0 k).rs.length) (es.drop (k + 1)) else -1 := by
  rw [List.drop_eq_getElem_cons h, gD_lt es Ent0 k h]; rfl
end Peg
namespace Go.Proofs.Ytfpofhkggojaoaa
open Go.ChangeShapes Go.WideShapes Go.ChangeAt Go.RowKit Peg Go.Sort
end Go.Proofs.Ytfpofhkggojaoaa
