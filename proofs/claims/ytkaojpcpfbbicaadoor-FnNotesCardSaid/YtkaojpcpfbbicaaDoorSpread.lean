/- Spread: contract of spreadOf. Conditions: numbers in range. -/
import Derived.Test.YtkaojpcpfbbicaaDoorJump
import Derived.Test.YtkaojpcpfbbicaaDoorBfs0
import Derived.Test.YtkaojpcpfbbicaaDoorMem2
set_option linter.unusedVariables false
set_option linter.unusedSimpArgs false
namespace Peg
def boardN (a b : Int) : Nat := 2 ^ (a * b).toNat
theorem pwN {a b : Int} (h : 0 ≤ a * b) : pw (a * b) = (boardN a b : Int) := by
  unfold boardN
  rw [← pw_nat, Int.toNat_of_nonneg h]
def spreadOf (a b o p : Int) (back : Bool) : List Bool := if isSmall a b o = true then if posOk a b o p = true then seenOf back (linesOf a b o) (boardN a b) p else [] else []
def jumpTo (p : Int) (l : Ln) : Int := if canJ p l = true then flip p l else p
def undoTo (p : Int) (l : Ln) : Int := if canU p l = true then flip p l else p
theorem leads_of {a b o : Int} (h : boardOk a b o = true) : Leads (boardN a b) (linesOf a b o) := by
  intro l hl p h0 hp
  have h1 := area (boardOk_sides h).1 (boardOk_sides h).2
  obtain ⟨k1, k2, k3, k4⟩ := linesOf_in hl
  have e : ((boardN a b : Nat) : Int) = pw (((a * b).toNat : Nat) : Int) := by rw [pw_nat]; rfl
  rw [e] at hp ⊢
  exact flip_lt h0 hp k1 (by omega) (by omega) (by omega)
theorem small_N {a b o : Int} (h : isSmall a b o = true) : boardOk a b o = true ∧ 1 ≤ a * b ∧ a * b ≤ 16 ∧ boardN a b ≤ 65536 ∧ 1 ≤ boardN a b := by
  simp only [isSmall, Bool.and_eq_true, decide_eq_true_eq] at h
  have h1 := area (boardOk_sides h.1).1 (boardOk_sides h.1).2
  have h2 : boardN a b ≤ 2 ^ 16 := Nat.pow_le_pow_right (by omega) (by omega)
  have h3 : 1 ≤ boardN a b := Nat.one_le_two_pow
  exact ⟨h.1, h1.1, h.2, by simpa using h2, h3⟩
theorem pos_N {a b o p : Int} (h : posOk a b o p = true) : 0 ≤ p ∧ p < boardN a b := by
  obtain ⟨h1, h2, h3⟩ := posOk_bd h
  have h4 := boardOk_holes h1
  have h5 := band_le_right p o (by omega)
  have h6 := area (boardOk_sides h1).1 (boardOk_sides h1).2
  rw [← pwN (by omega)]
  omega
end Peg
namespace Go.Proofs.YtkaojpcpfbbicaaDoor
open Go.ChangeShapes Go.WideShapes Go.ChangeAt Go.RowKit Peg Go.Sort
theorem Own.boolAt {w : World} {base b n cap : Nat} {l : List Bool} (h : Own EBool w base (.slice (some ⟨b, 0, none⟩) n cap) l) (i : Nat) (hi : i < l.length) : w.cell? ⟨b, i, none⟩ = some (.bool (l.getD i false)) ∧ b < w.heap.size ∧ n = l.length := by
  obtain ⟨a, cap', hv, _, hg⟩ := h.bool
  obtain ⟨b', hb', h1, h2, h3⟩ := hg i hi
  simp only [Value.slice.injEq] at hv
  obtain ⟨rfl, rfl, rfl⟩ := hv
  simp only [Option.some.injEq, Addr.mk.injEq, and_true] at hb'
  subst hb'
  exact ⟨h3, h2, rfl⟩
theorem visit_cases (back : Bool) (p : Int) (s : St) (l : Ln) : (can back p l = false ∧ visit back p s l = s) ∨ (can back p l = true ∧ s.seen.getD (Peg.flip p l).toNat false = true ∧ visit back p s l = s) ∨ (can back p l = true ∧ s.seen.getD (Peg.flip p l).toNat false = false ∧ visit back p s l = ⟨s.seen.set (Peg.flip p l).toNat true, s.list ++ [Peg.flip p l]⟩) := by
  unfold visit
  cases h : can back p l
  · exact .inl ⟨rfl, by simp⟩
  · cases h2 : s.seen.getD (Peg.flip p l).toNat false
    · exact .inr (.inr ⟨rfl, rfl, by simp⟩)
    · exact .inr (.inl ⟨rfl, rfl, by simp⟩)
end Go.Proofs.YtkaojpcpfbbicaaDoor
