/- MemR: results as elements of slices; stores of whole elements. Nothing of the program but its types' numbers. No condition. -/
import Derived.Test.YtfmplmlilmalpaaMem3
set_option linter.unusedVariables false
set_option linter.unusedSimpArgs false
namespace Peg
structure Rs where
  l : Int
  c : Bool
  s : Int
  t : Int
deriving DecidableEq
def Rs0 : Rs := ⟨0, false, 0, 0⟩
end Peg
namespace Go.Proofs.Ytfmplmlilmalpaa
open Go.ChangeShapes Go.WideShapes Go.ChangeAt Go.RowKit Go.Sort
section
variable {α : Type} {E : Elt α} {w w' : World} {base B : Nat} {v : Value} {l : List α}
theorem Own.st1 {b n cap : Nat} (h : Own E w base (.slice (some ⟨b, 0, none⟩) n cap) l) (hs : E.size = 1) (i : Nat) (hi : i < l.length) (x : α) (c0 : Value) (hc : E.enc x = [c0]) :
    Own E (w.setCell ⟨b, i, none⟩ c0) base (.slice (some ⟨b, 0, none⟩) n cap) (l.set i x) ∧ w.grownBy (w.setCell ⟨b, i, none⟩ c0) (some b) := by
  obtain ⟨hr, hn⟩ := h.raw (by omega)
  exact ⟨(h.store hs i hi x c0 hc).1, by subst hn; exact (hr.stored i c0).2⟩
/-- the store of a whole element of 2 cells -/
theorem Own.st2 {b n cap : Nat} (h : Own E w base (.slice (some ⟨b, 0, none⟩) n cap) l) (hs : E.size = 2) (i : Nat) (hi : i < l.length) (x : α) (c0 c1 : Value) (hc : E.enc x = [c0, c1]) :
    Own E ((w.setCell ⟨b, i * 2, none⟩ c0).setCell ⟨b, i * 2 + 1, none⟩ c1) base (.slice (some ⟨b, 0, none⟩) n cap) (l.set i x) ∧ w.grownBy ((w.setCell ⟨b, i * 2, none⟩ c0).setCell ⟨b, i * 2 + 1, none⟩ c1) (some b) := by
  obtain ⟨hr, hn⟩ := h.raw (by omega)
  subst hn
  obtain ⟨h1, g1⟩ := hr.stored (i * 2) c0
  obtain ⟨h2, g2⟩ := h1.stored (i * 2 + 1) c1
  refine ⟨.inr ?_, (g1.trans g2)⟩
  rw [List.length_set]
  rw [show (l.set i x).flatMap E.enc = ((l.flatMap E.enc).set (i * 2) c0).set (i * 2 + 1) c1 from ?_]
  · exact h2
  · rw [flat_set E l i x hi, hc, hs]
    have hL : (l.flatMap E.enc).length = l.length * 2 := by rw [flat_length, hs]
    generalize l.flatMap E.enc = xs at *
    apply List.ext_getElem?
    intro j
    simp only [List.getElem?_append, List.getElem?_set, List.length_append, List.length_take, List.length_set, List.length_cons, List.length_nil, List.getElem?_take, List.getElem?_drop]
    have hm : min (i * 2) xs.length = i * 2 := by omega
    rw [hm]
    by_cases a0 : j < i * 2
    · simp [a0, show j < i * 2 + 2 from by omega, show ¬ i * 2 = j from by omega, show ¬ i * 2 + 1 = j from by omega]
    by_cases b0 : j = i * 2
    · subst b0; simp [hL, hi, show i * 2 < l.length * 2 from by omega, show i * 2 + 1 < l.length * 2 from by omega, show i * 2 + 1 - i * 2 = 1 from by omega, show ¬ (i * 2 + 1 < i * 2) from by omega]
    by_cases b1 : j = i * 2 + 1
    · subst b1; simp [hL, hi, show i * 2 < l.length * 2 from by omega, show i * 2 + 1 < l.length * 2 from by omega, show i * 2 + 1 - i * 2 = 1 from by omega, show ¬ (i * 2 + 1 < i * 2) from by omega]
    · have e1 : (i + 1) * 2 + (j - (i * 2 + 2)) = j := by omega
      have e2 : j - i * 2 = (j - (i * 2 + 2)) + 2 := by omega
      simp [a0, show ¬ j < i * 2 + 2 from by omega, show ¬ i * 2 = j from by omega, show ¬ i * 2 + 1 = j from by omega, e1]
/-- the store of a whole element of 4 cells -/
theorem Own.st4 {b n cap : Nat} (h : Own E w base (.slice (some ⟨b, 0, none⟩) n cap) l) (hs : E.size = 4) (i : Nat) (hi : i < l.length) (x : α) (c0 c1 c2 c3 : Value) (hc : E.enc x = [c0, c1, c2, c3]) :
    Own E ((((w.setCell ⟨b, i * 4, none⟩ c0).setCell ⟨b, i * 4 + 1, none⟩ c1).setCell ⟨b, i * 4 + 2, none⟩ c2).setCell ⟨b, i * 4 + 3, none⟩ c3) base (.slice (some ⟨b, 0, none⟩) n cap) (l.set i x) ∧ w.grownBy ((((w.setCell ⟨b, i * 4, none⟩ c0).setCell ⟨b, i * 4 + 1, none⟩ c1).setCell ⟨b, i * 4 + 2, none⟩ c2).setCell ⟨b, i * 4 + 3, none⟩ c3) (some b) := by
  obtain ⟨hr, hn⟩ := h.raw (by omega)
  subst hn
  obtain ⟨h1, g1⟩ := hr.stored (i * 4) c0
  obtain ⟨h2, g2⟩ := h1.stored (i * 4 + 1) c1
  obtain ⟨h3, g3⟩ := h2.stored (i * 4 + 2) c2
  obtain ⟨h4, g4⟩ := h3.stored (i * 4 + 3) c3
  refine ⟨.inr ?_, (((g1.trans g2).trans g3).trans g4)⟩
  rw [List.length_set]
  rw [show (l.set i x).flatMap E.enc = ((((l.flatMap E.enc).set (i * 4) c0).set (i * 4 + 1) c1).set (i * 4 + 2) c2).set (i * 4 + 3) c3 from ?_]
  · exact h4
  · rw [flat_set E l i x hi, hc, hs]
    have hL : (l.flatMap E.enc).length = l.length * 4 := by rw [flat_length, hs]
    generalize l.flatMap E.enc = xs at *
    apply List.ext_getElem?
    intro j
    simp only [List.getElem?_append, List.getElem?_set, List.length_append, List.length_take, List.length_set, List.length_cons, List.length_nil, List.getElem?_take, List.getElem?_drop]
    have hm : min (i * 4) xs.length = i * 4 := by omega
    rw [hm]
    by_cases a0 : j < i * 4
    · simp [a0, show j < i * 4 + 4 from by omega, show ¬ i * 4 = j from by omega, show ¬ i * 4 + 1 = j from by omega, show ¬ i * 4 + 2 = j from by omega, show ¬ i * 4 + 3 = j from by omega]
    by_cases b0 : j = i * 4
    · subst b0; simp [hL, hi, show i * 4 < l.length * 4 from by omega, show i * 4 + 1 < l.length * 4 from by omega, show i * 4 + 2 < l.length * 4 from by omega, show i * 4 + 3 < l.length * 4 from by omega, show i * 4 + 1 - i * 4 = 1 from by omega, show i * 4 + 2 - i * 4 = 2 from by omega, show i * 4 + 3 - i * 4 = 3 from by omega, show ¬ (i * 4 + 1 < i * 4) from by omega, show ¬ (i * 4 + 2 < i * 4) from by omega, show ¬ (i * 4 + 3 < i * 4) from by omega]
    by_cases b1 : j = i * 4 + 1
    · subst b1; simp [hL, hi, show i * 4 < l.length * 4 from by omega, show i * 4 + 1 < l.length * 4 from by omega, show i * 4 + 2 < l.length * 4 from by omega, show i * 4 + 3 < l.length * 4 from by omega, show i * 4 + 1 - i * 4 = 1 from by omega, show i * 4 + 2 - i * 4 = 2 from by omega, show i * 4 + 3 - i * 4 = 3 from by omega, show ¬ (i * 4 + 1 < i * 4) from by omega, show ¬ (i * 4 + 2 < i * 4) from by omega, show ¬ (i * 4 + 3 < i * 4) from by omega]
    by_cases b2 : j = i * 4 + 2
    · subst b2; simp [hL, hi, show i * 4 < l.length * 4 from by omega, show i * 4 + 1 < l.length * 4 from by omega, show i * 4 + 2 < l.length * 4 from by omega, show i * 4 + 3 < l.length * 4 from by omega, show i * 4 + 1 - i * 4 = 1 from by omega, show i * 4 + 2 - i * 4 = 2 from by omega, show i * 4 + 3 - i * 4 = 3 from by omega, show ¬ (i * 4 + 1 < i * 4) from by omega, show ¬ (i * 4 + 2 < i * 4) from by omega, show ¬ (i * 4 + 3 < i * 4) from by omega]
    by_cases b3 : j = i * 4 + 3
    · subst b3; simp [hL, hi, show i * 4 < l.length * 4 from by omega, show i * 4 + 1 < l.length * 4 from by omega, show i * 4 + 2 < l.length * 4 from by omega, show i * 4 + 3 < l.length * 4 from by omega, show i * 4 + 1 - i * 4 = 1 from by omega, show i * 4 + 2 - i * 4 = 2 from by omega, show i * 4 + 3 - i * 4 = 3 from by omega, show ¬ (i * 4 + 1 < i * 4) from by omega, show ¬ (i * 4 + 2 < i * 4) from by omega, show ¬ (i * 4 + 3 < i * 4) from by omega]
    · have e1 : (i + 1) * 4 + (j - (i * 4 + 4)) = j := by omega
      have e2 : j - i * 4 = (j - (i * 4 + 4)) + 4 := by omega
      simp [a0, show ¬ j < i * 4 + 4 from by omega, show ¬ i * 4 = j from by omega, show ¬ i * 4 + 1 = j from by omega, show ¬ i * 4 + 2 = j from by omega, show ¬ i * 4 + 3 = j from by omega, e1]
theorem Own.some1 {b n cap : Nat} (h : Own E w base (.slice (some ⟨b, 0, none⟩) n cap) l) (i : Nat) (hi : i < l.length) (j : Nat) (hj : j < E.size) : ∃ u, w.cell? ⟨b, i * E.size + j, none⟩ = some u := by
  have h1 : i * E.size + j < l.length * E.size := by
    have : (i + 1) * E.size ≤ l.length * E.size := Nat.mul_le_mul_right _ hi
    rw [Nat.succ_mul] at this
    omega
  exact Option.isSome_iff_exists.1 (h.some3 _ h1).1
theorem Own.fz {b n cap : Nat} (h : Own E w base (.slice (some ⟨b, 0, none⟩) n cap) l) (hl : 0 < l.length) : ∀ j, w.frozen? ⟨b, j, none⟩ = false :=
  (h.some3 0 (Nat.mul_pos hl E.pos)).2
end
end Go.Proofs.Ytfmplmlilmalpaa
