/- SortG: a slice of the calls' own across the sort's words ('Holds', 'putRow', 'grow'). Nothing of the program but its types' numbers. No condition. -/
import Derived.Test.YtfpofhkggojaoaaMem3
import Derived.Sort.Row
import Derived.Sort.Grow
set_option linter.unusedVariables false
set_option linter.unusedSimpArgs false
namespace Go.Proofs.Ytfpofhkggojaoaa
open Go.ChangeShapes Go.WideShapes Go.ChangeAt Go.RowKit Go.Sort
section
variable {α β : Type} [Inhabited β] {E : Elt α} {w : World} {base : Nat} {l l' : List α} {enc : β → Value}
theorem heap_sortedG {g n : Nat} {os : Array Obj} {cur : Array Value} {e : TypeId} {fr : Nat × Nat} (d : Array β) (hb : w.heap[g]? = some (.cells cur e fr)) :
    (grow (putRow enc (Sort.ahead w n) g 0 d) os).heap[g]? = some (.cells (putCells enc 0 d cur) e fr) := by
  have hg : g < w.heap.size := (Array.getElem?_eq_some_iff.1 hb).1
  rw [heap_grow_old _ _ (by simpa [putRow, mapBlock, Sort.ahead] using hg)]
  simp [putRow, mapBlock, Sort.ahead, Array.getElem?_modify, hb, onCells]
theorem grownBy_sortedG {g n : Nat} {os : Array Obj} (d : Array β) : w.grownBy (grow (putRow enc (Sort.ahead w n) g 0 d) os) (some g) := by
  refine ⟨rfl, rfl, rfl, by simp [putRow, mapBlock, Sort.ahead], fun k hk hne => ?_⟩
  rw [heap_grow_old _ _ (by simpa [putRow, mapBlock, Sort.ahead] using hk)]
  have : g ≠ k := fun e => hne (by rw [e])
  simp [putRow, mapBlock, Sort.ahead, Array.getElem?_modify, this]
/-- what the sort's contracts ask of a slice of the calls' own, and what they leave -/
theorem Own.sortable (hs : E.size = 1) {v : Value} (h : Own E w base v l) (hl : 0 < l.length) (d : Array β) (hd : l.flatMap E.enc = d.toList.map enc) :
    ∃ g cap, v = .slice (some ⟨g, 0, none⟩) l.length cap ∧ base ≤ g ∧ g < w.heap.size ∧ l.length ≤ cap ∧ d.size = l.length ∧ Holds enc w g 0 d ∧
      ∀ (d' : Array β) (l' : List α) (n : Nat) (os : Array Obj), d'.size = l.length → l'.flatMap E.enc = d'.toList.map enc →
        Own E (grow (putRow enc (Sort.ahead w n) g 0 d') os) base (.slice (some ⟨g, 0, none⟩) l.length cap) l' := by
  rcases h with ⟨rfl, _⟩ | h
  · simp at hl
  have hdl : d.size = l.length := by
    have h1 := congrArg List.length hd
    rw [flat_length, hs] at h1
    simpa using h1.symm
  rcases h.2 with ⟨_, hn⟩ | ⟨g, cap, cur, hv, hb, hg, h1, h2, h3, h4⟩
  · rw [hn] at hl; cases hl
  · have hcur : ∀ j, j < l.length → cur[j]? = some (enc d[j]!) := by
      intro j hj
      have h5 : (cur.toList.take (l.length * E.size))[j]? = (d.toList.map enc)[j]? := by rw [h4, hd]
      rw [List.getElem?_take_of_lt (by rw [hs]; omega), Array.getElem?_toList] at h5
      rw [h5]
      have : j < d.size := by omega
      simp [this]
    refine ⟨g, cap, hv, hb, (Array.getElem?_eq_some_iff.1 hg).1, h1, hdl, ?_, ?_⟩
    · intro j hj
      refine ⟨?_, by simp [World.frozen?, hg]⟩
      have := hcur j (by omega)
      simp [World.cell?, hg, this]
    · intro d' l' n os hd' hl'
      have hll : l'.length = l.length := by
        have h6 := congrArg List.length hl'
        rw [flat_length, hs] at h6
        simp at h6
        omega
      refine .inr ⟨by rw [flat_length], .inr ⟨g, cap, _, by rw [hll], hb, heap_sortedG _ hg, by omega, h2, by simp [putCells, h3], ?_⟩⟩
      rw [hl', hs, hll, Nat.mul_one]
      rw [hs] at h3
      apply List.ext_getElem?
      intro j
      by_cases hj : j < l.length
      · rw [List.getElem?_take_of_lt hj, Array.getElem?_toList]
        have : j < d'.size := by omega
        simp [putCells, show j < cur.size from by omega, this]
      · rw [List.getElem?_take_eq_none (by omega), List.getElem?_eq_none (by simp; omega)]
end
end Go.Proofs.Ytfpofhkggojaoaa
