/- OpenS: an argument that is a slice reads as a list of its elements. No condition. -/
import Derived.Test.YtfmplmlilmalpaaGreatOpen
import Derived.Test.YtfmplmlilmalpaaGreatMem3
import Derived.Deep.Slices
set_option linter.unusedVariables false
set_option linter.unusedSimpArgs false
namespace Go.Proofs.YtfmplmlilmalpaaGreat
open Go.ChangeShapes Go.WideShapes Go.ChangeAt Go.RowKit
set_option maxRecDepth 100000
section
variable {H : Type} {enc : TypeId × Value → H} {W : World} {sp : Nat → Bool}
theorem rd_of_trod {α : Type} (E : Elt α) (ok : α → Prop) (x0 : α) {t e : TypeId} {fuel : Nat} {cs : List Value} {x : DataW H × List MemPlace} (ht : Tryz.prog.underlying t = some (.slice e)) (hC : Tryz.prog.cellsOf e = E.size)
    (hel : ∀ fuel cs x, DataW.trod enc Tryz.prog W 0 sp true fuel e cs = some x → ∃ y, cs = E.enc y ∧ ok y)
    (h : DataW.trod enc Tryz.prog W 0 sp true fuel t cs = some x) : ∃ v l, cs = [v] ∧ Rd E W v l ∧ ∀ y ∈ l, ok y := by
  rcases Go.Deep.open_slice ht h with ⟨hcs, _⟩ | ⟨a, len, cap, m, n, D, Pl, hcs, hb, hl, hm, hmm, hx, hi⟩
  · exact ⟨_, [], hcs, ⟨none, 0, rfl, by simp, fun i hi => by simp at hi⟩, by simp⟩
  have hlm : len ≤ m := by rw [hmm]; split <;> omega
  have hall : ∀ i, ∃ y, i < len → ok y ∧ a.block < W.heap.size ∧ ∀ j, j < E.size → W.cell? (a.add (i * E.size + j)) = (E.enc y)[j]? := by
    intro i
    by_cases hlt : i < len
    · obtain ⟨cs', hc, ht'⟩ := hi i (by omega)
      rw [hC] at hc
      obtain ⟨y, hy, hok⟩ := hel _ _ _ ht'
      obtain ⟨_, hcl, hat⟩ := World.cells?_some hc
      refine ⟨y, fun _ => ⟨hok, ?_, fun j hj => ?_⟩⟩
      · have h0 := hat 0 E.pos
        have hcl0 : cs'[0]? = some (cs'[0]'(by rw [hcl]; exact E.pos)) := List.getElem?_eq_getElem _
        rw [hcl0] at h0
        have := World.block_lt_of_cell? W _ h0
        rwa [add_block, add_block] at this
      · rw [← hy, ← hat j hj, add_of_add]
    · exact ⟨x0, fun h => absurd h hlt⟩
  refine ⟨_, (List.range len).map fun i => Classical.choose (hall i), hcs, ⟨some a, cap, by simp, by unfold maxLen at hm; simp; omega, fun i hi' => ?_⟩, ?_⟩
  · have hlt : i < len := by simpa using hi'
    obtain ⟨_, h1, h2⟩ := Classical.choose_spec (hall i) hlt
    refine ⟨a, rfl, h1, fun j hj => ?_⟩
    simpa using h2 j hj
  · intro y hy
    simp only [List.mem_map, List.mem_range] at hy
    obtain ⟨i, hlt, rfl⟩ := hy
    exact (Classical.choose_spec (hall i) hlt).1
theorem arg_rd {α : Type} (E : Elt α) (ok : α → Prop) (x0 : α) {t e : TypeId} {v : Value} {d : DataW H} {p : List MemPlace} {b0 : Nat} (ht : Tryz.prog.underlying t = some (.slice e)) (hC : Tryz.prog.cellsOf e = E.size)
    (hel : ∀ fuel cs x, DataW.trod enc Tryz.prog W 0 sp true fuel e cs = some x → ∃ y, cs = E.enc y ∧ ok y)
    (hv : Value.okWide Tryz.prog W .any b0 t v) (h : DataW.Trod enc Tryz.prog W 0 sp true t v d p) : ∃ l, Rd E W v l ∧ ∀ y ∈ l, ok y := by
  obtain ⟨a, len, cap, rfl⟩ := okWide_slice ht hv
  obtain ⟨fuel, hf⟩ := h
  obtain ⟨v', l, e, h1, h2⟩ := rd_of_trod E ok x0 ht hC hel hf
  simp [Value.cells] at e
  subst e
  exact ⟨l, h1, h2⟩
def LnWf (l : Peg.Ln) : Prop := (Lit.int .i64 l.f).wf = true ∧ (Lit.int .i64 l.o).wf = true ∧ (Lit.int .i64 l.t).wf = true
def IntWf (n : Int) : Prop := (Lit.int .i64 n).wf = true
theorem arg_IntS {v : Value} {d : DataW H} {p : List MemPlace} {b0 : Nat} (hv : Value.okWide Tryz.prog W .any b0 29 v) (h : DataW.Trod enc Tryz.prog W 0 sp true 29 v d p) : ∃ l, Rd EInt W v l ∧ ∀ y ∈ l, IntWf y :=
  arg_rd EInt IntWf 0 Tryz.underlying29 cells_int (fun fuel cs x hx => by
    obtain ⟨a0, e0, _, w0⟩ := DataW.trod_int Tryz.underlying3 hx
    exact ⟨a0, e0, w0⟩) hv h
end
end Go.Proofs.YtfmplmlilmalpaaGreat
