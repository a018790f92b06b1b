/- LeastW: contracts of the counts of pegs, of the library's sort and compact of rows. Conditions: lengths in range. -/
import Derived.Test.YtfpofhkggojaoaaLeast0
import Derived.Test.YtfpofhkggojaoaaSortG
import Derived.Test.YtfpofhkggojaoaaShelfB
import Derived.Shelf.Slices.In.SortNone
import Derived.Lib.SlicesCompact
import Derived.Lib.RowBridge
set_option linter.unusedVariables false
set_option linter.unusedSimpArgs false
namespace Peg
theorem sorted_bytes (ss : List (List UInt8)) : (ss.mergeSort fun x y => decide (x ≤ y)).Pairwise fun x y => x ≤ y := by
  have h := List.pairwise_mergeSort (le := fun x y : List UInt8 => decide (x ≤ y)) (by
    intro a b c h1 h2
    simp only [decide_eq_true_eq] at *
    exact List.le_trans h1 h2) (by
    intro a b
    simp only [Bool.or_eq_true, decide_eq_true_eq]
    exact List.le_total a b) ss
  exact h.imp (by intro a b h; simpa using h)
theorem compact_sorted (zs : List (List UInt8)) (hs : zs.Pairwise fun x y => x ≤ y) : (Go.Lib.compact zs).Nodup ∧ ∀ x, x ∈ Go.Lib.compact zs ↔ x ∈ zs := by
  have hget : ∀ i j, i ≤ j → j < zs.length → zs.toArray[i]! ≤ zs.toArray[j]! := by
    intro i j hij hj
    have hi : i < zs.length := by omega
    rw [getElem!_pos zs.toArray i (by simpa using hi), getElem!_pos zs.toArray j (by simpa using hj)]
    by_cases e : i = j
    · subst e; exact List.le_refl _
    · exact (List.pairwise_iff_getElem.1 hs) i j hi hj (by omega)
  have key : ∀ m, m ≤ zs.length → (Go.Lib.compactUpTo zs.toArray m).Nodup ∧ ∀ x, x ∈ Go.Lib.compactUpTo zs.toArray m ↔ ∃ j, j < m ∧ zs.toArray[j]! = x := by
    intro m
    induction m with
    | zero => intro _; refine ⟨by simp [Go.Lib.compactUpTo], fun x => by simp [Go.Lib.compactUpTo]⟩
    | succ m ih =>
      intro hm
      obtain ⟨h1, h2⟩ := ih (by omega)
      rw [Go.Lib.compactUpTo_succ]
      by_cases hk : Go.Lib.keeps zs.toArray m = true
      · rw [if_pos hk]
        constructor
        · rw [List.nodup_append]
          refine ⟨h1, by simp, ?_⟩
          intro a ha b hb
          rw [List.mem_singleton.1 hb]
          intro e
          obtain ⟨j, hj, hj2⟩ := (h2 a).1 ha
          have hm0 : m ≠ 0 := by omega
          have hk2 : zs.toArray[m]! ≠ zs.toArray[m - 1]! := by simpa [Go.Lib.keeps, hm0] using hk
          apply hk2
          have l1 := hget j (m - 1) (by omega) (by omega)
          have l2 := hget (m - 1) m (by omega) (by omega)
          rw [hj2, e] at l1
          exact (List.le_antisymm l2 l1).symm
        · intro x
          rw [List.mem_append, h2]
          constructor
          · rintro (⟨j, hj, rfl⟩ | h)
            · exact ⟨j, by omega, rfl⟩
            · exact ⟨m, by omega, (List.mem_singleton.1 h).symm⟩
          · rintro ⟨j, hj, rfl⟩
            by_cases e : j = m
            · subst e; right; simp
            · left; exact ⟨j, by omega, rfl⟩
      · rw [if_neg hk, List.append_nil]
        refine ⟨h1, fun x => ?_⟩
        rw [h2]
        constructor
        · rintro ⟨j, hj, rfl⟩; exact ⟨j, by omega, rfl⟩
        · rintro ⟨j, hj, rfl⟩
          by_cases e : j = m
          · subst e
            have : j ≠ 0 ∧ zs.toArray[j]! = zs.toArray[j - 1]! := by simpa [Go.Lib.keeps] using hk
            exact ⟨j - 1, by omega, this.2.symm⟩
          · exact ⟨j, by omega, rfl⟩
  obtain ⟨h1, h2⟩ := key zs.length (Nat.le_refl _)
  refine ⟨h1, fun x => (h2 x).trans ?_⟩
  constructor
  · rintro ⟨j, hj, rfl⟩
    rw [getElem!_pos zs.toArray j (by simpa using hj)]
    simp
  · intro hx
    obtain ⟨j, hj, rfl⟩ := List.mem_iff_getElem.1 hx
    refine ⟨j, hj, ?_⟩
    rw [getElem!_pos zs.toArray j (by simpa using hj)]
    simp
def toB (l : List UInt8) : ByteArray := ⟨l.toArray⟩
theorem toB_toList (s : ByteArray) : toB s.data.toList = s := by unfold toB; rw [Array.toArray_toList]
theorem toB_data (l : List UInt8) : (toB l).data.toList = l := rfl
theorem toB_mem {l : List (List UInt8)} {m : List ByteArray} (h : ∀ x, x ∈ l ↔ x ∈ m.map (·.data.toList)) (x : ByteArray) : x ∈ l.map toB ↔ x ∈ m := by
  constructor
  · intro hx
    obtain ⟨y, hy, rfl⟩ := List.mem_map.1 hx
    obtain ⟨z, hz, rfl⟩ := List.mem_map.1 ((h y).1 hy)
    rw [toB_toList]; exact hz
  · intro hx
    exact List.mem_map.2 ⟨x.data.toList, (h _).2 (List.mem_map.2 ⟨x, hx, rfl⟩), toB_toList x⟩
end Peg
namespace Go.Proofs.Ytfpofhkggojaoaa
open Go.ChangeShapes Go.WideShapes Go.ChangeAt Go.RowKit Peg Go.Sort
section
variable {α β : Type} [Inhabited β] {E : Elt α} {w : World} {base : Nat} {l l' : List α} {enc : β → Value}
/-- the same where the slice that is handed back is shorter -/
theorem Own.sortable2 (hs : E.size = 1) {g cap : Nat} (h : Own E w base (.slice (some ⟨g, 0, none⟩) l.length cap) l) (hl : 0 < l.length) :
    ∀ (d' : Array β) (l' : List α) (n : Nat) (os : Array Obj), d'.size = l.length → l'.length ≤ l.length → l'.flatMap E.enc = (d'.toList.take l'.length).map enc →
        Own E (grow (putRow enc (Sort.ahead w n) g 0 d') os) base (.slice (some ⟨g, 0, none⟩) l'.length cap) l' := by
  rcases h with ⟨rfl, _⟩ | h
  · simp at hl
  rcases h.2 with ⟨hv, _⟩ | ⟨g', cap', cur, hv, hb, hg, h1, h2, h3, h4⟩
  · cases hv
  · simp only [Value.slice.injEq, Option.some.injEq, Addr.mk.injEq, true_and, and_true] at hv
    obtain ⟨rfl, rfl⟩ := hv
    intro d' l' n os hd' hll hl'
    refine .inr ⟨by rw [flat_length], .inr ⟨g, cap, _, rfl, hb, heap_sortedG _ hg, by omega, h2, by simp [putCells, h3], ?_⟩⟩
    rw [hl', hs, Nat.mul_one]
    rw [hs] at h3
    apply List.ext_getElem?
    intro j
    by_cases hj : j < l'.length
    · rw [List.getElem?_take_of_lt hj, Array.getElem?_toList]
      have : j < d'.size := by omega
      simp [putCells, show j < cur.size from by omega, this, hj]
    · rw [List.getElem?_take_eq_none (by omega), List.getElem?_eq_none (by simp; omega)]
end
theorem encStr_toB (l : List (List UInt8)) : (l.map toB).flatMap EStr.enc = l.map encStr := by
  induction l with
  | nil => rfl
  | cons x l ih => rw [List.map_cons, List.flatMap_cons, ih]; rfl
theorem encStr_of (l : List ByteArray) : l.flatMap EStr.enc = (l.map (·.data.toList)).map encStr := by
  have := encStr_toB (l.map (·.data.toList))
  rw [List.map_map] at this
  rw [← this]
  congr 1
  conv => lhs; rw [← List.map_id l]
  apply List.map_congr_left
  intro x _
  exact (toB_toList x).symm
theorem count_any (s : ByteArray) (w : World) : Calls Try.prog 141 #[.string s, .string ⟨#[111]⟩] w fun e w' => e = .returned (.int .i64 (pg s : Nat)) ∧ w = w' :=
  (Any.strings_Count_one Try.sl138 s 111 w).mono fun _ _ ⟨he, hw⟩ => ⟨he, hw.symm⟩
/-- slices.Sort of rows of the calls' own -/
theorem sortStr_any (v : Value) (l : List ByteArray) (w : World) {B : Nat} (hv : Own EStr w B v l) (hB : B ≤ w.heap.size) (hlen : l.length ≤ 1099511627776) :
    Calls Try.prog 142 #[v] w fun e w' => e = .returned (.tuple #[]) ∧ (∃ l' : List (List UInt8), Own EStr w' B v (l'.map toB) ∧ l'.length = l.length ∧ (l'.Pairwise fun x y => x ≤ y) ∧ (∀ x, x ∈ l' ↔ x ∈ l.map (·.data.toList))) ∧ Below B w w' := by
  rcases Nat.eq_zero_or_pos l.length with h0 | h0
  · obtain rfl := List.length_eq_zero_iff.1 h0
    obtain ⟨a, cap, rfl, _⟩ := hv.form
    refine (Any.slices_Sort_string_none Try.sl190 a cap w).mono fun e w' ⟨he, hw⟩ => ⟨he, ⟨[], ?_, rfl, List.Pairwise.nil, fun x => by simp⟩, ?_⟩
    · rw [hw]; exact hv
    · rw [hw]; exact Below.refl _ _
  · obtain ⟨g, cap, rfl, hg, hgs, hcap, hds, hH, hlast⟩ := hv.sortable rfl h0 (β := List UInt8) (enc := encStr) (l.map (·.data.toList)).toArray (by rw [encStr_of])
    have hc := Any.slices_Sort_string Try.sl190 g 0 cap (l.map (·.data.toList)) w hH hgs (by rw [List.length_map]; omega)
    rw [List.length_map] at hc
    refine hc.mono fun e w' ⟨he, n, os, hw⟩ => ⟨he, ⟨(l.map (·.data.toList)).mergeSort fun x y => decide (x ≤ y), ?_, by simp, sorted_bytes _, fun x => List.mem_mergeSort⟩, ?_⟩
    · rw [hw]
      exact hlast _ _ n os (by simp) (by rw [encStr_toB])
    · rw [hw]
      exact (Below.refl _ _).grown (grownBy_sortedG _) hB (fun k hk => by cases hk; exact hg)
/-- slices.Compact of sorted rows of the calls' own -/
theorem compactStr_any (v : Value) (l : List (List UInt8)) (w : World) {B : Nat} (hv : Own EStr w B v (l.map toB)) (hB : B ≤ w.heap.size) (hlen : l.length ≤ 1099511627776) (hs : l.Pairwise fun x y => x ≤ y) :
    Calls Try.prog 143 #[v] w fun e w' => (∃ (v' : Value) (l' : List (List UInt8)), e = .returned v' ∧ Own EStr w' B v' (l'.map toB) ∧ l'.Nodup ∧ (∀ x, x ∈ l' ↔ x ∈ l)) ∧ Below B w w' := by
  rcases Nat.eq_zero_or_pos l.length with h0 | h0
  · obtain rfl := List.length_eq_zero_iff.1 h0
    obtain ⟨a, cap, rfl, _⟩ := hv.form
    refine (Any.slices_Compact_string_empty Try.sl194 a cap w).mono fun e w' ⟨he, hw⟩ => ⟨⟨_, [], he, ?_, List.nodup_nil, fun x => Iff.rfl⟩, ?_⟩
    · rw [hw]; exact hv
    · rw [hw]; exact Below.refl _ _
  · have h0' : 0 < (l.map toB).length := by rw [List.length_map]; exact h0
    obtain ⟨g, cap, rfl, hg, hgs, hcap, hds, hH, _⟩ := hv.sortable rfl h0' (β := List UInt8) (enc := encStr) l.toArray (by rw [encStr_toB])
    rw [List.length_map] at hcap hds
    have hc := Any.slices_Compact_string Try.sl194 g 0 cap l w hH (by omega) hcap
    rw [List.length_map] at *
    obtain ⟨hn, hm⟩ := compact_sorted l hs
    have hle := Lib.compact_length_le l
    have e9 : (l.map toB).length = l.length := by simp
    have h2 : Own EStr w B (.slice (some ⟨g, 0, none⟩) (l.map toB).length cap) (l.map toB) := by rw [e9]; exact hv
    refine hc.mono fun e w' ⟨he, n, hw⟩ => ⟨⟨_, Lib.compact l, he, ?_, hn, hm⟩, ?_⟩
    · rw [hw]
      have h3 := h2.sortable2 rfl (by rw [e9]; exact h0) (β := List UInt8) (enc := encStr) (Lib.compact l ++ List.replicate (l.length - (Lib.compact l).length) []).toArray ((Lib.compact l).map toB) n #[] (by simp; omega) (by simp; exact hle) (by rw [encStr_toB, List.length_map]; simp)
      rw [grow_empty, List.length_map] at h3
      exact h3
    · rw [hw]
      have hgr := grownBy_sortedG (enc := encStr) (w := w) (g := g) (n := n) (os := #[]) (Lib.compact l ++ List.replicate (l.length - (Lib.compact l).length) []).toArray
      rw [grow_empty] at hgr
      exact (Below.refl _ _).grown hgr hB (fun k hk => by cases hk; exact hg)
end Go.Proofs.Ytfpofhkggojaoaa
