/- ReadG1: the cell that the library's search looks at, strings.Split at one byte; plain: jumps word by word. Conditions: the text's length in range. -/
import Derived.Test.YtkaojpcpfbbicaaDoorReadG0
import Derived.Test.YtkaojpcpfbbicaaDoorShelfS
import Derived.Test.YtkaojpcpfbbicaaDoorMem3
set_option linter.unusedVariables false
set_option linter.unusedSimpArgs false
namespace Peg
theorem spl_part (c : UInt8) : ∀ (s w : List UInt8), w ∈ spl c s → w.length ≤ s.length
  | [], w, h => by simp [spl] at h; subst h; simp
  | x :: s, w, h => by
    unfold spl at h
    split at h
    · rcases List.mem_cons.1 h with rfl | h
      · simp
      · have := spl_part c s w h; simp; omega
    · split at h
      · rename_i v r e
        rcases List.mem_cons.1 h with rfl | h
        · have := spl_part c s v (by rw [e]; simp); simp; omega
        · have := spl_part c s w (by rw [e]; simp [h]); simp; omega
      · simp at h; subst h; simp
theorem spl_count (c : UInt8) : ∀ (s : List UInt8), (spl c s).length ≤ s.length + 1
  | [] => by simp [spl]
  | x :: s => by
    have ih := spl_count c s
    unfold spl
    split
    · simp; omega
    · split
      · rename_i v r e
        rw [e] at ih
        simp at ih ⊢; omega
      · simp
theorem wordJ_none (lb : List UInt8 → List UInt8 → Option Ln) (r : List (List UInt8)) : ∀ ms, wordJ lb ms = none → wordJ lb (ms ++ r) = none
  | [], h => by simp [wordJ] at h
  | [x], h => by simp [wordJ] at h
  | x :: y :: ms, h => by
    rw [wordJ_two] at h
    show wordJ lb (x :: y :: (ms ++ r)) = none
    rw [wordJ_two]
    cases e : lb x y with
    | none => rfl
    | some l =>
      rw [e] at h
      simp only at h ⊢
      have h2 : wordJ lb (y :: ms) = none := by simpa using h
      have := wordJ_none lb r (y :: ms) h2
      simp only [List.cons_append] at this
      rw [this]
      rfl
theorem wordJ_next {lb : List UInt8 → List UInt8 → Option Ln} {NS : List (List UInt8)} {k : Nat} {B : List Ln} (h1 : 1 ≤ k) (hk : k < NS.length) (h : wordJ lb (NS.take k) = some B) :
    wordJ lb (NS.take (k + 1)) = (lb (gD NS [] (k - 1)) (gD NS [] k)).map fun l => B ++ [l] := by
  obtain ⟨m, rfl⟩ : ∃ m, k = m + 1 := ⟨k - 1, by omega⟩
  have e1 : NS.take (m + 1) = NS.take m ++ [gD NS [] m] := take_gD NS [] m (by omega)
  have e2 : NS.take (m + 1 + 1) = NS.take m ++ [gD NS [] m] ++ [gD NS [] (m + 1)] := by rw [take_gD NS [] (m + 1) hk, e1]
  rw [e1] at h
  rw [e2, wordJ_snoc, h]
  rfl
theorem wordJ_fail {lb : List UInt8 → List UInt8 → Option Ln} {NS : List (List UInt8)} {k : Nat} {B : List Ln} (h1 : 1 ≤ k) (hk : k < NS.length) (h : wordJ lb (NS.take k) = some B) (hn : lb (gD NS [] (k - 1)) (gD NS [] k) = none) : wordJ lb NS = none := by
  have h2 := wordJ_next h1 hk h
  rw [hn] at h2
  have := wordJ_none lb (NS.drop (k + 1)) _ h2
  rwa [List.take_append_drop] at this
theorem textJ_next {lb : List UInt8 → List UInt8 → Option Ln} {WS : List (List UInt8)} {i : Nat} {A : List Ln} (hi : i < WS.length) (h : textJ lb (WS.take i) = some A) :
    textJ lb (WS.take (i + 1)) = (wordJ lb (spl 45 (gD WS [] i))).map (A ++ ·) := by
  rw [take_gD WS [] i hi, textJ_append, h, textJ_one]
  rfl
theorem textJ_fail {lb : List UInt8 → List UInt8 → Option Ln} {WS : List (List UInt8)} {i : Nat} {A : List Ln} (hi : i < WS.length) (h : textJ lb (WS.take i) = some A) (hn : wordJ lb (spl 45 (gD WS [] i)) = none) : textJ lb WS = none := by
  have h2 := textJ_next hi h
  rw [hn] at h2
  have e := textJ_append lb (WS.drop (i + 1)) (WS.take (i + 1))
  rw [List.take_append_drop, h2] at e
  rw [e]; rfl
theorem wordJ_len {lb : List UInt8 → List UInt8 → Option Ln} : ∀ {ms : List (List UInt8)} {B : List Ln}, wordJ lb ms = some B → B.length + 1 ≤ ms.length + 1
  | [], B, h => by simp [wordJ] at h; subst h; simp
  | [x], B, h => by simp [wordJ] at h; subst h; simp
  | x :: y :: ms, B, h => by
    rw [wordJ_two] at h
    cases e : lb x y with
    | none => simp [e] at h
    | some l =>
      simp only [e] at h
      cases e2 : wordJ lb (y :: ms) with
      | none => simp [e2] at h
      | some C =>
        simp [e2] at h
        subst h
        have := wordJ_len e2
        simp at this ⊢; omega
end Peg
namespace Go.Proofs.YtkaojpcpfbbicaaDoor
open Go.ChangeShapes Go.WideShapes Go.ChangeAt Go.RowKit Peg Go.Sort
/-- the cell of the search's longest piece -/
def MaxCell (W : World) : Prop := ∃ m, W.cell? ⟨Tryd.slM146_ren.g 1, 0, none⟩ = some (.int .i64 m) ∧ Tryd.slM146_ren.g 1 < W.heap.size
theorem MaxCell.of (W : World) (h : W.ShapedOpen Tryd.prog) : MaxCell W := by
  obtain ⟨m, hm⟩ := Tryd.slM146.s1_3 W h
  refine ⟨m, hm, ?_⟩
  rcases Nat.lt_or_ge (Tryd.slM146_ren.g 1) W.heap.size with h1 | h1
  · exact h1
  · simp [World.cell?, Array.getElem?_eq_none h1] at hm
theorem MaxCell.keep {W W' : World} (h : MaxCell W) (hb : Below W.heap.size W W') : MaxCell W' := by
  obtain ⟨m, hm, hl⟩ := h
  exact ⟨m, (hb.cell (p := ⟨Tryd.slM146_ren.g 1, 0, none⟩) hl).trans hm, Nat.lt_of_lt_of_le hl hb.size⟩
def RetRG (w : World) (r : Option (List Ln)) (e : Ending) (w' : World) : Prop := ∃ v, e = .returned (.tuple #[v, .bool r.isSome]) ∧ Own ELine w' w.heap.size v (r.getD []) ∧ Below w.heap.size w w'
def RetSplit (W : World) (c : UInt8) (s : ByteArray) (e : Ending) (W' : World) : Prop :=
  ∃ WS : List ByteArray, WS.map (·.data.toList) = spl c s.data.toList ∧ e = .returned (.slice (some ⟨W.heap.size, 0, none⟩) WS.length WS.length) ∧ (∀ i, i < WS.length → W'.cell? ⟨W.heap.size, i, none⟩ = some (.string (gD WS ⟨#[]⟩ i))) ∧ W.heap.size < W'.heap.size ∧ Below W.heap.size W W'
theorem Split_any (c : UInt8) (s : ByteArray) (hs : s.size ≤ 1048576) (W : World) (hm : MaxCell W) :
    Calls Tryd.prog 53 #[.string s, .string ⟨#[c]⟩] W (RetSplit W c s) := by
  obtain ⟨m, hm, hl⟩ := hm
  refine (Any.strings_Split { Tryd.slM146 with } Tryd.slM146.i9 s ⟨#[c]⟩ m W (by omega) hm (by simp [ByteArray.size])).mono ?_
  rintro e w' ⟨rfl, rfl⟩
  have hlen := splitB_spl_len c s
  refine ⟨Lib.splitB ⟨#[c]⟩ 0 (Lib.countB s ⟨#[c]⟩) s, splitB_spl c s, by rw [hlen], fun i hi => ?_, by simp, (Below.refl _ _).alloc (Nat.le_refl _) _⟩
  simp [hi, gD]
end Go.Proofs.YtkaojpcpfbbicaaDoor
