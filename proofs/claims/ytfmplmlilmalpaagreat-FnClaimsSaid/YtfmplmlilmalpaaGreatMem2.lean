/- Mem2: slices of the calls' own, more: made ones, stores, bools. Nothing of the program but its types' numbers. No condition. -/
import Derived.Test.YtfmplmlilmalpaaGreatMem
set_option linter.unusedVariables false
set_option linter.unusedSimpArgs false
namespace Go.Proofs.YtfmplmlilmalpaaGreat
open Go.ChangeShapes Go.WideShapes Go.ChangeAt Go.RowKit Go.Sort
def fillCells (v : Value) (n : Nat) : Array Value := (List.replicate n v).toArray
theorem info_bool : (Tryz.prog.info? 4).map (fun i => (i.zero, i.size, i.bytes)) = some (some (.bool false), 1, 1) := by kernel_rfl
def EBool : Elt Bool where
  e := 4
  size := 1
  bytes := 1
  enc n := [.bool n]
  len _ := rfl
  one _ u hu := by simp at hu; subst hu; rfl
  pos := by decide
  small := by decide
  info := ⟨_, info_bool, rfl⟩
theorem madeCells_one (v : Value) (n : Nat) : madeCells #[v] n = fillCells v n := by
  apply Array.ext
  · simp [madeCells, fillCells]
  · intro i h1 h2
    have : i % 1 = 0 := Nat.mod_one i
    simp [madeCells, fillCells, this]
theorem run_make_bools (t : TypeId) (ht : Tryz.prog.underlying t = some (.slice 4)) (n : Int) (h0 : 0 ≤ n) (h1 : n ≤ 1099511627776) (w : World) :
    (Instr.makeSlice t (.int .i64 n) (.int .i64 n)).run Tryz.prog w = .ok (.slice (some ⟨w.heap.size, 0, none⟩) n.toNat n.toNat) (w.alloc (.cells (fillCells (.bool false) n.toNat) 4)) := by
  obtain ⟨i, hi, hz, hsize, hby⟩ := info_parts info_bool
  rw [run_make (P := Tryz.prog) w t 4 i (.bool false) ht hi hz .i64 .i64 n n h0 (Int.le_refl _) (by rw [hby]; omega) (by omega)]
  rw [hsize, Nat.mul_one]
  show Result.ok _ (w.alloc (.cells (madeCells #[.bool false] n.toNat) 4)) = _
  rw [madeCells_one]
section
variable {α : Type} {E : Elt α} {w w' : World} {base B : Nat} {v : Value} {l : List α}
theorem flat_one (hs : E.size = 1) (l : List α) : ∃ f : α → Value, (∀ x, E.enc x = [f x]) ∧ l.flatMap E.enc = l.map f := by
  have h : ∀ x, ∃ c, E.enc x = [c] := fun x => by
    have := E.len x
    rw [hs] at this
    match he : E.enc x, this with
    | [c], _ => exact ⟨c, rfl⟩
  refine ⟨fun x => Classical.choose (h x), fun x => Classical.choose_spec (h x), ?_⟩
  induction l with
  | nil => rfl
  | cons x r ih => rw [List.flatMap_cons, ih, Classical.choose_spec (h x)]; rfl
/-- A store of one element of one cell into a slice of the call's own. -/
theorem Own.store {b n cap : Nat} (h : Own E w base (.slice (some ⟨b, 0, none⟩) n cap) l) (hs : E.size = 1) (i : Nat) (hi : i < l.length) (x : α) (c : Value) (hc : E.enc x = [c]) :
    Own E (w.setCell ⟨b, i, none⟩ c) base (.slice (some ⟨b, 0, none⟩) n cap) (l.set i x) ∧ (w.cell? ⟨b, i, none⟩).isSome = true ∧ (∀ j, w.frozen? ⟨b, j, none⟩ = false) := by
  rcases h with ⟨rfl, _⟩ | h
  · simp at hi
  obtain ⟨hl, h2⟩ := h
  rcases h2 with ⟨hv, _⟩ | ⟨g, cap', cur, hv, hb, hg, hn, hc', hsz, hx⟩
  · cases hv
  simp only [Value.slice.injEq, Option.some.injEq, Addr.mk.injEq, and_true] at hv
  obtain ⟨rfl, rfl, rfl⟩ := hv
  have hil : i < cur.size := by rw [hsz, hs]; omega
  refine ⟨.inr ⟨by simp only [List.length_set]; exact flat_length E _ |>.trans (by simp), .inr ⟨b, cap, cur.setIfInBounds i c, by simp, hb, ?_, by simpa using hn, hc', by simpa using hsz, ?_⟩⟩, ?_, ?_⟩
  · simp [World.setCell, Array.getElem?_modify, hg]
  · obtain ⟨f, hf, hfl⟩ := flat_one hs l
    have hfs : (l.set i x).flatMap E.enc = (l.map f).set i c := by
      obtain ⟨f', hf', hfl'⟩ := flat_one hs (l.set i x)
      have : f' = f := funext fun y => by have := (hf' y).symm.trans (hf y); simpa using this
      rw [hfl', this, List.map_set]
      have : f x = c := by have := (hf x).symm.trans hc; simpa using this
      rw [this]
    rw [hfs, List.length_set, Array.toList_setIfInBounds, List.take_set, hx, hfl]
  · simp [World.cell?, hg, hil]
  · intro j; simp [World.frozen?, hg]
theorem Own.keepB (h : Own E w base v l) (hv : ∀ k, v.ownBlock = some k → k < B) (hb : Below B w w') : Own E w' base v l :=
  h.keep_of fun k _ _ hk => hb.block k (hv k hk)
theorem Own.fill (hs : E.size = 1) (x : α) (c : Value) (hc : E.enc x = [c]) (w : World) (n : Nat) (hn : n ≤ maxLen) :
    Own E (w.alloc (.cells (fillCells c n) E.e)) w.heap.size (.slice (some ⟨w.heap.size, 0, none⟩) n n) (List.replicate n x) := by
  right
  refine ⟨by rw [flat_length, List.length_replicate], .inr ⟨w.heap.size, n, fillCells c n, by simp, Nat.le_refl _, heap_alloc_new w _, by simp, hn, by simp [fillCells, hs], ?_⟩⟩
  obtain ⟨f, hf, hfl⟩ := flat_one hs (List.replicate n x)
  have : f x = c := by have := (hf x).symm.trans hc; simpa using this
  rw [hfl, List.map_replicate, this]
  simp [fillCells, hs]
/-- A slice literal of one element, whose block is the newest. -/
theorem Own.single (x : α) (w : World) (base : Nat) (hb : base ≤ w.heap.size) : Own E (w.alloc (.cells (E.enc x).toArray E.e)) base (.slice (some ⟨w.heap.size, 0, none⟩) 1 1) [x] := by
  right
  refine ⟨by rw [flat_length], .inr ⟨w.heap.size, 1, (E.enc x).toArray, by simp, hb, heap_alloc_new w _, by simp, by decide, by simp [E.len], ?_⟩⟩
  have := E.len x
  simp [← this]
end
theorem Own.bool {w : World} {base : Nat} {v : Value} {l : List Bool} (h : Own EBool w base v l) : ∃ a cap, v = .slice a l.length cap ∧ l.length ≤ 9223372036854775807 ∧
    ∀ i, i < l.length → ∃ b, a = some ⟨b, 0, none⟩ ∧ base ≤ b ∧ b < w.heap.size ∧ w.cell? ⟨b, i, none⟩ = some (.bool (l.getD i false)) := by
  obtain ⟨a, cap, hv, h1, h2, h3⟩ := h.form
  refine ⟨a, cap, hv, by unfold maxLen at h2; omega, fun i hi => ?_⟩
  obtain ⟨b, hb, h4, h5, h6⟩ := h3 i hi
  refine ⟨b, hb, h4, h5, ?_⟩
  have := h6 0 (by decide)
  rw [show i * EBool.size + 0 = i from by show i * 1 + 0 = i; omega] at this
  rw [this]
  simp [EBool, hi]
def RetBools (w : World) (l : List Bool) (e : Ending) (w' : World) : Prop := ∃ v, e = .returned v ∧ Own EBool w' w.heap.size v l ∧ Below w.heap.size w w'
end Go.Proofs.YtfmplmlilmalpaaGreat
