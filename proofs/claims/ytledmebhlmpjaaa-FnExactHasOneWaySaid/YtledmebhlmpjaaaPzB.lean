/- PzB: several texts in one (Mem, Mem2, Mem3). Conditions: those that each theorem names. -/
import Derived.Test.YtledmebhlmpjaaaPzA
import Derived.Laws.OwnMore
import Derived.Maps.AppendAt
set_option linter.unusedVariables false
set_option linter.unusedSimpArgs false
namespace Go.Proofs.Ytledmebhlmpjaaa
open Go.ChangeShapes Go.WideShapes Go.ChangeAt Go.RowKit Go.Sort

/-- An element type of slices: its number, its cells, how a value of the plain type lies in cells. -/
structure Elt (α : Type) where
  e : TypeId
  size : Nat
  bytes : Nat
  enc : α → List Value
  len : ∀ x, (enc x).length = size
  one : ∀ x, ∀ u ∈ enc x, u.oneCell' = true
  pos : 0 < size
  small : bytes ≤ 64
  info : ∃ z, (Try.prog.info? e).map (fun i => (i.zero, i.size, i.bytes)) = some (some z, size, bytes) ∧ z.cells.size = size

/-- The slice value v, in the world w, is of the call's own (its block is 'base' or later) and reads as the list l. -/
def Own {α : Type} (E : Elt α) (w : World) (base : Nat) (v : Value) (l : List α) : Prop := (l = [] ∧ ∃ a, v = .slice a 0 0) ∨ w.ownsRow base E.e E.size v l.length (l.flatMap E.enc)
theorem run_append_cap0 {P : Program} (w : World) (t ty e : TypeId) (i : TypeInfo) (z : Value) (ht : P.underlying t = some (.slice e)) (hi : P.info? e = some i) (hz : i.zero = some z)
    (a0 : Option Addr) (a : Addr) (n c : Nat) (news : List Value) (hl : news.length = n * i.size) (hnews : ∀ j v, news[j]? = some v → w.cell? (a.add j) = some v)
    (h0 : 0 < n) (h63 : (n : Int) ≤ 9223372036854775807) (h48 : n * i.bytes ≤ 281474976710656) :
    (Builtin.append_ #[t, t] ty #[.slice a0 0 0, .slice (some a) n c]).run P w = (Builtin.append_ #[t, t] ty #[.slice none 0 0, .slice (some a) n c]).run P w := by
  rcases a0 with _ | a0
  · rfl
  · rw [run_append_nil (P := P) w t ty e i z ht hi hz a n c news hl hnews h0 h63 h48]
    rw [run_append_grow (P := P) w t ty e i z ht hi hz a0 0 0 [] (by simp) (by simp) a n c news hl hnews (by omega) (by omega) (by rw [Nat.zero_add, nextslicecap_zero h0]; omega)]
    simp

section
variable {α : Type} {E : Elt α} {w w' : World} {base B : Nat} {v : Value} {l : List α}

theorem flat_length (E : Elt α) (l : List α) : (l.flatMap E.enc).length = l.length * E.size := by
  induction l with
  | nil => simp
  | cons x r ih => simp [ih, E.len, Nat.add_mul]; omega
theorem flat_get (E : Elt α) : ∀ (l : List α) (i j : Nat) (h : i < l.length), j < E.size → (l.flatMap E.enc)[i * E.size + j]? = (E.enc l[i])[j]? := by
  intro l
  induction l with
  | nil => intro i j h; simp at h
  | cons x r ih =>
    intro i j h hj
    rw [List.flatMap_cons]
    cases i with
    | zero => rw [List.getElem?_append_left (by rw [E.len]; omega)]; simp
    | succ i =>
      rw [List.getElem?_append_right (by rw [E.len, Nat.succ_mul]; omega), E.len]
      have : (i + 1) * E.size + j - E.size = i * E.size + j := by rw [Nat.succ_mul]; omega
      rw [this, ih i j (by simpa using h) hj]
      rfl

theorem Own.emptyAny (E : Elt α) (w : World) (base : Nat) (a : Option Addr) : Own E w base (.slice a 0 0) [] := .inl ⟨rfl, a, rfl⟩
theorem Own.nil (E : Elt α) (w : World) (base : Nat) : Own E w base (.slice none 0 0) [] := Own.emptyAny E w base none
theorem Own.mono (h : Own E w base v l) (hb : B ≤ base) : Own E w B v l := h.imp id fun h => Joins.ownsRow_le h hb
theorem Own.keep_of (h : Own E w base v l) (hs : ∀ k, base ≤ k → k < w.heap.size → v.ownBlock = some k → w'.heap[k]? = w.heap[k]?) : Own E w' base v l := by
  rcases h with h | h
  · exact .inl h
  refine .inr ⟨h.1, ?_⟩
  rcases h.2 with hn | ⟨g, cap, cur, hv, hb, hg, r⟩
  · exact .inl hn
  · have hlt : g < w.heap.size := by
      rcases Nat.lt_or_ge g w.heap.size with h' | h'
      · exact h'
      · rw [Array.getElem?_eq_none h'] at hg; cases hg
    exact .inr ⟨g, cap, cur, hv, hb, by rw [hs g hb hlt (by rw [hv]; rfl)]; exact hg, r⟩
theorem Own.keep (h : Own E w base v l) (hb : Below w.heap.size w w') : Own E w' base v l :=
  h.keep_of fun k _ hk _ => hb.block k hk
theorem Own.alloc (h : Own E w base v l) (o : Obj) : Own E (w.alloc o) base v l := h.keep ((Below.refl _ _).alloc (Nat.le_refl _) _)
/-- a slice whose block lies below B stays as it is where below B nothing is written -/
theorem Own.later {w0 : World} (h : Own E w0 base v l) (h0 : w0.heap.size ≤ B) (hb : Below B w0 w) : Own E w base v l := h.keep (hb.mono h0)
theorem Own.grown (h : Own E w base v l) {row : Option Nat} (hg : w.grownBy w' row) (hne : v.ownBlock ≠ row ∨ row = none) : Own E w' base v l :=
  h.keep_of fun k _ hk hv => hg.block k hk (fun e => by
    rcases hne with h' | h'
    · exact h' (hv.trans e)
    · rw [h'] at e; cases e)
theorem Own.setCell (h : Own E w base v l) {a : Addr} (ha : v.ownBlock ≠ some a.block) (u : Value) : Own E (w.setCell a u) base v l :=
  h.keep_of fun k _ _ hk => Below.heap_setCell _ _ _ _ (fun e => ha (by rw [hk, e]))

/-- The slice's form: its length is the list's; element i's cell j. -/
theorem Own.form (h : Own E w base v l) : ∃ a cap, v = .slice a l.length cap ∧ l.length ≤ cap ∧ cap ≤ maxLen ∧
    ∀ i (hi : i < l.length), ∃ b, a = some ⟨b, 0, none⟩ ∧ base ≤ b ∧ b < w.heap.size ∧ ∀ j, j < E.size → w.cell? ⟨b, i * E.size + j, none⟩ = (E.enc l[i])[j]? := by
  rcases h with ⟨rfl, a, rfl⟩ | h
  · exact ⟨a, 0, rfl, by simp, by decide, fun i hi => by simp at hi⟩
  rcases h.2 with ⟨hv, hn⟩ | ⟨g, cap, cur, hv, hb, hg, hl, hc, hsz, hx⟩
  · refine ⟨none, 0, by rw [hv, hn], by omega, by decide, fun i hi => ?_⟩
    omega
  · refine ⟨_, cap, hv, hl, hc, fun i hi => ⟨g, rfl, hb, ?_, fun j hj => ?_⟩⟩
    · rcases Nat.lt_or_ge g w.heap.size with h' | h'
      · exact h'
      · rw [Array.getElem?_eq_none h'] at hg; cases hg
    · rw [← flat_get E l i j hi hj, ← hx]
      have h1 : i * E.size + j < l.length * E.size := by
        have : (i + 1) * E.size ≤ l.length * E.size := Nat.mul_le_mul_right _ hi
        rw [Nat.succ_mul] at this
        omega
      rw [List.getElem?_take_of_lt h1]
      simp [World.cell?, hg]

/-- append of one element to a slice of the call's own: the element lies in the newest block. -/
theorem append1 {P : Program} (hP : P = Try.prog) {ops : Array Oper} {rest : List Oper} {o : Oper} {a : Act} {Q : Exit → Act → World → Prop} (hgd : o.guard = none) (s x : Operand) (t : TypeId)
    (ho : o.op = .call { callee := .builtin .append, args := #[s, x], argTypes := #[t, t] }) (ht : P.underlying t = some (.slice E.e))
    (hs : a.eval s = v) (hown : Own E w base v l) (y : α) {c : Nat} (hx : a.eval x = .slice (some ⟨w.heap.size, 0, none⟩) 1 c) (hlen : l.length ≤ 1099511627776) (hbase : base ≤ w.heap.size)
    (h : ∀ v' w', Own E w' base v' (l ++ [y]) → Below base w w' → (w.alloc (.cells (E.enc y).toArray E.e)).grownBy w' v.ownBlock → wpList P ops Q rest (a.put o.dst v') w') :
    wpList P ops Q (o :: rest) a (w.alloc (.cells (E.enc y).toArray E.e)) := by
  subst hP
  obtain ⟨z, hi0, hzc⟩ := E.info
  obtain ⟨i, hi, hz, hsize, hby⟩ := info_parts hi0
  have hnews : ∀ j u, (E.enc y)[j]? = some u → (w.alloc (.cells (E.enc y).toArray E.e)).cell? ((⟨w.heap.size, 0, none⟩ : Addr).add j) = some u := by
    intro j u hu
    have : (w.alloc (.cells (E.enc y).toArray E.e)).cell? ⟨w.heap.size, j, none⟩ = (E.enc y).toArray[j]? := World.cell?_alloc_new w _ _ _
    have e : (⟨w.heap.size, 0, none⟩ : Addr).add j = ⟨w.heap.size, j, none⟩ := by cases j <;> simp [Addr.add]
    rw [e, this]
    simpa using hu
  have h1 := E.small
  have hbb : (l.length + 1) * E.bytes ≤ (1099511627776 + 1) * 64 := Nat.mul_le_mul (by omega) h1
  rcases hown with ⟨rfl, a0, rfl⟩ | hown
  · obtain ⟨v', w', hr, h2, h3, h4⟩ := run_append_own (P := Try.prog) (w.alloc (.cells (E.enc y).toArray E.e)) base t o.type E.e i z E.size E.bytes ht hi hz hsize hby hzc E.pos (.slice none 0 0) 0 [] (World.ownsRow_nil _ _ _ _) ⟨w.heap.size, 0, none⟩ 1 c (E.enc y) (by simp [E.len]) hnews (E.one y) (by decide) (by simp at hbb; omega) (by simp; omega)
    have h3' : (w.alloc (.cells (E.enc y).toArray E.e)).grownBy w' none := h3
    refine wpList_plain hgd fun K hK => ?_
    have hc0 := run_append_cap0 (P := Try.prog) (w.alloc (.cells (E.enc y).toArray E.e)) t o.type E.e i z ht hi hz a0 ⟨w.heap.size, 0, none⟩ 1 c (E.enc y) (by simp [E.len, hsize]) hnews (by decide) (by decide) (by rw [hby]; omega)
    unfold Oper.wp execOp
    simp only [ho, resolve, invoke, builtin, Sem.run_bind, Sem.run_pure, Result.andThen_ok, List.map_toArray, List.map_cons, List.map_nil, hs, hx, hc0, hr]
    refine hK _ _ (h v' w' ?_ ?_ ?_)
    · right
      show w'.ownsRow base E.e E.size v' ([] ++ [y]).length (([] ++ [y]).flatMap E.enc)
      simpa using h2
    · exact ((Below.refl base w).alloc hbase _).grown h3' (by simp; omega) (fun k hk => by cases hk)
    · exact ⟨h3.os, h3.tape, h3.output, h3.size, fun k hk _ => h3'.block k hk (by simp)⟩
  · have hown' := World.ownsRow.alloc hown (.cells (E.enc y).toArray E.e)
    refine wpList_append_own _ hgd s x t ho base E.e i z E.size E.bytes ht hi hz hsize hby hzc E.pos v l.length (l.flatMap E.enc) hs hown' ⟨w.heap.size, 0, none⟩ 1 c (E.enc y) hx (by simp [E.len]) hnews (E.one y) ?_ ?_ ?_ ?_
    · unfold maxLen; omega
    · omega
    · simp; omega
    · intro v' w' h1 h2 _
      refine h v' w' ?_ ?_ h2
      · right
        show w'.ownsRow base E.e E.size v' (l ++ [y]).length ((l ++ [y]).flatMap E.enc)
        simpa using h1
      · exact ((Below.refl base w).alloc hbase _).grown h2 (by simp; omega) (fun k hk => (World.ownsRow.lt hown k hk).1)
end

theorem info_int : (Try.prog.info? 3).map (fun i => (i.zero, i.size, i.bytes)) = some (some (.int .i64 0), 1, 8) := by kernel_rfl
def EInt : Elt Int where
  e := 3
  size := 1
  bytes := 8
  enc n := [.int .i64 n]
  len _ := rfl
  one _ u hu := by simp at hu; subst hu; rfl
  pos := by decide
  small := by decide
  info := ⟨_, info_int, rfl⟩
/-- ints -/
theorem Own.int {w : World} {base : Nat} {v : Value} {l : List Int} (h : Own EInt w base v l) : ∃ a cap, v = .slice a l.length cap ∧ l.length ≤ 9223372036854775807 ∧
    ∀ i, i < l.length → ∃ b, a = some ⟨b, 0, none⟩ ∧ base ≤ b ∧ b < w.heap.size ∧ w.cell? ⟨b, i, none⟩ = some (.int .i64 (l.getD i 0)) := by
  obtain ⟨a, cap, hv, h1, h2, h3⟩ := h.form
  refine ⟨a, cap, hv, by unfold maxLen at h2; omega, fun i hi => ?_⟩
  obtain ⟨b, hb, h4, h5, h6⟩ := h3 i hi
  refine ⟨b, hb, h4, h5, ?_⟩
  have := h6 0 (by decide)
  rw [show i * EInt.size + 0 = i from by show i * 1 + 0 = i; omega] at this
  rw [this]
  simp [EInt, hi]
/-- What a call that hands back a slice of ints leaves. -/
def RetInts (w : World) (l : List Int) (e : Ending) (w' : World) : Prop := ∃ v, e = .returned v ∧ Own EInt w' w.heap.size v l ∧ Below w.heap.size w w'
theorem info_line : (Try.prog.info? 47).map (fun i => (i.zero, i.size, i.bytes)) = some (some (.agg #[.int .i64 0, .int .i64 0, .int .i64 0]), 3, 24) := by kernel_rfl
def ELine : Elt Peg.Ln where
  e := 47
  size := 3
  bytes := 24
  enc x := [.int .i64 x.f, .int .i64 x.o, .int .i64 x.t]
  len _ := rfl
  one _ u hu := by simp at hu; rcases hu with rfl | rfl | rfl <;> rfl
  pos := by decide
  small := by decide
  info := ⟨_, info_line, rfl⟩
theorem Own.line {w : World} {base : Nat} {v : Value} {l : List Peg.Ln} (h : Own ELine w base v l) : ∃ a cap, v = .slice a l.length cap ∧ l.length ≤ 9223372036854775807 ∧
    ∀ i, i < l.length → ∃ b, a = some ⟨b, 0, none⟩ ∧ base ≤ b ∧ b < w.heap.size ∧ w.cell? ⟨b, i * 3, none⟩ = some (.int .i64 (l.getD i Peg.Ln0).f) ∧ w.cell? ⟨b, i * 3 + 1, none⟩ = some (.int .i64 (l.getD i Peg.Ln0).o) ∧ w.cell? ⟨b, i * 3 + 2, none⟩ = some (.int .i64 (l.getD i Peg.Ln0).t) := by
  obtain ⟨a, cap, hv, h1, h2, h3⟩ := h.form
  refine ⟨a, cap, hv, by unfold maxLen at h2; omega, fun i hi => ?_⟩
  obtain ⟨b, hb, h4, h5, h6⟩ := h3 i hi
  exact ⟨b, hb, h4, h5, by simpa [ELine, hi] using h6 0 (by decide), by simpa [ELine, hi] using h6 1 (by decide), by simpa [ELine, hi] using h6 2 (by decide)⟩
def RetLines (w : World) (l : List Peg.Ln) (e : Ending) (w' : World) : Prop := ∃ v, e = .returned v ∧ Own ELine w' w.heap.size v l ∧ Below w.heap.size w w'
end Go.Proofs.Ytledmebhlmpjaaa
namespace Go.Proofs.Ytledmebhlmpjaaa
open Go.ChangeShapes Go.WideShapes Go.ChangeAt Go.RowKit Go.Sort
def fillCells (v : Value) (n : Nat) : Array Value := (List.replicate n v).toArray
theorem info_bool : (Try.prog.info? 4).map (fun i => (i.zero, i.size, i.bytes)) = some (some (.bool false), 1, 1) := by kernel_rfl
def EBool : Elt Bool where
  e := 4
  size := 1
  bytes := 1
  enc n := [.bool n]
  len _ := rfl
  one _ u hu := by simp at hu; subst hu; rfl
  pos := by decide
  small := by decide
  info := ⟨_, info_bool, rfl⟩
theorem madeCells_one (v : Value) (n : Nat) : madeCells #[v] n = fillCells v n := by
  apply Array.ext
  · simp [madeCells, fillCells]
  · intro i h1 h2
    have : i % 1 = 0 := Nat.mod_one i
    simp [madeCells, fillCells, this]
theorem run_make_bools (t : TypeId) (ht : Try.prog.underlying t = some (.slice 4)) (n : Int) (h0 : 0 ≤ n) (h1 : n ≤ 1099511627776) (w : World) :
    (Instr.makeSlice t (.int .i64 n) (.int .i64 n)).run Try.prog w = .ok (.slice (some ⟨w.heap.size, 0, none⟩) n.toNat n.toNat) (w.alloc (.cells (fillCells (.bool false) n.toNat) 4)) := by
  obtain ⟨i, hi, hz, hsize, hby⟩ := info_parts info_bool
  rw [run_make (P := Try.prog) w t 4 i (.bool false) ht hi hz .i64 .i64 n n h0 (Int.le_refl _) (by rw [hby]; omega) (by omega)]
  rw [hsize, Nat.mul_one]
  show Result.ok _ (w.alloc (.cells (madeCells #[.bool false] n.toNat) 4)) = _
  rw [madeCells_one]
section
variable {α : Type} {E : Elt α} {w w' : World} {base B : Nat} {v : Value} {l : List α}
theorem flat_one (hs : E.size = 1) (l : List α) : ∃ f : α → Value, (∀ x, E.enc x = [f x]) ∧ l.flatMap E.enc = l.map f := by
  have h : ∀ x, ∃ c, E.enc x = [c] := fun x => by
    have := E.len x
    rw [hs] at this
    match he : E.enc x, this with
    | [c], _ => exact ⟨c, rfl⟩
  refine ⟨fun x => Classical.choose (h x), fun x => Classical.choose_spec (h x), ?_⟩
  induction l with
  | nil => rfl
  | cons x r ih => rw [List.flatMap_cons, ih, Classical.choose_spec (h x)]; rfl
/-- A store of one element of one cell into a slice of the call's own. -/
theorem Own.store {b n cap : Nat} (h : Own E w base (.slice (some ⟨b, 0, none⟩) n cap) l) (hs : E.size = 1) (i : Nat) (hi : i < l.length) (x : α) (c : Value) (hc : E.enc x = [c]) :
    Own E (w.setCell ⟨b, i, none⟩ c) base (.slice (some ⟨b, 0, none⟩) n cap) (l.set i x) ∧ (w.cell? ⟨b, i, none⟩).isSome = true ∧ (∀ j, w.frozen? ⟨b, j, none⟩ = false) := by
  rcases h with ⟨rfl, _⟩ | h
  · simp at hi
  obtain ⟨hl, h2⟩ := h
  rcases h2 with ⟨hv, _⟩ | ⟨g, cap', cur, hv, hb, hg, hn, hc', hsz, hx⟩
  · cases hv
  simp only [Value.slice.injEq, Option.some.injEq, Addr.mk.injEq, and_true] at hv
  obtain ⟨rfl, rfl, rfl⟩ := hv
  have hil : i < cur.size := by rw [hsz, hs]; omega
  refine ⟨.inr ⟨by simp only [List.length_set]; exact flat_length E _ |>.trans (by simp), .inr ⟨b, cap, cur.setIfInBounds i c, by simp, hb, ?_, by simpa using hn, hc', by simpa using hsz, ?_⟩⟩, ?_, ?_⟩
  · simp [World.setCell, Array.getElem?_modify, hg]
  · obtain ⟨f, hf, hfl⟩ := flat_one hs l
    have hfs : (l.set i x).flatMap E.enc = (l.map f).set i c := by
      obtain ⟨f', hf', hfl'⟩ := flat_one hs (l.set i x)
      have : f' = f := funext fun y => by have := (hf' y).symm.trans (hf y); simpa using this
      rw [hfl', this, List.map_set]
      have : f x = c := by have := (hf x).symm.trans hc; simpa using this
      rw [this]
    rw [hfs, List.length_set, Array.toList_setIfInBounds, List.take_set, hx, hfl]
  · simp [World.cell?, hg, hil]
  · intro j; simp [World.frozen?, hg]
theorem Own.keepB (h : Own E w base v l) (hv : ∀ k, v.ownBlock = some k → k < B) (hb : Below B w w') : Own E w' base v l :=
  h.keep_of fun k _ _ hk => hb.block k (hv k hk)
theorem Own.fill (hs : E.size = 1) (x : α) (c : Value) (hc : E.enc x = [c]) (w : World) (n : Nat) (hn : n ≤ maxLen) :
    Own E (w.alloc (.cells (fillCells c n) E.e)) w.heap.size (.slice (some ⟨w.heap.size, 0, none⟩) n n) (List.replicate n x) := by
  right
  refine ⟨by rw [flat_length, List.length_replicate], .inr ⟨w.heap.size, n, fillCells c n, by simp, Nat.le_refl _, heap_alloc_new w _, by simp, hn, by simp [fillCells, hs], ?_⟩⟩
  obtain ⟨f, hf, hfl⟩ := flat_one hs (List.replicate n x)
  have : f x = c := by have := (hf x).symm.trans hc; simpa using this
  rw [hfl, List.map_replicate, this]
  simp [fillCells, hs]
/-- A slice literal of one element, whose block is the newest. -/
theorem Own.single (x : α) (w : World) (base : Nat) (hb : base ≤ w.heap.size) : Own E (w.alloc (.cells (E.enc x).toArray E.e)) base (.slice (some ⟨w.heap.size, 0, none⟩) 1 1) [x] := by
  right
  refine ⟨by rw [flat_length], .inr ⟨w.heap.size, 1, (E.enc x).toArray, by simp, hb, heap_alloc_new w _, by simp, by decide, by simp [E.len], ?_⟩⟩
  have := E.len x
  simp [← this]
end
theorem Own.bool {w : World} {base : Nat} {v : Value} {l : List Bool} (h : Own EBool w base v l) : ∃ a cap, v = .slice a l.length cap ∧ l.length ≤ 9223372036854775807 ∧
    ∀ i, i < l.length → ∃ b, a = some ⟨b, 0, none⟩ ∧ base ≤ b ∧ b < w.heap.size ∧ w.cell? ⟨b, i, none⟩ = some (.bool (l.getD i false)) := by
  obtain ⟨a, cap, hv, h1, h2, h3⟩ := h.form
  refine ⟨a, cap, hv, by unfold maxLen at h2; omega, fun i hi => ?_⟩
  obtain ⟨b, hb, h4, h5, h6⟩ := h3 i hi
  refine ⟨b, hb, h4, h5, ?_⟩
  have := h6 0 (by decide)
  rw [show i * EBool.size + 0 = i from by show i * 1 + 0 = i; omega] at this
  rw [this]
  simp [EBool, hi]
def RetBools (w : World) (l : List Bool) (e : Ending) (w' : World) : Prop := ∃ v, e = .returned v ∧ Own EBool w' w.heap.size v l ∧ Below w.heap.size w w'
end Go.Proofs.Ytledmebhlmpjaaa
namespace Peg
/-- the element i of l; d behind its end -/
def gD {α : Type} (l : List α) (d : α) (i : Nat) : α := l.getD i d
theorem gD_lt {α : Type} (l : List α) (d : α) (i : Nat) (h : i < l.length) : gD l d i = l[i] := by simp [gD, h]
theorem gD_mem {α : Type} (l : List α) (d : α) (i : Nat) (h : i < l.length) : gD l d i ∈ l := by rw [gD_lt l d i h]; exact List.getElem_mem h
theorem take_gD {α : Type} (l : List α) (d : α) (i : Nat) (h : i < l.length) : l.take (i + 1) = l.take i ++ [gD l d i] := by rw [gD_lt l d i h, List.take_succ_eq_append_getElem h]
/-- the list l with its first i elements replaced by g's -/
def over {α : Type} (g : Nat → α) (l : List α) (i : Nat) : List α := (List.range i).map g ++ l.drop i
theorem over_zero {α : Type} (g : Nat → α) (l : List α) : over g l 0 = l := by simp [over]
theorem over_length {α : Type} (g : Nat → α) (l : List α) (i : Nat) (h : i ≤ l.length) : (over g l i).length = l.length := by simp [over]; omega
theorem over_succ {α : Type} (g : Nat → α) (l : List α) (i : Nat) (h : i < l.length) : (over g l i).set i (g i) = over g l (i + 1) := by
  unfold over
  have e1 : ((List.range i).map g).length = i := by simp
  rw [List.drop_eq_getElem_cons h, List.range_succ, List.map_append, List.append_assoc, List.set_append, if_neg (by omega), e1, Nat.sub_self]
  rfl
theorem over_full {α : Type} (g : Nat → α) (l : List α) : over g l l.length = (List.range l.length).map g := by simp [over]
theorem range_getD {α : Type} (l : List α) (d : α) : (List.range l.length).map (gD l d) = l := by
  apply List.ext_getElem
  · simp
  · intro i h1 h2; simp at h1; simp [h1, gD]
end Peg
namespace Go.Proofs.Ytledmebhlmpjaaa
open Go.ChangeShapes Go.WideShapes Go.ChangeAt Go.RowKit Go.Sort
section
variable {α : Type} {E : Elt α} {w w' : World} {base B : Nat} {v : Value} {l : List α}
/-- A slice that is read: its value v, in the world w, reads as the list l. -/
def Rd (E : Elt α) (w : World) (v : Value) (l : List α) : Prop :=
  ∃ a cap, v = .slice a l.length cap ∧ l.length ≤ 9223372036854775807 ∧ ∀ i (hi : i < l.length), ∃ ad : Addr, a = some ad ∧ ad.block < w.heap.size ∧ ∀ j, j < E.size → w.cell? (ad.add (i * E.size + j)) = (E.enc l[i])[j]?
theorem add_origin (b n : Nat) : (⟨b, 0, none⟩ : Addr).add n = ⟨b, n, none⟩ := by cases n <;> simp [Addr.add]
theorem add_block (a : Addr) (n : Nat) : (a.add n).block = a.block := by unfold Addr.add; split <;> rfl
theorem add_of_add (a : Addr) (i j : Nat) : (a.add i).add j = a.add (i + j) := by
  unfold Addr.add
  by_cases hi : i = 0 <;> by_cases hj : j = 0 <;> simp [hi, hj, Nat.add_assoc]
theorem add_at (a : Addr) (i j : Nat) : a.add (i + (j + 1)) = ⟨(a.add i).block, (a.add i).off + (j + 1), none⟩ := by
  rw [← add_of_add a i (j + 1)]; simp [Addr.add]
theorem Own.rd (h : Own E w base v l) : Rd E w v l := by
  obtain ⟨a, cap, hv, h1, h2, h3⟩ := h.form
  refine ⟨a, cap, hv, by unfold maxLen at h2; omega, fun i hi => ?_⟩
  obtain ⟨b, hb, h4, h5, h6⟩ := h3 i hi
  refine ⟨_, hb, h5, fun j hj => ?_⟩
  rw [add_origin]
  exact h6 j hj
theorem Rd.keep (h : Rd E w v l) (hb : Below w.heap.size w w') : Rd E w' v l := by
  obtain ⟨a, cap, hv, h1, h3⟩ := h
  refine ⟨a, cap, hv, h1, fun i hi => ?_⟩
  obtain ⟨ad, ha, hlt, hc⟩ := h3 i hi
  exact ⟨ad, ha, Nat.lt_of_lt_of_le hlt hb.size, fun j hj => (hb.cell (by rw [add_block]; exact hlt)).trans (hc j hj)⟩
theorem Rd.keepB {w0 : World} (h : Rd E w0 v l) (h0 : w0.heap.size ≤ B) (hb : Below B w0 w') : Rd E w' v l := h.keep (hb.mono h0)
theorem Own.keepG (h : Own E w base v l) (hb : w.grownBy w' none) : Own E w' base v l := h.grown hb (.inr rfl)
theorem below_grown {w w' : World} (h : w.grownBy w' none) : Below w.heap.size w w' := (Below.refl _ _).grown h (Nat.le_refl _) (fun k hk => by cases hk)
/-- the slice's raw form -/
theorem Own.raw {b n cap : Nat} (h : Own E w base (.slice (some ⟨b, 0, none⟩) n cap) l) (hn : 0 < l.length) : w.ownsRow base E.e E.size (.slice (some ⟨b, 0, none⟩) n cap) l.length (l.flatMap E.enc) ∧ n = l.length := by
  rcases h with ⟨rfl, _⟩ | h
  · simp at hn
  · refine ⟨h, ?_⟩
    rcases h.2 with ⟨h', _⟩ | ⟨g', cap', cur, h', _⟩
    · cases h'
    · simp at h'; omega
theorem flat_set (E : Elt α) : ∀ (l : List α) (i : Nat) (x : α), i < l.length → (l.set i x).flatMap E.enc = (l.flatMap E.enc).take (i * E.size) ++ E.enc x ++ (l.flatMap E.enc).drop ((i + 1) * E.size) := by
  intro l
  induction l with
  | nil => intro i x h; simp at h
  | cons y r ih =>
    intro i x h
    have hy := E.len y
    cases i with
    | zero => simp [← hy]
    | succ i =>
      have hi : i < r.length := by simpa using h
      simp only [List.set_cons_succ, List.flatMap_cons, ih i x hi]
      have e1 : (i + 1) * E.size = (E.enc y).length + i * E.size := by rw [hy, Nat.succ_mul]; omega
      have e2 : (i + 1 + 1) * E.size = (E.enc y).length + (i + 1) * E.size := by rw [hy, Nat.succ_mul (i + 1)]; omega
      rw [e2, List.drop_length_add_append, e1, List.take_length_add_append, List.append_assoc, List.append_assoc, List.append_assoc]
theorem set1 {β : Type} (xs ys : List β) (c0 d0 : β) : (xs ++ [d0] ++ ys).set xs.length c0 = xs ++ [c0] ++ ys := by simp
/-- the store of a whole element of three cells -/
theorem Own.store3 {b n cap : Nat} (h : Own E w base (.slice (some ⟨b, 0, none⟩) n cap) l) (hs : E.size = 3) (i : Nat) (hi : i < l.length) (x : α) (c0 c1 c2 : Value) (hc : E.enc x = [c0, c1, c2]) :
    Own E (((w.setCell ⟨b, i * 3, none⟩ c0).setCell ⟨b, i * 3 + 1, none⟩ c1).setCell ⟨b, i * 3 + 2, none⟩ c2) base (.slice (some ⟨b, 0, none⟩) n cap) (l.set i x) ∧
      w.grownBy (((w.setCell ⟨b, i * 3, none⟩ c0).setCell ⟨b, i * 3 + 1, none⟩ c1).setCell ⟨b, i * 3 + 2, none⟩ c2) (some b) := by
  obtain ⟨hr, hn⟩ := h.raw (by omega)
  subst hn
  obtain ⟨h1, g1⟩ := hr.stored (i * 3) c0
  obtain ⟨h2, g2⟩ := h1.stored (i * 3 + 1) c1
  obtain ⟨h3, g3⟩ := h2.stored (i * 3 + 2) c2
  refine ⟨.inr ?_, (g1.trans g2).trans g3⟩
  rw [List.length_set]
  rw [show (l.set i x).flatMap E.enc = (((l.flatMap E.enc).set (i * 3) c0).set (i * 3 + 1) c1).set (i * 3 + 2) c2 from ?_]
  · exact h3
  · rw [flat_set E l i x hi, hc, hs]
    have hL : (l.flatMap E.enc).length = l.length * 3 := by rw [flat_length, hs]
    generalize l.flatMap E.enc = xs at *
    apply List.ext_getElem?
    intro j
    simp only [List.getElem?_append, List.getElem?_set, List.length_append, List.length_take, List.length_set, List.length_cons, List.length_nil, List.getElem?_take, List.getElem?_drop]
    have hm : min (i * 3) xs.length = i * 3 := by omega
    rw [hm]
    by_cases a1 : j < i * 3
    · simp [a1, show j < i * 3 + 3 from by omega, show ¬ i * 3 + 2 = j from by omega, show ¬ i * 3 + 1 = j from by omega, show ¬ i * 3 = j from by omega]
    by_cases a2 : j = i * 3
    · subst a2; simp [hL, hi, show i * 3 + 1 < l.length * 3 from by omega, show i * 3 + 2 < l.length * 3 from by omega, show i * 3 + 1 - i * 3 = 1 from by omega, show i * 3 + 2 - i * 3 = 2 from by omega]
    by_cases a3 : j = i * 3 + 1
    · subst a3; simp [hL, hi, show ¬ (i * 3 + 1 < i * 3) from by omega, show ¬ (i * 3 + 2 < i * 3) from by omega, show i * 3 + 1 < l.length * 3 from by omega, show i * 3 + 2 < l.length * 3 from by omega, show i * 3 + 1 - i * 3 = 1 from by omega, show i * 3 + 2 - i * 3 = 2 from by omega]
    by_cases a4 : j = i * 3 + 2
    · subst a4; simp [hL, hi, show ¬ (i * 3 + 1 < i * 3) from by omega, show ¬ (i * 3 + 2 < i * 3) from by omega, show i * 3 + 1 < l.length * 3 from by omega, show i * 3 + 2 < l.length * 3 from by omega, show i * 3 + 1 - i * 3 = 1 from by omega, show i * 3 + 2 - i * 3 = 2 from by omega]
    · have e1 : (i + 1) * 3 + (j - (i * 3 + 3)) = j := by omega
      simp [a1, show ¬ j < i * 3 + 3 from by omega, show ¬ i * 3 + 2 = j from by omega, show ¬ i * 3 + 1 = j from by omega, show ¬ i * 3 = j from by omega, e1]
theorem Own.some3 {b n cap : Nat} (h : Own E w base (.slice (some ⟨b, 0, none⟩) n cap) l) (j : Nat) (hj : j < l.length * E.size) : (w.cell? ⟨b, j, none⟩).isSome = true ∧ ∀ j, w.frozen? ⟨b, j, none⟩ = false := by
  have hl : 0 < l.length := by
    rcases Nat.eq_zero_or_pos l.length with h0 | h0
    · rw [h0] at hj; omega
    · exact h0
  obtain ⟨hr, hn⟩ := h.raw hl
  subst hn
  refine ⟨?_, fun j => hr.frozenAt j⟩
  rw [hr.cellAt j hj]
  have := flat_length E l
  rw [List.getElem?_eq_getElem (by omega)]
  rfl
/-- the block that a write into the slice's elements may change -/
def rowOf (v : Value) (l : List α) : Option Nat := if l.isEmpty then none else v.ownBlock
theorem rowOf_ne {v : Value} {l : List α} (h : 0 < l.length) : rowOf v l = v.ownBlock := by
  unfold rowOf
  cases l with
  | nil => simp at h
  | cons x r => rfl
theorem Own.blockGe {α2 : Type} {E2 : Elt α2} {w2 : World} {b2 : Nat} {v2 : Value} {l2 : List α2} (h2 : Own E2 w2 b2 v2 l2) : ∀ k, rowOf v2 l2 = some k → b2 ≤ k ∧ k < w2.heap.size := by
  intro k hk
  cases l2 with
  | nil => cases hk
  | cons x r =>
    rw [rowOf_ne (by simp)] at hk
    rcases h2 with ⟨h, _⟩ | h2
    · cases h
    · exact h2.lt k hk
/-- a slice whose block is older than another's keeps its elements where the other's are written -/
theorem Own.apart {α2 : Type} {E2 : Elt α2} {w0 w2 : World} {b' b2 : Nat} {v2 : Value} {l2 : List α2} (h : Own E w base v l) (hold : Own E w0 b' v l) (h2 : Own E2 w2 b2 v2 l2) (hb : w0.heap.size ≤ b2) (hg : w.grownBy w' (rowOf v2 l2)) : Own E w' base v l := by
  rcases hold with ⟨rfl, a, rfl⟩ | hold
  · exact .inl ⟨rfl, a, rfl⟩
  · refine h.keep_of fun k _ hk hv => hg.block k hk (fun e => ?_)
    have h1 := hold.lt k hv
    have h3 := h2.blockGe k e.symm
    omega
theorem Own.apartBelow {α2 : Type} {E2 : Elt α2} {w2 : World} {b2 : Nat} {v2 : Value} {l2 : List α2} (h2 : Own E2 w2 b2 v2 l2) (hB : B ≤ b2) (hBw : B ≤ w.heap.size) (hg : w.grownBy w' (rowOf v2 l2)) : Below B w w' :=
  (Below.refl _ _).grown hg hBw (fun k hk => Nat.le_trans hB (h2.blockGe k hk).1)
theorem flat_rep (E : Elt α) (x : α) (n : Nat) : (List.replicate n x).flatMap E.enc = (List.replicate n (E.enc x)).flatten := by
  induction n with
  | zero => rfl
  | succ n ih => simp [List.replicate_succ, ih]
theorem made_flat {z : Array Value} {cs : List Value} (hz : z.toList = cs) (hs : 0 < cs.length) (n : Nat) : (madeCells z (n * cs.length)).toList = (List.replicate n cs).flatten := by
  subst hz
  simp at hs ⊢
  apply List.ext_getElem?
  intro j
  have hlen : ∀ n, ((List.replicate n z.toList).flatten).length = n * z.size := by
    intro n; simp
  by_cases hj : j < n * z.size
  · have h1 : (madeCells z (n * z.size)).toList[j]? = some (z[j % z.size]!) := by simp [madeCells, hj]
    rw [h1]
    have h2 : ∀ n j, j < n * z.size → ((List.replicate n z.toList).flatten)[j]? = some (z[j % z.size]!) := by
      intro n
      induction n with
      | zero => intro j hj; simp at hj
      | succ n ih =>
        intro j hj
        rw [List.replicate_succ, List.flatten_cons]
        by_cases hjz : j < z.size
        · rw [List.getElem?_append_left (by simpa using hjz), Nat.mod_eq_of_lt hjz]
          simp [hjz]
        · rw [List.getElem?_append_right (by simpa using hjz)]
          rw [show z.toList.length = z.size from by simp, ih (j - z.size) (by rw [Nat.succ_mul] at hj; omega)]
          rw [Nat.mod_eq_sub_mod (by omega : j ≥ z.size)]
    rw [h2 n j hj]
  · rw [List.getElem?_eq_none (by simp [madeCells]; omega), List.getElem?_eq_none (by rw [hlen]; omega)]
/-- make of n elements, zero ones -/
theorem run_make_elt (E : Elt α) (x0 : α) (z : Value) (hi0 : (Try.prog.info? E.e).map (fun i => (i.zero, i.size, i.bytes)) = some (some z, E.size, E.bytes)) (hz : z.cells.toList = E.enc x0) (t : TypeId) (ht : Try.prog.underlying t = some (.slice E.e)) (n : Nat) (h1 : n ≤ 1099511627776) (w : World) :
    (Instr.makeSlice t (.int .i64 n) (.int .i64 n)).run Try.prog w = .ok (.slice (some ⟨w.heap.size, 0, none⟩) n n) (w.alloc (.cells (madeCells z.cells (n * E.size)) E.e)) ∧
      Own E (w.alloc (.cells (madeCells z.cells (n * E.size)) E.e)) w.heap.size (.slice (some ⟨w.heap.size, 0, none⟩) n n) (List.replicate n x0) := by
  obtain ⟨i, hi, hz', hsize, hby⟩ := info_parts hi0
  have hsm := E.small
  have hb : ((i.bytes : Nat) : Int) * (n : Int) ≤ 281474976710656 := by
    rw [hby]
    have : E.bytes * n ≤ 64 * 1099511627776 := Nat.mul_le_mul hsm h1
    have h2 : ((E.bytes * n : Nat) : Int) = (E.bytes : Int) * (n : Int) := by simp
    omega
  refine ⟨?_, .inr ⟨?_, .inr ⟨w.heap.size, n, madeCells z.cells (n * E.size), ?_, Nat.le_refl _, heap_alloc_new w _, ?_, ?_, ?_, ?_⟩⟩⟩
  · have := run_make (P := Try.prog) w t E.e i z ht hi hz' .i64 .i64 n n (by omega) (Int.le_refl _) hb (by omega)
    rw [this, hsize]
    simp
  · rw [flat_length]
  · simp
  · simp
  · unfold maxLen; omega
  · rw [size_madeCells]
  · rw [List.length_replicate, List.take_of_length_le (by simp [size_madeCells]), flat_rep]
    have hl : (E.enc x0).length = E.size := E.len x0
    have := made_flat hz (by rw [hl]; exact E.pos) n
    rw [hl] at this
    exact this
/-- the same, the world behind it under a name -/
theorem run_make_own (E : Elt α) (x0 : α) (z : Value) (hi0 : (Try.prog.info? E.e).map (fun i => (i.zero, i.size, i.bytes)) = some (some z, E.size, E.bytes)) (hz : z.cells.toList = E.enc x0) (t : TypeId) (ht : Try.prog.underlying t = some (.slice E.e)) (n : Nat) (h1 : n ≤ 1099511627776) (w : World) :
    ∃ w1 b, (Instr.makeSlice t (.int .i64 n) (.int .i64 n)).run Try.prog w = .ok (.slice (some ⟨b, 0, none⟩) n n) w1 ∧ Own E w1 w.heap.size (.slice (some ⟨b, 0, none⟩) n n) (List.replicate n x0) ∧ Below w.heap.size w w1 ∧ w.heap.size ≤ b ∧ b < w1.heap.size := by
  obtain ⟨h2, h3⟩ := run_make_elt E x0 z hi0 hz t ht n h1 w
  exact ⟨_, _, h2, h3, (Below.refl _ _).alloc (Nat.le_refl _) _, Nat.le_refl _, by simp⟩
end
-- type 47
theorem Rd.line {w : World} {v : Value} {l : List Peg.Ln} (h : Rd ELine w v l) : ∃ a cap, v = .slice a l.length cap ∧ l.length ≤ 9223372036854775807 ∧
    ∀ i, i < l.length → ∃ ad : Addr, a = some ad ∧ ad.block < w.heap.size ∧ w.cell? (ad.add (i * 3)) = some (.int .i64 (Peg.gD l Peg.Ln0 i).f) ∧ w.cell? ⟨(ad.add (i * 3)).block, (ad.add (i * 3)).off + 1, none⟩ = some (.int .i64 (Peg.gD l Peg.Ln0 i).o) ∧ w.cell? ⟨(ad.add (i * 3)).block, (ad.add (i * 3)).off + 2, none⟩ = some (.int .i64 (Peg.gD l Peg.Ln0 i).t) := by
  obtain ⟨a, cap, hv, h1, h3⟩ := h
  refine ⟨a, cap, hv, h1, fun i hi => ?_⟩
  obtain ⟨ad, hb, h5, h6⟩ := h3 i hi
  exact ⟨ad, hb, h5, by simpa [ELine, hi, Peg.gD] using h6 0 (by decide), by rw [← add_at ad (i * 3) 0]; simpa [ELine, hi, Peg.gD] using h6 1 (by decide), by rw [← add_at ad (i * 3) 1]; simpa [ELine, hi, Peg.gD] using h6 2 (by decide)⟩
theorem Rd.int {w : World} {v : Value} {l : List Int} (h : Rd EInt w v l) : ∃ a cap, v = .slice a l.length cap ∧ l.length ≤ 9223372036854775807 ∧
    ∀ i, i < l.length → ∃ ad : Addr, a = some ad ∧ ad.block < w.heap.size ∧ w.cell? (ad.add i) = some (.int .i64 (Peg.gD l 0 i)) := by
  obtain ⟨a, cap, hv, h1, h3⟩ := h
  refine ⟨a, cap, hv, h1, fun i hi => ?_⟩
  obtain ⟨ad, hb, h5, h6⟩ := h3 i hi
  exact ⟨ad, hb, h5, by simpa [EInt, hi, Peg.gD] using h6 0 (by decide)⟩
theorem Own.intG {w : World} {base : Nat} {v : Value} {l : List Int} (h : Own EInt w base v l) : ∃ a cap, v = .slice a l.length cap ∧ l.length ≤ 9223372036854775807 ∧
    ∀ i, i < l.length → ∃ b, a = some ⟨b, 0, none⟩ ∧ base ≤ b ∧ b < w.heap.size ∧ w.cell? ⟨b, i, none⟩ = some (.int .i64 (Peg.gD l 0 i)) := h.int
-- type 47
theorem Own.lineG {w : World} {base : Nat} {v : Value} {l : List Peg.Ln} (h : Own ELine w base v l) : ∃ a cap, v = .slice a l.length cap ∧ l.length ≤ 9223372036854775807 ∧
    ∀ i, i < l.length → ∃ b, a = some ⟨b, 0, none⟩ ∧ base ≤ b ∧ b < w.heap.size ∧ w.cell? ⟨b, i * 3, none⟩ = some (.int .i64 (Peg.gD l Peg.Ln0 i).f) ∧ w.cell? ⟨b, i * 3 + 1, none⟩ = some (.int .i64 (Peg.gD l Peg.Ln0 i).o) ∧ w.cell? ⟨b, i * 3 + 2, none⟩ = some (.int .i64 (Peg.gD l Peg.Ln0 i).t) := h.line
end Go.Proofs.Ytledmebhlmpjaaa
