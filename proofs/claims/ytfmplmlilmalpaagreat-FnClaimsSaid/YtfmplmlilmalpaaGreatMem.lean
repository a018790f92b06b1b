/- Mem: slices of the calls' own, as lists: what they read as, append, what is kept. Nothing of the program but its types' numbers. No condition. -/
import Derived.Test.YtfmplmlilmalpaaGreatBase
import Derived.Test.YtfmplmlilmalpaaGreatGame0
set_option linter.unusedVariables false
set_option linter.unusedSimpArgs false
namespace Go.Proofs.YtfmplmlilmalpaaGreat
open Go.ChangeShapes Go.WideShapes Go.ChangeAt Go.RowKit Go.Sort

/-- An element type of slices: its number, its cells, how a value of the plain type lies in cells. -/
structure Elt (α : Type) where
  e : TypeId
  size : Nat
  bytes : Nat
  enc : α → List Value
  len : ∀ x, (enc x).length = size
  one : ∀ x, ∀ u ∈ enc x, u.oneCell' = true
  pos : 0 < size
  small : bytes ≤ 64
  info : ∃ z, (Tryz.prog.info? e).map (fun i => (i.zero, i.size, i.bytes)) = some (some z, size, bytes) ∧ z.cells.size = size

/-- The slice value v, in the world w, is of the call's own (its block is 'base' or later) and reads as the list l. -/
def Own {α : Type} (E : Elt α) (w : World) (base : Nat) (v : Value) (l : List α) : Prop := (l = [] ∧ ∃ a, v = .slice a 0 0) ∨ w.ownsRow base E.e E.size v l.length (l.flatMap E.enc)
theorem run_append_cap0 {P : Program} (w : World) (t ty e : TypeId) (i : TypeInfo) (z : Value) (ht : P.underlying t = some (.slice e)) (hi : P.info? e = some i) (hz : i.zero = some z)
    (a0 : Option Addr) (a : Addr) (n c : Nat) (news : List Value) (hl : news.length = n * i.size) (hnews : ∀ j v, news[j]? = some v → w.cell? (a.add j) = some v)
    (h0 : 0 < n) (h63 : (n : Int) ≤ 9223372036854775807) (h48 : n * i.bytes ≤ 281474976710656) :
    (Builtin.append_ #[t, t] ty #[.slice a0 0 0, .slice (some a) n c]).run P w = (Builtin.append_ #[t, t] ty #[.slice none 0 0, .slice (some a) n c]).run P w := by
  rcases a0 with _ | a0
  · rfl
  · rw [run_append_nil (P := P) w t ty e i z ht hi hz a n c news hl hnews h0 h63 h48]
    rw [run_append_grow (P := P) w t ty e i z ht hi hz a0 0 0 [] (by simp) (by simp) a n c news hl hnews (by omega) (by omega) (by rw [Nat.zero_add, nextslicecap_zero h0]; omega)]
    simp

section
variable {α : Type} {E : Elt α} {w w' : World} {base B : Nat} {v : Value} {l : List α}

theorem flat_length (E : Elt α) (l : List α) : (l.flatMap E.enc).length = l.length * E.size := by
  induction l with
  | nil => simp
  | cons x r ih => simp [ih, E.len, Nat.add_mul]; omega
theorem flat_get (E : Elt α) : ∀ (l : List α) (i j : Nat) (h : i < l.length), j < E.size → (l.flatMap E.enc)[i * E.size + j]? = (E.enc l[i])[j]? := by
  intro l
  induction l with
  | nil => intro i j h; simp at h
  | cons x r ih =>
    intro i j h hj
    rw [List.flatMap_cons]
    cases i with
    | zero => rw [List.getElem?_append_left (by rw [E.len]; omega)]; simp
    | succ i =>
      rw [List.getElem?_append_right (by rw [E.len, Nat.succ_mul]; omega), E.len]
      have : (i + 1) * E.size + j - E.size = i * E.size + j := by rw [Nat.succ_mul]; omega
      rw [this, ih i j (by simpa using h) hj]
      rfl

theorem Own.emptyAny (E : Elt α) (w : World) (base : Nat) (a : Option Addr) : Own E w base (.slice a 0 0) [] := .inl ⟨rfl, a, rfl⟩
theorem Own.nil (E : Elt α) (w : World) (base : Nat) : Own E w base (.slice none 0 0) [] := Own.emptyAny E w base none
theorem Own.mono (h : Own E w base v l) (hb : B ≤ base) : Own E w B v l := h.imp id fun h => Joins.ownsRow_le h hb
theorem Own.keep_of (h : Own E w base v l) (hs : ∀ k, base ≤ k → k < w.heap.size → v.ownBlock = some k → w'.heap[k]? = w.heap[k]?) : Own E w' base v l := by
  rcases h with h | h
  · exact .inl h
  refine .inr ⟨h.1, ?_⟩
  rcases h.2 with hn | ⟨g, cap, cur, hv, hb, hg, r⟩
  · exact .inl hn
  · have hlt : g < w.heap.size := by
      rcases Nat.lt_or_ge g w.heap.size with h' | h'
      · exact h'
      · rw [Array.getElem?_eq_none h'] at hg; cases hg
    exact .inr ⟨g, cap, cur, hv, hb, by rw [hs g hb hlt (by rw [hv]; rfl)]; exact hg, r⟩
theorem Own.keep (h : Own E w base v l) (hb : Below w.heap.size w w') : Own E w' base v l :=
  h.keep_of fun k _ hk _ => hb.block k hk
theorem Own.alloc (h : Own E w base v l) (o : Obj) : Own E (w.alloc o) base v l := h.keep ((Below.refl _ _).alloc (Nat.le_refl _) _)
/-- a slice whose block lies below B stays as it is where below B nothing is written -/
theorem Own.later {w0 : World} (h : Own E w0 base v l) (h0 : w0.heap.size ≤ B) (hb : Below B w0 w) : Own E w base v l := h.keep (hb.mono h0)
theorem Own.grown (h : Own E w base v l) {row : Option Nat} (hg : w.grownBy w' row) (hne : v.ownBlock ≠ row ∨ row = none) : Own E w' base v l :=
  h.keep_of fun k _ hk hv => hg.block k hk (fun e => by
    rcases hne with h' | h'
    · exact h' (hv.trans e)
    · rw [h'] at e; cases e)
theorem Own.setCell (h : Own E w base v l) {a : Addr} (ha : v.ownBlock ≠ some a.block) (u : Value) : Own E (w.setCell a u) base v l :=
  h.keep_of fun k _ _ hk => Below.heap_setCell _ _ _ _ (fun e => ha (by rw [hk, e]))

/-- The slice's form: its length is the list's; element i's cell j. -/
theorem Own.form (h : Own E w base v l) : ∃ a cap, v = .slice a l.length cap ∧ l.length ≤ cap ∧ cap ≤ maxLen ∧
    ∀ i (hi : i < l.length), ∃ b, a = some ⟨b, 0, none⟩ ∧ base ≤ b ∧ b < w.heap.size ∧ ∀ j, j < E.size → w.cell? ⟨b, i * E.size + j, none⟩ = (E.enc l[i])[j]? := by
  rcases h with ⟨rfl, a, rfl⟩ | h
  · exact ⟨a, 0, rfl, by simp, by decide, fun i hi => by simp at hi⟩
  rcases h.2 with ⟨hv, hn⟩ | ⟨g, cap, cur, hv, hb, hg, hl, hc, hsz, hx⟩
  · refine ⟨none, 0, by rw [hv, hn], by omega, by decide, fun i hi => ?_⟩
    omega
  · refine ⟨_, cap, hv, hl, hc, fun i hi => ⟨g, rfl, hb, ?_, fun j hj => ?_⟩⟩
    · rcases Nat.lt_or_ge g w.heap.size with h' | h'
      · exact h'
      · rw [Array.getElem?_eq_none h'] at hg; cases hg
    · rw [← flat_get E l i j hi hj, ← hx]
      have h1 : i * E.size + j < l.length * E.size := by
        have : (i + 1) * E.size ≤ l.length * E.size := Nat.mul_le_mul_right _ hi
        rw [Nat.succ_mul] at this
        omega
      rw [List.getElem?_take_of_lt h1]
      simp [World.cell?, hg]

/-- append of one element to a slice of the call's own: the element lies in the newest block. -/
theorem append1 {P : Program} (hP : P = Tryz.prog) {ops : Array Oper} {rest : List Oper} {o : Oper} {a : Act} {Q : Exit → Act → World → Prop} (hgd : o.guard = none) (s x : Operand) (t : TypeId)
    (ho : o.op = .call { callee := .builtin .append, args := #[s, x], argTypes := #[t, t] }) (ht : P.underlying t = some (.slice E.e))
    (hs : a.eval s = v) (hown : Own E w base v l) (y : α) {c : Nat} (hx : a.eval x = .slice (some ⟨w.heap.size, 0, none⟩) 1 c) (hlen : l.length ≤ 1099511627776) (hbase : base ≤ w.heap.size)
    (h : ∀ v' w', Own E w' base v' (l ++ [y]) → Below base w w' → (w.alloc (.cells (E.enc y).toArray E.e)).grownBy w' v.ownBlock → wpList P ops Q rest (a.put o.dst v') w') :
    wpList P ops Q (o :: rest) a (w.alloc (.cells (E.enc y).toArray E.e)) := by
  subst hP
  obtain ⟨z, hi0, hzc⟩ := E.info
  obtain ⟨i, hi, hz, hsize, hby⟩ := info_parts hi0
  have hnews : ∀ j u, (E.enc y)[j]? = some u → (w.alloc (.cells (E.enc y).toArray E.e)).cell? ((⟨w.heap.size, 0, none⟩ : Addr).add j) = some u := by
    intro j u hu
    have : (w.alloc (.cells (E.enc y).toArray E.e)).cell? ⟨w.heap.size, j, none⟩ = (E.enc y).toArray[j]? := World.cell?_alloc_new w _ _ _
    have e : (⟨w.heap.size, 0, none⟩ : Addr).add j = ⟨w.heap.size, j, none⟩ := by cases j <;> simp [Addr.add]
    rw [e, this]
    simpa using hu
  have h1 := E.small
  have hbb : (l.length + 1) * E.bytes ≤ (1099511627776 + 1) * 64 := Nat.mul_le_mul (by omega) h1
  rcases hown with ⟨rfl, a0, rfl⟩ | hown
  · obtain ⟨v', w', hr, h2, h3, h4⟩ := run_append_own (P := Tryz.prog) (w.alloc (.cells (E.enc y).toArray E.e)) base t o.type E.e i z E.size E.bytes ht hi hz hsize hby hzc E.pos (.slice none 0 0) 0 [] (World.ownsRow_nil _ _ _ _) ⟨w.heap.size, 0, none⟩ 1 c (E.enc y) (by simp [E.len]) hnews (E.one y) (by decide) (by simp at hbb; omega) (by simp; omega)
    have h3' : (w.alloc (.cells (E.enc y).toArray E.e)).grownBy w' none := h3
    refine wpList_plain hgd fun K hK => ?_
    have hc0 := run_append_cap0 (P := Tryz.prog) (w.alloc (.cells (E.enc y).toArray E.e)) t o.type E.e i z ht hi hz a0 ⟨w.heap.size, 0, none⟩ 1 c (E.enc y) (by simp [E.len, hsize]) hnews (by decide) (by decide) (by rw [hby]; omega)
    unfold Oper.wp execOp
    simp only [ho, resolve, invoke, builtin, Sem.run_bind, Sem.run_pure, Result.andThen_ok, List.map_toArray, List.map_cons, List.map_nil, hs, hx, hc0, hr]
    refine hK _ _ (h v' w' ?_ ?_ ?_)
    · right
      show w'.ownsRow base E.e E.size v' ([] ++ [y]).length (([] ++ [y]).flatMap E.enc)
      simpa using h2
    · exact ((Below.refl base w).alloc hbase _).grown h3' (by simp; omega) (fun k hk => by cases hk)
    · exact ⟨h3.os, h3.tape, h3.output, h3.size, fun k hk _ => h3'.block k hk (by simp)⟩
  · have hown' := World.ownsRow.alloc hown (.cells (E.enc y).toArray E.e)
    refine wpList_append_own _ hgd s x t ho base E.e i z E.size E.bytes ht hi hz hsize hby hzc E.pos v l.length (l.flatMap E.enc) hs hown' ⟨w.heap.size, 0, none⟩ 1 c (E.enc y) hx (by simp [E.len]) hnews (E.one y) ?_ ?_ ?_ ?_
    · unfold maxLen; omega
    · omega
    · simp; omega
    · intro v' w' h1 h2 _
      refine h v' w' ?_ ?_ h2
      · right
        show w'.ownsRow base E.e E.size v' (l ++ [y]).length ((l ++ [y]).flatMap E.enc)
        simpa using h1
      · exact ((Below.refl base w).alloc hbase _).grown h2 (by simp; omega) (fun k hk => (World.ownsRow.lt hown k hk).1)
end

theorem info_int : (Tryz.prog.info? 3).map (fun i => (i.zero, i.size, i.bytes)) = some (some (.int .i64 0), 1, 8) := by kernel_rfl
def EInt : Elt Int where
  e := 3
  size := 1
  bytes := 8
  enc n := [.int .i64 n]
  len _ := rfl
  one _ u hu := by simp at hu; subst hu; rfl
  pos := by decide
  small := by decide
  info := ⟨_, info_int, rfl⟩
/-- ints -/
theorem Own.int {w : World} {base : Nat} {v : Value} {l : List Int} (h : Own EInt w base v l) : ∃ a cap, v = .slice a l.length cap ∧ l.length ≤ 9223372036854775807 ∧
    ∀ i, i < l.length → ∃ b, a = some ⟨b, 0, none⟩ ∧ base ≤ b ∧ b < w.heap.size ∧ w.cell? ⟨b, i, none⟩ = some (.int .i64 (l.getD i 0)) := by
  obtain ⟨a, cap, hv, h1, h2, h3⟩ := h.form
  refine ⟨a, cap, hv, by unfold maxLen at h2; omega, fun i hi => ?_⟩
  obtain ⟨b, hb, h4, h5, h6⟩ := h3 i hi
  refine ⟨b, hb, h4, h5, ?_⟩
  have := h6 0 (by decide)
  rw [show i * EInt.size + 0 = i from by show i * 1 + 0 = i; omega] at this
  rw [this]
  simp [EInt, hi]
/-- What a call that hands back a slice of ints leaves. -/
def RetInts (w : World) (l : List Int) (e : Ending) (w' : World) : Prop := ∃ v, e = .returned v ∧ Own EInt w' w.heap.size v l ∧ Below w.heap.size w w'
theorem info_line : (Tryz.prog.info? 74).map (fun i => (i.zero, i.size, i.bytes)) = some (some (.agg #[.int .i64 0, .int .i64 0, .int .i64 0]), 3, 24) := by kernel_rfl
def ELine : Elt Peg.Ln where
  e := 74
  size := 3
  bytes := 24
  enc x := [.int .i64 x.f, .int .i64 x.o, .int .i64 x.t]
  len _ := rfl
  one _ u hu := by simp at hu; rcases hu with rfl | rfl | rfl <;> rfl
  pos := by decide
  small := by decide
  info := ⟨_, info_line, rfl⟩
theorem Own.line {w : World} {base : Nat} {v : Value} {l : List Peg.Ln} (h : Own ELine w base v l) : ∃ a cap, v = .slice a l.length cap ∧ l.length ≤ 9223372036854775807 ∧
    ∀ i, i < l.length → ∃ b, a = some ⟨b, 0, none⟩ ∧ base ≤ b ∧ b < w.heap.size ∧ w.cell? ⟨b, i * 3, none⟩ = some (.int .i64 (l.getD i Peg.Ln0).f) ∧ w.cell? ⟨b, i * 3 + 1, none⟩ = some (.int .i64 (l.getD i Peg.Ln0).o) ∧ w.cell? ⟨b, i * 3 + 2, none⟩ = some (.int .i64 (l.getD i Peg.Ln0).t) := by
  obtain ⟨a, cap, hv, h1, h2, h3⟩ := h.form
  refine ⟨a, cap, hv, by unfold maxLen at h2; omega, fun i hi => ?_⟩
  obtain ⟨b, hb, h4, h5, h6⟩ := h3 i hi
  exact ⟨b, hb, h4, h5, by simpa [ELine, hi] using h6 0 (by decide), by simpa [ELine, hi] using h6 1 (by decide), by simpa [ELine, hi] using h6 2 (by decide)⟩
def RetLines (w : World) (l : List Peg.Ln) (e : Ending) (w' : World) : Prop := ∃ v, e = .returned v ∧ Own ELine w' w.heap.size v l ∧ Below w.heap.size w w'
end Go.Proofs.YtfmplmlilmalpaaGreat
