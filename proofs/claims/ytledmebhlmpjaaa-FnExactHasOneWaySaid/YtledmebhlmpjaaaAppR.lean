/- AppR: append of a slice that is read (any part of one) to a slice of the call's own; prefixes and tails of slices. No condition. -/
import Derived.Test.YtledmebhlmpjaaaApp
set_option linter.unusedVariables false
set_option linter.unusedSimpArgs false
namespace Go.Proofs.Ytledmebhlmpjaaa
open Go.ChangeShapes Go.WideShapes Go.ChangeAt Go.RowKit Go.Sort
section
variable {α : Type} {E : Elt α} {w w' : World} {base B : Nat} {v v2 : Value} {l l2 : List α}
/-- the cells of a slice that is read -/
theorem Rd.flat {ad : Addr} (h : ∀ i (hi : i < l.length), ∀ j, j < E.size → w.cell? (ad.add (i * E.size + j)) = (E.enc l[i])[j]?) : ∀ j u, (l.flatMap E.enc)[j]? = some u → w.cell? (ad.add j) = some u := by
  intro j u hu
  have hj : j < l.length * E.size := by have := (List.getElem?_eq_some_iff.1 hu).1; rwa [flat_length] at this
  have hs : 0 < E.size := E.pos
  have hi : j / E.size < l.length := Nat.div_lt_of_lt_mul (by rw [Nat.mul_comm]; exact hj)
  have hm : j % E.size < E.size := Nat.mod_lt _ hs
  have e : j / E.size * E.size + j % E.size = j := by rw [Nat.mul_comm]; exact Nat.div_add_mod j E.size
  have h1 := h (j / E.size) hi (j % E.size) hm
  rw [e] at h1
  rw [h1, ← hu]
  have key : ∀ (l : List α) (i k : Nat) (hi : i < l.length), k < E.size → (l.flatMap E.enc)[i * E.size + k]? = (E.enc l[i])[k]? := by
    intro l
    induction l with
    | nil => intro i k hi; simp at hi
    | cons x l ih =>
      intro i k hi hk
      have hx := E.len x
      cases i with
      | zero => simp [List.getElem?_append_left (show k < (E.enc x).length by omega)]
      | succ i =>
        have e2 : (i + 1) * E.size + k = (E.enc x).length + (i * E.size + k) := by rw [hx, Nat.succ_mul]; omega
        rw [List.flatMap_cons, e2, List.getElem?_append_right (by omega), Nat.add_sub_cancel_left]
        simpa using ih i k (by simpa using hi) hk
  conv => rhs; rw [← e]
  exact (key l _ _ hi hm).symm
theorem run_append_zero (t ty : TypeId) (ht : Try.prog.underlying t = some (.slice E.e)) (hown : Own E w base v l) (ad : Option Addr) (c : Nat) :
    (Builtin.append_ #[t, t] ty #[v, .slice ad 0 c]).run Try.prog w = .ok v w := by
  obtain ⟨z, hi0, hzc⟩ := E.info
  obtain ⟨i, hi, hz, hsize, hby⟩ := info_parts hi0
  rcases hown with ⟨rfl, a0, rfl⟩ | hown
  · cases a0 <;> cases ad <;> simp [Builtin.append_, run_underlying ht, sizeOf, typeInfo, hi, Builtin.lenOf, Builtin.firstCells, storeCells, loadCells, loadCellsFrom]
  · rcases hown.2 with ⟨rfl, _⟩ | ⟨g, cap, cur, rfl, _, _, hnc, _⟩
    · cases ad <;> simp [Builtin.append_, run_underlying ht, sizeOf, typeInfo, hi, Builtin.lenOf, Builtin.firstCells, storeCells, loadCells, loadCellsFrom]
    · cases ad <;> simp [Builtin.append_, run_underlying ht, sizeOf, typeInfo, hi, Builtin.lenOf, Builtin.firstCells, hnc, storeCells, loadCells, loadCellsFrom]
theorem run_appendRd (t ty : TypeId) (ht : Try.prog.underlying t = some (.slice E.e)) (hown : Own E w base v l) (h2 : Rd E w v2 l2) (hlen : l.length + l2.length ≤ 1099511627776) (hbase : base ≤ w.heap.size) :
    ∃ v' w', (Builtin.append_ #[t, t] ty #[v, v2]).run Try.prog w = .ok v' w' ∧ Own E w' base v' (l ++ l2) ∧ Below base w w' ∧ w.grownBy w' v.ownBlock ∧ (v'.ownBlock = v.ownBlock ∨ v'.ownBlock = some w.heap.size ∧ w.heap.size < w'.heap.size) := by
  obtain ⟨z, hi0, hzc⟩ := E.info
  obtain ⟨i, hi, hz, hsize, hby⟩ := info_parts hi0
  obtain ⟨a, cap, rfl, hl2, hc2⟩ := h2
  rcases Nat.eq_zero_or_pos l2.length with h0 | h0
  · have e0 : l2 = [] := List.eq_nil_of_length_eq_zero h0
    subst e0
    exact ⟨v, w, run_append_zero t ty ht hown a cap, by simpa using hown, Below.refl _ _, World.grownBy.refl _ _, .inl rfl⟩
  obtain ⟨ad, rfl, _⟩ := hc2 0 h0
  have hc3 : ∀ i (hi : i < l2.length), ∀ j, j < E.size → w.cell? (ad.add (i * E.size + j)) = (E.enc l2[i])[j]? := by
    intro i hi
    obtain ⟨ad', e, _, h⟩ := hc2 i hi
    cases e; exact h
  have hnews := Rd.flat hc3
  have hone : ∀ u ∈ l2.flatMap E.enc, u.oneCell' = true := by
    intro u hu
    obtain ⟨x, _, hxu⟩ := List.mem_flatMap.1 hu
    exact E.one x u hxu
  have hb := E.small
  have hbb : (l.length + l2.length) * E.bytes ≤ 1099511627776 * 64 := Nat.mul_le_mul hlen hb
  have key : ∀ v0 n, w.ownsRow base E.e E.size v0 n (l.flatMap E.enc) → n = l.length → ∃ v' w', (Builtin.append_ #[t, t] ty #[v0, .slice (some ad) l2.length cap]).run Try.prog w = .ok v' w' ∧ Own E w' base v' (l ++ l2) ∧ Below base w w' ∧ w.grownBy w' v0.ownBlock ∧ (v'.ownBlock = v0.ownBlock ∨ v'.ownBlock = some w.heap.size) := by
    rintro v0 n hv0 rfl
    obtain ⟨v', w', hr, h3, h4, _, h6⟩ := run_append_own_at (P := Try.prog) w base t ty E.e i z E.size E.bytes ht hi hz hsize hby hzc E.pos v0 _ _ hv0 ad l2.length cap (l2.flatMap E.enc) (flat_length E l2) hnews hone (by unfold maxLen; omega) (by omega) hbase
    exact ⟨v', w', hr, .inr (by simpa using h3), (Below.refl _ _).grown h4 hbase (fun k hk => (World.ownsRow.lt hv0 k hk).1), h4, h6⟩
  rcases hown with ⟨rfl, a0, rfl⟩ | hown
  · have hc0 := run_append_cap0 (P := Try.prog) w t ty E.e i z ht hi hz a0 ad l2.length cap (l2.flatMap E.enc) (by rw [flat_length, hsize]) hnews h0 (by omega) (by rw [hby]; simp at hbb; omega)
    obtain ⟨v', w', hr, h3, h4, h5, h6⟩ := key (.slice none 0 0) 0 (World.ownsRow_nil _ _ _ _) rfl
    refine ⟨v', w', hc0.trans hr, h3, h4, ⟨h5.os, h5.tape, h5.output, h5.size, fun k hk _ => h5.block k hk (by simp [Value.ownBlock])⟩, ?_⟩
    rcases h6 with h6 | h6
    · exfalso
      have hp : 0 < ([] ++ l2).length := by simpa using h0
      obtain ⟨a', cap', hv', _, _, hc⟩ := h3.form
      obtain ⟨b', hb', _⟩ := hc 0 hp
      rw [hv', hb'] at h6
      simp [Value.ownBlock] at h6
    · exact .inr ⟨h6, (h3.blockGe _ (by rw [rowOf_ne (by simpa using h0)]; exact h6)).2⟩
  · obtain ⟨v', w', hr, h3, h4, h5, h6⟩ := key v l.length hown rfl
    exact ⟨v', w', hr, h3, h4, h5, h6.imp id fun h => ⟨h, (h3.blockGe _ (by rw [rowOf_ne (by simp; omega)]; exact h)).2⟩⟩
/-- append of a slice that is read to a slice of the call's own. -/
theorem appendRd {P : Program} (hP : P = Try.prog) {ops : Array Oper} {rest : List Oper} {o : Oper} {a : Act} {Q : Exit → Act → World → Prop} (hgd : o.guard = none) (s x : Operand) (t : TypeId)
    (ho : o.op = .call { callee := .builtin .append, args := #[s, x], argTypes := #[t, t] }) (ht : P.underlying t = some (.slice E.e))
    (hs : a.eval s = v) (hx : a.eval x = v2) (hown : Own E w base v l) (h2 : Rd E w v2 l2) (hlen : l.length + l2.length ≤ 1099511627776) (hbase : base ≤ w.heap.size)
    (h : ∀ v' w', Own E w' base v' (l ++ l2) → Below base w w' → w.grownBy w' v.ownBlock → (v'.ownBlock = v.ownBlock ∨ v'.ownBlock = some w.heap.size ∧ w.heap.size < w'.heap.size) → wpList P ops Q rest (a.put o.dst v') w') :
    wpList P ops Q (o :: rest) a w := by
  subst hP
  obtain ⟨v', w', hr, h3, h4, h5, h6⟩ := run_appendRd t o.type ht hown h2 hlen hbase
  refine wpList_plain hgd fun K hK => ?_
  unfold Oper.wp execOp
  simp only [ho, resolve, invoke, builtin, Sem.run_bind, Sem.run_pure, Result.andThen_ok, List.map_toArray, List.map_cons, List.map_nil, hs, hx, hr]
  exact hK _ _ (h v' w' h3 h4 h5 h6)
/-- a prefix of a slice that is read, as a slice expression leaves it -/
theorem Rd.prefix {a : Option Addr} {n c : Nat} (h : Rd E w (.slice a n c) l) (k c' : Nat) (hk : k ≤ l.length) : Rd E w (.slice a k c') (l.take k) := by
  obtain ⟨a0, cap, e, hl, hc⟩ := h
  cases e
  have hlen : (l.take k).length = k := by simp [List.length_take, hk]
  refine ⟨a, c', by rw [hlen], by rw [hlen]; omega, fun i hi => ?_⟩
  obtain ⟨ad, e1, e2, e3⟩ := hc i (by omega)
  refine ⟨ad, e1, e2, fun j hj => ?_⟩
  rw [e3 j hj, List.getElem_take]
/-- the tail of a slice that is read -/
theorem Rd.tail {ad : Addr} {n c : Nat} (h : Rd E w (.slice (some ad) n c) l) (k m c' : Nat) (hk : k + m = l.length) : Rd E w (.slice (some (ad.add (k * E.size))) m c') (l.drop k) := by
  obtain ⟨a0, cap, e, hl, hc⟩ := h
  cases e
  have hlen : (l.drop k).length = m := by simp; omega
  refine ⟨_, c', by rw [hlen], by rw [hlen]; omega, fun i hi => ?_⟩
  obtain ⟨ad', e1, e2, e3⟩ := hc (k + i) (by omega)
  cases e1
  refine ⟨_, rfl, by rw [add_block]; exact e2, fun j hj => ?_⟩
  rw [add_of_add, ← Nat.add_assoc, ← Nat.add_mul, e3 j hj, List.getElem_drop]
end
end Go.Proofs.Ytledmebhlmpjaaa
