/- App: append of a whole slice to a slice of the call's own. Nothing of the program but its types' numbers. No condition. -/
import Derived.Test.YtledmebhlmpjaaaMem3
set_option linter.unusedVariables false
set_option linter.unusedSimpArgs false
namespace Go.Proofs.Ytledmebhlmpjaaa
open Go.ChangeShapes Go.WideShapes Go.ChangeAt Go.RowKit Go.Sort
section
variable {α : Type} {E : Elt α} {w w' : World} {base B : Nat} {v v2 : Value} {l l2 : List α}
theorem run_append_none (t ty : TypeId) (ht : Try.prog.underlying t = some (.slice E.e)) (hown : Own E w base v l) (ad : Option Addr) :
    (Builtin.append_ #[t, t] ty #[v, .slice ad 0 0]).run Try.prog w = .ok v w := by
  obtain ⟨z, hi0, hzc⟩ := E.info
  obtain ⟨i, hi, hz, hsize, hby⟩ := info_parts hi0
  rcases hown with ⟨rfl, a0, rfl⟩ | hown
  · cases a0 <;> cases ad <;> simp [Builtin.append_, run_underlying ht, sizeOf, typeInfo, hi, Builtin.lenOf, Builtin.firstCells, storeCells, loadCells, loadCellsFrom]
  · rcases hown.2 with ⟨rfl, _⟩ | ⟨g, cap, cur, rfl, _, _, hnc, _⟩
    · cases ad <;> simp [Builtin.append_, run_underlying ht, sizeOf, typeInfo, hi, Builtin.lenOf, Builtin.firstCells, storeCells, loadCells, loadCellsFrom]
    · cases ad <;> simp [Builtin.append_, run_underlying ht, sizeOf, typeInfo, hi, Builtin.lenOf, Builtin.firstCells, hnc, storeCells, loadCells, loadCellsFrom]
theorem run_appendN (t ty : TypeId) (ht : Try.prog.underlying t = some (.slice E.e)) (hown : Own E w base v l) (h2 : Own E w B v2 l2) (hlen : l.length + l2.length ≤ 1099511627776) (hbase : base ≤ w.heap.size) :
    ∃ v' w', (Builtin.append_ #[t, t] ty #[v, v2]).run Try.prog w = .ok v' w' ∧ Own E w' base v' (l ++ l2) ∧ Below base w w' ∧ w.grownBy w' v.ownBlock ∧ (v'.ownBlock = v.ownBlock ∨ v'.ownBlock = some w.heap.size) := by
  obtain ⟨z, hi0, hzc⟩ := E.info
  obtain ⟨i, hi, hz, hsize, hby⟩ := info_parts hi0
  have nilcase : ∀ ad, l2 = [] → v2 = .slice ad 0 0 → ∃ v' w', (Builtin.append_ #[t, t] ty #[v, v2]).run Try.prog w = .ok v' w' ∧ Own E w' base v' (l ++ l2) ∧ Below base w w' ∧ w.grownBy w' v.ownBlock ∧ (v'.ownBlock = v.ownBlock ∨ v'.ownBlock = some w.heap.size) := by
    rintro ad rfl rfl
    exact ⟨v, w, run_append_none t ty ht hown ad, by simpa using hown, Below.refl _ _, World.grownBy.refl _ _, .inl rfl⟩
  rcases h2 with ⟨e1, ad, e2⟩ | h2
  · exact nilcase ad e1 e2
  rcases h2.2 with ⟨e2, e1⟩ | ⟨g, cap, cur, rfl, _, hg, hnc, hcm, hcs, hx⟩
  · exact nilcase none (List.eq_nil_of_length_eq_zero e1) e2
  have hnews : ∀ j u, (l2.flatMap E.enc)[j]? = some u → w.cell? ((⟨g, 0, none⟩ : Addr).add j) = some u := by
    intro j u hu
    have hj : j < l2.length * E.size := by have := (List.getElem?_eq_some_iff.1 hu).1; rwa [flat_length] at this
    rw [add_origin, World.ownsRow.cellAt (e := E.e) (size := E.size) ⟨h2.1, .inr ⟨g, cap, cur, rfl, Nat.zero_le _, hg, hnc, hcm, hcs, hx⟩⟩ j hj]
    exact hu
  have hone : ∀ u ∈ l2.flatMap E.enc, u.oneCell' = true := by
    intro u hu
    obtain ⟨x, _, hxu⟩ := List.mem_flatMap.1 hu
    exact E.one x u hxu
  have hb := E.small
  have hbb : (l.length + l2.length) * E.bytes ≤ 1099511627776 * 64 := Nat.mul_le_mul hlen hb
  have key : ∀ v0 n, w.ownsRow base E.e E.size v0 n (l.flatMap E.enc) → n = l.length → ∃ v' w', (Builtin.append_ #[t, t] ty #[v0, .slice (some ⟨g, 0, none⟩) l2.length cap]).run Try.prog w = .ok v' w' ∧ Own E w' base v' (l ++ l2) ∧ Below base w w' ∧ w.grownBy w' v0.ownBlock ∧ (v'.ownBlock = v0.ownBlock ∨ v'.ownBlock = some w.heap.size) := by
    rintro v0 n hv0 rfl
    obtain ⟨v', w', hr, h3, h4, _, h6⟩ := run_append_own_at (P := Try.prog) w base t ty E.e i z E.size E.bytes ht hi hz hsize hby hzc E.pos v0 _ _ hv0 ⟨g, 0, none⟩ l2.length cap (l2.flatMap E.enc) (flat_length E l2) hnews hone (by unfold maxLen; omega) (by omega) hbase
    exact ⟨v', w', hr, .inr (by simpa using h3), (Below.refl _ _).grown h4 hbase (fun k hk => (World.ownsRow.lt hv0 k hk).1), h4, h6⟩
  rcases hown with ⟨rfl, a0, rfl⟩ | hown
  · rcases Nat.eq_zero_or_pos l2.length with h0 | h0
    · have : l2 = [] := List.eq_nil_of_length_eq_zero h0
      subst this
      obtain ⟨v', w', hr, h3, h4, h5, h6⟩ := key (.slice none 0 0) 0 (World.ownsRow_nil _ _ _ _) rfl
      refine ⟨.slice a0 0 0, w, ?_, Own.emptyAny _ _ _ _, Below.refl _ _, World.grownBy.refl _ _, .inl rfl⟩
      cases a0 <;> simp [Builtin.append_, run_underlying ht, sizeOf, typeInfo, hi, Builtin.lenOf, Builtin.firstCells, storeCells, loadCells, loadCellsFrom]
    · have hc0 := run_append_cap0 (P := Try.prog) w t ty E.e i z ht hi hz a0 ⟨g, 0, none⟩ l2.length cap (l2.flatMap E.enc) (by rw [flat_length, hsize]) hnews h0 (by omega) (by rw [hby]; simp at hbb; omega)
      obtain ⟨v', w', hr, h3, h4, h5, h6⟩ := key (.slice none 0 0) 0 (World.ownsRow_nil _ _ _ _) rfl
      refine ⟨v', w', hc0.trans hr, h3, h4, ⟨h5.os, h5.tape, h5.output, h5.size, fun k hk _ => h5.block k hk (by simp [Value.ownBlock])⟩, ?_⟩
      rcases h6 with h6 | h6
      · exfalso
        have hp : 0 < ([] ++ l2).length := by simpa using h0
        obtain ⟨a', cap', hv', _, _, hc⟩ := h3.form
        obtain ⟨b', hb', _⟩ := hc 0 hp
        rw [hv', hb'] at h6
        simp [Value.ownBlock] at h6
      · exact .inr h6
  · exact key v l.length hown rfl
/-- append of a slice to a slice of the call's own. -/
theorem appendN {P : Program} (hP : P = Try.prog) {ops : Array Oper} {rest : List Oper} {o : Oper} {a : Act} {Q : Exit → Act → World → Prop} (hgd : o.guard = none) (s x : Operand) (t : TypeId)
    (ho : o.op = .call { callee := .builtin .append, args := #[s, x], argTypes := #[t, t] }) (ht : P.underlying t = some (.slice E.e))
    (hs : a.eval s = v) (hx : a.eval x = v2) (hown : Own E w base v l) (h2 : Own E w B v2 l2) (hlen : l.length + l2.length ≤ 1099511627776) (hbase : base ≤ w.heap.size)
    (h : ∀ v' w', Own E w' base v' (l ++ l2) → Below base w w' → w.grownBy w' v.ownBlock → (v'.ownBlock = v.ownBlock ∨ v'.ownBlock = some w.heap.size) → wpList P ops Q rest (a.put o.dst v') w') :
    wpList P ops Q (o :: rest) a w := by
  subst hP
  obtain ⟨v', w', hr, h3, h4, h5, h6⟩ := run_appendN t o.type ht hown h2 hlen hbase
  refine wpList_plain hgd fun K hK => ?_
  unfold Oper.wp execOp
  simp only [ho, resolve, invoke, builtin, Sem.run_bind, Sem.run_pure, Result.andThen_ok, List.map_toArray, List.map_cons, List.map_nil, hs, hx, hr]
  exact hK _ _ (h v' w' h3 h4 h5 h6)
end
end Go.Proofs.Ytledmebhlmpjaaa
