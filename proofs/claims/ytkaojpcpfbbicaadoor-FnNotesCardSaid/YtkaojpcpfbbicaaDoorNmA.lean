/- NmA: slices of strings and bytes, texts of positions (several texts in one). Conditions: as each contract states. -/
import Derived.Test.YtkaojpcpfbbicaaDoorMem3
import Derived.Deep.RegionLaw
import Derived.Laws.IdiomStrings
import Derived.Laws.BytesString
import Derived.Sort.Grow
import Derived.Test.YtkaojpcpfbbicaaDoorHoles
import Derived.Test.YtkaojpcpfbbicaaDoorBitsG
set_option linter.unusedVariables false
set_option linter.unusedSimpArgs false
namespace Peg
structure Rs where
  l : Int
  c : Bool
  s : Int
  t : Int
deriving DecidableEq
def Rs0 : Rs := ⟨0, false, 0, 0⟩
end Peg
namespace Go.Proofs.YtkaojpcpfbbicaaDoor
open Go.ChangeShapes Go.WideShapes Go.ChangeAt Go.RowKit Go.Sort
section
variable {α : Type} {E : Elt α} {w w' : World} {base B : Nat} {v : Value} {l : List α}
theorem Own.st1 {b n cap : Nat} (h : Own E w base (.slice (some ⟨b, 0, none⟩) n cap) l) (hs : E.size = 1) (i : Nat) (hi : i < l.length) (x : α) (c0 : Value) (hc : E.enc x = [c0]) :
    Own E (w.setCell ⟨b, i, none⟩ c0) base (.slice (some ⟨b, 0, none⟩) n cap) (l.set i x) ∧ w.grownBy (w.setCell ⟨b, i, none⟩ c0) (some b) := by
  obtain ⟨hr, hn⟩ := h.raw (by omega)
  exact ⟨(h.store hs i hi x c0 hc).1, by subst hn; exact (hr.stored i c0).2⟩
/-- the store of a whole element of 2 cells -/
theorem Own.st2 {b n cap : Nat} (h : Own E w base (.slice (some ⟨b, 0, none⟩) n cap) l) (hs : E.size = 2) (i : Nat) (hi : i < l.length) (x : α) (c0 c1 : Value) (hc : E.enc x = [c0, c1]) :
    Own E ((w.setCell ⟨b, i * 2, none⟩ c0).setCell ⟨b, i * 2 + 1, none⟩ c1) base (.slice (some ⟨b, 0, none⟩) n cap) (l.set i x) ∧ w.grownBy ((w.setCell ⟨b, i * 2, none⟩ c0).setCell ⟨b, i * 2 + 1, none⟩ c1) (some b) := by
  obtain ⟨hr, hn⟩ := h.raw (by omega)
  subst hn
  obtain ⟨h1, g1⟩ := hr.stored (i * 2) c0
  obtain ⟨h2, g2⟩ := h1.stored (i * 2 + 1) c1
  refine ⟨.inr ?_, (g1.trans g2)⟩
  rw [List.length_set]
  rw [show (l.set i x).flatMap E.enc = ((l.flatMap E.enc).set (i * 2) c0).set (i * 2 + 1) c1 from ?_]
  · exact h2
  · rw [flat_set E l i x hi, hc, hs]
    have hL : (l.flatMap E.enc).length = l.length * 2 := by rw [flat_length, hs]
    generalize l.flatMap E.enc = xs at *
    apply List.ext_getElem?
    intro j
    simp only [List.getElem?_append, List.getElem?_set, List.length_append, List.length_take, List.length_set, List.length_cons, List.length_nil, List.getElem?_take, List.getElem?_drop]
    have hm : min (i * 2) xs.length = i * 2 := by omega
    rw [hm]
    by_cases a0 : j < i * 2
    · simp [a0, show j < i * 2 + 2 from by omega, show ¬ i * 2 = j from by omega, show ¬ i * 2 + 1 = j from by omega]
    by_cases b0 : j = i * 2
    · subst b0; simp [hL, hi, show i * 2 < l.length * 2 from by omega, show i * 2 + 1 < l.length * 2 from by omega, show i * 2 + 1 - i * 2 = 1 from by omega, show ¬ (i * 2 + 1 < i * 2) from by omega]
    by_cases b1 : j = i * 2 + 1
    · subst b1; simp [hL, hi, show i * 2 < l.length * 2 from by omega, show i * 2 + 1 < l.length * 2 from by omega, show i * 2 + 1 - i * 2 = 1 from by omega, show ¬ (i * 2 + 1 < i * 2) from by omega]
    · have e1 : (i + 1) * 2 + (j - (i * 2 + 2)) = j := by omega
      have e2 : j - i * 2 = (j - (i * 2 + 2)) + 2 := by omega
      simp [a0, show ¬ j < i * 2 + 2 from by omega, show ¬ i * 2 = j from by omega, show ¬ i * 2 + 1 = j from by omega, e1]
/-- the store of a whole element of 4 cells -/
theorem Own.st4 {b n cap : Nat} (h : Own E w base (.slice (some ⟨b, 0, none⟩) n cap) l) (hs : E.size = 4) (i : Nat) (hi : i < l.length) (x : α) (c0 c1 c2 c3 : Value) (hc : E.enc x = [c0, c1, c2, c3]) :
    Own E ((((w.setCell ⟨b, i * 4, none⟩ c0).setCell ⟨b, i * 4 + 1, none⟩ c1).setCell ⟨b, i * 4 + 2, none⟩ c2).setCell ⟨b, i * 4 + 3, none⟩ c3) base (.slice (some ⟨b, 0, none⟩) n cap) (l.set i x) ∧ w.grownBy ((((w.setCell ⟨b, i * 4, none⟩ c0).setCell ⟨b, i * 4 + 1, none⟩ c1).setCell ⟨b, i * 4 + 2, none⟩ c2).setCell ⟨b, i * 4 + 3, none⟩ c3) (some b) := by
  obtain ⟨hr, hn⟩ := h.raw (by omega)
  subst hn
  obtain ⟨h1, g1⟩ := hr.stored (i * 4) c0
  obtain ⟨h2, g2⟩ := h1.stored (i * 4 + 1) c1
  obtain ⟨h3, g3⟩ := h2.stored (i * 4 + 2) c2
  obtain ⟨h4, g4⟩ := h3.stored (i * 4 + 3) c3
  refine ⟨.inr ?_, (((g1.trans g2).trans g3).trans g4)⟩
  rw [List.length_set]
  rw [show (l.set i x).flatMap E.enc = ((((l.flatMap E.enc).set (i * 4) c0).set (i * 4 + 1) c1).set (i * 4 + 2) c2).set (i * 4 + 3) c3 from ?_]
  · exact h4
  · rw [flat_set E l i x hi, hc, hs]
    have hL : (l.flatMap E.enc).length = l.length * 4 := by rw [flat_length, hs]
    generalize l.flatMap E.enc = xs at *
    apply List.ext_getElem?
    intro j
    simp only [List.getElem?_append, List.getElem?_set, List.length_append, List.length_take, List.length_set, List.length_cons, List.length_nil, List.getElem?_take, List.getElem?_drop]
    have hm : min (i * 4) xs.length = i * 4 := by omega
    rw [hm]
    by_cases a0 : j < i * 4
    · simp [a0, show j < i * 4 + 4 from by omega, show ¬ i * 4 = j from by omega, show ¬ i * 4 + 1 = j from by omega, show ¬ i * 4 + 2 = j from by omega, show ¬ i * 4 + 3 = j from by omega]
    by_cases b0 : j = i * 4
    · subst b0; simp [hL, hi, show i * 4 < l.length * 4 from by omega, show i * 4 + 1 < l.length * 4 from by omega, show i * 4 + 2 < l.length * 4 from by omega, show i * 4 + 3 < l.length * 4 from by omega, show i * 4 + 1 - i * 4 = 1 from by omega, show i * 4 + 2 - i * 4 = 2 from by omega, show i * 4 + 3 - i * 4 = 3 from by omega, show ¬ (i * 4 + 1 < i * 4) from by omega, show ¬ (i * 4 + 2 < i * 4) from by omega, show ¬ (i * 4 + 3 < i * 4) from by omega]
    by_cases b1 : j = i * 4 + 1
    · subst b1; simp [hL, hi, show i * 4 < l.length * 4 from by omega, show i * 4 + 1 < l.length * 4 from by omega, show i * 4 + 2 < l.length * 4 from by omega, show i * 4 + 3 < l.length * 4 from by omega, show i * 4 + 1 - i * 4 = 1 from by omega, show i * 4 + 2 - i * 4 = 2 from by omega, show i * 4 + 3 - i * 4 = 3 from by omega, show ¬ (i * 4 + 1 < i * 4) from by omega, show ¬ (i * 4 + 2 < i * 4) from by omega, show ¬ (i * 4 + 3 < i * 4) from by omega]
    by_cases b2 : j = i * 4 + 2
    · subst b2; simp [hL, hi, show i * 4 < l.length * 4 from by omega, show i * 4 + 1 < l.length * 4 from by omega, show i * 4 + 2 < l.length * 4 from by omega, show i * 4 + 3 < l.length * 4 from by omega, show i * 4 + 1 - i * 4 = 1 from by omega, show i * 4 + 2 - i * 4 = 2 from by omega, show i * 4 + 3 - i * 4 = 3 from by omega, show ¬ (i * 4 + 1 < i * 4) from by omega, show ¬ (i * 4 + 2 < i * 4) from by omega, show ¬ (i * 4 + 3 < i * 4) from by omega]
    by_cases b3 : j = i * 4 + 3
    · subst b3; simp [hL, hi, show i * 4 < l.length * 4 from by omega, show i * 4 + 1 < l.length * 4 from by omega, show i * 4 + 2 < l.length * 4 from by omega, show i * 4 + 3 < l.length * 4 from by omega, show i * 4 + 1 - i * 4 = 1 from by omega, show i * 4 + 2 - i * 4 = 2 from by omega, show i * 4 + 3 - i * 4 = 3 from by omega, show ¬ (i * 4 + 1 < i * 4) from by omega, show ¬ (i * 4 + 2 < i * 4) from by omega, show ¬ (i * 4 + 3 < i * 4) from by omega]
    · have e1 : (i + 1) * 4 + (j - (i * 4 + 4)) = j := by omega
      have e2 : j - i * 4 = (j - (i * 4 + 4)) + 4 := by omega
      simp [a0, show ¬ j < i * 4 + 4 from by omega, show ¬ i * 4 = j from by omega, show ¬ i * 4 + 1 = j from by omega, show ¬ i * 4 + 2 = j from by omega, show ¬ i * 4 + 3 = j from by omega, e1]
theorem Own.some1 {b n cap : Nat} (h : Own E w base (.slice (some ⟨b, 0, none⟩) n cap) l) (i : Nat) (hi : i < l.length) (j : Nat) (hj : j < E.size) : ∃ u, w.cell? ⟨b, i * E.size + j, none⟩ = some u := by
  have h1 : i * E.size + j < l.length * E.size := by
    have : (i + 1) * E.size ≤ l.length * E.size := Nat.mul_le_mul_right _ hi
    rw [Nat.succ_mul] at this
    omega
  exact Option.isSome_iff_exists.1 (h.some3 _ h1).1
theorem Own.fz {b n cap : Nat} (h : Own E w base (.slice (some ⟨b, 0, none⟩) n cap) l) (hl : 0 < l.length) : ∀ j, w.frozen? ⟨b, j, none⟩ = false :=
  (h.some3 0 (Nat.mul_pos hl E.pos)).2
end
end Go.Proofs.YtkaojpcpfbbicaaDoor
namespace Go.Proofs.YtkaojpcpfbbicaaDoor
open Go.ChangeShapes Go.WideShapes Go.ChangeAt Go.RowKit Go.Sort
section
variable {α : Type} {E : Elt α} {w w' : World} {base B : Nat} {v v2 : Value} {l l2 : List α}
theorem run_append_none (t ty : TypeId) (ht : Tryd.prog.underlying t = some (.slice E.e)) (hown : Own E w base v l) (ad : Option Addr) :
    (Builtin.append_ #[t, t] ty #[v, .slice ad 0 0]).run Tryd.prog w = .ok v w := by
  obtain ⟨z, hi0, hzc⟩ := E.info
  obtain ⟨i, hi, hz, hsize, hby⟩ := info_parts hi0
  rcases hown with ⟨rfl, a0, rfl⟩ | hown
  · cases a0 <;> cases ad <;> simp [Builtin.append_, run_underlying ht, sizeOf, typeInfo, hi, Builtin.lenOf, Builtin.firstCells, storeCells, loadCells, loadCellsFrom]
  · rcases hown.2 with ⟨rfl, _⟩ | ⟨g, cap, cur, rfl, _, _, hnc, _⟩
    · cases ad <;> simp [Builtin.append_, run_underlying ht, sizeOf, typeInfo, hi, Builtin.lenOf, Builtin.firstCells, storeCells, loadCells, loadCellsFrom]
    · cases ad <;> simp [Builtin.append_, run_underlying ht, sizeOf, typeInfo, hi, Builtin.lenOf, Builtin.firstCells, hnc, storeCells, loadCells, loadCellsFrom]
theorem run_appendN (t ty : TypeId) (ht : Tryd.prog.underlying t = some (.slice E.e)) (hown : Own E w base v l) (h2 : Own E w B v2 l2) (hlen : l.length + l2.length ≤ 1099511627776) (hbase : base ≤ w.heap.size) :
    ∃ v' w', (Builtin.append_ #[t, t] ty #[v, v2]).run Tryd.prog w = .ok v' w' ∧ Own E w' base v' (l ++ l2) ∧ Below base w w' ∧ w.grownBy w' v.ownBlock ∧ (v'.ownBlock = v.ownBlock ∨ v'.ownBlock = some w.heap.size) := by
  obtain ⟨z, hi0, hzc⟩ := E.info
  obtain ⟨i, hi, hz, hsize, hby⟩ := info_parts hi0
  have nilcase : ∀ ad, l2 = [] → v2 = .slice ad 0 0 → ∃ v' w', (Builtin.append_ #[t, t] ty #[v, v2]).run Tryd.prog w = .ok v' w' ∧ Own E w' base v' (l ++ l2) ∧ Below base w w' ∧ w.grownBy w' v.ownBlock ∧ (v'.ownBlock = v.ownBlock ∨ v'.ownBlock = some w.heap.size) := by
    rintro ad rfl rfl
    exact ⟨v, w, run_append_none t ty ht hown ad, by simpa using hown, Below.refl _ _, World.grownBy.refl _ _, .inl rfl⟩
  rcases h2 with ⟨e1, ad, e2⟩ | h2
  · exact nilcase ad e1 e2
  rcases h2.2 with ⟨e2, e1⟩ | ⟨g, cap, cur, rfl, _, hg, hnc, hcm, hcs, hx⟩
  · exact nilcase none (List.eq_nil_of_length_eq_zero e1) e2
  have hnews : ∀ j u, (l2.flatMap E.enc)[j]? = some u → w.cell? ((⟨g, 0, none⟩ : Addr).add j) = some u := by
    intro j u hu
    have hj : j < l2.length * E.size := by have := (List.getElem?_eq_some_iff.1 hu).1; rwa [flat_length] at this
    rw [add_origin, World.ownsRow.cellAt (e := E.e) (size := E.size) ⟨h2.1, .inr ⟨g, cap, cur, rfl, Nat.zero_le _, hg, hnc, hcm, hcs, hx⟩⟩ j hj]
    exact hu
  have hone : ∀ u ∈ l2.flatMap E.enc, u.oneCell' = true := by
    intro u hu
    obtain ⟨x, _, hxu⟩ := List.mem_flatMap.1 hu
    exact E.one x u hxu
  have hb := E.small
  have hbb : (l.length + l2.length) * E.bytes ≤ 1099511627776 * 64 := Nat.mul_le_mul hlen hb
  have key : ∀ v0 n, w.ownsRow base E.e E.size v0 n (l.flatMap E.enc) → n = l.length → ∃ v' w', (Builtin.append_ #[t, t] ty #[v0, .slice (some ⟨g, 0, none⟩) l2.length cap]).run Tryd.prog w = .ok v' w' ∧ Own E w' base v' (l ++ l2) ∧ Below base w w' ∧ w.grownBy w' v0.ownBlock ∧ (v'.ownBlock = v0.ownBlock ∨ v'.ownBlock = some w.heap.size) := by
    rintro v0 n hv0 rfl
    obtain ⟨v', w', hr, h3, h4, _, h6⟩ := run_append_own_at (P := Tryd.prog) w base t ty E.e i z E.size E.bytes ht hi hz hsize hby hzc E.pos v0 _ _ hv0 ⟨g, 0, none⟩ l2.length cap (l2.flatMap E.enc) (flat_length E l2) hnews hone (by unfold maxLen; omega) (by omega) hbase
    exact ⟨v', w', hr, .inr (by simpa using h3), (Below.refl _ _).grown h4 hbase (fun k hk => (World.ownsRow.lt hv0 k hk).1), h4, h6⟩
  rcases hown with ⟨rfl, a0, rfl⟩ | hown
  · rcases Nat.eq_zero_or_pos l2.length with h0 | h0
    · have : l2 = [] := List.eq_nil_of_length_eq_zero h0
      subst this
      obtain ⟨v', w', hr, h3, h4, h5, h6⟩ := key (.slice none 0 0) 0 (World.ownsRow_nil _ _ _ _) rfl
      refine ⟨.slice a0 0 0, w, ?_, Own.emptyAny _ _ _ _, Below.refl _ _, World.grownBy.refl _ _, .inl rfl⟩
      cases a0 <;> simp [Builtin.append_, run_underlying ht, sizeOf, typeInfo, hi, Builtin.lenOf, Builtin.firstCells, storeCells, loadCells, loadCellsFrom]
    · have hc0 := run_append_cap0 (P := Tryd.prog) w t ty E.e i z ht hi hz a0 ⟨g, 0, none⟩ l2.length cap (l2.flatMap E.enc) (by rw [flat_length, hsize]) hnews h0 (by omega) (by rw [hby]; simp at hbb; omega)
      obtain ⟨v', w', hr, h3, h4, h5, h6⟩ := key (.slice none 0 0) 0 (World.ownsRow_nil _ _ _ _) rfl
      refine ⟨v', w', hc0.trans hr, h3, h4, ⟨h5.os, h5.tape, h5.output, h5.size, fun k hk _ => h5.block k hk (by simp [Value.ownBlock])⟩, ?_⟩
      rcases h6 with h6 | h6
      · exfalso
        have hp : 0 < ([] ++ l2).length := by simpa using h0
        obtain ⟨a', cap', hv', _, _, hc⟩ := h3.form
        obtain ⟨b', hb', _⟩ := hc 0 hp
        rw [hv', hb'] at h6
        simp [Value.ownBlock] at h6
      · exact .inr h6
  · exact key v l.length hown rfl
/-- append of a slice to a slice of the call's own. -/
theorem appendN {P : Program} (hP : P = Tryd.prog) {ops : Array Oper} {rest : List Oper} {o : Oper} {a : Act} {Q : Exit → Act → World → Prop} (hgd : o.guard = none) (s x : Operand) (t : TypeId)
    (ho : o.op = .call { callee := .builtin .append, args := #[s, x], argTypes := #[t, t] }) (ht : P.underlying t = some (.slice E.e))
    (hs : a.eval s = v) (hx : a.eval x = v2) (hown : Own E w base v l) (h2 : Own E w B v2 l2) (hlen : l.length + l2.length ≤ 1099511627776) (hbase : base ≤ w.heap.size)
    (h : ∀ v' w', Own E w' base v' (l ++ l2) → Below base w w' → w.grownBy w' v.ownBlock → (v'.ownBlock = v.ownBlock ∨ v'.ownBlock = some w.heap.size) → wpList P ops Q rest (a.put o.dst v') w') :
    wpList P ops Q (o :: rest) a w := by
  subst hP
  obtain ⟨v', w', hr, h3, h4, h5, h6⟩ := run_appendN t o.type ht hown h2 hlen hbase
  refine wpList_plain hgd fun K hK => ?_
  unfold Oper.wp execOp
  simp only [ho, resolve, invoke, builtin, Sem.run_bind, Sem.run_pure, Result.andThen_ok, List.map_toArray, List.map_cons, List.map_nil, hs, hx, hr]
  exact hK _ _ (h v' w' h3 h4 h5 h6)
end
end Go.Proofs.YtkaojpcpfbbicaaDoor
namespace Peg
def B0 : ByteArray := ByteArray.empty
end Peg
namespace Go.Proofs.YtkaojpcpfbbicaaDoor
open Go.ChangeShapes Go.WideShapes Go.ChangeAt Go.RowKit Go.Sort
theorem info_str : (Tryd.prog.info? 9).map (fun i => (i.zero, i.size, i.bytes)) = some (some (.string ByteArray.empty), 1, 16) := by kernel_rfl
def EStr : Elt ByteArray where
  e := 9
  size := 1
  bytes := 16
  enc x := [.string x]
  len _ := rfl
  one _ u hu := by simp at hu; subst hu; rfl
  pos := by decide
  small := by decide
  info := ⟨_, info_str, rfl⟩
theorem Rd.str {w : World} {v : Value} {l : List ByteArray} (h : Rd EStr w v l) : ∃ a cap, v = .slice a l.length cap ∧ l.length ≤ 9223372036854775807 ∧
    ∀ i, i < l.length → ∃ ad : Addr, a = some ad ∧ ad.block < w.heap.size ∧ w.cell? (ad.add i) = some (.string (Peg.gD l Peg.B0 i)) := by
  obtain ⟨a, cap, hv, h1, h3⟩ := h
  refine ⟨a, cap, hv, h1, fun i hi => ?_⟩
  obtain ⟨ad, hb, h5, h6⟩ := h3 i hi
  exact ⟨ad, hb, h5, by simpa [EStr, hi, Peg.gD] using h6 0 (by decide)⟩
theorem Own.strG {w : World} {base : Nat} {v : Value} {l : List ByteArray} (h : Own EStr w base v l) : ∃ a cap, v = .slice a l.length cap ∧ l.length ≤ 9223372036854775807 ∧
    ∀ i, i < l.length → ∃ b, a = some ⟨b, 0, none⟩ ∧ base ≤ b ∧ b < w.heap.size ∧ w.cell? ⟨b, i, none⟩ = some (.string (Peg.gD l Peg.B0 i)) := by
  obtain ⟨a, cap, hv, h1, h2, h3⟩ := h.form
  refine ⟨a, cap, hv, by unfold maxLen at h2; omega, fun i hi => ?_⟩
  obtain ⟨b, hb, h4, h5, h6⟩ := h3 i hi
  exact ⟨b, hb, h4, h5, by simpa [EStr, hi, Peg.gD] using h6 0 (by decide)⟩
section
variable {α : Type} {E : Elt α} {w w' : World} {base B : Nat} {v v2 : Value} {l l2 : List α}
/-- append of a slice inside a region that draws its order -/
theorem step_appendN {P : Program} (hP : P = Tryd.prog) {ops : Array Oper} {o : Oper} {a : Act} {K : Act → World → Prop} {Q : Exit → Act → World → Prop} {F : Prop} (hgd : o.guard = none) (s x : Operand) (t : TypeId)
    (ho : o.op = .call { callee := .builtin .append, args := #[s, x], argTypes := #[t, t] }) (ht : P.underlying t = some (.slice E.e))
    (hs : a.eval s = v) (hx : a.eval x = v2) (hown : Own E w base v l) (h2 : Own E w B v2 l2) (hlen : l.length + l2.length ≤ 1099511627776) (hbase : base ≤ w.heap.size)
    (h : ∀ v' w', Own E w' base v' (l ++ l2) → Below base w w' → w.grownBy w' v.ownBlock → K (a.put o.dst v') w') :
    if Region.wanted o (yielded ops a.tmps) = true then Oper.wp P o a w K Q else F := by
  subst hP
  have hw : Region.wanted o (yielded ops a.tmps) = true := by simp [Region.wanted, hgd]
  rw [if_pos hw]
  obtain ⟨v', w', hr, h3, h4, h5, _⟩ := run_appendN t o.type ht hown h2 hlen hbase
  unfold Oper.wp execOp
  simp only [ho, resolve, invoke, builtin, Sem.run_bind, Sem.run_pure, Result.andThen_ok, List.map_toArray, List.map_cons, List.map_nil, hs, hx, hr]
  exact h v' w' h3 h4 h5
end
end Go.Proofs.YtkaojpcpfbbicaaDoor
namespace Go.Proofs.YtkaojpcpfbbicaaDoor
open Go.ChangeShapes Go.WideShapes Go.ChangeAt Go.RowKit Peg Go.Sort
theorem info_u8 : (Tryd.prog.info? 5).map (fun i => (i.zero, i.size, i.bytes)) = some (some (.int .u8 0), 1, 1) := by kernel_rfl
def EU8 : Elt UInt8 where
  e := 5
  size := 1
  bytes := 1
  enc x := [.int .u8 x.toNat]
  len _ := rfl
  one _ u hu := by simp at hu; subst hu; rfl
  pos := by decide
  small := by decide
  info := ⟨_, info_u8, rfl⟩
/-- 'string(b)' of a slice of the calls' own -/
theorem back_own {w : World} {base : Nat} {v : Value} {l : List UInt8} (h : Own EU8 w base v l) : (convert 48 9 v).run Tryd.prog w = .ok (.string ⟨l.toArray⟩) w := by
  obtain ⟨a, cap, rfl, _, _, hg⟩ := h.form
  cases l with
  | nil =>
    rcases a with _ | a
    · exact run_convert_bytes_nil w 48 5 Tryd.underlying48 Tryd.underlying5 0 cap 9 Tryd.underlying9
    · exact run_convert_bytes_back w 48 9 5 a cap [] Tryd.underlying48 Tryd.underlying5 Tryd.underlying9 (fun j hj => by simp at hj)
  | cons x r =>
    obtain ⟨b, rfl, _, _, _⟩ := hg 0 (by simp)
    refine run_convert_bytes_back w 48 9 5 ⟨b, 0, none⟩ cap (x :: r) Tryd.underlying48 Tryd.underlying5 Tryd.underlying9 (fun j hj => ?_)
    obtain ⟨b', e, _, _, hc⟩ := hg j hj
    obtain rfl : b = b' := by simpa using e
    have e0 : (⟨b, 0, none⟩ : Addr).add j = ⟨b, j * 1 + 0, none⟩ := by cases j <;> simp [Addr.add]
    rw [e0]
    have := hc 0 (by decide)
    simpa [EU8] using this
end Go.Proofs.YtkaojpcpfbbicaaDoor
namespace Peg
def chr (p o : Int) (k : Nat) : UInt8 := if tb p k = true then 111 else if tb o k = true then 46 else 32
def rowTo (p o : Int) (s x : Nat) : List UInt8 := (List.range x).map fun j => chr p o (s + j)
def rowB (p o : Int) (A y : Nat) : ByteArray := ⟨(rowTo p o (y * A) A).toArray⟩
def rowsB (p o : Int) (A y : Nat) : List ByteArray := (List.range y).map (rowB p o A)
def posText (a b o p : Int) : List ByteArray := if posOk a b o p = true then rowsB p o a.toNat b.toNat else []
theorem rowTo_succ (p o : Int) (s x : Nat) : rowTo p o s (x + 1) = rowTo p o s x ++ [chr p o (s + x)] := by simp [rowTo, List.range_succ]
theorem rowTo_length (p o : Int) (s x : Nat) : (rowTo p o s x).length = x := by simp [rowTo]
theorem rowsB_succ (p o : Int) (A y : Nat) : rowsB p o A (y + 1) = rowsB p o A y ++ [rowB p o A y] := by simp [rowsB, List.range_succ]
theorem rowsB_length (p o : Int) (A y : Nat) : (rowsB p o A y).length = y := by simp [rowsB]
end Peg
namespace Go.Proofs.YtkaojpcpfbbicaaDoor
open Go.ChangeShapes Go.WideShapes Go.ChangeAt Go.RowKit Peg Go.Sort
def RetStrs (w : World) (l : List ByteArray) (e : Ending) (w' : World) : Prop := ∃ v, e = .returned v ∧ Own EStr w' w.heap.size v l ∧ Below w.heap.size w w'
set_option maxHeartbeats 2000000 in
set_option maxRecDepth 100000 in
theorem PositionText_any (a b o p : Int) (hp : p ≤ 9223372036854775807) (w : World) :
    Calls Tryd.prog 62 #[.agg #[.int .i64 a, .int .i64 b, .int .i64 o], .int .i64 p] w (RetStrs w (posText a b o p)) := by
  cases h : posOk a b o p
  · have HP : Hid (∀ W, Calls Tryd.prog 63 #[.agg #[.int .i64 a, .int .i64 b, .int .i64 o], .int .i64 p] W fun e w' => e = .returned (.bool false) ∧ Below W.heap.size W w') := fun W => by rw [← h]; exact PositionOk_any a b o p hp W
    have HR : Hid (posText a b o p = []) := by show _ = _; simp [posText, h]
    clear h
    go_enter Tryd.func62, Tryd.ntmps62
    go_wp2_with (first | (go_at_call 63; refine (HP.out _).mono ?_; rintro e w' ⟨rfl, hb⟩; obtain ⟨hc, hf, hz, hy⟩ := bcell hb; clear hy; (try simp only [World.size_alloc, World.size_setCell, World.size_drew] at hz); (try have gQ0 : w.heap.size < w'.heap.size := by omega); (try have gQ1 : w.heap.size + 1 < w'.heap.size := by omega); (try have gQ2 : w.heap.size + 1 + 1 < w'.heap.size := by omega); (try have gQ3 : w.heap.size + 1 + 1 + 1 < w'.heap.size := by omega); (try have gQ4 : w.heap.size + 1 + 1 + 1 + 1 < w'.heap.size := by omega); (try have gQ5 : w.heap.size + 1 + 1 + 1 + 1 + 1 < w'.heap.size := by omega); (try have dQ0 : _ < w'.heap.size := Nat.lt_of_lt_of_le dQ0 (by omega)); (try have dQ1 : _ < w'.heap.size := Nat.lt_of_lt_of_le dQ1 (by omega)); (try have dQ2 : _ < w'.heap.size := Nat.lt_of_lt_of_le dQ2 (by omega)); (try have dQ3 : _ < w'.heap.size := Nat.lt_of_lt_of_le dQ3 (by omega)); (try have dQ4 : _ < w'.heap.size := Nat.lt_of_lt_of_le dQ4 (by omega)); (try have dQ5 : _ < w'.heap.size := Nat.lt_of_lt_of_le dQ5 (by omega)); (try (have hnQ := Nat.lt_of_succ_le hz; first | (have _x := dQ0; first | (have _x := dQ1; first | (have _x := dQ2; first | (have _x := dQ3; first | (have _x := dQ4; have dQ5 := hnQ) | have dQ4 := hnQ) | have dQ3 := hnQ) | have dQ2 := hnQ) | have dQ1 := hnQ) | have dQ0 := hnQ)); (try (have hmQ := Nat.lt_of_succ_lt (Nat.lt_of_succ_le hz); first | (have _x := dQ0; first | (have _x := dQ1; first | (have _x := dQ2; first | (have _x := dQ3; first | (have _x := dQ4; have dQ5 := hmQ) | have dQ4 := hmQ) | have dQ3 := hmQ) | have dQ2 := hmQ) | have dQ1 := hmQ) | have dQ0 := hmQ)); (try have sQ00 : (w'.cell? ⟨w.heap.size, 0, none⟩).isSome = true := by simp [go_sem, *]); (try have sQ01 : (w'.cell? ⟨w.heap.size, 1, none⟩).isSome = true := by simp [go_sem, *]); (try have sQ02 : (w'.cell? ⟨w.heap.size, 2, none⟩).isSome = true := by simp [go_sem, *]); (try have sQ03 : (w'.cell? ⟨w.heap.size, 3, none⟩).isSome = true := by simp [go_sem, *]); (try have sQ04 : (w'.cell? ⟨w.heap.size, 4, none⟩).isSome = true := by simp [go_sem, *]); (try have sQ10 : (w'.cell? ⟨w.heap.size + 1, 0, none⟩).isSome = true := by simp [go_sem, *]); (try have sQ11 : (w'.cell? ⟨w.heap.size + 1, 1, none⟩).isSome = true := by simp [go_sem, *]); (try have sQ12 : (w'.cell? ⟨w.heap.size + 1, 2, none⟩).isSome = true := by simp [go_sem, *]); (try have sQ13 : (w'.cell? ⟨w.heap.size + 1, 3, none⟩).isSome = true := by simp [go_sem, *]); (try have sQ14 : (w'.cell? ⟨w.heap.size + 1, 4, none⟩).isSome = true := by simp [go_sem, *]); (try have sQ20 : (w'.cell? ⟨w.heap.size + 1 + 1, 0, none⟩).isSome = true := by simp [go_sem, *]); (try have sQ21 : (w'.cell? ⟨w.heap.size + 1 + 1, 1, none⟩).isSome = true := by simp [go_sem, *]); (try have sQ22 : (w'.cell? ⟨w.heap.size + 1 + 1, 2, none⟩).isSome = true := by simp [go_sem, *]); (try have sQ23 : (w'.cell? ⟨w.heap.size + 1 + 1, 3, none⟩).isSome = true := by simp [go_sem, *]); (try have sQ24 : (w'.cell? ⟨w.heap.size + 1 + 1, 4, none⟩).isSome = true := by simp [go_sem, *]); (try have fQ0 : ∀ j, w'.frozen? ⟨w.heap.size, j, none⟩ = false := by intro j; simp [go_sem, *]); (try have fQ1 : ∀ j, w'.frozen? ⟨w.heap.size + 1, j, none⟩ = false := by intro j; simp [go_sem, *]); (try have fQ2 : ∀ j, w'.frozen? ⟨w.heap.size + 1 + 1, j, none⟩ = false := by intro j; simp [go_sem, *])) | ((with_reducible refine wp_region_qb ?_ ?_ (fun hq => ?_)); (focus kernel_rfl); (focus kernel_rfl); (repeat (go_big_quiet_step ((first | (go_at_call 63; exact Calls.regrown_of (HP.out _)))))); refine wpQuiet_nil ?_; intro wq hb; obtain ⟨hc, hf, hz, hy⟩ := bcell hb; clear hq hy; (try simp only [World.size_alloc, World.size_setCell, World.size_drew] at hz); (try have gQ0 : w.heap.size < wq.heap.size := by omega); (try have gQ1 : w.heap.size + 1 < wq.heap.size := by omega); (try have gQ2 : w.heap.size + 1 + 1 < wq.heap.size := by omega); (try have gQ3 : w.heap.size + 1 + 1 + 1 < wq.heap.size := by omega); (try have gQ4 : w.heap.size + 1 + 1 + 1 + 1 < wq.heap.size := by omega); (try have gQ5 : w.heap.size + 1 + 1 + 1 + 1 + 1 < wq.heap.size := by omega); (try have dQ0 : _ < wq.heap.size := Nat.lt_of_lt_of_le dQ0 (by omega)); (try have dQ1 : _ < wq.heap.size := Nat.lt_of_lt_of_le dQ1 (by omega)); (try have dQ2 : _ < wq.heap.size := Nat.lt_of_lt_of_le dQ2 (by omega)); (try have dQ3 : _ < wq.heap.size := Nat.lt_of_lt_of_le dQ3 (by omega)); (try have dQ4 : _ < wq.heap.size := Nat.lt_of_lt_of_le dQ4 (by omega)); (try have dQ5 : _ < wq.heap.size := Nat.lt_of_lt_of_le dQ5 (by omega)); (try (have hnQ := Nat.lt_of_succ_le hz; first | (have _x := dQ0; first | (have _x := dQ1; first | (have _x := dQ2; first | (have _x := dQ3; first | (have _x := dQ4; have dQ5 := hnQ) | have dQ4 := hnQ) | have dQ3 := hnQ) | have dQ2 := hnQ) | have dQ1 := hnQ) | have dQ0 := hnQ)); (try (have hmQ := Nat.lt_of_succ_lt (Nat.lt_of_succ_le hz); first | (have _x := dQ0; first | (have _x := dQ1; first | (have _x := dQ2; first | (have _x := dQ3; first | (have _x := dQ4; have dQ5 := hmQ) | have dQ4 := hmQ) | have dQ3 := hmQ) | have dQ2 := hmQ) | have dQ1 := hmQ) | have dQ0 := hmQ))))
    all_goals go_ret
    all_goals exact ⟨_, rfl, by rw [HR.out]; exact Own.emptyAny _ _ _ _, by (repeat' first | (with_reducible exact Below.refl _ _) | (with_reducible refine Below.alloc ?_ ?_ _) | (with_reducible refine Below.drew ?_) | (with_reducible refine Below.setCell ?_ ?_ _) | (with_reducible refine below_via (by assumption) ?_ ?_) | go_size)⟩
  have HP : Hid (∀ W, Calls Tryd.prog 63 #[.agg #[.int .i64 a, .int .i64 b, .int .i64 o], .int .i64 p] W fun e w' => e = .returned (.bool true) ∧ Below W.heap.size W w') := fun W => by rw [← h]; exact PositionOk_any a b o p hp W
  obtain ⟨hb1, hp0, _⟩ := posOk_bd h
  obtain ⟨ha1, ha2⟩ := inR_iff.1 (boardOk_sides hb1).1
  obtain ⟨hb2, hb3⟩ := inR_iff.1 (boardOk_sides hb1).2
  obtain ⟨ho1, ho2⟩ := holes_lt hb1
  have HR : Hid (posText a b o p = rowsB p o a.toNat b.toNat) := by show _ = _; simp [posText, h]
  clear h hb1
  obtain ⟨A, rfl⟩ : ∃ A : Nat, a = A := ⟨a.toNat, by omega⟩
  obtain ⟨B, rfl⟩ : ∃ B : Nat, b = B := ⟨b.toNat, by omega⟩
  rw [Int.toNat_natCast, Int.toNat_natCast] at HR
  have HB : Hid (∀ (q : Nat) W, Calls Tryd.prog 83 #[.int .i64 p, .int .i64 q] W fun e w' => e = .returned (.bool (tb p q)) ∧ W = w') := fun q W => hasBit_any p q hp0 hp (by omega) W
  have HO : Hid (∀ (q : Nat) W, Calls Tryd.prog 83 #[.int .i64 o, .int .i64 q] W fun e w' => e = .returned (.bool (tb o q)) ∧ W = w') := fun q W => hasBit_any o q (by omega) (by omega) (by omega) W
  go_enter Tryd.func62, Tryd.ntmps62
  go_wp2_with fail
  refine (HP.out _).mono ?_
  rintro e w3 ⟨rfl, hb⟩
  have hz3 := hb.size
  simp only [World.size_alloc] at hz3
  have hbox0 : ∀ j, w3.cell? ⟨w.heap.size, j, none⟩ = #[Value.int .i64 (A : Int), .int .i64 (B : Int), .int .i64 o][j]? := fun j => (hb.cell (by simp)).trans (by simp)
  have HW3 := Lib.hid (show Below w.heap.size w w3 from ((Below.refl _ _).alloc (Nat.le_refl _) _).trans (hb.mono (by simp)))
  clear hb HP
  go_wp2_with fail
  go_loopw [5, 6] (fun t5 t6 wr => ∃ y : Nat, y ≤ B ∧ t6 = .int .i64 y ∧ Own EStr wr w3.heap.size t5 (rowsB p o A y) ∧ Below w3.heap.size w3 wr) (fun _ t _ => B - (intOf t).toNat)
  case atStart => exact ⟨0, by omega, rfl, Own.emptyAny _ _ _ _, by (repeat' first | (with_reducible exact Below.refl _ _) | (with_reducible refine Below.alloc ?_ ?_ _) | (with_reducible refine Below.drew ?_) | (with_reducible refine Below.setCell ?_ ?_ _) | (with_reducible refine below_via (by assumption) ?_ ?_) | go_size)⟩
  case round =>
    obtain ⟨y, hy, rfl, hown, hbw⟩ := hrel
    have hz := hbw.size
    have gW0 : w.heap.size < wr.heap.size := by omega
    have hbox : ∀ j, wr.cell? ⟨w.heap.size, j, none⟩ = #[Value.int .i64 (A : Int), .int .i64 (B : Int), .int .i64 o][j]? := fun j => (hbw.cell (by simp; omega)).trans (hbox0 j)
    by_cases hlt : y < B
    · have HRS := Lib.hid (rowsB_succ p o A y)
      have HRL := Lib.hid (rowsB_length p o A y)
      have HRB : Hid (rowB p o A y = ⟨(rowTo p o (y * A) A).toArray⟩) := rfl
      obtain ⟨M, hM⟩ : ∃ M : Nat, y * A = M := ⟨_, rfl⟩
      have hM7 : M ≤ 42 := by rw [← hM]; exact Nat.mul_le_mul (show y ≤ 6 by omega) (show A ≤ 7 by omega)
      have hMz : (y : Int) * (A : Int) = (M : Int) := by rw [← hM]; simp
      have hMz2 : ((y : Int) + 1) * (A : Int) = ((M + A : Nat) : Int) := by rw [Int.add_mul, hMz]; simp
      rw [hM] at HRB
      clear hM
      generalize rowsB p o A y = D at *
      obtain ⟨w4, rfl⟩ : ∃ w4 : World, w4 = wr := ⟨_, rfl⟩
      go_wp2_with fail
      go_loopw [7, 8] (fun t7 t8 wz => ∃ x : Nat, x ≤ A ∧ t8 = .int .i64 ((M + x : Nat) : Int) ∧ Own EU8 wz w4.heap.size t7 (rowTo p o M x) ∧ Below w4.heap.size w4 wz) (fun _ t _ => M + A - (intOf t).toNat)
      case atStart => exact ⟨0, by omega, by simp, Own.emptyAny _ _ _ _, by (repeat' first | (with_reducible exact Below.refl _ _) | (with_reducible refine Below.alloc ?_ ?_ _) | (with_reducible refine Below.drew ?_) | (with_reducible refine Below.setCell ?_ ?_ _) | (with_reducible refine below_via (by assumption) ?_ ?_) | go_size)⟩
      case round =>
        obtain ⟨x, hx, rfl, hrow, hbq⟩ := hrel
        have hzq := hbq.size
        have gQ9 : w.heap.size < wr.heap.size := by omega
        have hboxq : ∀ j, wr.cell? ⟨w.heap.size, j, none⟩ = #[Value.int .i64 (A : Int), .int .i64 (B : Int), .int .i64 o][j]? := fun j => (hbq.cell (by simpa using gW0)).trans (hbox j)
        by_cases hxa : x < A
        · have hxi : ((M + x : Nat) : Int) < ((M + A : Nat) : Int) := by omega
          have HSS := Lib.hid (rowTo_succ p o M x)
          have hl := rowTo_length p o M x
          have HBq := Lib.hid (fun W => HB.out (M + x) W)
          have HOq := Lib.hid (fun W => HO.out (M + x) W)
          have HCH : Hid (chr p o (M + x) = if tb p ((M + x : Nat) : Int) = true then 111 else if tb o ((M + x : Nat) : Int) = true then 46 else 32) := rfl
          have hq0 : (0 : Int) ≤ ((M + x : Nat) : Int) := by omega
          have hq1 : ((M + x : Nat) : Int) + 1 = ((M + (x + 1) : Nat) : Int) := by omega
          have hq2 : ((M + x : Nat) : Int) ≤ 49 := by omega
          have hq3 : (((M + x : Nat) : Int)).toNat = M + x := by omega
          generalize rowTo p o M x = R at *
          generalize hQ : ((M + x : Nat) : Int) = Q at *
          generalize tb p Q = bp at *
          generalize tb o Q = bo at *
          cases bp
          · cases bo
            · have HV : Hid (chr p o (M + x) = 32) := by show _ = _; rw [HCH.out]; rfl
              clear HCH
              go_wp2_with (first | (go_at_call 83; first | ((with_reducible refine (HBq.out _).mono ?_); rintro e w' ⟨rfl, rfl⟩) | ((with_reducible refine (HOq.out _).mono ?_); rintro e w' ⟨rfl, rfl⟩)) | (at_builtin; (refine append1 (E := EU8) (l := R) rfl rfl _ _ 48 rfl Tryd.underlying48 rfl hrow (32 : UInt8) rfl (by omega) (by omega) ?_); intro v' w2 hown2 hb2 hg2))
              go_roundw
              case rel => exact ⟨x + 1, by omega, by first | (push_cast; rfl) | (simp; done) | (simp; omega), by rw [HSS.out, HV.out]; exact hown2, hbq.trans hb2⟩
              case measure => simp [intOf]; omega
            · have HV : Hid (chr p o (M + x) = 46) := by show _ = _; rw [HCH.out]; rfl
              clear HCH
              go_wp2_with (first | (go_at_call 83; first | ((with_reducible refine (HBq.out _).mono ?_); rintro e w' ⟨rfl, rfl⟩) | ((with_reducible refine (HOq.out _).mono ?_); rintro e w' ⟨rfl, rfl⟩)) | (at_builtin; (refine append1 (E := EU8) (l := R) rfl rfl _ _ 48 rfl Tryd.underlying48 rfl hrow (46 : UInt8) rfl (by omega) (by omega) ?_); intro v' w2 hown2 hb2 hg2))
              go_roundw
              case rel => exact ⟨x + 1, by omega, by first | (push_cast; rfl) | (simp; done) | (simp; omega), by rw [HSS.out, HV.out]; exact hown2, hbq.trans hb2⟩
              case measure => simp [intOf]; omega
          · have HV : Hid (chr p o (M + x) = 111) := by show _ = _; rw [HCH.out]; rfl
            clear HCH
            go_wp2_with (first | (go_at_call 83; first | ((with_reducible refine (HBq.out _).mono ?_); rintro e w' ⟨rfl, rfl⟩) | ((with_reducible refine (HOq.out _).mono ?_); rintro e w' ⟨rfl, rfl⟩)) | (at_builtin; (refine append1 (E := EU8) (l := R) rfl rfl _ _ 48 rfl Tryd.underlying48 rfl hrow (111 : UInt8) rfl (by omega) (by omega) ?_); intro v' w2 hown2 hb2 hg2))
            go_roundw
            case rel => exact ⟨x + 1, by omega, by first | (push_cast; rfl) | (simp; done) | (simp; omega), by rw [HSS.out, HV.out]; exact hown2, hbq.trans hb2⟩
            case measure => simp [intOf]; omega
        · obtain rfl : x = A := by omega
          have hbk := back_own hrow
          have hlen : D.length ≤ 1048576 := by rw [HRL.out]; omega
          have hown2 := hown.keep hbq
          have hs : (⟨(rowTo p o M x).toArray⟩ : ByteArray) = rowB p o x y := HRB.out.symm
          rw [hs] at hbk
          generalize rowB p o x y = S at *
          clear hrow hs HRB
          go_wp2_with (at_builtin; (refine append1 (E := EStr) (l := D) rfl rfl _ _ 63 rfl Tryd.underlying63 rfl hown2 S rfl (by omega) (by omega) ?_); intro v' w2 hown3 hb3 hg3)
          go_roundw
          case rel => exact ⟨y + 1, by omega, by go_num, by rw [HRS.out]; exact hown3, hbw.trans ((hbq.mono (by omega)).trans hb3)⟩
          case measure => simp [intOf]; omega
    · obtain rfl : y = B := by omega
      go_wp2_with fail
      all_goals go_ret
      all_goals exact ⟨_, rfl, by rw [HR.out]; exact hown.mono (by omega), HW3.out.trans (hbw.mono (by omega))⟩
end Go.Proofs.YtkaojpcpfbbicaaDoor
namespace Peg
theorem pos_sub {a b o p : Int} (h : posOk a b o p = true) (k : Nat) (hk : tb p (k : Int) = true) : tb o (k : Int) = true := by
  have h2 := (posOk_bd h).2.2
  have h3 : (band p o).toNat.testBit k = (p.toNat.testBit k && o.toNat.testBit k) := by simp [band, Nat.testBit_and]
  rw [h2] at h3
  have e1 : tb p (k : Int) = p.toNat.testBit k := by simp [tb]
  have e2 : tb o (k : Int) = o.toNat.testBit k := by simp [tb]
  rw [e1] at hk
  rw [e2]
  rw [hk] at h3
  simpa using h3.symm
theorem bcat1 (R : List UInt8) (c : UInt8) : ((⟨R.toArray⟩ : ByteArray) ++ ⟨#[c]⟩) = ⟨(R ++ [c]).toArray⟩ := by
  ext1
  simp
theorem bsize (R : List UInt8) : (⟨R.toArray⟩ : ByteArray).size = R.length := by simp [ByteArray.size]
end Peg
namespace Go.Proofs.YtkaojpcpfbbicaaDoor
open Go.ChangeShapes Go.WideShapes Go.ChangeAt Go.RowKit Peg Go.Sort
set_option maxHeartbeats 2000000 in
set_option maxRecDepth 100000 in
theorem sPositionText_any (a b o p : Int) (hp : p ≤ 9223372036854775807) (w : World) :
    Calls Tryd.prog 38 #[.agg #[.int .i64 a, .int .i64 b, .int .i64 o], .int .i64 p] w (RetStrs w (posText a b o p)) := by
  cases h : posOk a b o p
  · have HP : Hid (∀ W, Calls Tryd.prog 64 #[.agg #[.int .i64 a, .int .i64 b, .int .i64 o], .int .i64 p] W fun e w' => e = .returned (.bool false) ∧ Below W.heap.size W w') := fun W => by rw [← h]; exact sPositionOk_any a b o p hp W
    have HR : Hid (posText a b o p = []) := by show _ = _; simp [posText, h]
    clear h
    by_cases hb0 : 0 < b
    · have hd : decide ((0 : Int) < b) = true := decide_eq_true hb0
      go_enter Tryd.func38, Tryd.ntmps38
      go_wp2_with fail
      refine wp_loop_once ?_
      go_wp2_with (first | (go_at_call 64; refine (HP.out _).mono ?_; rintro e w' ⟨rfl, hb⟩; obtain ⟨hc, hf, hz, hy⟩ := bcell hb; clear hy; (try simp only [World.size_alloc, World.size_setCell, World.size_drew] at hz); (try have gQ0 : w.heap.size < w'.heap.size := by omega); (try have gQ1 : w.heap.size + 1 < w'.heap.size := by omega); (try have gQ2 : w.heap.size + 1 + 1 < w'.heap.size := by omega); (try have gQ3 : w.heap.size + 1 + 1 + 1 < w'.heap.size := by omega); (try have gQ4 : w.heap.size + 1 + 1 + 1 + 1 < w'.heap.size := by omega); (try have gQ5 : w.heap.size + 1 + 1 + 1 + 1 + 1 < w'.heap.size := by omega); (try have dQ0 : _ < w'.heap.size := Nat.lt_of_lt_of_le dQ0 (by omega)); (try have dQ1 : _ < w'.heap.size := Nat.lt_of_lt_of_le dQ1 (by omega)); (try have dQ2 : _ < w'.heap.size := Nat.lt_of_lt_of_le dQ2 (by omega)); (try have dQ3 : _ < w'.heap.size := Nat.lt_of_lt_of_le dQ3 (by omega)); (try have dQ4 : _ < w'.heap.size := Nat.lt_of_lt_of_le dQ4 (by omega)); (try have dQ5 : _ < w'.heap.size := Nat.lt_of_lt_of_le dQ5 (by omega)); (try (have hnQ := Nat.lt_of_succ_le hz; first | (have _x := dQ0; first | (have _x := dQ1; first | (have _x := dQ2; first | (have _x := dQ3; first | (have _x := dQ4; have dQ5 := hnQ) | have dQ4 := hnQ) | have dQ3 := hnQ) | have dQ2 := hnQ) | have dQ1 := hnQ) | have dQ0 := hnQ)); (try (have hmQ := Nat.lt_of_succ_lt (Nat.lt_of_succ_le hz); first | (have _x := dQ0; first | (have _x := dQ1; first | (have _x := dQ2; first | (have _x := dQ3; first | (have _x := dQ4; have dQ5 := hmQ) | have dQ4 := hmQ) | have dQ3 := hmQ) | have dQ2 := hmQ) | have dQ1 := hmQ) | have dQ0 := hmQ)); (try have sQ00 : (w'.cell? ⟨w.heap.size, 0, none⟩).isSome = true := by simp [go_sem, *]); (try have sQ01 : (w'.cell? ⟨w.heap.size, 1, none⟩).isSome = true := by simp [go_sem, *]); (try have sQ02 : (w'.cell? ⟨w.heap.size, 2, none⟩).isSome = true := by simp [go_sem, *]); (try have sQ03 : (w'.cell? ⟨w.heap.size, 3, none⟩).isSome = true := by simp [go_sem, *]); (try have sQ04 : (w'.cell? ⟨w.heap.size, 4, none⟩).isSome = true := by simp [go_sem, *]); (try have sQ10 : (w'.cell? ⟨w.heap.size + 1, 0, none⟩).isSome = true := by simp [go_sem, *]); (try have sQ11 : (w'.cell? ⟨w.heap.size + 1, 1, none⟩).isSome = true := by simp [go_sem, *]); (try have sQ12 : (w'.cell? ⟨w.heap.size + 1, 2, none⟩).isSome = true := by simp [go_sem, *]); (try have sQ13 : (w'.cell? ⟨w.heap.size + 1, 3, none⟩).isSome = true := by simp [go_sem, *]); (try have sQ14 : (w'.cell? ⟨w.heap.size + 1, 4, none⟩).isSome = true := by simp [go_sem, *]); (try have sQ20 : (w'.cell? ⟨w.heap.size + 1 + 1, 0, none⟩).isSome = true := by simp [go_sem, *]); (try have sQ21 : (w'.cell? ⟨w.heap.size + 1 + 1, 1, none⟩).isSome = true := by simp [go_sem, *]); (try have sQ22 : (w'.cell? ⟨w.heap.size + 1 + 1, 2, none⟩).isSome = true := by simp [go_sem, *]); (try have sQ23 : (w'.cell? ⟨w.heap.size + 1 + 1, 3, none⟩).isSome = true := by simp [go_sem, *]); (try have sQ24 : (w'.cell? ⟨w.heap.size + 1 + 1, 4, none⟩).isSome = true := by simp [go_sem, *]); (try have fQ0 : ∀ j, w'.frozen? ⟨w.heap.size, j, none⟩ = false := by intro j; simp [go_sem, *]); (try have fQ1 : ∀ j, w'.frozen? ⟨w.heap.size + 1, j, none⟩ = false := by intro j; simp [go_sem, *]); (try have fQ2 : ∀ j, w'.frozen? ⟨w.heap.size + 1 + 1, j, none⟩ = false := by intro j; simp [go_sem, *])) | ((with_reducible refine wp_region_qb ?_ ?_ (fun hq => ?_)); (focus kernel_rfl); (focus kernel_rfl); (repeat (go_big_quiet_step ((first | (go_at_call 64; exact Calls.regrown_of (HP.out _)))))); refine wpQuiet_nil ?_; intro wq hb; obtain ⟨hc, hf, hz, hy⟩ := bcell hb; clear hq hy; (try simp only [World.size_alloc, World.size_setCell, World.size_drew] at hz); (try have gQ0 : w.heap.size < wq.heap.size := by omega); (try have gQ1 : w.heap.size + 1 < wq.heap.size := by omega); (try have gQ2 : w.heap.size + 1 + 1 < wq.heap.size := by omega); (try have gQ3 : w.heap.size + 1 + 1 + 1 < wq.heap.size := by omega); (try have gQ4 : w.heap.size + 1 + 1 + 1 + 1 < wq.heap.size := by omega); (try have gQ5 : w.heap.size + 1 + 1 + 1 + 1 + 1 < wq.heap.size := by omega); (try have dQ0 : _ < wq.heap.size := Nat.lt_of_lt_of_le dQ0 (by omega)); (try have dQ1 : _ < wq.heap.size := Nat.lt_of_lt_of_le dQ1 (by omega)); (try have dQ2 : _ < wq.heap.size := Nat.lt_of_lt_of_le dQ2 (by omega)); (try have dQ3 : _ < wq.heap.size := Nat.lt_of_lt_of_le dQ3 (by omega)); (try have dQ4 : _ < wq.heap.size := Nat.lt_of_lt_of_le dQ4 (by omega)); (try have dQ5 : _ < wq.heap.size := Nat.lt_of_lt_of_le dQ5 (by omega)); (try (have hnQ := Nat.lt_of_succ_le hz; first | (have _x := dQ0; first | (have _x := dQ1; first | (have _x := dQ2; first | (have _x := dQ3; first | (have _x := dQ4; have dQ5 := hnQ) | have dQ4 := hnQ) | have dQ3 := hnQ) | have dQ2 := hnQ) | have dQ1 := hnQ) | have dQ0 := hnQ)); (try (have hmQ := Nat.lt_of_succ_lt (Nat.lt_of_succ_le hz); first | (have _x := dQ0; first | (have _x := dQ1; first | (have _x := dQ2; first | (have _x := dQ3; first | (have _x := dQ4; have dQ5 := hmQ) | have dQ4 := hmQ) | have dQ3 := hmQ) | have dQ2 := hmQ) | have dQ1 := hmQ) | have dQ0 := hmQ))))
      all_goals go_ret
      all_goals exact ⟨_, rfl, by rw [HR.out]; exact Own.emptyAny _ _ _ _, by (repeat' first | (with_reducible exact Below.refl _ _) | (with_reducible refine Below.alloc ?_ ?_ _) | (with_reducible refine Below.drew ?_) | (with_reducible refine Below.setCell ?_ ?_ _) | (with_reducible refine below_via (by assumption) ?_ ?_) | go_size)⟩
    · have hd : decide ((0 : Int) < b) = false := decide_eq_false hb0
      go_enter Tryd.func38, Tryd.ntmps38
      go_wp2_with fail
      refine wp_loop_once ?_
      go_wp2_with (first | (go_at_call 64; refine (HP.out _).mono ?_; rintro e w' ⟨rfl, hb⟩; obtain ⟨hc, hf, hz, hy⟩ := bcell hb; clear hy; (try simp only [World.size_alloc, World.size_setCell, World.size_drew] at hz); (try have gQ0 : w.heap.size < w'.heap.size := by omega); (try have gQ1 : w.heap.size + 1 < w'.heap.size := by omega); (try have gQ2 : w.heap.size + 1 + 1 < w'.heap.size := by omega); (try have gQ3 : w.heap.size + 1 + 1 + 1 < w'.heap.size := by omega); (try have gQ4 : w.heap.size + 1 + 1 + 1 + 1 < w'.heap.size := by omega); (try have gQ5 : w.heap.size + 1 + 1 + 1 + 1 + 1 < w'.heap.size := by omega); (try have dQ0 : _ < w'.heap.size := Nat.lt_of_lt_of_le dQ0 (by omega)); (try have dQ1 : _ < w'.heap.size := Nat.lt_of_lt_of_le dQ1 (by omega)); (try have dQ2 : _ < w'.heap.size := Nat.lt_of_lt_of_le dQ2 (by omega)); (try have dQ3 : _ < w'.heap.size := Nat.lt_of_lt_of_le dQ3 (by omega)); (try have dQ4 : _ < w'.heap.size := Nat.lt_of_lt_of_le dQ4 (by omega)); (try have dQ5 : _ < w'.heap.size := Nat.lt_of_lt_of_le dQ5 (by omega)); (try (have hnQ := Nat.lt_of_succ_le hz; first | (have _x := dQ0; first | (have _x := dQ1; first | (have _x := dQ2; first | (have _x := dQ3; first | (have _x := dQ4; have dQ5 := hnQ) | have dQ4 := hnQ) | have dQ3 := hnQ) | have dQ2 := hnQ) | have dQ1 := hnQ) | have dQ0 := hnQ)); (try (have hmQ := Nat.lt_of_succ_lt (Nat.lt_of_succ_le hz); first | (have _x := dQ0; first | (have _x := dQ1; first | (have _x := dQ2; first | (have _x := dQ3; first | (have _x := dQ4; have dQ5 := hmQ) | have dQ4 := hmQ) | have dQ3 := hmQ) | have dQ2 := hmQ) | have dQ1 := hmQ) | have dQ0 := hmQ)); (try have sQ00 : (w'.cell? ⟨w.heap.size, 0, none⟩).isSome = true := by simp [go_sem, *]); (try have sQ01 : (w'.cell? ⟨w.heap.size, 1, none⟩).isSome = true := by simp [go_sem, *]); (try have sQ02 : (w'.cell? ⟨w.heap.size, 2, none⟩).isSome = true := by simp [go_sem, *]); (try have sQ03 : (w'.cell? ⟨w.heap.size, 3, none⟩).isSome = true := by simp [go_sem, *]); (try have sQ04 : (w'.cell? ⟨w.heap.size, 4, none⟩).isSome = true := by simp [go_sem, *]); (try have sQ10 : (w'.cell? ⟨w.heap.size + 1, 0, none⟩).isSome = true := by simp [go_sem, *]); (try have sQ11 : (w'.cell? ⟨w.heap.size + 1, 1, none⟩).isSome = true := by simp [go_sem, *]); (try have sQ12 : (w'.cell? ⟨w.heap.size + 1, 2, none⟩).isSome = true := by simp [go_sem, *]); (try have sQ13 : (w'.cell? ⟨w.heap.size + 1, 3, none⟩).isSome = true := by simp [go_sem, *]); (try have sQ14 : (w'.cell? ⟨w.heap.size + 1, 4, none⟩).isSome = true := by simp [go_sem, *]); (try have sQ20 : (w'.cell? ⟨w.heap.size + 1 + 1, 0, none⟩).isSome = true := by simp [go_sem, *]); (try have sQ21 : (w'.cell? ⟨w.heap.size + 1 + 1, 1, none⟩).isSome = true := by simp [go_sem, *]); (try have sQ22 : (w'.cell? ⟨w.heap.size + 1 + 1, 2, none⟩).isSome = true := by simp [go_sem, *]); (try have sQ23 : (w'.cell? ⟨w.heap.size + 1 + 1, 3, none⟩).isSome = true := by simp [go_sem, *]); (try have sQ24 : (w'.cell? ⟨w.heap.size + 1 + 1, 4, none⟩).isSome = true := by simp [go_sem, *]); (try have fQ0 : ∀ j, w'.frozen? ⟨w.heap.size, j, none⟩ = false := by intro j; simp [go_sem, *]); (try have fQ1 : ∀ j, w'.frozen? ⟨w.heap.size + 1, j, none⟩ = false := by intro j; simp [go_sem, *]); (try have fQ2 : ∀ j, w'.frozen? ⟨w.heap.size + 1 + 1, j, none⟩ = false := by intro j; simp [go_sem, *])) | ((with_reducible refine wp_region_qb ?_ ?_ (fun hq => ?_)); (focus kernel_rfl); (focus kernel_rfl); (repeat (go_big_quiet_step ((first | (go_at_call 64; exact Calls.regrown_of (HP.out _)))))); refine wpQuiet_nil ?_; intro wq hb; obtain ⟨hc, hf, hz, hy⟩ := bcell hb; clear hq hy; (try simp only [World.size_alloc, World.size_setCell, World.size_drew] at hz); (try have gQ0 : w.heap.size < wq.heap.size := by omega); (try have gQ1 : w.heap.size + 1 < wq.heap.size := by omega); (try have gQ2 : w.heap.size + 1 + 1 < wq.heap.size := by omega); (try have gQ3 : w.heap.size + 1 + 1 + 1 < wq.heap.size := by omega); (try have gQ4 : w.heap.size + 1 + 1 + 1 + 1 < wq.heap.size := by omega); (try have gQ5 : w.heap.size + 1 + 1 + 1 + 1 + 1 < wq.heap.size := by omega); (try have dQ0 : _ < wq.heap.size := Nat.lt_of_lt_of_le dQ0 (by omega)); (try have dQ1 : _ < wq.heap.size := Nat.lt_of_lt_of_le dQ1 (by omega)); (try have dQ2 : _ < wq.heap.size := Nat.lt_of_lt_of_le dQ2 (by omega)); (try have dQ3 : _ < wq.heap.size := Nat.lt_of_lt_of_le dQ3 (by omega)); (try have dQ4 : _ < wq.heap.size := Nat.lt_of_lt_of_le dQ4 (by omega)); (try have dQ5 : _ < wq.heap.size := Nat.lt_of_lt_of_le dQ5 (by omega)); (try (have hnQ := Nat.lt_of_succ_le hz; first | (have _x := dQ0; first | (have _x := dQ1; first | (have _x := dQ2; first | (have _x := dQ3; first | (have _x := dQ4; have dQ5 := hnQ) | have dQ4 := hnQ) | have dQ3 := hnQ) | have dQ2 := hnQ) | have dQ1 := hnQ) | have dQ0 := hnQ)); (try (have hmQ := Nat.lt_of_succ_lt (Nat.lt_of_succ_le hz); first | (have _x := dQ0; first | (have _x := dQ1; first | (have _x := dQ2; first | (have _x := dQ3; first | (have _x := dQ4; have dQ5 := hmQ) | have dQ4 := hmQ) | have dQ3 := hmQ) | have dQ2 := hmQ) | have dQ1 := hmQ) | have dQ0 := hmQ))))
      all_goals go_ret
      all_goals exact ⟨_, rfl, by rw [HR.out]; exact Own.emptyAny _ _ _ _, by (repeat' first | (with_reducible exact Below.refl _ _) | (with_reducible refine Below.alloc ?_ ?_ _) | (with_reducible refine Below.drew ?_) | (with_reducible refine Below.setCell ?_ ?_ _) | (with_reducible refine below_via (by assumption) ?_ ?_) | go_size)⟩
  have HP : Hid (∀ W, Calls Tryd.prog 64 #[.agg #[.int .i64 a, .int .i64 b, .int .i64 o], .int .i64 p] W fun e w' => e = .returned (.bool true) ∧ Below W.heap.size W w') := fun W => by rw [← h]; exact sPositionOk_any a b o p hp W
  obtain ⟨hb1, hp0, _⟩ := posOk_bd h
  obtain ⟨ha1, ha2⟩ := inR_iff.1 (boardOk_sides hb1).1
  obtain ⟨hb2, hb3⟩ := inR_iff.1 (boardOk_sides hb1).2
  obtain ⟨ho1, ho2⟩ := holes_lt hb1
  have HR : Hid (posText a b o p = rowsB p o a.toNat b.toNat) := by show _ = _; simp [posText, h]
  have HSub := Lib.hid (pos_sub h)
  clear h hb1
  obtain ⟨A, rfl⟩ : ∃ A : Nat, a = A := ⟨a.toNat, by omega⟩
  obtain ⟨B, rfl⟩ : ∃ B : Nat, b = B := ⟨b.toNat, by omega⟩
  rw [Int.toNat_natCast, Int.toNat_natCast] at HR
  go_enter Tryd.func38, Tryd.ntmps38
  go_wp2_with fail
  go_loopw [5, 6] (fun t5 t6 wz => ∃ y : Nat, y ≤ B ∧ t6 = .int .i64 y ∧ Own EStr wz (w.heap.size + 1) t5 (rowsB p o A y) ∧ Below (w.heap.size + 1) (w.alloc (.cells #[.int .i64 (A : Int), .int .i64 (B : Int), .int .i64 o] 29)) wz) (fun _ t _ => B - (intOf t).toNat)
  case atStart => exact ⟨0, by omega, rfl, Own.emptyAny _ _ _ _, by (repeat' first | (with_reducible exact Below.refl _ _) | (with_reducible refine Below.alloc ?_ ?_ _) | (with_reducible refine Below.drew ?_) | (with_reducible refine Below.setCell ?_ ?_ _) | (with_reducible refine below_via (by assumption) ?_ ?_) | go_size)⟩
  case round =>
    obtain ⟨y, hy, rfl, hown, hbw⟩ := hrel
    have hz := hbw.size
    simp only [World.size_alloc] at hz
    have gW0 : w.heap.size < wr.heap.size := by omega
    have hbA : Below w.heap.size w wr := ((Below.refl _ _).alloc (Nat.le_refl _) _).trans (hbw.mono (by omega))
    have hbox : ∀ j, wr.cell? ⟨w.heap.size, j, none⟩ = #[Value.int .i64 (A : Int), .int .i64 (B : Int), .int .i64 o][j]? := fun j => (hbw.cell (by simp)).trans (by simp)
    by_cases hlt : y < B
    · have HRS := Lib.hid (rowsB_succ p o A y)
      have HRL := Lib.hid (rowsB_length p o A y)
      have HRB : Hid (rowB p o A y = ⟨(rowTo p o (y * A) A).toArray⟩) := rfl
      obtain ⟨M, hM⟩ : ∃ M : Nat, y * A = M := ⟨_, rfl⟩
      have hM7 : M ≤ 42 := by rw [← hM]; exact Nat.mul_le_mul (show y ≤ 6 by omega) (show A ≤ 7 by omega)
      have hMz : (y : Int) * (A : Int) = (M : Int) := by rw [← hM]; simp
      rw [hM] at HRB
      clear hM
      have hyd : decide ((y : Int) < (B : Int)) = true := decide_eq_true (by omega)
      generalize rowsB p o A y = D at *
      clear hbA
      go_wp2_with (go_at_call 64; refine (HP.out _).mono ?_; rintro e w4 ⟨rfl, hb4⟩; have hz4 := hb4.size; have hown4 := hown.keep hb4; have hbw4 := hbw.trans (hb4.mono (by omega)); have gW4 : w.heap.size < w4.heap.size := (by omega); have hbox4 : ∀ j, w4.cell? ⟨w.heap.size, j, none⟩ = #[Value.int .i64 (A : Int), .int .i64 (B : Int), .int .i64 o][j]? := (fun j => (hb4.cell gW0).trans (hbox j)))
      clear hbox hown hbw hb4
      go_loopw [7, 8] (fun t7 t8 wz => ∃ x : Nat, x ≤ A ∧ t8 = .int .i64 x ∧ t7 = .string ⟨(rowTo p o M x).toArray⟩ ∧ wz = w4) (fun _ t _ => A - (intOf t).toNat)
      case atStart => exact ⟨0, by omega, rfl, rfl, rfl⟩
      case round =>
        obtain ⟨x, hx, rfl, rfl, rfl⟩ := hrel
        by_cases hxa : x < A
        · have HSS := Lib.hid (rowTo_succ p o M x)
          have hl := rowTo_length p o M x
          have hsz := bsize (rowTo p o M x)
          have HCC := Lib.hid (bcat1 (rowTo p o M x))
          have hq0 : (M : Int) + (x : Int) = ((M + x : Nat) : Int) := by omega
          have HS2 := Lib.hid (HSub.out (M + x))
          have HCH : Hid (chr p o (M + x) = if tb p ((M + x : Nat) : Int) = true then 111 else if tb o ((M + x : Nat) : Int) = true then 46 else 32) := rfl
          have hq1 : (0 : Int) ≤ ((M + x : Nat) : Int) := by omega
          have hq2 : ((M + x : Nat) : Int) ≤ 48 := by omega
          have hbp := bit_test' (p := p) (k := ((M + x : Nat) : Int)) hp0 hp
          have hbo := bit_zero' (p := o) (k := ((M + x : Nat) : Int)) (by omega) (by omega)
          generalize rowTo p o M x = R at *
          generalize hQ : ((M + x : Nat) : Int) = Q at *
          generalize tb p Q = bp at *
          generalize tb o Q = bo at *
          have hR49 : R.length ≤ 7 := by omega
          cases bo
          · cases bp
            · have HV : Hid (chr p o (M + x) = 32) := by show _ = _; rw [HCH.out]; rfl
              clear HCH HS2
              go_wp2_with fail
              go_roundw
              case rel => exact ⟨x + 1, by omega, by go_num, by rw [HSS.out, HV.out, ← HCC.out], by first | rfl | trivial⟩
              case measure => simp [intOf]; omega
            · exact absurd (HS2.out rfl) (by simp)
          · cases bp
            · have HV : Hid (chr p o (M + x) = 46) := by show _ = _; rw [HCH.out]; rfl
              clear HCH HS2
              go_wp2_with fail
              go_roundw
              case rel => exact ⟨x + 1, by omega, by go_num, by rw [HSS.out, HV.out, ← HCC.out], by first | rfl | trivial⟩
              case measure => simp [intOf]; omega
            · have HV : Hid (chr p o (M + x) = 111) := by show _ = _; rw [HCH.out]; rfl
              clear HCH HS2
              go_wp2_with fail
              go_roundw
              case rel => exact ⟨x + 1, by omega, by go_num, by rw [HSS.out, HV.out, ← HCC.out], by first | rfl | trivial⟩
              case measure => simp [intOf]; omega
        · obtain rfl : x = A := by omega
          have hlen : D.length ≤ 1048576 := by rw [HRL.out]; omega
          have hs : (⟨(rowTo p o M x).toArray⟩ : ByteArray) = rowB p o x y := HRB.out.symm
          rw [hs]
          generalize rowB p o x y = S at *
          clear hs HRB
          go_wp2_with (at_builtin; (refine append1 (E := EStr) (l := D) rfl rfl _ _ 63 rfl Tryd.underlying63 rfl hown4 S rfl (by omega) (by omega) ?_); intro v' w2 hown3 hb3 hg3)
          go_roundw
          case rel => exact ⟨y + 1, by omega, by go_num, by rw [HRS.out]; exact hown3, hbw4.trans hb3⟩
          case measure => simp [intOf]; omega
    · obtain rfl : y = B := by omega
      have hyd : decide ((y : Int) < (y : Int)) = false := by simp
      go_wp2_with fail
      all_goals go_ret
      all_goals exact ⟨_, rfl, by rw [HR.out]; exact hown.mono (by omega), hbA⟩
end Go.Proofs.YtkaojpcpfbbicaaDoor
namespace Peg
/-- the pegs of a line, from hole s on -/
def accRow (line : ByteArray) (s : Nat) (p : Int) : Nat → Int
  | 0 => p
  | x + 1 => if line.data.toList[x]? = some 111 then bor (accRow line s p x) (pw ((s + x : Nat) : Int)) else accRow line s p x
def accTo (A : Nat) (L : List ByteArray) : Nat → Int
  | 0 => 0
  | y + 1 => accRow (gD L B0 y) (y * A) (accTo A L y) A
def readPos (a b o : Int) (L : List ByteArray) : Option Int :=
  if boardOk a b o = true ∧ L.length = b.toNat ∧ (∀ y, y < L.length → (gD L B0 y).size = a.toNat) ∧ posOk a b o (accTo a.toNat L b.toNat) = true ∧ posText a b o (accTo a.toNat L b.toNat) = L then some (accTo a.toNat L b.toNat) else none
theorem accRow_bd {line : ByteArray} {s : Nat} {p : Int} (h0 : 0 ≤ p) (h1 : p < pw (49 : Nat)) : ∀ x, s + x ≤ 49 → 0 ≤ accRow line s p x ∧ accRow line s p x < pw (49 : Nat)
  | 0, _ => ⟨h0, h1⟩
  | x + 1, h => by
    obtain ⟨i0, i1⟩ := accRow_bd (line := line) (s := s) h0 h1 x (by omega)
    rw [accRow]
    split
    · have hp := pw_pos ((s + x : Nat) : Int)
      exact ⟨bor_nonneg _ _, bor_lt i0 (by omega) i1 (pw_lt (by omega) (by omega))⟩
    · exact ⟨i0, i1⟩
theorem accTo_bd {A : Nat} {L : List ByteArray} (hA : A ≤ 7) : ∀ y, y ≤ 7 → 0 ≤ accTo A L y ∧ accTo A L y < pw (49 : Nat)
  | 0, _ => ⟨by simp [accTo], by have := pw_pos ((49 : Nat) : Int); simp only [accTo]; omega⟩
  | y + 1, h => by
    obtain ⟨i0, i1⟩ := accTo_bd (L := L) hA y (by omega)
    have : y * A ≤ 6 * 7 := Nat.mul_le_mul (by omega) hA
    exact accRow_bd i0 i1 A (by omega)
theorem pw49 : pw ((49 : Nat) : Int) = 562949953421312 := by decide
theorem accRow_yes {line : ByteArray} {s x : Nat} {p : Int} (hx : x < line.size) (h : line[x] = 111) : accRow line s p (x + 1) = bor (accRow line s p x) (pw ((s + x : Nat) : Int)) := by
  have : line.data.toList[x]? = some 111 := by
    rw [List.getElem?_eq_getElem (by rw [Array.length_toList]; exact hx), ← h]
    rfl
  rw [accRow, if_pos this]
theorem accRow_no {line : ByteArray} {s x : Nat} {p : Int} (hx : x < line.size) (h : ¬ line[x] = 111) : accRow line s p (x + 1) = accRow line s p x := by
  have : ¬ line.data.toList[x]? = some 111 := by
    rw [List.getElem?_eq_getElem (by rw [Array.length_toList]; exact hx)]
    intro e
    have e2 : line.data[x] = 111 := by simpa using e
    exact h e2
  rw [accRow, if_neg this]
theorem list_gD {T L : List ByteArray} (hl : T.length = L.length) (h : ∀ j, j < L.length → gD T B0 j = gD L B0 j) : T = L := by
  apply List.ext_getElem hl
  intro i h1 h2
  have := h i h2
  rwa [gD_lt T B0 i h1, gD_lt L B0 i h2] at this
theorem str_neP {x y : ByteArray} (h : x ≠ y) : (x.toList == y.toList) = false := by
  rw [beq_eq_false_iff_ne]
  intro e
  rw [Go.Lib.toList_data, Go.Lib.toList_data] at e
  apply h
  cases x; cases y
  simp only at e
  rw [Array.ext' e]
theorem posText_length {a b o p : Int} (h : posOk a b o p = true) : (posText a b o p).length = b.toNat := by simp [posText, h, rowsB_length]
theorem posText_le (a b o p : Int) : (posText a b o p).length ≤ b.toNat := by
  unfold posText
  split
  · rw [rowsB_length]; exact Nat.le_refl _
  · simp
def optP (r : Option Int) : Go.Value := .tuple #[.int .i64 (r.getD 0), .bool r.isSome]
end Peg
namespace Go.Proofs.YtkaojpcpfbbicaaDoor
open Go.ChangeShapes Go.WideShapes Go.ChangeAt Go.RowKit Peg Go.Sort
set_option maxHeartbeats 2000000 in
set_option maxRecDepth 100000 in
theorem ReadPosition_any (a b o : Int) (L : List ByteArray) (v : Value) (hS : ∀ y, y < L.length → (gD L B0 y).size ≤ 1048576) (w : World) {B' : Nat} (hv : Own EStr w B' v L) :
    Calls Tryd.prog 37 #[.agg #[.int .i64 a, .int .i64 b, .int .i64 o], v] w fun e w' => e = .returned (optP (readPos a b o L)) ∧ Below w.heap.size w w' := by
  obtain ⟨aL, capL, rfl, hnL, hgetL⟩ := hv.strG
  have HGL := Lib.hid hgetL
  have HSz := Lib.hid hS
  clear hgetL hv hS
  cases hbo : boardOk a b o
  · have HB : Hid (∀ W, Calls Tryd.prog 61 #[.agg #[.int .i64 a, .int .i64 b, .int .i64 o]] W fun e w' => e = .returned (.bool false) ∧ Below W.heap.size W w') := fun W => by rw [← hbo]; exact BoardOk_any a b o W
    have HR : Hid (readPos a b o L = none) := by show _ = _; simp [readPos, hbo]
    clear hbo
    go_enter Tryd.func37, Tryd.ntmps37
    go_wp2_with (first | (go_at_call 61; refine (HB.out _).mono ?_; rintro e w' ⟨rfl, hb⟩; obtain ⟨hc, hf, hz, hy⟩ := bcell hb; clear hy; (try simp only [World.size_alloc, World.size_setCell, World.size_drew] at hz); (try have gQ0 : w.heap.size < w'.heap.size := by omega); (try have gQ1 : w.heap.size + 1 < w'.heap.size := by omega); (try have gQ2 : w.heap.size + 1 + 1 < w'.heap.size := by omega); (try have gQ3 : w.heap.size + 1 + 1 + 1 < w'.heap.size := by omega); (try have gQ4 : w.heap.size + 1 + 1 + 1 + 1 < w'.heap.size := by omega); (try have gQ5 : w.heap.size + 1 + 1 + 1 + 1 + 1 < w'.heap.size := by omega); (try have dQ0 : _ < w'.heap.size := Nat.lt_of_lt_of_le dQ0 (by omega)); (try have dQ1 : _ < w'.heap.size := Nat.lt_of_lt_of_le dQ1 (by omega)); (try have dQ2 : _ < w'.heap.size := Nat.lt_of_lt_of_le dQ2 (by omega)); (try have dQ3 : _ < w'.heap.size := Nat.lt_of_lt_of_le dQ3 (by omega)); (try have dQ4 : _ < w'.heap.size := Nat.lt_of_lt_of_le dQ4 (by omega)); (try have dQ5 : _ < w'.heap.size := Nat.lt_of_lt_of_le dQ5 (by omega)); (try (have hnQ := Nat.lt_of_succ_le hz; first | (have _x := dQ0; first | (have _x := dQ1; first | (have _x := dQ2; first | (have _x := dQ3; first | (have _x := dQ4; have dQ5 := hnQ) | have dQ4 := hnQ) | have dQ3 := hnQ) | have dQ2 := hnQ) | have dQ1 := hnQ) | have dQ0 := hnQ)); (try (have hmQ := Nat.lt_of_succ_lt (Nat.lt_of_succ_le hz); first | (have _x := dQ0; first | (have _x := dQ1; first | (have _x := dQ2; first | (have _x := dQ3; first | (have _x := dQ4; have dQ5 := hmQ) | have dQ4 := hmQ) | have dQ3 := hmQ) | have dQ2 := hmQ) | have dQ1 := hmQ) | have dQ0 := hmQ)); (try have sQ00 : (w'.cell? ⟨w.heap.size, 0, none⟩).isSome = true := by simp [go_sem, *]); (try have sQ01 : (w'.cell? ⟨w.heap.size, 1, none⟩).isSome = true := by simp [go_sem, *]); (try have sQ02 : (w'.cell? ⟨w.heap.size, 2, none⟩).isSome = true := by simp [go_sem, *]); (try have sQ03 : (w'.cell? ⟨w.heap.size, 3, none⟩).isSome = true := by simp [go_sem, *]); (try have sQ04 : (w'.cell? ⟨w.heap.size, 4, none⟩).isSome = true := by simp [go_sem, *]); (try have sQ10 : (w'.cell? ⟨w.heap.size + 1, 0, none⟩).isSome = true := by simp [go_sem, *]); (try have sQ11 : (w'.cell? ⟨w.heap.size + 1, 1, none⟩).isSome = true := by simp [go_sem, *]); (try have sQ12 : (w'.cell? ⟨w.heap.size + 1, 2, none⟩).isSome = true := by simp [go_sem, *]); (try have sQ13 : (w'.cell? ⟨w.heap.size + 1, 3, none⟩).isSome = true := by simp [go_sem, *]); (try have sQ14 : (w'.cell? ⟨w.heap.size + 1, 4, none⟩).isSome = true := by simp [go_sem, *]); (try have sQ20 : (w'.cell? ⟨w.heap.size + 1 + 1, 0, none⟩).isSome = true := by simp [go_sem, *]); (try have sQ21 : (w'.cell? ⟨w.heap.size + 1 + 1, 1, none⟩).isSome = true := by simp [go_sem, *]); (try have sQ22 : (w'.cell? ⟨w.heap.size + 1 + 1, 2, none⟩).isSome = true := by simp [go_sem, *]); (try have sQ23 : (w'.cell? ⟨w.heap.size + 1 + 1, 3, none⟩).isSome = true := by simp [go_sem, *]); (try have sQ24 : (w'.cell? ⟨w.heap.size + 1 + 1, 4, none⟩).isSome = true := by simp [go_sem, *]); (try have fQ0 : ∀ j, w'.frozen? ⟨w.heap.size, j, none⟩ = false := by intro j; simp [go_sem, *]); (try have fQ1 : ∀ j, w'.frozen? ⟨w.heap.size + 1, j, none⟩ = false := by intro j; simp [go_sem, *]); (try have fQ2 : ∀ j, w'.frozen? ⟨w.heap.size + 1 + 1, j, none⟩ = false := by intro j; simp [go_sem, *])) | ((with_reducible refine wp_region_qb ?_ ?_ (fun hq => ?_)); (focus kernel_rfl); (focus kernel_rfl); (repeat (go_big_quiet_step ((first | (go_at_call 61; exact Calls.regrown_of (HB.out _)))))); refine wpQuiet_nil ?_; intro wq hb; obtain ⟨hc, hf, hz, hy⟩ := bcell hb; clear hq hy; (try simp only [World.size_alloc, World.size_setCell, World.size_drew] at hz); (try have gQ0 : w.heap.size < wq.heap.size := by omega); (try have gQ1 : w.heap.size + 1 < wq.heap.size := by omega); (try have gQ2 : w.heap.size + 1 + 1 < wq.heap.size := by omega); (try have gQ3 : w.heap.size + 1 + 1 + 1 < wq.heap.size := by omega); (try have gQ4 : w.heap.size + 1 + 1 + 1 + 1 < wq.heap.size := by omega); (try have gQ5 : w.heap.size + 1 + 1 + 1 + 1 + 1 < wq.heap.size := by omega); (try have dQ0 : _ < wq.heap.size := Nat.lt_of_lt_of_le dQ0 (by omega)); (try have dQ1 : _ < wq.heap.size := Nat.lt_of_lt_of_le dQ1 (by omega)); (try have dQ2 : _ < wq.heap.size := Nat.lt_of_lt_of_le dQ2 (by omega)); (try have dQ3 : _ < wq.heap.size := Nat.lt_of_lt_of_le dQ3 (by omega)); (try have dQ4 : _ < wq.heap.size := Nat.lt_of_lt_of_le dQ4 (by omega)); (try have dQ5 : _ < wq.heap.size := Nat.lt_of_lt_of_le dQ5 (by omega)); (try (have hnQ := Nat.lt_of_succ_le hz; first | (have _x := dQ0; first | (have _x := dQ1; first | (have _x := dQ2; first | (have _x := dQ3; first | (have _x := dQ4; have dQ5 := hnQ) | have dQ4 := hnQ) | have dQ3 := hnQ) | have dQ2 := hnQ) | have dQ1 := hnQ) | have dQ0 := hnQ)); (try (have hmQ := Nat.lt_of_succ_lt (Nat.lt_of_succ_le hz); first | (have _x := dQ0; first | (have _x := dQ1; first | (have _x := dQ2; first | (have _x := dQ3; first | (have _x := dQ4; have dQ5 := hmQ) | have dQ4 := hmQ) | have dQ3 := hmQ) | have dQ2 := hmQ) | have dQ1 := hmQ) | have dQ0 := hmQ))))
    all_goals go_ret2
    all_goals exact ⟨by rw [HR.out]; rfl, by (repeat' first | (with_reducible exact Below.refl _ _) | (with_reducible refine Below.alloc ?_ ?_ _) | (with_reducible refine Below.drew ?_) | (with_reducible refine Below.setCell ?_ ?_ _) | (with_reducible refine below_via (by assumption) ?_ ?_) | go_size)⟩
  have HB : Hid (∀ W, Calls Tryd.prog 61 #[.agg #[.int .i64 a, .int .i64 b, .int .i64 o]] W fun e w' => e = .returned (.bool true) ∧ Below W.heap.size W w') := fun W => by rw [← hbo]; exact BoardOk_any a b o W
  obtain ⟨ha1, ha2⟩ := inR_iff.1 (boardOk_sides hbo).1
  obtain ⟨hb1, hb2⟩ := inR_iff.1 (boardOk_sides hbo).2
  by_cases hlen : (L.length : Int) = b
  rotate_left
  · have HR : Hid (readPos a b o L = none) := by
      show _ = _
      rw [readPos, if_neg]
      rintro ⟨_, h, _⟩
      omega
    have hld : ((L.length : Int) != b) = true := by simpa using hlen
    clear hbo hlen
    go_enter Tryd.func37, Tryd.ntmps37
    go_wp2_with (first | (go_at_call 61; refine (HB.out _).mono ?_; rintro e w' ⟨rfl, hb⟩; obtain ⟨hc, hf, hz, hy⟩ := bcell hb; clear hy; (try simp only [World.size_alloc, World.size_setCell, World.size_drew] at hz); (try have gQ0 : w.heap.size < w'.heap.size := by omega); (try have gQ1 : w.heap.size + 1 < w'.heap.size := by omega); (try have gQ2 : w.heap.size + 1 + 1 < w'.heap.size := by omega); (try have gQ3 : w.heap.size + 1 + 1 + 1 < w'.heap.size := by omega); (try have gQ4 : w.heap.size + 1 + 1 + 1 + 1 < w'.heap.size := by omega); (try have gQ5 : w.heap.size + 1 + 1 + 1 + 1 + 1 < w'.heap.size := by omega); (try have dQ0 : _ < w'.heap.size := Nat.lt_of_lt_of_le dQ0 (by omega)); (try have dQ1 : _ < w'.heap.size := Nat.lt_of_lt_of_le dQ1 (by omega)); (try have dQ2 : _ < w'.heap.size := Nat.lt_of_lt_of_le dQ2 (by omega)); (try have dQ3 : _ < w'.heap.size := Nat.lt_of_lt_of_le dQ3 (by omega)); (try have dQ4 : _ < w'.heap.size := Nat.lt_of_lt_of_le dQ4 (by omega)); (try have dQ5 : _ < w'.heap.size := Nat.lt_of_lt_of_le dQ5 (by omega)); (try (have hnQ := Nat.lt_of_succ_le hz; first | (have _x := dQ0; first | (have _x := dQ1; first | (have _x := dQ2; first | (have _x := dQ3; first | (have _x := dQ4; have dQ5 := hnQ) | have dQ4 := hnQ) | have dQ3 := hnQ) | have dQ2 := hnQ) | have dQ1 := hnQ) | have dQ0 := hnQ)); (try (have hmQ := Nat.lt_of_succ_lt (Nat.lt_of_succ_le hz); first | (have _x := dQ0; first | (have _x := dQ1; first | (have _x := dQ2; first | (have _x := dQ3; first | (have _x := dQ4; have dQ5 := hmQ) | have dQ4 := hmQ) | have dQ3 := hmQ) | have dQ2 := hmQ) | have dQ1 := hmQ) | have dQ0 := hmQ)); (try have sQ00 : (w'.cell? ⟨w.heap.size, 0, none⟩).isSome = true := by simp [go_sem, *]); (try have sQ01 : (w'.cell? ⟨w.heap.size, 1, none⟩).isSome = true := by simp [go_sem, *]); (try have sQ02 : (w'.cell? ⟨w.heap.size, 2, none⟩).isSome = true := by simp [go_sem, *]); (try have sQ03 : (w'.cell? ⟨w.heap.size, 3, none⟩).isSome = true := by simp [go_sem, *]); (try have sQ04 : (w'.cell? ⟨w.heap.size, 4, none⟩).isSome = true := by simp [go_sem, *]); (try have sQ10 : (w'.cell? ⟨w.heap.size + 1, 0, none⟩).isSome = true := by simp [go_sem, *]); (try have sQ11 : (w'.cell? ⟨w.heap.size + 1, 1, none⟩).isSome = true := by simp [go_sem, *]); (try have sQ12 : (w'.cell? ⟨w.heap.size + 1, 2, none⟩).isSome = true := by simp [go_sem, *]); (try have sQ13 : (w'.cell? ⟨w.heap.size + 1, 3, none⟩).isSome = true := by simp [go_sem, *]); (try have sQ14 : (w'.cell? ⟨w.heap.size + 1, 4, none⟩).isSome = true := by simp [go_sem, *]); (try have sQ20 : (w'.cell? ⟨w.heap.size + 1 + 1, 0, none⟩).isSome = true := by simp [go_sem, *]); (try have sQ21 : (w'.cell? ⟨w.heap.size + 1 + 1, 1, none⟩).isSome = true := by simp [go_sem, *]); (try have sQ22 : (w'.cell? ⟨w.heap.size + 1 + 1, 2, none⟩).isSome = true := by simp [go_sem, *]); (try have sQ23 : (w'.cell? ⟨w.heap.size + 1 + 1, 3, none⟩).isSome = true := by simp [go_sem, *]); (try have sQ24 : (w'.cell? ⟨w.heap.size + 1 + 1, 4, none⟩).isSome = true := by simp [go_sem, *]); (try have fQ0 : ∀ j, w'.frozen? ⟨w.heap.size, j, none⟩ = false := by intro j; simp [go_sem, *]); (try have fQ1 : ∀ j, w'.frozen? ⟨w.heap.size + 1, j, none⟩ = false := by intro j; simp [go_sem, *]); (try have fQ2 : ∀ j, w'.frozen? ⟨w.heap.size + 1 + 1, j, none⟩ = false := by intro j; simp [go_sem, *])) | ((with_reducible refine wp_region_qb ?_ ?_ (fun hq => ?_)); (focus kernel_rfl); (focus kernel_rfl); (repeat (go_big_quiet_step ((first | (go_at_call 61; exact Calls.regrown_of (HB.out _)))))); refine wpQuiet_nil ?_; intro wq hb; obtain ⟨hc, hf, hz, hy⟩ := bcell hb; clear hq hy; (try simp only [World.size_alloc, World.size_setCell, World.size_drew] at hz); (try have gQ0 : w.heap.size < wq.heap.size := by omega); (try have gQ1 : w.heap.size + 1 < wq.heap.size := by omega); (try have gQ2 : w.heap.size + 1 + 1 < wq.heap.size := by omega); (try have gQ3 : w.heap.size + 1 + 1 + 1 < wq.heap.size := by omega); (try have gQ4 : w.heap.size + 1 + 1 + 1 + 1 < wq.heap.size := by omega); (try have gQ5 : w.heap.size + 1 + 1 + 1 + 1 + 1 < wq.heap.size := by omega); (try have dQ0 : _ < wq.heap.size := Nat.lt_of_lt_of_le dQ0 (by omega)); (try have dQ1 : _ < wq.heap.size := Nat.lt_of_lt_of_le dQ1 (by omega)); (try have dQ2 : _ < wq.heap.size := Nat.lt_of_lt_of_le dQ2 (by omega)); (try have dQ3 : _ < wq.heap.size := Nat.lt_of_lt_of_le dQ3 (by omega)); (try have dQ4 : _ < wq.heap.size := Nat.lt_of_lt_of_le dQ4 (by omega)); (try have dQ5 : _ < wq.heap.size := Nat.lt_of_lt_of_le dQ5 (by omega)); (try (have hnQ := Nat.lt_of_succ_le hz; first | (have _x := dQ0; first | (have _x := dQ1; first | (have _x := dQ2; first | (have _x := dQ3; first | (have _x := dQ4; have dQ5 := hnQ) | have dQ4 := hnQ) | have dQ3 := hnQ) | have dQ2 := hnQ) | have dQ1 := hnQ) | have dQ0 := hnQ)); (try (have hmQ := Nat.lt_of_succ_lt (Nat.lt_of_succ_le hz); first | (have _x := dQ0; first | (have _x := dQ1; first | (have _x := dQ2; first | (have _x := dQ3; first | (have _x := dQ4; have dQ5 := hmQ) | have dQ4 := hmQ) | have dQ3 := hmQ) | have dQ2 := hmQ) | have dQ1 := hmQ) | have dQ0 := hmQ))))
    all_goals go_ret2
    all_goals exact ⟨by rw [HR.out]; rfl, by (repeat' first | (with_reducible exact Below.refl _ _) | (with_reducible refine Below.alloc ?_ ?_ _) | (with_reducible refine Below.drew ?_) | (with_reducible refine Below.setCell ?_ ?_ _) | (with_reducible refine below_via (by assumption) ?_ ?_) | go_size)⟩
  obtain ⟨A, rfl⟩ : ∃ A : Nat, a = A := ⟨a.toNat, by omega⟩
  obtain ⟨Bn, rfl⟩ : ∃ B : Nat, b = B := ⟨b.toNat, by omega⟩
  have hlb : L.length = Bn := by omega
  have hld : ((L.length : Int) != (Bn : Int)) = false := by simpa using hlen
  have HBD := Lib.hid (fun y hy => accTo_bd (A := A) (L := L) (by omega) y hy)
  have HRP : Hid (readPos A Bn o L = if boardOk A Bn o = true ∧ L.length = Bn ∧ (∀ y, y < L.length → (gD L B0 y).size = A) ∧ posOk A Bn o (accTo A L Bn) = true ∧ posText A Bn o (accTo A L Bn) = L then some (accTo A L Bn) else none) := by show _ = _; simp only [readPos, Int.toNat_natCast]
  have HBO := Lib.hid hbo
  clear hbo hlen
  go_enter Tryd.func37, Tryd.ntmps37
  go_wp2_with fail
  refine (HB.out _).mono ?_
  rintro e w3 ⟨rfl, hb⟩
  have hz3 := hb.size
  simp only [World.size_alloc] at hz3
  have hbox : ∀ j, w3.cell? ⟨w.heap.size, j, none⟩ = #[Value.int .i64 (A : Int), .int .i64 (Bn : Int), .int .i64 o][j]? := fun j => (hb.cell (by simp)).trans (by simp)
  have hWB : Below w.heap.size w w3 := ((Below.refl _ _).alloc (Nat.le_refl _) _).trans (hb.mono (by simp))
  have HW3 := Lib.hid hWB
  have gW0 : w.heap.size < w3.heap.size := by omega
  clear hb HB
  go_wp2_with fail
  go_loopw [6, 24] (fun t6 t24 wz => ∃ y : Nat, y ≤ L.length ∧ t24 = .int .i64 y ∧ t6 = .int .i64 (accTo A L y) ∧ Hid (∀ j, j < y → (gD L B0 j).size = A) ∧ wz = w3) (fun _ t _ => L.length - (intOf t).toNat)
  case atStart => exact ⟨0, by omega, rfl, rfl, fun j hj => by omega, rfl⟩
  case round =>
    obtain ⟨y, hy, rfl, rfl, hall, rfl⟩ := hrel
    by_cases hlt : y < L.length
    · obtain ⟨bL, rfl, _, hbL, hc0⟩ := HGL.out y hlt
      rw [← HW3.out.cell (by simpa using hbL)] at hc0
      have hsz := HSz.out y hlt
      have gW1 : bL < wr.heap.size := by omega
      by_cases hA : (gD L B0 y).size = A
      rotate_left
      · have HN : Hid (readPos A Bn o L = none) := by
          show _ = _
          rw [HRP.out, if_neg]
          rintro ⟨_, _, h, _⟩
          exact hA (h y hlt)
        generalize gD L B0 y = s at *
        have hne : ((s.size : Int) != (A : Int)) = true := by simp; omega
        go_wp2_with fail
        all_goals go_ret2
        all_goals exact ⟨by rw [HN.out]; rfl, HW3.out⟩
      have HAcc : Hid (accTo A L (y + 1) = accRow (gD L B0 y) (y * A) (accTo A L y) A) := rfl
      obtain ⟨p0, p1⟩ := HBD.out y (by omega)
      have hall2 : Hid (∀ j, j < y + 1 → (gD L B0 j).size = A) := fun j hj => by
        rcases Nat.lt_or_ge j y with h | h
        · exact hall.out j h
        · obtain rfl : j = y := by omega
          exact hA
      obtain ⟨M, hM⟩ : ∃ M : Nat, y * A = M := ⟨_, rfl⟩
      have hM7 : M ≤ 42 := by rw [← hM]; exact Nat.mul_le_mul (show y ≤ 6 by omega) (show A ≤ 7 by omega)
      have hMz : (y : Int) * (A : Int) = (M : Int) := by rw [← hM]; simp
      rw [hM] at HAcc
      clear hM
      generalize gD L B0 y = s at *
      generalize accTo A L y = p at *
      have hne : ((s.size : Int) != (A : Int)) = false := by simp; omega
      have HAR := Lib.hid (fun x hx => accRow_bd (line := s) (s := M) p0 p1 x hx)
      go_wp2_with fail
      go_loopw [6, 9] (fun t6 t9 wz => ∃ x : Nat, x ≤ A ∧ t9 = .int .i64 x ∧ t6 = .int .i64 (accRow s M p x) ∧ wz = wr) (fun _ t _ => A - (intOf t).toNat)
      case atStart => exact ⟨0, by omega, rfl, rfl, rfl⟩
      case round =>
        obtain ⟨x, hx, rfl, rfl, rfl⟩ := hrel
        by_cases hxa : x < A
        · have hxs : x < s.size := by omega
          obtain ⟨q0, q1⟩ := HAR.out x (by omega)
          have HY := Lib.hid (fun h => accRow_yes (s := M) (p := p) hxs h)
          have HN := Lib.hid (fun h => accRow_no (s := M) (p := p) hxs h)
          rw [pw49] at q1
          have hq0 : (M : Int) + (x : Int) = ((M + x : Nat) : Int) := by omega
          have hpw := pw_wrap (n := ((M + x : Nat) : Int)) (by omega) (by omega)
          have hp62 := pw_62 (n := ((M + x : Nat) : Int)) (by omega) (by omega)
          have hpp := pw_pos ((M + x : Nat) : Int)
          have hor := bits_or (a := accRow s M p x) (b := pw ((M + x : Nat) : Int)) q0 (by omega) (by omega) (by omega)
          generalize accRow s M p x = q at *
          generalize hQ : ((M + x : Nat) : Int) = Q at *
          have hQ0 : 0 ≤ Q := by omega
          have hQ1 : Q ≤ 62 := by omega
          by_cases h111 : s[x] = 111
          · have HV := Lib.hid (HY.out h111)
            have hch : ((s[x].toNat : Int) == 111) = true := by rw [h111]; rfl
            clear HY HN h111
            go_wp2_with fail
            go_roundw
            case rel => exact ⟨x + 1, by omega, by go_num, by rw [HV.out], by first | rfl | trivial⟩
            case measure => simp [intOf]; omega
          · have HV := Lib.hid (HN.out h111)
            have hch : ((s[x].toNat : Int) == 111) = false := by
              rw [beq_eq_false_iff_ne]
              intro e
              apply h111
              apply UInt8.toNat_inj.1
              have : s[x].toNat = 111 := by omega
              rw [this]; rfl
            clear HY HN h111
            go_wp2_with fail
            go_roundw
            case rel => exact ⟨x + 1, by omega, by go_num, by rw [HV.out], by first | rfl | trivial⟩
            case measure => simp [intOf]; omega
        · obtain rfl : x = A := by omega
          go_wp2_with fail
          go_roundw
          case rel => exact ⟨y + 1, by omega, by go_num, by rw [HAcc.out], hall2, by first | rfl | trivial⟩
          case measure => simp [intOf]; omega
    · obtain rfl : y = L.length := by omega
      subst hlb
      have hp := HBD.out L.length (by omega)
      rw [pw49] at hp
      have HPT := Lib.hid (fun W => PositionText_any A L.length o (accTo A L L.length) (by omega) W)
      have HTL := posText_le A L.length o (accTo A L L.length)
      have HPO := Lib.hid (fun W => PositionOk_any A L.length o (accTo A L L.length) (by omega) W)
      have HTE := Lib.hid (fun h => posText_length (a := A) (b := L.length) (o := o) (p := accTo A L L.length) h)
      rw [Int.toNat_natCast] at HTL
      rw [Int.toNat_natCast] at HTE
      generalize accTo A L L.length = P at *
      generalize posText A L.length o P = T at *
      obtain ⟨w4, rfl⟩ : ∃ w4 : World, w4 = wr := ⟨_, rfl⟩
      go_wp2_with fail
      refine (HPT.out _).mono ?_
      rintro e w5 ⟨vT, rfl, hownT, hb5⟩
      obtain ⟨aT, capT, rfl, hnT, hgetT⟩ := hownT.strG
      have HGT := Lib.hid hgetT
      have hz5 := hb5.size
      have hbox5 : ∀ j, w5.cell? ⟨w.heap.size, j, none⟩ = #[Value.int .i64 (A : Int), .int .i64 (L.length : Int), .int .i64 o][j]? := fun j => (hb5.cell gW0).trans (hbox j)
      have hW5 : Below w.heap.size w w5 := HW3.out.trans (hb5.mono (by omega))
      have HW5 := Lib.hid hW5
      have gW5 : w.heap.size < w5.heap.size := by omega
      clear hgetT hownT hb5 hbox HPT hWB hW5
      go_wp2_with fail
      go_loopw [58] (fun t58 wz => ∃ k : Nat, k ≤ T.length ∧ t58 = .int .i64 k ∧ Hid (∀ j, j < k → gD T B0 j = gD L B0 j) ∧ wz = w5) (fun t _ => T.length - (intOf t).toNat)
      case atStart => exact ⟨0, by omega, rfl, fun j hj => by omega, rfl⟩
      case round =>
        obtain ⟨k, hk, rfl, heq, rfl⟩ := hrel
        by_cases hkt : k < T.length
        · obtain ⟨bT, rfl, _, hbT, hd0⟩ := HGT.out k hkt
          obtain ⟨bL, rfl, _, hbL, hc0⟩ := HGL.out k (by omega)
          rw [← HW5.out.cell (by simpa using hbL)] at hc0
          by_cases hst : gD T B0 k = gD L B0 k
          · have heq2 : Hid (∀ j, j < k + 1 → gD T B0 j = gD L B0 j) := fun j hj => by
              rcases Nat.lt_or_ge j k with h | h
              · exact heq.out j h
              · obtain rfl : j = k := by omega
                exact hst
            rw [hst] at hd0
            generalize gD L B0 k = s at *
            clear hst
            go_wp2_with fail
            go_roundw
            case rel => exact ⟨k + 1, by omega, by go_num, heq2, by first | rfl | trivial⟩
            case measure => simp [intOf]; omega
          · have HN : Hid (readPos A L.length o L = none) := by
              show _ = _
              rw [HRP.out, if_neg]
              rintro ⟨_, _, _, _, h⟩
              exact hst (by rw [h])
            have hne := str_neP hst
            have hne2 : ((gD T B0 k).toList != (gD L B0 k).toList) = true := by simp only [bne, hne]; rfl
            generalize gD L B0 k = s at *
            generalize gD T B0 k = t at *
            clear hst
            go_wp2_with fail
            all_goals go_ret2
            all_goals exact ⟨by rw [HN.out]; rfl, HW5.out⟩
        · obtain rfl : k = T.length := by omega
          cases hpo : posOk A L.length o P
          · have HN : Hid (readPos A L.length o L = none) := by
              show _ = _
              rw [HRP.out, if_neg]
              rintro ⟨_, _, _, h, _⟩
              rw [hpo] at h
              cases h
            rw [hpo] at HPO
            clear hpo
            have HW6 := HW5.out
            go_wp2_with (go_at_call 63; refine (HPO.out _).mono ?_; rintro e w' ⟨rfl, hb⟩; obtain ⟨hc, hf, hz, hy⟩ := bcell hb; clear hy; (try simp only [World.size_alloc, World.size_setCell, World.size_drew] at hz); (try have gQ0 : w.heap.size < w'.heap.size := by omega); (try have gQ1 : w.heap.size + 1 < w'.heap.size := by omega); (try have gQ2 : w.heap.size + 1 + 1 < w'.heap.size := by omega); (try have gQ3 : w.heap.size + 1 + 1 + 1 < w'.heap.size := by omega); (try have gQ4 : w.heap.size + 1 + 1 + 1 + 1 < w'.heap.size := by omega); (try have gQ5 : w.heap.size + 1 + 1 + 1 + 1 + 1 < w'.heap.size := by omega); (try have dQ0 : _ < w'.heap.size := Nat.lt_of_lt_of_le dQ0 (by omega)); (try have dQ1 : _ < w'.heap.size := Nat.lt_of_lt_of_le dQ1 (by omega)); (try have dQ2 : _ < w'.heap.size := Nat.lt_of_lt_of_le dQ2 (by omega)); (try have dQ3 : _ < w'.heap.size := Nat.lt_of_lt_of_le dQ3 (by omega)); (try have dQ4 : _ < w'.heap.size := Nat.lt_of_lt_of_le dQ4 (by omega)); (try have dQ5 : _ < w'.heap.size := Nat.lt_of_lt_of_le dQ5 (by omega)); (try (have hnQ := Nat.lt_of_succ_le hz; first | (have _x := dQ0; first | (have _x := dQ1; first | (have _x := dQ2; first | (have _x := dQ3; first | (have _x := dQ4; have dQ5 := hnQ) | have dQ4 := hnQ) | have dQ3 := hnQ) | have dQ2 := hnQ) | have dQ1 := hnQ) | have dQ0 := hnQ)); (try (have hmQ := Nat.lt_of_succ_lt (Nat.lt_of_succ_le hz); first | (have _x := dQ0; first | (have _x := dQ1; first | (have _x := dQ2; first | (have _x := dQ3; first | (have _x := dQ4; have dQ5 := hmQ) | have dQ4 := hmQ) | have dQ3 := hmQ) | have dQ2 := hmQ) | have dQ1 := hmQ) | have dQ0 := hmQ)))
            all_goals go_ret2
            all_goals exact ⟨by rw [HN.out]; rfl, by (repeat' first | (with_reducible exact Below.refl _ _) | (with_reducible refine Below.alloc ?_ ?_ _) | (with_reducible refine Below.drew ?_) | (with_reducible refine Below.setCell ?_ ?_ _) | (with_reducible refine below_via (by assumption) ?_ ?_) | go_size)⟩
          · have HN : Hid (readPos A L.length o L = some P) := by
              show _ = _
              have hTl := HTE.out hpo
              rw [HRP.out, if_pos ⟨HBO.out, by first | rfl | trivial, hall.out, hpo, list_gD hTl (fun j hj => heq.out j (by omega))⟩]
            rw [hpo] at HPO
            clear hpo
            have HW6 := HW5.out
            go_wp2_with (go_at_call 63; refine (HPO.out _).mono ?_; rintro e w' ⟨rfl, hb⟩; obtain ⟨hc, hf, hz, hy⟩ := bcell hb; clear hy; (try simp only [World.size_alloc, World.size_setCell, World.size_drew] at hz); (try have gQ0 : w.heap.size < w'.heap.size := by omega); (try have gQ1 : w.heap.size + 1 < w'.heap.size := by omega); (try have gQ2 : w.heap.size + 1 + 1 < w'.heap.size := by omega); (try have gQ3 : w.heap.size + 1 + 1 + 1 < w'.heap.size := by omega); (try have gQ4 : w.heap.size + 1 + 1 + 1 + 1 < w'.heap.size := by omega); (try have gQ5 : w.heap.size + 1 + 1 + 1 + 1 + 1 < w'.heap.size := by omega); (try have dQ0 : _ < w'.heap.size := Nat.lt_of_lt_of_le dQ0 (by omega)); (try have dQ1 : _ < w'.heap.size := Nat.lt_of_lt_of_le dQ1 (by omega)); (try have dQ2 : _ < w'.heap.size := Nat.lt_of_lt_of_le dQ2 (by omega)); (try have dQ3 : _ < w'.heap.size := Nat.lt_of_lt_of_le dQ3 (by omega)); (try have dQ4 : _ < w'.heap.size := Nat.lt_of_lt_of_le dQ4 (by omega)); (try have dQ5 : _ < w'.heap.size := Nat.lt_of_lt_of_le dQ5 (by omega)); (try (have hnQ := Nat.lt_of_succ_le hz; first | (have _x := dQ0; first | (have _x := dQ1; first | (have _x := dQ2; first | (have _x := dQ3; first | (have _x := dQ4; have dQ5 := hnQ) | have dQ4 := hnQ) | have dQ3 := hnQ) | have dQ2 := hnQ) | have dQ1 := hnQ) | have dQ0 := hnQ)); (try (have hmQ := Nat.lt_of_succ_lt (Nat.lt_of_succ_le hz); first | (have _x := dQ0; first | (have _x := dQ1; first | (have _x := dQ2; first | (have _x := dQ3; first | (have _x := dQ4; have dQ5 := hmQ) | have dQ4 := hmQ) | have dQ3 := hmQ) | have dQ2 := hmQ) | have dQ1 := hmQ) | have dQ0 := hmQ)))
            all_goals go_ret2
            all_goals exact ⟨by rw [HN.out]; rfl, by (repeat' first | (with_reducible exact Below.refl _ _) | (with_reducible refine Below.alloc ?_ ?_ _) | (with_reducible refine Below.drew ?_) | (with_reducible refine Below.setCell ?_ ?_ _) | (with_reducible refine below_via (by assumption) ?_ ?_) | go_size)⟩
end Go.Proofs.YtkaojpcpfbbicaaDoor
