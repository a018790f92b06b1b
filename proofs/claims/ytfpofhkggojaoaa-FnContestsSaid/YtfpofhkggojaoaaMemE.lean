/- MemE: slices of entrants. Nothing of the program but its types' numbers. No condition. -/
import Derived.Test.YtfpofhkggojaoaaOpenE
import Derived.Test.YtfpofhkggojaoaaEntL
set_option linter.unusedVariables false
set_option linter.unusedSimpArgs false
namespace Go.Proofs.Ytfpofhkggojaoaa
open Go.ChangeShapes Go.WideShapes Go.ChangeAt Go.RowKit Go.Sort Peg
structure En where
  n : Int
  a : Option Addr
  len : Nat
  cap : Nat
def En0 : En := ⟨0, none, 0, 0⟩
def En.v (x : En) : Value := .slice x.a x.len x.cap
theorem info_entrant : (Try.prog.info? 88).map (fun i => (i.zero, i.size, i.bytes)) = some (some (.agg #[.int .i64 0, .slice none 0 0]), 2, 32) := by kernel_rfl
def EEn : Elt En where
  e := 88
  size := 2
  bytes := 32
  enc x := [.int .i64 x.n, .slice x.a x.len x.cap]
  len _ := rfl
  one _ u hu := by simp at hu; rcases hu with rfl | rfl <;> rfl
  pos := by decide
  small := by decide
  info := ⟨_, info_entrant, rfl⟩
/-- a slice of entrants of the calls' own: its row lies below the results' rows -/
def OwnEnts (w : World) (B : Nat) (v : Value) (es : List Ent) : Prop :=
  ∃ (l : List En) (B2 : Nat), Own EEn w B v l ∧ B ≤ B2 ∧ (∀ k, v.ownBlock = some k → True) ∧ l.length = es.length ∧ ∀ i, i < es.length → (gD l En0 i).n = (gD es Ent0 i).n ∧ Own EResult w B2 (gD l En0 i).v (gD es Ent0 i).rs
def RdEnts (w : World) (v : Value) (es : List Ent) : Prop :=
  ∃ (l : List En), Rd EEn w v l ∧ l.length = es.length ∧ ∀ i, i < es.length → (gD l En0 i).n = (gD es Ent0 i).n ∧ Rd EResult w (gD l En0 i).v (gD es Ent0 i).rs
theorem OwnEnts.keep {w w' : World} {B : Nat} {v : Value} {es : List Ent} (h : OwnEnts w B v es) (hb : Below w.heap.size w w') : OwnEnts w' B v es := by
  obtain ⟨l, B2, h1, h2, h3, h4, h5⟩ := h
  exact ⟨l, B2, h1.keep hb, h2, h3, h4, fun i hi => ⟨(h5 i hi).1, (h5 i hi).2.keep hb⟩⟩
theorem OwnEnts.mono {w : World} {B B' : Nat} {v : Value} {es : List Ent} (h : OwnEnts w B v es) (hB : B' ≤ B) : OwnEnts w B' v es := by
  obtain ⟨l, B2, h1, h2, h3, h4, h5⟩ := h
  exact ⟨l, B2, h1.mono hB, Nat.le_trans hB h2, h3, h4, h5⟩
theorem RdEnts.keep {w w' : World} {v : Value} {es : List Ent} (h : RdEnts w v es) (hb : Below w.heap.size w w') : RdEnts w' v es := by
  obtain ⟨l, h1, h4, h5⟩ := h
  exact ⟨l, h1.keep hb, h4, fun i hi => ⟨(h5 i hi).1, (h5 i hi).2.keep hb⟩⟩
theorem OwnEnts.get {w : World} {B : Nat} {v : Value} {es : List Ent} (h : OwnEnts w B v es) : ∃ a cap, v = .slice a es.length cap ∧ es.length ≤ cap ∧ cap ≤ 9223372036854775807 ∧
    ∀ i, i < es.length → ∃ b a' c', a = some ⟨b, 0, none⟩ ∧ b < w.heap.size ∧ w.cell? ⟨b, i * 2, none⟩ = some (.int .i64 (gD es Ent0 i).n) ∧ w.cell? ⟨b, i * 2 + 1, none⟩ = some (.slice a' (gD es Ent0 i).rs.length c') ∧ Own EResult w B (.slice a' (gD es Ent0 i).rs.length c') (gD es Ent0 i).rs := by
  obtain ⟨l, B2, h1, h2, _, h4, h5⟩ := h
  obtain ⟨a, cap, hv, hc1, hc2, h6⟩ := h1.form
  rw [h4] at hv hc1
  refine ⟨a, cap, hv, hc1, by unfold maxLen at hc2; omega, fun i hi => ?_⟩
  obtain ⟨b, ha, _, hb, hcell⟩ := h6 i (by omega)
  obtain ⟨hn, ho⟩ := h5 i hi
  have e0 := hcell 0 (by decide)
  have e1 := hcell 1 (by decide)
  have hl : l[i]'(by omega) = gD l En0 i := (gD_lt l En0 i (by omega)).symm
  obtain ⟨a', c', hv', _, _⟩ := ho.resultG
  refine ⟨b, a', c', ha, hb, ?_, ?_, ?_⟩
  · have := e0; rw [hl] at this; simpa [EEn, hn] using this
  · have := e1; rw [hl] at this
    have h7 : w.cell? ⟨b, i * 2 + 1, none⟩ = some (gD l En0 i).v := by simpa [EEn, En.v] using this
    rw [h7, hv']
  · rw [← hv']; exact ho.mono h2
theorem RdEnts.get {w : World} {v : Value} {es : List Ent} (h : RdEnts w v es) : ∃ a cap, v = .slice a es.length cap ∧ es.length ≤ 9223372036854775807 ∧
    ∀ i, i < es.length → ∃ (ad : Addr) (a' : Option Addr) (c' : Nat), a = some ad ∧ ad.block < w.heap.size ∧ w.cell? (ad.add (i * 2)) = some (.int .i64 (gD es Ent0 i).n) ∧ w.cell? ⟨(ad.add (i * 2)).block, (ad.add (i * 2)).off + 1, none⟩ = some (.slice a' (gD es Ent0 i).rs.length c') ∧ Rd EResult w (.slice a' (gD es Ent0 i).rs.length c') (gD es Ent0 i).rs := by
  obtain ⟨l, h1, h4, h5⟩ := h
  obtain ⟨a, cap, hv, hc1, h6⟩ := h1
  rw [h4] at hv hc1
  refine ⟨a, cap, hv, hc1, fun i hi => ?_⟩
  obtain ⟨ad, ha, hb, hcell⟩ := h6 i (by omega)
  obtain ⟨hn, ho⟩ := h5 i hi
  have e0 := hcell 0 (by decide)
  have e1 := hcell 1 (by decide)
  have hl : l[i]'(by omega) = gD l En0 i := (gD_lt l En0 i (by omega)).symm
  obtain ⟨a', c', hv', _, _⟩ := ho.result
  refine ⟨ad, a', c', ha, hb, ?_, ?_, ?_⟩
  · have := e0; rw [hl] at this; simpa [EEn, hn] using this
  · have := e1; rw [hl, show i * EEn.size + 1 = i * 2 + (0 + 1) from rfl, add_at] at this
    have h7 : w.cell? ⟨(ad.add (i * 2)).block, (ad.add (i * 2)).off + 1, none⟩ = some (gD l En0 i).v := by simpa [EEn, En.v] using this
    rw [h7, hv']
  · rw [← hv']; exact ho
theorem gD_set {α : Type} (l : List α) (d x : α) (k i : Nat) (hk : k < l.length) : gD (l.set k x) d i = if i = k then x else gD l d i := by
  unfold gD
  by_cases h : i = k
  · subst h; simp [hk]
  · simp [h, List.getElem?_set, Ne.symm h]
end Go.Proofs.Ytfpofhkggojaoaa
