/- Play0: lines between two holes, jumps that are done or undone, games, as plain data; no program in sight. No condition. -/
import Derived.Test.YtledmebhlmpjaaaJumps
import Derived.Test.YtledmebhlmpjaaaPzB
set_option linter.unusedVariables false
set_option linter.unusedSimpArgs false
namespace Peg
def isBetween (f t : Int) (l : Ln) : Bool := (l.f == f) && (l.t == t)
def lineBetween (a b o f t : Int) : Option Ln := (linesOf a b o).find? (isBetween f t)
def isLn (a b o : Int) (l : Ln) : Bool := lineBetween a b o l.f l.t == some l
theorem ln_eq (m l : Ln) : (some m == some l) = (decide (m.f = l.f) && decide (m.o = l.o) && decide (m.t = l.t)) := by
  cases m; cases l; rw [Bool.eq_iff_iff]; simp [and_assoc]
theorem lineBetween_mem {a b o f t : Int} {l : Ln} (h : lineBetween a b o f t = some l) : l ∈ linesOf a b o ∧ l.f = f ∧ l.t = t := by
  have h1 := List.mem_of_find?_eq_some h
  have h2 := List.find?_some h
  simp [isBetween] at h2
  exact ⟨h1, h2.1, h2.2⟩
theorem isLn_mem {a b o : Int} {l : Ln} (h : isLn a b o l = true) : l ∈ linesOf a b o := by
  simp [isLn] at h
  exact (lineBetween_mem h).1
theorem find_take_no {α : Type} (P : α → Bool) (L : List α) (d : α) (k : Nat) (h : k < L.length) (h0 : (L.take k).find? P = none) (h1 : P (gD L d k) = false) : (L.take (k + 1)).find? P = none := by
  rw [take_gD L d k h, List.find?_append, h0]
  simp [h1]
theorem find_take_yes {α : Type} (P : α → Bool) (L : List α) (d : α) (k : Nat) (h : k < L.length) (h0 : (L.take k).find? P = none) (h1 : P (gD L d k) = true) : L.find? P = some (gD L d k) := by
  rw [← List.take_append_drop k L, List.find?_append, h0, List.take_append_drop]
  rw [List.drop_eq_getElem_cons h, ← gD_lt L d k h]
  simp [h1]
/-- a jump that can be done, or undone -/
def doOk (back : Bool) (a b o p : Int) (l : Ln) : Bool := posOk a b o p && isLn a b o l && can back p l
def doTo (back : Bool) (a b o p : Int) (l : Ln) : Int := if doOk back a b o p l = true then flip p l else p
def playTo (back : Bool) (a b o : Int) : Int → List Ln → Option Int
  | p, [] => some p
  | p, l :: r => if doOk back a b o p l = true then playTo back a b o (flip p l) r else none
theorem playTo_append (back : Bool) (a b o : Int) : ∀ (l r : List Ln) (p : Int), playTo back a b o p (l ++ r) = (playTo back a b o p l).bind fun q => playTo back a b o q r := by
  intro l
  induction l with
  | nil => intro r p; rfl
  | cons x l ih =>
    intro r p
    simp only [List.cons_append, playTo]
    split
    · exact ih r _
    · rfl
theorem playTo_snoc_yes {back : Bool} {a b o p q : Int} {L : List Ln} {k : Nat} (hk : k < L.length) (h0 : playTo back a b o p (L.take k) = some q) (h : doOk back a b o q (gD L Ln0 k) = true) : playTo back a b o p (L.take (k + 1)) = some (flip q (gD L Ln0 k)) := by
  rw [take_gD L Ln0 k hk, playTo_append, h0]
  simp [playTo, h]
theorem playTo_snoc_no {back : Bool} {a b o p q : Int} {L : List Ln} {k : Nat} (hk : k < L.length) (h0 : playTo back a b o p (L.take k) = some q) (h : doOk back a b o q (gD L Ln0 k) = false) : playTo back a b o p L = none := by
  rw [← List.take_append_drop k L, playTo_append, h0, List.drop_eq_getElem_cons hk, ← gD_lt L Ln0 k hk]
  simp [playTo, h]
def playAll (a b o p : Int) (js : List Ln) : Option Int := if posOk a b o p = true then if js.length ≤ 60 then playTo false a b o p js else none else none
theorem doOk_pos {back : Bool} {a b o p : Int} {l : Ln} (h : doOk back a b o p l = true) : posOk a b o p = true ∧ isLn a b o l = true ∧ can back p l = true := by
  simp [doOk] at h
  exact ⟨h.1.1, h.1.2, h.2⟩
theorem linesOf_tb {a b o : Int} {x : Ln} (h : x ∈ linesOf a b o) : boardOk a b o = true ∧ tb o x.f = true ∧ tb o x.o = true ∧ tb o x.t = true := by
  simp only [linesOf, List.mem_flatMap, linesFrom, linesPart, List.mem_filterMap, List.mem_range] at h
  obtain ⟨k, hk, q, hq, hx⟩ := h
  obtain ⟨hh, hb⟩ := holesOf_mem hk
  obtain ⟨_, k0, k1, ht⟩ := hasHole_bd hh
  have hsa := (boardOk_sides hb).1
  have hsb := (boardOk_sides hb).2
  unfold lineTo at hx
  split at hx
  · rename_i h1
    split at hx
    · rename_i h2
      simp only [Option.some.injEq] at hx
      subst hx
      have s1 := stepTo_bd (o := o) (k := k) (way := q) hsa hsb
      have s2 := stepTo_bd (o := o) (k := stepTo a b o k q) (way := q) hsa hsb
      exact ⟨hb, ht, s1.2.2 h1, s2.2.2 h2⟩
    · cases hx
  · cases hx
theorem posOk_flip {a b o p : Int} {x : Ln} (h : posOk a b o p = true) (hx : x ∈ linesOf a b o) : posOk a b o (flip p x) = true := by
  obtain ⟨h1, h2, h3⟩ := posOk_bd h
  obtain ⟨_, t1, t2, t3⟩ := linesOf_tb hx
  have h4 : ∀ i : Nat, p.toNat.testBit i = true → o.toNat.testBit i = true := by
    intro i hi
    rw [← h3, band_tb] at hi
    simp at hi
    exact hi.2
  have h5 : band (flip p x) o = flip p x := by
    refine tb_ext (band_nonneg _ _) (flip_nonneg _ _) fun i => ?_
    rw [band_tb, flip_tb]
    by_cases ho : o.toNat.testBit i = true
    · simp [ho]
    · have n0 : p.toNat.testBit i = false := by
        cases hpi : p.toNat.testBit i
        · rfl
        · exact absurd (h4 i hpi) ho
      have n1 : x.f.toNat ≠ i := by rintro rfl; exact ho t1
      have n2 : x.o.toNat ≠ i := by rintro rfl; exact ho t2
      have n3 : x.t.toNat ≠ i := by rintro rfl; exact ho t3
      simp [n0, n1, n2, n3]
  simp [posOk, h1, h5, flip_nonneg]
theorem doOk_next {back : Bool} {a b o p : Int} {l : Ln} (h : doOk back a b o p l = true) : posOk a b o (flip p l) = true :=
  posOk_flip (doOk_pos h).1 (isLn_mem (doOk_pos h).2.1)
/-- two lines with the same ends are the same -/
theorem linesOf_ends {a b o : Int} {x y : Ln} (hx : x ∈ linesOf a b o) (hy : y ∈ linesOf a b o) (hf : x.f = y.f) (ht : x.t = y.t) : x = y := by
  have key : ∀ z ∈ linesOf a b o, z.o + z.o = z.f + z.t := by
    intro z h
    simp only [linesOf, List.mem_flatMap, linesFrom, linesPart, List.mem_filterMap, List.mem_range] at h
    obtain ⟨k, hk, q, hq, hz⟩ := h
    unfold lineTo at hz
    split at hz
    · rename_i h1
      split at hz
      · rename_i h2
        simp only [Option.some.injEq] at hz
        subst hz
        have v1 := stepTo_val h1
        have v2 := stepTo_val h2
        simp only
        omega
      · cases hz
    · cases hz
  have e1 := key x hx
  have e2 := key y hy
  cases x; cases y
  simp only at *
  subst hf ht
  have : ∀ u v : Int, u + u = v + v → u = v := by intro u v h; omega
  rw [this _ _ (e1.trans e2.symm)]
theorem isLn_of {a b o : Int} {l : Ln} (h : l ∈ linesOf a b o) : isLn a b o l = true := by
  simp only [isLn, beq_iff_eq]
  cases hx : lineBetween a b o l.f l.t with
  | none =>
    have := List.find?_eq_none.1 hx l h
    simp [isBetween] at this
  | some x =>
    obtain ⟨h1, h2, h3⟩ := lineBetween_mem hx
    rw [linesOf_ends h1 h h2 h3]
theorem isLn_iff {a b o : Int} {l : Ln} : isLn a b o l = true ↔ l ∈ linesOf a b o := ⟨isLn_mem, isLn_of⟩
end Peg
