/- Games1: the game at an index, and puzzles with one way, plain; no program in sight. No condition. -/
import Derived.Test.YtledmebhlmpjaaaGames0
import Derived.Test.YtledmebhlmpjaaaOrd0
set_option linter.unusedVariables false
set_option linter.unusedSimpArgs false
namespace Peg
/-- the first of a list whose share holds the index, and the index in it -/
def pick (f : Ln → Nat) : List Ln → Nat → Option (Ln × Nat)
  | [], _ => none
  | l :: s, i => if i < f l then some (l, i) else pick f s (i - f l)
theorem pick_some {f : Ln → Nat} : ∀ {L : List Ln} {i : Nat}, i < (L.map f).sum → ∃ l j, pick f L i = some (l, j) ∧ l ∈ L ∧ j < f l
  | [], i, h => by simp at h
  | l :: s, i, h => by
    by_cases h1 : i < f l
    · exact ⟨l, i, by rw [pick, if_pos h1], by simp, h1⟩
    · rw [List.map_cons, List.sum_cons] at h
      obtain ⟨m, j, h2, h3, h4⟩ := pick_some (f := f) (L := s) (i := i - f l) (by omega)
      exact ⟨m, j, by rw [pick, if_neg h1, h2], by simp [h3], h4⟩
/-- passing over those ahead -/
theorem pick_skip {f : Ln → Nat} : ∀ (A B : List Ln) (i : Nat), (A.map f).sum ≤ i → pick f (A ++ B) i = pick f B (i - (A.map f).sum)
  | [], B, i, _ => by simp
  | l :: A, B, i, h => by
    rw [List.map_cons, List.sum_cons] at h
    rw [List.cons_append, pick, if_neg (by omega), pick_skip A B _ (by omega), List.map_cons, List.sum_cons]
    congr 1
    omega
def gAt (a b o g : Int) : Nat → Int → Nat → List Ln
  | 0, _, _ => []
  | f + 1, p, i => if p = g then [] else match pick (fun l => games a b o g (flip p l)) ((linesOf a b o).filter (canJ p)) i with
    | none => []
    | some (l, j) => l :: gAt a b o g f (flip p l) j
def gameAt (a b o p g : Int) (i : Nat) : List Ln := gAt a b o g (pegs p) p i
theorem gAt_plays {a b o g : Int} : ∀ (f : Nat) (p : Int) (i : Nat), posOk a b o p = true → i < games a b o g p → pegs p = f →
    playTo false a b o p (gAt a b o g f p i) = some g ∧ (gAt a b o g f p i).length + pegs g = pegs p
  | 0, p, i, hp, hi, hf => by
    by_cases hg : p = g
    · subst hg; simp [gAt, playTo]
    · rw [games_step hg] at hi
      obtain ⟨l, j, -, h2, -⟩ := pick_some hi
      obtain ⟨h3, h4⟩ := List.mem_filter.1 h2
      have := pegs_jump (linesOf_in h3).1 h4
      omega
  | f + 1, p, i, hp, hi, hf => by
    by_cases hg : p = g
    · subst hg; simp [gAt, playTo]
    · rw [games_step hg] at hi
      obtain ⟨l, j, h1, h2, h5⟩ := pick_some hi
      obtain ⟨h3, h4⟩ := List.mem_filter.1 h2
      have hpj := pegs_jump (linesOf_in h3).1 h4
      obtain ⟨i1, i2⟩ := gAt_plays f (flip p l) j (posOk_flip hp h3) h5 (by omega)
      rw [gAt, if_neg hg, h1]
      simp only [playTo]
      rw [if_pos (by simp [doOk, hp, isLn_of h3, can, h4])]
      refine ⟨i1, ?_⟩
      rw [List.length_cons]
      omega
theorem games_pos {a b o p g : Int} (h : Steps (linesOf a b o) false p g) : 1 ≤ games a b o g p := by
  induction h with
  | refl p => rw [games_goal]; exact Nat.le_refl _
  | step h1 h2 _ ih =>
    rename_i p q l _hst
    by_cases hg : p = q
    · subst hg; rw [games_goal]; exact Nat.le_refl _
    · rw [games_step hg]
      have key : ∀ L : List Ln, l ∈ L → games a b o q (flip p l) ≤ (L.map fun l => games a b o q (flip p l)).sum := by
        intro L
        induction L with
        | nil => intro h; cases h
        | cons x L ih2 =>
          intro h
          rw [List.map_cons, List.sum_cons]
          rcases List.mem_cons.1 h with rfl | h
          · omega
          · have := ih2 h; omega
      exact Nat.le_trans ih (key _ (List.mem_filter.2 ⟨h1, h2⟩))
/-- the test of two games by the reference, by the program -/
def same10 (a c : List Ln) : Bool := decide (a.length ≤ 10) && decide (c.length ≤ 10) && eqv a c
def hasOne (a b o s g : Int) : Bool := isSolvable a b o s g && decide ((pegs s : Int) - pegs g ≤ 10) && decide (games a b o g s ≤ 200) && (List.range (games a b o g s)).all fun i => same10 (wayTo a b o s g) (gameAt a b o s g i)
theorem way_len {a b o s g : Int} (h : isSolvable a b o s g = true) : ((wayTo a b o s g).length : Int) = (pegs s : Int) - pegs g ∧ playTo false a b o s (wayTo a b o s g) = some g := by
  simp only [isSolvable, Bool.and_eq_true] at h
  obtain ⟨h1, h2, h3⟩ := reach_parts h.2
  obtain ⟨i1, i2⟩ := wayRun_plays h1 h3 (pegs s) s h2 h.2 (Nat.le_refl _)
  rw [wayTo, if_pos h.2]
  exact ⟨by omega, i1⟩
theorem solv_steps {a b o s g : Int} (h : isSolvable a b o s g = true) : isSmall a b o = true ∧ posOk a b o s = true ∧ posOk a b o g = true ∧ Steps (linesOf a b o) false s g := by
  simp only [isSolvable, Bool.and_eq_true] at h
  obtain ⟨h1, h2, h3⟩ := reach_parts h.2
  refine ⟨h1, h2, h3, (hasB_iff h1 h2).1 h.2⟩
/-- the reference asks no number of jumps: a way of more than ten is no one way to it either -/
theorem hasOne_ref (a b o s g : Int) : (isSolvable a b o s g && decide (games a b o g s ≤ 200) && (List.range (games a b o g s)).all fun i => same10 (wayTo a b o s g) (gameAt a b o s g i)) = hasOne a b o s g := by
  unfold hasOne
  cases hs : isSolvable a b o s g
  · simp
  by_cases hd : (pegs s : Int) - pegs g ≤ 10
  · simp [hd]
  · have h1 := (way_len hs).1
    have h2 := games_pos (solv_steps hs).2.2.2
    have h3 : ((List.range (games a b o g s)).all fun i => same10 (wayTo a b o s g) (gameAt a b o s g i)) = false := by
      rw [List.all_eq_false]
      refine ⟨0, List.mem_range.2 (by omega), ?_⟩
      unfold same10
      rw [decide_eq_false (by omega)]
      simp
    rw [h3]
    simp
end Peg
