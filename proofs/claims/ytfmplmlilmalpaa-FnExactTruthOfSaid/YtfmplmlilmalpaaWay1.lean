/- Way1: the way that the searches lead: the first good line at each position; no program in sight. No condition. -/
import Derived.Test.YtfmplmlilmalpaaVerdict
import Derived.Test.YtfmplmlilmalpaaPlay
set_option linter.unusedVariables false
set_option linter.unusedSimpArgs false
namespace Peg
/-- the first line whose jump leads on to the goal -/
def stepW (a b o g p : Int) : Option Ln := (linesOf a b o).find? fun l => canJ p l && hasB (spreadOf a b o g true) (flip p l)
theorem stepW_jumps {a b o g p : Int} (hp : posOk a b o p = true) : (jumpsOf a b o p).find? (fun l => hasB (spreadOf a b o g true) (flip p l)) = stepW a b o g p := by
  rw [jumpsOf, if_pos hp, List.find?_filter, stepW]
  congr 1
  funext l
  simp
theorem step_some {a b o g n : Int} (hs : isSmall a b o = true) (hn : posOk a b o n = true) (hg : posOk a b o g = true) (hr : reach a b o n g false = true) (hne : n ≠ g) :
    ∃ x, stepW a b o g n = some x ∧ x ∈ linesOf a b o ∧ canJ n x = true ∧ hasB (spreadOf a b o g true) (flip n x) = true ∧ reach a b o (flip n x) g false = true ∧ posOk a b o (flip n x) = true := by
  have hst := (hasB_iff hs hn).1 hr
  have hex : ∃ x ∈ linesOf a b o, (canJ n x && hasB (spreadOf a b o g true) (flip n x)) = true := by
    cases hst with
    | refl => exact absurd rfl hne
    | step h1 h2 h3 =>
      refine ⟨_, h1, ?_⟩
      rw [Bool.and_eq_true]
      exact ⟨h2, by rw [hasB_iff hs hg]; exact h3.rev (flip_nonneg _ _)⟩
  obtain ⟨y, hy1, hy2⟩ := hex
  cases hf : stepW a b o g n with
  | none =>
    have := List.find?_eq_none.1 hf y hy1
    rw [hy2] at this
    exact absurd rfl this
  | some x =>
    have h1 := List.find?_some hf
    rw [Bool.and_eq_true] at h1
    have h2 := List.mem_of_find?_eq_some hf
    have hp := posOk_flip hn h2
    exact ⟨x, rfl, h2, h1.1, h1.2, by rw [← back_iff hs hp hg]; exact h1.2, hp⟩
def wayRun (a b o g : Int) : Nat → Int → List Ln
  | 0, _ => []
  | f + 1, p => if p = g then [] else match stepW a b o g p with
    | none => []
    | some x => x :: wayRun a b o g f (flip p x)
def wayTo (a b o p g : Int) : List Ln := if reach a b o p g false = true then wayRun a b o g (pegs p) p else []
theorem reach_parts {a b o p g : Int} (h : reach a b o p g false = true) : isSmall a b o = true ∧ posOk a b o p = true ∧ posOk a b o g = true := by
  cases hc : (isSmall a b o && posOk a b o p && posOk a b o g)
  · rw [reach_false hc] at h; cases h
  · simp only [Bool.and_eq_true] at hc
    exact ⟨hc.1.1, hc.1.2, hc.2⟩
theorem has_reach {a b o p g : Int} : hasB (spreadOf a b o g true) p = reach a b o p g false := by
  cases h1 : isSmall a b o
  · rw [reach_false (by rw [h1]; rfl)]
    have : spreadOf a b o g true = [] := by simp [spreadOf, h1]
    rw [this]; simp [hasB]
  cases h2 : posOk a b o g
  · rw [reach_false (by rw [h2]; simp)]
    have : spreadOf a b o g true = [] := by simp [spreadOf, h2]
    rw [this]; simp [hasB]
  cases h3 : posOk a b o p
  · rw [reach_false (by rw [h3]; simp)]
    cases h4 : hasB (spreadOf a b o g true) p
    · rfl
    · have := Steps.pos h2 ((hasB_iff h1 h2).1 h4)
      rw [h3] at this; cases this
  · exact back_iff h1 h3 h2
theorem wayRun_plays {a b o g : Int} (hs : isSmall a b o = true) (hg : posOk a b o g = true) : ∀ (f : Nat) (p : Int), posOk a b o p = true → reach a b o p g false = true → pegs p ≤ f →
    playTo false a b o p (wayRun a b o g f p) = some g ∧ (wayRun a b o g f p).length + pegs g = pegs p
  | 0, p, hp, hr, hf => by
    by_cases hne : p = g
    · subst hne; simp [wayRun, playTo]
    · obtain ⟨x, _, h2, h3, _, _, _⟩ := step_some hs hp hg hr hne
      have := pegs_jump (linesOf_in h2).1 h3
      omega
  | f + 1, p, hp, hr, hf => by
    by_cases hne : p = g
    · subst hne; simp [wayRun, playTo]
    · obtain ⟨x, h1, h2, h3, _, h5, h6⟩ := step_some hs hp hg hr hne
      have hpj := pegs_jump (linesOf_in h2).1 h3
      obtain ⟨i1, i2⟩ := wayRun_plays hs hg f (flip p x) h6 h5 (by omega)
      rw [wayRun, if_neg hne, h1]
      simp only [playTo]
      rw [if_pos (by simp [doOk, hp, isLn_of h2, can, h3])]
      refine ⟨i1, ?_⟩
      rw [List.length_cons]
      omega
end Peg
