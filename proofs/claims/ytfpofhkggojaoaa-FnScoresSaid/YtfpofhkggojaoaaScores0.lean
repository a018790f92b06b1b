/- Scores0: better and tied results, plain; no program in sight. No condition. -/
import Derived.Test.YtfpofhkggojaoaaEnt0
import Derived.Test.YtfpofhkggojaoaaResOf
set_option linter.unusedVariables false
set_option linter.unusedSimpArgs false
namespace Peg
def lexB : List Int → List Int → Bool
  | x :: xs, y :: ys => if x = y then lexB xs ys else decide (x < y)
  | _, _ => false
theorem lexB_irrefl (a : List Int) : lexB a a = false := by
  induction a with
  | nil => rfl
  | cons x a ih => simp [lexB, ih]
theorem lexB_trans : ∀ (a b c : List Int), lexB a b = true → lexB b c = true → lexB a c = true := by
  intro a
  induction a with
  | nil => intro b c h; simp [lexB] at h
  | cons x a ih =>
    intro b c h1 h2
    cases b with
    | nil => simp [lexB] at h1
    | cons y b =>
      cases c with
      | nil => simp [lexB] at h2
      | cons z c =>
        simp only [lexB] at *
        by_cases e1 : x = y
        · subst e1
          rw [if_pos rfl] at h1
          by_cases e2 : x = z
          · subst e2; rw [if_pos rfl] at h2 ⊢; exact ih b c h1 h2
          · rw [if_neg e2] at h2 ⊢; exact h2
        · rw [if_neg e1] at h1
          have h1' : x < y := by simpa using h1
          by_cases e2 : y = z
          · subst e2; rw [if_neg e1]; exact h1
          · rw [if_neg e2] at h2
            have h2' : y < z := by simpa using h2
            rw [if_neg (by omega)]
            simp; omega
theorem lexB_total : ∀ (a b : List Int), a.length = b.length → lexB a b = false → lexB b a = false → a = b := by
  intro a
  induction a with
  | nil => intro b h _ _; cases b with
    | nil => rfl
    | cons => simp at h
  | cons x a ih =>
    intro b hl h1 h2
    cases b with
    | nil => simp at hl
    | cons y b =>
      simp only [lexB] at h1 h2
      by_cases e : x = y
      · subst e
        rw [if_pos rfl] at h1 h2
        rw [ih b (by simpa using hl) h1 h2]
      · rw [if_neg e] at h1
        rw [if_neg (Ne.symm e)] at h2
        simp at h1 h2
        omega
theorem lexB_append : ∀ (a b c d : List Int), a.length = b.length → lexB (a ++ c) (b ++ d) = if lexB a b = true then true else if lexB b a = true then false else lexB c d := by
  intro a
  induction a with
  | nil => intro b c d h; cases b with
    | nil => simp [lexB]
    | cons => simp at h
  | cons x a ih =>
    intro b c d hl
    cases b with
    | nil => simp at hl
    | cons y b =>
      simp only [lexB, List.cons_append]
      by_cases e : x = y
      · subst e; rw [if_pos rfl]; simp only [if_pos]; exact ih b c d (by simpa using hl)
      · have e' : ¬ y = x := fun h => e h.symm
        by_cases h : x < y
        · simp [e, h]
        · have : y < x := by omega
          simp [e, e', h, this]
def keyR (r : Rs) : List Int := [-ptsR r, r.l, r.s, r.t]
theorem betK (p p' l l' s s' t t' : Int) : (if p = p' then if l = l' then if s = s' then decide (t < t') else decide (s < s') else decide (l < l') else decide (p' < p)) = lexB [-p, l, s, t] [-p', l', s', t'] := by
  by_cases e1 : p = p'
  · subst e1
    by_cases e2 : l = l'
    · subst e2
      by_cases e3 : s = s'
      · subst e3
        by_cases e4 : t = t'
        · subst e4; simp [lexB]
        · simp [lexB, e4]
      · simp [lexB, e3]
    · simp [lexB, e2]
  · have : ¬ -p = -p' := by omega
    simp [lexB, e1, this]
theorem betR_lex {r s : Rs} (h1 : okR r = true) (h2 : okR s = true) : betR r s = lexB (keyR r) (keyR s) := by
  refine Eq.trans ?_ (betK (ptsR r) (ptsR s) r.l s.l r.s s.s r.t s.t)
  unfold okR at h1 h2
  unfold betR isBetter
  rw [if_pos h1, if_pos h2]
  rfl
def tieR (r s : Rs) : Bool := areTied r.l r.c r.s r.t s.l s.c s.s s.t
theorem tieR_eq {r s : Rs} (hr : okR r = true) (hs : okR s = true) : tieR r s = (!betR r s && !betR s r) := by
  unfold tieR areTied betR
  unfold okR at hr hs
  rw [hr, hs]; rfl
theorem bet_asym {r s : Rs} (hr : okR r = true) (hs : okR s = true) (h : betR r s = true) : betR s r = false := by
  rw [betR_lex hr hs] at h
  rw [betR_lex hs hr]
  cases h2 : lexB (keyR s) (keyR r)
  · rfl
  · have := lexB_trans _ _ _ h h2
    rw [lexB_irrefl] at this; cases this
theorem bet_trans {r s t : Rs} (hr : okR r = true) (hs : okR s = true) (ht : okR t = true) (h : betR r s = true) (h2 : betR s t = true) : betR r t = true := by
  rw [betR_lex hr hs] at h
  rw [betR_lex hs ht] at h2
  rw [betR_lex hr ht]
  exact lexB_trans _ _ _ h h2
theorem tie_key {r s : Rs} (hr : okR r = true) (hs : okR s = true) (h : tieR r s = true) : keyR r = keyR s := by
  rw [tieR_eq hr hs, betR_lex hr hs, betR_lex hs hr] at h
  simp only [Bool.and_eq_true, Bool.not_eq_true'] at h
  exact lexB_total _ _ rfl h.1 h.2
theorem tie_trans {r s t : Rs} (hr : okR r = true) (hs : okR s = true) (ht : okR t = true) (h : tieR r s = true) (h2 : tieR s t = true) : tieR r t = true := by
  have h3 := (tie_key hr hs h).trans (tie_key hs ht h2)
  rw [tieR_eq hr ht, betR_lex hr ht, betR_lex ht hr, h3, lexB_irrefl]; rfl
theorem bet_pts {r s : Rs} (hr : okR r = true) (hs : okR s = true) (h : betR r s = true) : ptsR s ≤ ptsR r := by
  rw [betR_lex hr hs] at h
  simp only [keyR, lexB] at h
  by_cases e : -ptsR r = -ptsR s
  · omega
  · rw [if_neg e] at h
    have := of_decide_eq_true h
    omega
theorem pegs_le49 (p : Int) : pegs p ≤ 49 := by
  rw [pegs_eq]
  have := List.countP_le_length (p := fun i : Nat => p.toNat.testBit i) (l := List.range 49)
  simpa using this
theorem resultOf_played {a b o p q c : Int} {L : List Ln} (hp : posOk a b o p = true) (hl : L.length ≤ 11) (hq : playTo false a b o p L = some q) (hc : hasHole a b o c = true) :
    resultOf a b o p L c 50 = if 1 ≤ pegs q then some (resultAt q c L 50) else none := by
  have h1 : playAll a b o p L = some q := by rw [playAll, if_pos hp, if_pos (by omega), hq]
  rw [resultOf, h1]
  simp only
  rw [if_pos hc]
  have h2 := pegs_le49 q
  have h3 := sweeps_le L
  by_cases h : 1 ≤ pegs q
  · rw [if_pos h, if_pos]
    simp only [okR, resultOk, resultAt, Bool.and_eq_true]
    exact ⟨⟨inR_iff.2 (by omega), inR_iff.2 (by omega)⟩, inR_iff.2 (by omega)⟩
  · rw [if_neg h, if_neg]
    simp only [okR, resultOk, resultAt, Bool.and_eq_true]
    rintro ⟨⟨h4, _⟩, _⟩
    have := inR_iff.1 h4
    omega
end Peg
