/- Ord0: games up to the order of jumps that do not disturb each other, plain: normal forms; no program in sight. No condition. -/
import Derived.Test.YtledmebhlmpjaaaGame0
set_option linter.unusedVariables false
set_option linter.unusedSimpArgs false
namespace Peg
/-- two jumps that share a hole -/
def touch (l : Ln) (k : Int) : Bool := decide (l.f = k) || decide (l.o = k) || decide (l.t = k)
def dis (a c : Ln) : Bool := touch c a.f || touch c a.o || touch c a.t
theorem touch_iff {l : Ln} {k : Int} : touch l k = true ↔ l.f = k ∨ l.o = k ∨ l.t = k := by
  simp [touch, or_assoc]
theorem dis_iff {a c : Ln} : dis a c = true ↔ (c.f = a.f ∨ c.o = a.f ∨ c.t = a.f) ∨ (c.f = a.o ∨ c.o = a.o ∨ c.t = a.o) ∨ (c.f = a.t ∨ c.o = a.t ∨ c.t = a.t) := by
  simp only [dis, Bool.or_eq_true, touch_iff, or_assoc]
theorem dis_symm (a c : Ln) : dis a c = dis c a := by
  rw [Bool.eq_iff_iff, dis_iff, dis_iff]
  constructor <;> intro h <;> omega
theorem dis_refl (a : Ln) : dis a a = true := dis_iff.2 (Or.inl (Or.inl rfl))
/-- a jump taken out of a game, if none ahead of it disturbs it -/
def rmv (x : Ln) : List Ln → Option (List Ln)
  | [] => none
  | y :: s => if y = x then some s else if dis y x then none else (rmv x s).map (y :: ·)
/-- the games are one up to order -/
def eqv : List Ln → List Ln → Bool
  | a, [] => a.isEmpty
  | a, x :: c => match rmv x a with
    | some a' => eqv a' c
    | none => false
theorem rmv_cons {x y : Ln} {s : List Ln} : rmv x (y :: s) = if y = x then some s else if dis y x then none else (rmv x s).map (y :: ·) := rfl
theorem rmv_len {x : Ln} : ∀ {a a' : List Ln}, rmv x a = some a' → a.length = a'.length + 1
  | [], a', h => by simp [rmv] at h
  | y :: s, a', h => by
    rw [rmv_cons] at h
    split at h
    · cases h; rfl
    · split at h
      · cases h
      · cases e : rmv x s with
        | none => simp [e] at h
        | some r =>
          simp [e] at h
          subst h
          simp [rmv_len e]
/-- two jumps that can be taken out do not disturb each other -/
theorem rmv_two {x y : Ln} (hne : x ≠ y) : ∀ {a a' b' : List Ln}, rmv x a = some a' → rmv y a = some b' → dis x y = false ∧ ∃ r, rmv y a' = some r ∧ rmv x b' = some r
  | [], a', b', h, _ => by simp [rmv] at h
  | z :: s, a', b', h, h2 => by
    rw [rmv_cons] at h h2
    by_cases hx : z = x
    · subst hx
      rw [if_pos rfl] at h
      cases h
      rw [if_neg hne] at h2
      split at h2
      · cases h2
      · rename_i hd
        cases e : rmv y s with
        | none => simp [e] at h2
        | some r =>
          simp [e] at h2
          subst h2
          exact ⟨by simpa using hd, r, rfl, by rw [rmv_cons, if_pos rfl]⟩
    · rw [if_neg hx] at h
      by_cases hy : z = y
      · subst hy
        rw [if_pos rfl] at h2
        cases h2
        split at h
        · cases h
        · rename_i hd
          cases e : rmv x s with
          | none => simp [e] at h
          | some r =>
            simp [e] at h
            subst h
            exact ⟨by rw [dis_symm]; simpa using hd, r, by rw [rmv_cons, if_pos rfl], rfl⟩
      · rw [if_neg hy] at h2
        split at h
        · cases h
        · split at h2
          · cases h2
          · rename_i hd hd2
            cases e : rmv x s with
            | none => simp [e] at h
            | some r =>
              cases e2 : rmv y s with
              | none => simp [e2] at h2
              | some r2 =>
                simp [e] at h
                simp [e2] at h2
                subst h h2
                obtain ⟨hd3, q, q1, q2⟩ := rmv_two hne e e2
                exact ⟨hd3, z :: q, by rw [rmv_cons, if_neg hy, if_neg hd2, q1]; rfl, by rw [rmv_cons, if_neg hx, if_neg hd, q2]; rfl⟩
/-- what is taken out behind another one that does not disturb it can be taken out first -/
theorem rmv_swap {x y : Ln} (hd : dis x y = false) : ∀ {a a1 a2 : List Ln}, rmv y a = some a1 → rmv x a1 = some a2 → ∃ a', rmv x a = some a' ∧ rmv y a' = some a2
  | [], a1, a2, h, _ => by simp [rmv] at h
  | z :: s, a1, a2, h, h2 => by
    have hne : x ≠ y := fun e => by subst e; rw [dis_refl] at hd; cases hd
    rw [rmv_cons] at h
    by_cases hy : z = y
    · subst hy
      rw [if_pos rfl] at h
      cases h
      refine ⟨z :: a2, ?_, by rw [rmv_cons, if_pos rfl]⟩
      rw [rmv_cons, if_neg (Ne.symm hne), dis_symm, hd, if_neg (by simp), h2]
      rfl
    · rw [if_neg hy] at h
      split at h
      · cases h
      · rename_i hd2
        cases e : rmv y s with
        | none => simp [e] at h
        | some r =>
          simp [e] at h
          subst h
          rw [rmv_cons] at h2
          by_cases hx : z = x
          · subst hx
            rw [if_pos rfl] at h2
            cases h2
            exact ⟨s, by rw [rmv_cons, if_pos rfl], e⟩
          · rw [if_neg hx] at h2
            split at h2
            · cases h2
            · rename_i hd3
              cases e2 : rmv x r with
              | none => simp [e2] at h2
              | some r2 =>
                simp [e2] at h2
                subst h2
                obtain ⟨q, q1, q2⟩ := rmv_swap hd e e2
                exact ⟨z :: q, by rw [rmv_cons, if_neg hx, if_neg hd3, q1]; rfl, by rw [rmv_cons, if_neg hy, if_neg hd2, q2]; rfl⟩
/-- of games that are one up to order the same jumps can be taken out, and what is left is one up to order -/
theorem eqv_rmv {x : Ln} : ∀ {c a : List Ln}, eqv a c = true → ∀ {a' : List Ln}, rmv x a = some a' → ∃ c', rmv x c = some c' ∧ eqv a' c' = true
  | [], a, h, a', h2 => by
    have : a = [] := by simpa [eqv] using h
    subst this
    simp [rmv] at h2
  | y :: c1, a, h, a', h2 => by
    rw [eqv] at h
    cases e : rmv y a with
    | none => simp [e] at h
    | some a1 =>
      simp only [e] at h
      by_cases hxy : x = y
      · subst hxy
        rw [e] at h2
        cases h2
        exact ⟨c1, by rw [rmv_cons, if_pos rfl], h⟩
      · obtain ⟨hd, r, r1, r2⟩ := rmv_two hxy h2 e
        obtain ⟨c2, q1, q2⟩ := eqv_rmv h r2
        refine ⟨y :: c2, ?_, ?_⟩
        · rw [rmv_cons, if_neg (Ne.symm hxy), dis_symm, hd, if_neg (by simp), q1]; rfl
        · rw [eqv, r1]; exact q2
theorem eqv_rmv' {x : Ln} : ∀ {c a : List Ln}, eqv a c = true → ∀ {c' : List Ln}, rmv x c = some c' → ∃ a', rmv x a = some a' ∧ eqv a' c' = true
  | [], a, h, c', h2 => by simp [rmv] at h2
  | y :: c1, a, h, c', h2 => by
    rw [eqv] at h
    cases e : rmv y a with
    | none => simp [e] at h
    | some a1 =>
      simp only [e] at h
      rw [rmv_cons] at h2
      by_cases hxy : y = x
      · subst hxy
        rw [if_pos rfl] at h2
        cases h2
        exact ⟨a1, e, h⟩
      · rw [if_neg hxy] at h2
        split at h2
        · cases h2
        · rename_i hd
          cases e2 : rmv x c1 with
          | none => simp [e2] at h2
          | some c2 =>
            simp [e2] at h2
            subst h2
            obtain ⟨a2, q1, q2⟩ := eqv_rmv' h e2
            obtain ⟨a', p1, p2⟩ := rmv_swap (by rw [dis_symm]; simpa using hd) e q1
            exact ⟨a', p1, by rw [eqv, p2]; exact q2⟩
theorem eqv_len : ∀ {c a : List Ln}, eqv a c = true → a.length = c.length
  | [], a, h => by simp [eqv] at h; simp [h]
  | y :: c1, a, h => by
    rw [eqv] at h
    cases e : rmv y a with
    | none => simp [e] at h
    | some a1 =>
      simp only [e] at h
      rw [rmv_len e, eqv_len h]
      rfl
theorem eqv_refl : ∀ a : List Ln, eqv a a = true
  | [] => rfl
  | x :: a => by rw [eqv, rmv_cons, if_pos rfl]; exact eqv_refl a
theorem eqv_symm : ∀ {a c : List Ln}, eqv a c = true → eqv c a = true
  | [], c, h => by
    have h1 := eqv_len h
    cases c with
    | nil => rfl
    | cons x c => simp at h1
  | x :: a, c, h => by
    obtain ⟨c', q1, q2⟩ := eqv_rmv h (x := x) (a' := a) (by rw [rmv_cons, if_pos rfl])
    rw [eqv, q1]
    exact eqv_symm q2
theorem eqv_trans : ∀ {c a b : List Ln}, eqv a b = true → eqv b c = true → eqv a c = true
  | [], a, b, h, h2 => by
    have h1 := eqv_len h2
    have : b = [] := by simpa using h1
    subst this
    exact h
  | x :: c, a, b, h, h2 => by
    rw [eqv] at h2
    cases e : rmv x b with
    | none => simp [e] at h2
    | some b' =>
      simp only [e] at h2
      obtain ⟨a', q1, q2⟩ := eqv_rmv' h e
      rw [eqv, q1]
      exact eqv_trans q2 h2
/-- ahead in the order of jumps -/
def jlt (a c : Ln) : Bool := decide (a.f < c.f) || (decide (a.f = c.f) && decide (a.t < c.t))
/-- no jump ahead disturbs the k-th one -/
def freeAt (a : List Ln) (k : Nat) : Bool := (a.take k).all fun m => !dis (a.getD k ⟨0, 0, 0⟩) m
/-- the place of the jump that comes next, of the first n ones -/
def bestTo (a : List Ln) : Nat → Nat
  | 0 => 0
  | n + 1 => if freeAt a n && jlt (a.getD n ⟨0, 0, 0⟩) (a.getD (bestTo a n) ⟨0, 0, 0⟩) then n else bestTo a n
def nform : Nat → List Ln → List Ln
  | 0, _ => []
  | n + 1, a => a.getD (bestTo a a.length) ⟨0, 0, 0⟩ :: nform n (a.eraseIdx (bestTo a a.length))
theorem freeAt_zero (a : List Ln) : freeAt a 0 = true := by simp [freeAt]
theorem bestTo_lt (a : List Ln) : ∀ n, n ≠ 0 → bestTo a n < n
  | 0, h => absurd rfl h
  | n + 1, _ => by
    rw [bestTo]
    split
    · omega
    · by_cases h : n = 0
      · subst h; simp [bestTo]
      · have := bestTo_lt a n h; omega
theorem bestTo_free (a : List Ln) : ∀ n, freeAt a (bestTo a n) = true
  | 0 => freeAt_zero a
  | n + 1 => by
    rw [bestTo]
    split
    · rename_i h; simp at h; exact h.1
    · exact bestTo_free a n
theorem jlt_trans {a b c : Ln} (h : jlt a b = true) (h2 : jlt b c = true) : jlt a c = true := by
  simp [jlt] at *; omega
theorem jlt_irr (a : Ln) : jlt a a = false := by simp [jlt]
theorem jlt_of {a b : Ln} (h : dis a b = false) : jlt a b = true ∨ jlt b a = true := by
  have h2 : ¬ (dis a b = true) := by simp [h]
  rw [dis_iff] at h2
  simp [jlt]; omega
/-- of free places none comes ahead of the best one -/
theorem bestTo_least (a : List Ln) : ∀ n j, j < n → freeAt a j = true → jlt (a.getD j ⟨0, 0, 0⟩) (a.getD (bestTo a n) ⟨0, 0, 0⟩) = false
  | n + 1, j, h, hf => by
    rw [bestTo]
    by_cases hj : j = n
    · subst hj
      split
      · exact jlt_irr _
      · rename_i hh; rw [hf, Bool.true_and] at hh; simpa using hh
    · have ih := bestTo_least a n j (by omega) hf
      split
      · rename_i hh
        simp only [Bool.and_eq_true] at hh
        cases e : jlt (a.getD j ⟨0, 0, 0⟩) (a.getD n ⟨0, 0, 0⟩) with
        | false => rfl
        | true => rw [jlt_trans e hh.2] at ih; cases ih
      · exact ih
theorem freeAt_succ (y : Ln) (s : List Ln) (k : Nat) : freeAt (y :: s) (k + 1) = (!dis (s.getD k ⟨0, 0, 0⟩) y && freeAt s k) := by
  simp [freeAt]
/-- a free place's jump can be taken out -/
theorem rmv_free : ∀ (a : List Ln) (k : Nat), k < a.length → freeAt a k = true → rmv (a.getD k ⟨0, 0, 0⟩) a = some (a.eraseIdx k)
  | [], k, h, _ => by simp at h
  | y :: s, 0, _, _ => by simp [rmv]
  | y :: s, k + 1, h, hf => by
    rw [freeAt_succ] at hf
    simp only [Bool.and_eq_true, Bool.not_eq_true'] at hf
    have h1 := rmv_free s k (by simpa using h) hf.2
    simp only [List.getD_cons_succ, List.eraseIdx_cons_succ]
    rw [rmv_cons, if_neg, dis_symm, hf.1, if_neg (by simp), h1]
    · rfl
    · intro e
      rw [e] at hf
      rw [dis_refl] at hf
      cases hf.1
/-- what can be taken out lies at a free place -/
theorem rmv_place {x : Ln} : ∀ {a a' : List Ln}, rmv x a = some a' → ∃ k, k < a.length ∧ a.getD k ⟨0, 0, 0⟩ = x ∧ freeAt a k = true ∧ a' = a.eraseIdx k
  | [], a', h => by simp [rmv] at h
  | y :: s, a', h => by
    rw [rmv_cons] at h
    split at h
    · rename_i e
      cases h
      exact ⟨0, by simp, by simpa using e, freeAt_zero _, by simp⟩
    · split at h
      · cases h
      · rename_i hd
        cases e : rmv x s with
        | none => simp [e] at h
        | some r =>
          simp [e] at h
          obtain ⟨k, k1, k2, k3, k4⟩ := rmv_place e
          refine ⟨k + 1, by simpa using k1, by simpa using k2, ?_, by simp [← h, k4]⟩
          rw [freeAt_succ, k3, k2, dis_symm]
          simpa using hd
/-- the best jump can be taken out, and all others that can be come behind it -/
theorem best_rmv {a : List Ln} (h : a ≠ []) : rmv (a.getD (bestTo a a.length) ⟨0, 0, 0⟩) a = some (a.eraseIdx (bestTo a a.length)) ∧ ∀ y a', rmv y a = some a' → y = a.getD (bestTo a a.length) ⟨0, 0, 0⟩ ∨ jlt (a.getD (bestTo a a.length) ⟨0, 0, 0⟩) y = true := by
  have hl : a.length ≠ 0 := by simpa using h
  have h1 := rmv_free a (bestTo a a.length) (bestTo_lt a _ hl) (bestTo_free a _)
  refine ⟨h1, fun y a' hy => ?_⟩
  by_cases e : y = a.getD (bestTo a a.length) ⟨0, 0, 0⟩
  · exact Or.inl e
  · obtain ⟨hd, -⟩ := rmv_two e hy h1
    obtain ⟨k, k1, k2, k3, -⟩ := rmv_place hy
    have h3 := bestTo_least a a.length k k1 k3
    rw [k2] at h3
    rcases jlt_of hd with h4 | h4
    · rw [h4] at h3; cases h3
    · exact Or.inr h4
theorem nform_eqv : ∀ (n : Nat) (a : List Ln), a.length = n → eqv a (nform n a) = true
  | 0, a, h => by
    have : a = [] := by simpa using h
    subst this; rfl
  | n + 1, a, h => by
    have hne : a ≠ [] := fun e => by subst e; simp at h
    obtain ⟨h1, -⟩ := best_rmv hne
    rw [nform, eqv, h1]
    exact nform_eqv n _ (by have := rmv_len h1; omega)
theorem nform_same : ∀ (n : Nat) (a c : List Ln), a.length = n → eqv a c = true → nform n a = nform n c
  | 0, a, c, h, _ => rfl
  | n + 1, a, c, h, h2 => by
    have hne : a ≠ [] := fun e => by subst e; simp at h
    have hl := eqv_len h2
    have hne2 : c ≠ [] := fun e => by subst e; simp at hl; exact hne hl
    obtain ⟨a1, a2⟩ := best_rmv hne
    obtain ⟨c1, c2⟩ := best_rmv hne2
    obtain ⟨c', q1, q2⟩ := eqv_rmv h2 a1
    obtain ⟨a', p1, p2⟩ := eqv_rmv' h2 c1
    have e : a.getD (bestTo a a.length) ⟨0, 0, 0⟩ = c.getD (bestTo c c.length) ⟨0, 0, 0⟩ := by
      rcases c2 _ _ q1 with e | e
      · exact e
      · rcases a2 _ _ p1 with e2 | e2
        · exact e2.symm
        · have := jlt_trans e e2
          rw [jlt_irr] at this
          cases this
    rw [e, c1] at q1
    cases q1
    rw [nform, nform, e]
    rw [nform_same n _ _ (by have := rmv_len a1; omega) q2]
/-- the normal forms are one where the games are one up to order -/
theorem nform_iff {a c : List Ln} : (decide (nform a.length a = nform c.length c)) = eqv a c := by
  rw [Bool.eq_iff_iff, decide_eq_true_iff]
  constructor
  · intro h
    have h1 := nform_eqv _ a rfl
    rw [h] at h1
    exact eqv_trans h1 (eqv_symm (nform_eqv _ c rfl))
  · intro h
    rw [nform_same _ a c rfl h, eqv_len h]
end Peg
