/- PzO: several texts in one (Ord0, OrdC, OrdD, App, AppR, OrdN). Conditions: those that each theorem names. -/
import Derived.Test.YtledmebhlmpjaaaPzA
import Derived.Test.YtledmebhlmpjaaaPzB
import Derived.Test.YtledmebhlmpjaaaPzC
import Derived.Deep.Cut
import Derived.IntWalk
import Derived.Test.YtledmebhlmpjaaaPlay
import Derived.Deep.RegionHeld3
import Derived.Deep.DeepCutAuto
set_option linter.unusedVariables false
set_option linter.unusedSimpArgs false
namespace Peg
/-- two jumps that share a hole -/
def touch (l : Ln) (k : Int) : Bool := decide (l.f = k) || decide (l.o = k) || decide (l.t = k)
def dis (a c : Ln) : Bool := touch c a.f || touch c a.o || touch c a.t
theorem touch_iff {l : Ln} {k : Int} : touch l k = true ↔ l.f = k ∨ l.o = k ∨ l.t = k := by
  simp [touch, or_assoc]
theorem dis_iff {a c : Ln} : dis a c = true ↔ (c.f = a.f ∨ c.o = a.f ∨ c.t = a.f) ∨ (c.f = a.o ∨ c.o = a.o ∨ c.t = a.o) ∨ (c.f = a.t ∨ c.o = a.t ∨ c.t = a.t) := by
  simp only [dis, Bool.or_eq_true, touch_iff, or_assoc]
theorem dis_symm (a c : Ln) : dis a c = dis c a := by
  rw [Bool.eq_iff_iff, dis_iff, dis_iff]
  constructor <;> intro h <;> omega
theorem dis_refl (a : Ln) : dis a a = true := dis_iff.2 (Or.inl (Or.inl rfl))
/-- a jump taken out of a game, if none ahead of it disturbs it -/
def rmv (x : Ln) : List Ln → Option (List Ln)
  | [] => none
  | y :: s => if y = x then some s else if dis y x then none else (rmv x s).map (y :: ·)
/-- the games are one up to order -/
def eqv : List Ln → List Ln → Bool
  | a, [] => a.isEmpty
  | a, x :: c => match rmv x a with
    | some a' => eqv a' c
    | none => false
theorem rmv_cons {x y : Ln} {s : List Ln} : rmv x (y :: s) = if y = x then some s else if dis y x then none else (rmv x s).map (y :: ·) := rfl
theorem rmv_len {x : Ln} : ∀ {a a' : List Ln}, rmv x a = some a' → a.length = a'.length + 1
  | [], a', h => by simp [rmv] at h
  | y :: s, a', h => by
    rw [rmv_cons] at h
    split at h
    · cases h; rfl
    · split at h
      · cases h
      · cases e : rmv x s with
        | none => simp [e] at h
        | some r =>
          simp [e] at h
          subst h
          simp [rmv_len e]
/-- two jumps that can be taken out do not disturb each other -/
theorem rmv_two {x y : Ln} (hne : x ≠ y) : ∀ {a a' b' : List Ln}, rmv x a = some a' → rmv y a = some b' → dis x y = false ∧ ∃ r, rmv y a' = some r ∧ rmv x b' = some r
  | [], a', b', h, _ => by simp [rmv] at h
  | z :: s, a', b', h, h2 => by
    rw [rmv_cons] at h h2
    by_cases hx : z = x
    · subst hx
      rw [if_pos rfl] at h
      cases h
      rw [if_neg hne] at h2
      split at h2
      · cases h2
      · rename_i hd
        cases e : rmv y s with
        | none => simp [e] at h2
        | some r =>
          simp [e] at h2
          subst h2
          exact ⟨by simpa using hd, r, rfl, by rw [rmv_cons, if_pos rfl]⟩
    · rw [if_neg hx] at h
      by_cases hy : z = y
      · subst hy
        rw [if_pos rfl] at h2
        cases h2
        split at h
        · cases h
        · rename_i hd
          cases e : rmv x s with
          | none => simp [e] at h
          | some r =>
            simp [e] at h
            subst h
            exact ⟨by rw [dis_symm]; simpa using hd, r, by rw [rmv_cons, if_pos rfl], rfl⟩
      · rw [if_neg hy] at h2
        split at h
        · cases h
        · split at h2
          · cases h2
          · rename_i hd hd2
            cases e : rmv x s with
            | none => simp [e] at h
            | some r =>
              cases e2 : rmv y s with
              | none => simp [e2] at h2
              | some r2 =>
                simp [e] at h
                simp [e2] at h2
                subst h h2
                obtain ⟨hd3, q, q1, q2⟩ := rmv_two hne e e2
                exact ⟨hd3, z :: q, by rw [rmv_cons, if_neg hy, if_neg hd2, q1]; rfl, by rw [rmv_cons, if_neg hx, if_neg hd, q2]; rfl⟩
/-- what is taken out behind another one that does not disturb it can be taken out first -/
theorem rmv_swap {x y : Ln} (hd : dis x y = false) : ∀ {a a1 a2 : List Ln}, rmv y a = some a1 → rmv x a1 = some a2 → ∃ a', rmv x a = some a' ∧ rmv y a' = some a2
  | [], a1, a2, h, _ => by simp [rmv] at h
  | z :: s, a1, a2, h, h2 => by
    have hne : x ≠ y := fun e => by subst e; rw [dis_refl] at hd; cases hd
    rw [rmv_cons] at h
    by_cases hy : z = y
    · subst hy
      rw [if_pos rfl] at h
      cases h
      refine ⟨z :: a2, ?_, by rw [rmv_cons, if_pos rfl]⟩
      rw [rmv_cons, if_neg (Ne.symm hne), dis_symm, hd, if_neg (by simp), h2]
      rfl
    · rw [if_neg hy] at h
      split at h
      · cases h
      · rename_i hd2
        cases e : rmv y s with
        | none => simp [e] at h
        | some r =>
          simp [e] at h
          subst h
          rw [rmv_cons] at h2
          by_cases hx : z = x
          · subst hx
            rw [if_pos rfl] at h2
            cases h2
            exact ⟨s, by rw [rmv_cons, if_pos rfl], e⟩
          · rw [if_neg hx] at h2
            split at h2
            · cases h2
            · rename_i hd3
              cases e2 : rmv x r with
              | none => simp [e2] at h2
              | some r2 =>
                simp [e2] at h2
                subst h2
                obtain ⟨q, q1, q2⟩ := rmv_swap hd e e2
                exact ⟨z :: q, by rw [rmv_cons, if_neg hx, if_neg hd3, q1]; rfl, by rw [rmv_cons, if_neg hy, if_neg hd2, q2]; rfl⟩
/-- of games that are one up to order the same jumps can be taken out, and what is left is one up to order -/
theorem eqv_rmv {x : Ln} : ∀ {c a : List Ln}, eqv a c = true → ∀ {a' : List Ln}, rmv x a = some a' → ∃ c', rmv x c = some c' ∧ eqv a' c' = true
  | [], a, h, a', h2 => by
    have : a = [] := by simpa [eqv] using h
    subst this
    simp [rmv] at h2
  | y :: c1, a, h, a', h2 => by
    rw [eqv] at h
    cases e : rmv y a with
    | none => simp [e] at h
    | some a1 =>
      simp only [e] at h
      by_cases hxy : x = y
      · subst hxy
        rw [e] at h2
        cases h2
        exact ⟨c1, by rw [rmv_cons, if_pos rfl], h⟩
      · obtain ⟨hd, r, r1, r2⟩ := rmv_two hxy h2 e
        obtain ⟨c2, q1, q2⟩ := eqv_rmv h r2
        refine ⟨y :: c2, ?_, ?_⟩
        · rw [rmv_cons, if_neg (Ne.symm hxy), dis_symm, hd, if_neg (by simp), q1]; rfl
        · rw [eqv, r1]; exact q2
theorem eqv_rmv' {x : Ln} : ∀ {c a : List Ln}, eqv a c = true → ∀ {c' : List Ln}, rmv x c = some c' → ∃ a', rmv x a = some a' ∧ eqv a' c' = true
  | [], a, h, c', h2 => by simp [rmv] at h2
  | y :: c1, a, h, c', h2 => by
    rw [eqv] at h
    cases e : rmv y a with
    | none => simp [e] at h
    | some a1 =>
      simp only [e] at h
      rw [rmv_cons] at h2
      by_cases hxy : y = x
      · subst hxy
        rw [if_pos rfl] at h2
        cases h2
        exact ⟨a1, e, h⟩
      · rw [if_neg hxy] at h2
        split at h2
        · cases h2
        · rename_i hd
          cases e2 : rmv x c1 with
          | none => simp [e2] at h2
          | some c2 =>
            simp [e2] at h2
            subst h2
            obtain ⟨a2, q1, q2⟩ := eqv_rmv' h e2
            obtain ⟨a', p1, p2⟩ := rmv_swap (by rw [dis_symm]; simpa using hd) e q1
            exact ⟨a', p1, by rw [eqv, p2]; exact q2⟩
theorem eqv_len : ∀ {c a : List Ln}, eqv a c = true → a.length = c.length
  | [], a, h => by simp [eqv] at h; simp [h]
  | y :: c1, a, h => by
    rw [eqv] at h
    cases e : rmv y a with
    | none => simp [e] at h
    | some a1 =>
      simp only [e] at h
      rw [rmv_len e, eqv_len h]
      rfl
theorem eqv_refl : ∀ a : List Ln, eqv a a = true
  | [] => rfl
  | x :: a => by rw [eqv, rmv_cons, if_pos rfl]; exact eqv_refl a
theorem eqv_symm : ∀ {a c : List Ln}, eqv a c = true → eqv c a = true
  | [], c, h => by
    have h1 := eqv_len h
    cases c with
    | nil => rfl
    | cons x c => simp at h1
  | x :: a, c, h => by
    obtain ⟨c', q1, q2⟩ := eqv_rmv h (x := x) (a' := a) (by rw [rmv_cons, if_pos rfl])
    rw [eqv, q1]
    exact eqv_symm q2
theorem eqv_trans : ∀ {c a b : List Ln}, eqv a b = true → eqv b c = true → eqv a c = true
  | [], a, b, h, h2 => by
    have h1 := eqv_len h2
    have : b = [] := by simpa using h1
    subst this
    exact h
  | x :: c, a, b, h, h2 => by
    rw [eqv] at h2
    cases e : rmv x b with
    | none => simp [e] at h2
    | some b' =>
      simp only [e] at h2
      obtain ⟨a', q1, q2⟩ := eqv_rmv' h e
      rw [eqv, q1]
      exact eqv_trans q2 h2
/-- ahead in the order of jumps -/
def jlt (a c : Ln) : Bool := decide (a.f < c.f) || (decide (a.f = c.f) && decide (a.t < c.t))
/-- no jump ahead disturbs the k-th one -/
def freeAt (a : List Ln) (k : Nat) : Bool := (a.take k).all fun m => !dis (a.getD k ⟨0, 0, 0⟩) m
/-- the place of the jump that comes next, of the first n ones -/
def bestTo (a : List Ln) : Nat → Nat
  | 0 => 0
  | n + 1 => if freeAt a n && jlt (a.getD n ⟨0, 0, 0⟩) (a.getD (bestTo a n) ⟨0, 0, 0⟩) then n else bestTo a n
def nform : Nat → List Ln → List Ln
  | 0, _ => []
  | n + 1, a => a.getD (bestTo a a.length) ⟨0, 0, 0⟩ :: nform n (a.eraseIdx (bestTo a a.length))
theorem freeAt_zero (a : List Ln) : freeAt a 0 = true := by simp [freeAt]
theorem bestTo_lt (a : List Ln) : ∀ n, n ≠ 0 → bestTo a n < n
  | 0, h => absurd rfl h
  | n + 1, _ => by
    rw [bestTo]
    split
    · omega
    · by_cases h : n = 0
      · subst h; simp [bestTo]
      · have := bestTo_lt a n h; omega
theorem bestTo_free (a : List Ln) : ∀ n, freeAt a (bestTo a n) = true
  | 0 => freeAt_zero a
  | n + 1 => by
    rw [bestTo]
    split
    · rename_i h; simp at h; exact h.1
    · exact bestTo_free a n
theorem jlt_trans {a b c : Ln} (h : jlt a b = true) (h2 : jlt b c = true) : jlt a c = true := by
  simp [jlt] at *; omega
theorem jlt_irr (a : Ln) : jlt a a = false := by simp [jlt]
theorem jlt_of {a b : Ln} (h : dis a b = false) : jlt a b = true ∨ jlt b a = true := by
  have h2 : ¬ (dis a b = true) := by simp [h]
  rw [dis_iff] at h2
  simp [jlt]; omega
/-- of free places none comes ahead of the best one -/
theorem bestTo_least (a : List Ln) : ∀ n j, j < n → freeAt a j = true → jlt (a.getD j ⟨0, 0, 0⟩) (a.getD (bestTo a n) ⟨0, 0, 0⟩) = false
  | n + 1, j, h, hf => by
    rw [bestTo]
    by_cases hj : j = n
    · subst hj
      split
      · exact jlt_irr _
      · rename_i hh; rw [hf, Bool.true_and] at hh; simpa using hh
    · have ih := bestTo_least a n j (by omega) hf
      split
      · rename_i hh
        simp only [Bool.and_eq_true] at hh
        cases e : jlt (a.getD j ⟨0, 0, 0⟩) (a.getD n ⟨0, 0, 0⟩) with
        | false => rfl
        | true => rw [jlt_trans e hh.2] at ih; cases ih
      · exact ih
theorem freeAt_succ (y : Ln) (s : List Ln) (k : Nat) : freeAt (y :: s) (k + 1) = (!dis (s.getD k ⟨0, 0, 0⟩) y && freeAt s k) := by
  simp [freeAt]
/-- a free place's jump can be taken out -/
theorem rmv_free : ∀ (a : List Ln) (k : Nat), k < a.length → freeAt a k = true → rmv (a.getD k ⟨0, 0, 0⟩) a = some (a.eraseIdx k)
  | [], k, h, _ => by simp at h
  | y :: s, 0, _, _ => by simp [rmv]
  | y :: s, k + 1, h, hf => by
    rw [freeAt_succ] at hf
    simp only [Bool.and_eq_true, Bool.not_eq_true'] at hf
    have h1 := rmv_free s k (by simpa using h) hf.2
    simp only [List.getD_cons_succ, List.eraseIdx_cons_succ]
    rw [rmv_cons, if_neg, dis_symm, hf.1, if_neg (by simp), h1]
    · rfl
    · intro e
      rw [e] at hf
      rw [dis_refl] at hf
      cases hf.1
/-- what can be taken out lies at a free place -/
theorem rmv_place {x : Ln} : ∀ {a a' : List Ln}, rmv x a = some a' → ∃ k, k < a.length ∧ a.getD k ⟨0, 0, 0⟩ = x ∧ freeAt a k = true ∧ a' = a.eraseIdx k
  | [], a', h => by simp [rmv] at h
  | y :: s, a', h => by
    rw [rmv_cons] at h
    split at h
    · rename_i e
      cases h
      exact ⟨0, by simp, by simpa using e, freeAt_zero _, by simp⟩
    · split at h
      · cases h
      · rename_i hd
        cases e : rmv x s with
        | none => simp [e] at h
        | some r =>
          simp [e] at h
          obtain ⟨k, k1, k2, k3, k4⟩ := rmv_place e
          refine ⟨k + 1, by simpa using k1, by simpa using k2, ?_, by simp [← h, k4]⟩
          rw [freeAt_succ, k3, k2, dis_symm]
          simpa using hd
/-- the best jump can be taken out, and all others that can be come behind it -/
theorem best_rmv {a : List Ln} (h : a ≠ []) : rmv (a.getD (bestTo a a.length) ⟨0, 0, 0⟩) a = some (a.eraseIdx (bestTo a a.length)) ∧ ∀ y a', rmv y a = some a' → y = a.getD (bestTo a a.length) ⟨0, 0, 0⟩ ∨ jlt (a.getD (bestTo a a.length) ⟨0, 0, 0⟩) y = true := by
  have hl : a.length ≠ 0 := by simpa using h
  have h1 := rmv_free a (bestTo a a.length) (bestTo_lt a _ hl) (bestTo_free a _)
  refine ⟨h1, fun y a' hy => ?_⟩
  by_cases e : y = a.getD (bestTo a a.length) ⟨0, 0, 0⟩
  · exact Or.inl e
  · obtain ⟨hd, -⟩ := rmv_two e hy h1
    obtain ⟨k, k1, k2, k3, -⟩ := rmv_place hy
    have h3 := bestTo_least a a.length k k1 k3
    rw [k2] at h3
    rcases jlt_of hd with h4 | h4
    · rw [h4] at h3; cases h3
    · exact Or.inr h4
theorem nform_eqv : ∀ (n : Nat) (a : List Ln), a.length = n → eqv a (nform n a) = true
  | 0, a, h => by
    have : a = [] := by simpa using h
    subst this; rfl
  | n + 1, a, h => by
    have hne : a ≠ [] := fun e => by subst e; simp at h
    obtain ⟨h1, -⟩ := best_rmv hne
    rw [nform, eqv, h1]
    exact nform_eqv n _ (by have := rmv_len h1; omega)
theorem nform_same : ∀ (n : Nat) (a c : List Ln), a.length = n → eqv a c = true → nform n a = nform n c
  | 0, a, c, h, _ => rfl
  | n + 1, a, c, h, h2 => by
    have hne : a ≠ [] := fun e => by subst e; simp at h
    have hl := eqv_len h2
    have hne2 : c ≠ [] := fun e => by subst e; simp at hl; exact hne hl
    obtain ⟨a1, a2⟩ := best_rmv hne
    obtain ⟨c1, c2⟩ := best_rmv hne2
    obtain ⟨c', q1, q2⟩ := eqv_rmv h2 a1
    obtain ⟨a', p1, p2⟩ := eqv_rmv' h2 c1
    have e : a.getD (bestTo a a.length) ⟨0, 0, 0⟩ = c.getD (bestTo c c.length) ⟨0, 0, 0⟩ := by
      rcases c2 _ _ q1 with e | e
      · exact e
      · rcases a2 _ _ p1 with e2 | e2
        · exact e2.symm
        · have := jlt_trans e e2
          rw [jlt_irr] at this
          cases this
    rw [e, c1] at q1
    cases q1
    rw [nform, nform, e]
    rw [nform_same n _ _ (by have := rmv_len a1; omega) q2]
/-- the normal forms are one where the games are one up to order -/
theorem nform_iff {a c : List Ln} : (decide (nform a.length a = nform c.length c)) = eqv a c := by
  rw [Bool.eq_iff_iff, decide_eq_true_iff]
  constructor
  · intro h
    have h1 := nform_eqv _ a rfl
    rw [h] at h1
    exact eqv_trans h1 (eqv_symm (nform_eqv _ c rfl))
  · intro h
    rw [nform_same _ a c rfl h, eqv_len h]
end Peg
namespace Peg
/-- the order of jumps, as a number -/
def cmpJ (a c : Ln) : Int := if jlt a c then -1 else if a.f = c.f ∧ a.t = c.t then 0 else 1
theorem cmpJ_neg (a c : Ln) : (decide (cmpJ a c < 0)) = jlt a c := by
  unfold cmpJ
  cases jlt a c
  · simp only [Bool.false_eq_true, if_false]
    split <;> rfl
  · rfl
end Peg
namespace Go.Proofs.Ytledmebhlmpjaaa
open Go.ChangeShapes Go.WideShapes Go.ChangeAt Go.RowKit Peg Go.Sort
set_option maxRecDepth 100000 in
theorem touches_any (l : Ln) (k : Int) (w : World) :
    Calls Try.prog 104 #[.agg #[.int .i64 l.f, .int .i64 l.o, .int .i64 l.t], .int .i64 k] w fun e w' => e = .returned (.bool (touch l k)) ∧ Below w.heap.size w w' := by
  by_cases h1 : l.f = k
  · go_enter Try.func104, Try.ntmps104
    go_wp2_with fail
    all_goals go_ret
    all_goals exact ⟨by simp [touch, h1], by (repeat' first | (with_reducible exact Below.refl _ _) | (with_reducible refine Below.alloc ?_ ?_ _) | (with_reducible refine Below.drew ?_) | (with_reducible refine Below.setCell ?_ ?_ _) | (with_reducible refine below_via (by assumption) ?_ ?_) | go_size)⟩
  · by_cases h2 : l.o = k
    · go_enter Try.func104, Try.ntmps104
      go_wp2_with fail
      all_goals go_ret
      all_goals exact ⟨by simp [touch, h1, h2], by (repeat' first | (with_reducible exact Below.refl _ _) | (with_reducible refine Below.alloc ?_ ?_ _) | (with_reducible refine Below.drew ?_) | (with_reducible refine Below.setCell ?_ ?_ _) | (with_reducible refine below_via (by assumption) ?_ ?_) | go_size)⟩
    · by_cases h3 : l.t = k
      · go_enter Try.func104, Try.ntmps104
        go_wp2_with fail
        all_goals go_ret
        all_goals exact ⟨by simp [touch, h1, h2, h3], by (repeat' first | (with_reducible exact Below.refl _ _) | (with_reducible refine Below.alloc ?_ ?_ _) | (with_reducible refine Below.drew ?_) | (with_reducible refine Below.setCell ?_ ?_ _) | (with_reducible refine below_via (by assumption) ?_ ?_) | go_size)⟩
      · go_enter Try.func104, Try.ntmps104
        go_wp2_with fail
        all_goals go_ret
        all_goals exact ⟨by simp [touch, h1, h2, h3], by (repeat' first | (with_reducible exact Below.refl _ _) | (with_reducible refine Below.alloc ?_ ?_ _) | (with_reducible refine Below.drew ?_) | (with_reducible refine Below.setCell ?_ ?_ _) | (with_reducible refine below_via (by assumption) ?_ ?_) | go_size)⟩
set_option maxRecDepth 100000 in
theorem DoDisturb_any (a c : Ln) (w : World) :
    Calls Try.prog 101 #[.agg #[.int .i64 a.f, .int .i64 a.o, .int .i64 a.t], .agg #[.int .i64 c.f, .int .i64 c.o, .int .i64 c.t]] w fun e w' => e = .returned (.bool (dis a c)) ∧ Below w.heap.size w w' := by
  have HT : Hid (∀ k W, Calls Try.prog 104 #[.agg #[.int .i64 c.f, .int .i64 c.o, .int .i64 c.t], .int .i64 k] W fun e w' => e = .returned (.bool (touch c k)) ∧ Below W.heap.size W w') := fun k W => touches_any c k W
  have HD : Hid (dis a c = (touch c a.f || touch c a.o || touch c a.t)) := rfl
  rw [HD.out]
  have hx : ∀ k, touch c k = touch c k := fun _ => rfl
  cases h1 : touch c a.f <;> cases h2 : touch c a.o <;> cases h3 : touch c a.t
  all_goals
    have T1 := Lib.hid (HT.out a.f)
    have T2 := Lib.hid (HT.out a.o)
    have T3 := Lib.hid (HT.out a.t)
    rw [h1] at T1
    rw [h2] at T2
    rw [h3] at T3
    clear h1 h2 h3 HT HD hx
    go_enter Try.func101, Try.ntmps101
    go_wp2_with (go_at_call 104; first | (with_reducible refine (T1.out _).mono ?_; rintro e w' ⟨rfl, hb⟩; obtain ⟨hc, hf, hz, hy⟩ := bcell hb; clear hy; (try simp only [World.size_alloc, World.size_setCell, World.size_drew] at hz); (try have gQ0 : w.heap.size < w'.heap.size := by omega); (try have gQ1 : w.heap.size + 1 < w'.heap.size := by omega); (try have gQ2 : w.heap.size + 1 + 1 < w'.heap.size := by omega); (try have gQ3 : w.heap.size + 1 + 1 + 1 < w'.heap.size := by omega); (try have gQ4 : w.heap.size + 1 + 1 + 1 + 1 < w'.heap.size := by omega); (try have gQ5 : w.heap.size + 1 + 1 + 1 + 1 + 1 < w'.heap.size := by omega); (try have dQ0 : _ < w'.heap.size := Nat.lt_of_lt_of_le dQ0 (by omega)); (try have dQ1 : _ < w'.heap.size := Nat.lt_of_lt_of_le dQ1 (by omega)); (try have dQ2 : _ < w'.heap.size := Nat.lt_of_lt_of_le dQ2 (by omega)); (try have dQ3 : _ < w'.heap.size := Nat.lt_of_lt_of_le dQ3 (by omega)); (try have dQ4 : _ < w'.heap.size := Nat.lt_of_lt_of_le dQ4 (by omega)); (try have dQ5 : _ < w'.heap.size := Nat.lt_of_lt_of_le dQ5 (by omega)); (try (have hnQ := Nat.lt_of_succ_le hz; first | (have _x := dQ0; first | (have _x := dQ1; first | (have _x := dQ2; first | (have _x := dQ3; first | (have _x := dQ4; have dQ5 := hnQ) | have dQ4 := hnQ) | have dQ3 := hnQ) | have dQ2 := hnQ) | have dQ1 := hnQ) | have dQ0 := hnQ)); (try (have hmQ := Nat.lt_of_succ_lt (Nat.lt_of_succ_le hz); first | (have _x := dQ0; first | (have _x := dQ1; first | (have _x := dQ2; first | (have _x := dQ3; first | (have _x := dQ4; have dQ5 := hmQ) | have dQ4 := hmQ) | have dQ3 := hmQ) | have dQ2 := hmQ) | have dQ1 := hmQ) | have dQ0 := hmQ))) | (with_reducible refine (T2.out _).mono ?_; rintro e w' ⟨rfl, hb⟩; obtain ⟨hc, hf, hz, hy⟩ := bcell hb; clear hy; (try simp only [World.size_alloc, World.size_setCell, World.size_drew] at hz); (try have gQ0 : w.heap.size < w'.heap.size := by omega); (try have gQ1 : w.heap.size + 1 < w'.heap.size := by omega); (try have gQ2 : w.heap.size + 1 + 1 < w'.heap.size := by omega); (try have gQ3 : w.heap.size + 1 + 1 + 1 < w'.heap.size := by omega); (try have gQ4 : w.heap.size + 1 + 1 + 1 + 1 < w'.heap.size := by omega); (try have gQ5 : w.heap.size + 1 + 1 + 1 + 1 + 1 < w'.heap.size := by omega); (try have dQ0 : _ < w'.heap.size := Nat.lt_of_lt_of_le dQ0 (by omega)); (try have dQ1 : _ < w'.heap.size := Nat.lt_of_lt_of_le dQ1 (by omega)); (try have dQ2 : _ < w'.heap.size := Nat.lt_of_lt_of_le dQ2 (by omega)); (try have dQ3 : _ < w'.heap.size := Nat.lt_of_lt_of_le dQ3 (by omega)); (try have dQ4 : _ < w'.heap.size := Nat.lt_of_lt_of_le dQ4 (by omega)); (try have dQ5 : _ < w'.heap.size := Nat.lt_of_lt_of_le dQ5 (by omega)); (try (have hnQ := Nat.lt_of_succ_le hz; first | (have _x := dQ0; first | (have _x := dQ1; first | (have _x := dQ2; first | (have _x := dQ3; first | (have _x := dQ4; have dQ5 := hnQ) | have dQ4 := hnQ) | have dQ3 := hnQ) | have dQ2 := hnQ) | have dQ1 := hnQ) | have dQ0 := hnQ)); (try (have hmQ := Nat.lt_of_succ_lt (Nat.lt_of_succ_le hz); first | (have _x := dQ0; first | (have _x := dQ1; first | (have _x := dQ2; first | (have _x := dQ3; first | (have _x := dQ4; have dQ5 := hmQ) | have dQ4 := hmQ) | have dQ3 := hmQ) | have dQ2 := hmQ) | have dQ1 := hmQ) | have dQ0 := hmQ))) | (with_reducible refine (T3.out _).mono ?_; rintro e w' ⟨rfl, hb⟩; obtain ⟨hc, hf, hz, hy⟩ := bcell hb; clear hy; (try simp only [World.size_alloc, World.size_setCell, World.size_drew] at hz); (try have gQ0 : w.heap.size < w'.heap.size := by omega); (try have gQ1 : w.heap.size + 1 < w'.heap.size := by omega); (try have gQ2 : w.heap.size + 1 + 1 < w'.heap.size := by omega); (try have gQ3 : w.heap.size + 1 + 1 + 1 < w'.heap.size := by omega); (try have gQ4 : w.heap.size + 1 + 1 + 1 + 1 < w'.heap.size := by omega); (try have gQ5 : w.heap.size + 1 + 1 + 1 + 1 + 1 < w'.heap.size := by omega); (try have dQ0 : _ < w'.heap.size := Nat.lt_of_lt_of_le dQ0 (by omega)); (try have dQ1 : _ < w'.heap.size := Nat.lt_of_lt_of_le dQ1 (by omega)); (try have dQ2 : _ < w'.heap.size := Nat.lt_of_lt_of_le dQ2 (by omega)); (try have dQ3 : _ < w'.heap.size := Nat.lt_of_lt_of_le dQ3 (by omega)); (try have dQ4 : _ < w'.heap.size := Nat.lt_of_lt_of_le dQ4 (by omega)); (try have dQ5 : _ < w'.heap.size := Nat.lt_of_lt_of_le dQ5 (by omega)); (try (have hnQ := Nat.lt_of_succ_le hz; first | (have _x := dQ0; first | (have _x := dQ1; first | (have _x := dQ2; first | (have _x := dQ3; first | (have _x := dQ4; have dQ5 := hnQ) | have dQ4 := hnQ) | have dQ3 := hnQ) | have dQ2 := hnQ) | have dQ1 := hnQ) | have dQ0 := hnQ)); (try (have hmQ := Nat.lt_of_succ_lt (Nat.lt_of_succ_le hz); first | (have _x := dQ0; first | (have _x := dQ1; first | (have _x := dQ2; first | (have _x := dQ3; first | (have _x := dQ4; have dQ5 := hmQ) | have dQ4 := hmQ) | have dQ3 := hmQ) | have dQ2 := hmQ) | have dQ1 := hmQ) | have dQ0 := hmQ))))
    all_goals go_ret
    all_goals exact ⟨rfl, by (repeat' first | (with_reducible exact Below.refl _ _) | (with_reducible refine Below.alloc ?_ ?_ _) | (with_reducible refine Below.drew ?_) | (with_reducible refine Below.setCell ?_ ?_ _) | (with_reducible refine below_via (by assumption) ?_ ?_) | go_size)⟩
set_option maxRecDepth 100000 in
theorem CompareJumps_any (a c : Ln) (w : World) :
    Calls Try.prog 89 #[.agg #[.int .i64 a.f, .int .i64 a.o, .int .i64 a.t], .agg #[.int .i64 c.f, .int .i64 c.o, .int .i64 c.t]] w fun e w' => e = .returned (.int .i64 (cmpJ a c)) ∧ Below w.heap.size w w' := by
  by_cases h1 : a.f < c.f
  · go_enter Try.func89, Try.ntmps89
    go_wp2_with fail
    all_goals go_ret
    all_goals exact ⟨by simp [cmpJ, jlt, h1] <;> (first | rfl | (rw [if_neg (by omega)]; simp [*])), by (repeat' first | (with_reducible exact Below.refl _ _) | (with_reducible refine Below.alloc ?_ ?_ _) | (with_reducible refine Below.drew ?_) | (with_reducible refine Below.setCell ?_ ?_ _) | (with_reducible refine below_via (by assumption) ?_ ?_) | go_size)⟩
  · by_cases h2 : a.f = c.f
    · by_cases h3 : a.t < c.t
      · go_enter Try.func89, Try.ntmps89
        go_wp2_with fail
        all_goals go_ret
        all_goals exact ⟨by simp [cmpJ, jlt, h1, h2, h3] <;> (first | rfl | (rw [if_neg (by omega)]; simp [*])), by (repeat' first | (with_reducible exact Below.refl _ _) | (with_reducible refine Below.alloc ?_ ?_ _) | (with_reducible refine Below.drew ?_) | (with_reducible refine Below.setCell ?_ ?_ _) | (with_reducible refine below_via (by assumption) ?_ ?_) | go_size)⟩
      · by_cases h4 : a.t = c.t
        · go_enter Try.func89, Try.ntmps89
          go_wp2_with fail
          all_goals go_ret
          all_goals exact ⟨by simp [cmpJ, jlt, h1, h2, h3] <;> (first | rfl | (rw [if_neg (by omega)]; simp [*])), by (repeat' first | (with_reducible exact Below.refl _ _) | (with_reducible refine Below.alloc ?_ ?_ _) | (with_reducible refine Below.drew ?_) | (with_reducible refine Below.setCell ?_ ?_ _) | (with_reducible refine below_via (by assumption) ?_ ?_) | go_size)⟩
        · go_enter Try.func89, Try.ntmps89
          go_wp2_with fail
          all_goals go_ret
          all_goals exact ⟨by simp [cmpJ, jlt, h1, h2, h3] <;> (first | rfl | (rw [if_neg (by omega)]; simp [*])), by (repeat' first | (with_reducible exact Below.refl _ _) | (with_reducible refine Below.alloc ?_ ?_ _) | (with_reducible refine Below.drew ?_) | (with_reducible refine Below.setCell ?_ ?_ _) | (with_reducible refine below_via (by assumption) ?_ ?_) | go_size)⟩
    · go_enter Try.func89, Try.ntmps89
      go_wp2_with fail
      all_goals go_ret
      all_goals exact ⟨by simp [cmpJ, jlt, h1, h2] <;> (first | rfl | (rw [if_neg (by omega)]; simp [*])), by (repeat' first | (with_reducible exact Below.refl _ _) | (with_reducible refine Below.alloc ?_ ?_ _) | (with_reducible refine Below.drew ?_) | (with_reducible refine Below.setCell ?_ ?_ _) | (with_reducible refine below_via (by assumption) ?_ ?_) | go_size)⟩
end Go.Proofs.Ytledmebhlmpjaaa
namespace Go.Proofs.Ytledmebhlmpjaaa
open Go.ChangeShapes Go.WideShapes Go.ChangeAt Go.RowKit Peg Go.Sort
set_option maxHeartbeats 1000000 in
set_option maxRecDepth 100000 in
theorem disturbsOne_any (x : Ln) (L : List Ln) (v : Value) (w : World) (hv : Rd ELine w v L) :
    Calls Try.prog 88 #[.agg #[.int .i64 x.f, .int .i64 x.o, .int .i64 x.t], v] w fun e w' => e = .returned (.bool (L.find? (dis x)).isSome) ∧ Below w.heap.size w w' := by
  obtain ⟨aL, capL, rfl, hnL, hgetL⟩ := hv.line
  have HGL := Lib.hid hgetL
  clear hgetL hv
  go_enter Try.func88, Try.ntmps88
  go_wp2_with fail
  go_loopw [9] (fun i wr => ∃ k : Nat, k ≤ L.length ∧ i = .int .i64 k ∧ Hid ((L.take k).find? (dis x) = none) ∧ Below (w.heap.size + 1) (w.alloc (.cells #[.int .i64 x.f, .int .i64 x.o, .int .i64 x.t] 47)) wr) (fun i _ => L.length - (intOf i).toNat)
  case atStart => exact ⟨0, by omega, rfl, by show _ = _; simp, Below.refl _ _⟩
  case round =>
    obtain ⟨k, hk, rfl, hno, hbw⟩ := hrel
    have hz5 := hbw.size
    simp only [World.size_alloc] at hz5
    have hbox : ∀ j, wr.cell? ⟨w.heap.size, j, none⟩ = #[Value.int .i64 x.f, .int .i64 x.o, .int .i64 x.t][j]? := fun j => (hbw.cell (by simp)).trans (by simp)
    have gW0 : w.heap.size < wr.heap.size := by omega
    have hB0 : Below w.heap.size w wr := ((Below.refl _ _).alloc (Nat.le_refl _) _).trans (hbw.mono (by omega))
    have HB0 := Lib.hid hB0
    by_cases hlt : k < L.length
    · obtain ⟨ad, rfl, had, hc0, hc1, hc2⟩ := HGL.out k hlt
      have hc0' := (hB0.cell (p := ad.add (k * 3)) (by rw [add_block]; exact had)).trans hc0
      have hc1' := (hB0.cell (p := ⟨(ad.add (k * 3)).block, (ad.add (k * 3)).off + 1, none⟩) (by show (ad.add _).block < _; rw [add_block]; exact had)).trans hc1
      have hc2' := (hB0.cell (p := ⟨(ad.add (k * 3)).block, (ad.add (k * 3)).off + 2, none⟩) (by show (ad.add _).block < _; rw [add_block]; exact had)).trans hc2
      clear hc0 hc1 hc2
      have HY := Lib.hid (find_take_yes (dis x) L Ln0 k hlt hno.out)
      have HN := Lib.hid (find_take_no (dis x) L Ln0 k hlt hno.out)
      generalize gD L Ln0 k = l at *
      have HD : Hid (∀ W, Calls Try.prog 101 #[.agg #[.int .i64 x.f, .int .i64 x.o, .int .i64 x.t], .agg #[.int .i64 l.f, .int .i64 l.o, .int .i64 l.t]] W fun e w' => e = .returned (.bool (dis x l)) ∧ Below W.heap.size W w') := fun W => DoDisturb_any x l W
      cases hd : dis x l
      · have HE := Lib.hid (HN.out hd)
        rw [hd] at HD
        clear hd
        go_wp2_with (go_at_call 101; refine (HD.out _).mono ?_; rintro e w' ⟨rfl, hb⟩; obtain ⟨hc, hf, hz, hy⟩ := bcell hb; clear hy; (try simp only [World.size_alloc, World.size_setCell, World.size_drew] at hz); (try have gQ0 : w.heap.size < w'.heap.size := by omega); (try have gQ1 : w.heap.size + 1 < w'.heap.size := by omega); (try have gQ2 : w.heap.size + 1 + 1 < w'.heap.size := by omega); (try have gQ3 : w.heap.size + 1 + 1 + 1 < w'.heap.size := by omega); (try have gQ4 : w.heap.size + 1 + 1 + 1 + 1 < w'.heap.size := by omega); (try have gQ5 : w.heap.size + 1 + 1 + 1 + 1 + 1 < w'.heap.size := by omega); (try have dQ0 : _ < w'.heap.size := Nat.lt_of_lt_of_le dQ0 (by omega)); (try have dQ1 : _ < w'.heap.size := Nat.lt_of_lt_of_le dQ1 (by omega)); (try have dQ2 : _ < w'.heap.size := Nat.lt_of_lt_of_le dQ2 (by omega)); (try have dQ3 : _ < w'.heap.size := Nat.lt_of_lt_of_le dQ3 (by omega)); (try have dQ4 : _ < w'.heap.size := Nat.lt_of_lt_of_le dQ4 (by omega)); (try have dQ5 : _ < w'.heap.size := Nat.lt_of_lt_of_le dQ5 (by omega)); (try (have hnQ := Nat.lt_of_succ_le hz; first | (have _x := dQ0; first | (have _x := dQ1; first | (have _x := dQ2; first | (have _x := dQ3; first | (have _x := dQ4; have dQ5 := hnQ) | have dQ4 := hnQ) | have dQ3 := hnQ) | have dQ2 := hnQ) | have dQ1 := hnQ) | have dQ0 := hnQ)); (try (have hmQ := Nat.lt_of_succ_lt (Nat.lt_of_succ_le hz); first | (have _x := dQ0; first | (have _x := dQ1; first | (have _x := dQ2; first | (have _x := dQ3; first | (have _x := dQ4; have dQ5 := hmQ) | have dQ4 := hmQ) | have dQ3 := hmQ) | have dQ2 := hmQ) | have dQ1 := hmQ) | have dQ0 := hmQ)))
        go_roundw
        case rel => exact ⟨k + 1, by omega, by go_num, HE, hbw.trans ((show Below wr.heap.size wr _ by (repeat' first | (with_reducible exact Below.refl _ _) | (with_reducible refine Below.alloc ?_ ?_ _) | (with_reducible refine Below.drew ?_) | (with_reducible refine Below.setCell ?_ ?_ _) | (with_reducible refine below_via (by assumption) ?_ ?_) | go_size)).mono (by omega))⟩
        case measure => simp [intOf]; omega
      · have HE := Lib.hid (HY.out hd)
        rw [hd] at HD
        clear hd
        go_wp2_with (go_at_call 101; refine (HD.out _).mono ?_; rintro e w' ⟨rfl, hb⟩; obtain ⟨hc, hf, hz, hy⟩ := bcell hb; clear hy; (try simp only [World.size_alloc, World.size_setCell, World.size_drew] at hz); (try have gQ0 : w.heap.size < w'.heap.size := by omega); (try have gQ1 : w.heap.size + 1 < w'.heap.size := by omega); (try have gQ2 : w.heap.size + 1 + 1 < w'.heap.size := by omega); (try have gQ3 : w.heap.size + 1 + 1 + 1 < w'.heap.size := by omega); (try have gQ4 : w.heap.size + 1 + 1 + 1 + 1 < w'.heap.size := by omega); (try have gQ5 : w.heap.size + 1 + 1 + 1 + 1 + 1 < w'.heap.size := by omega); (try have dQ0 : _ < w'.heap.size := Nat.lt_of_lt_of_le dQ0 (by omega)); (try have dQ1 : _ < w'.heap.size := Nat.lt_of_lt_of_le dQ1 (by omega)); (try have dQ2 : _ < w'.heap.size := Nat.lt_of_lt_of_le dQ2 (by omega)); (try have dQ3 : _ < w'.heap.size := Nat.lt_of_lt_of_le dQ3 (by omega)); (try have dQ4 : _ < w'.heap.size := Nat.lt_of_lt_of_le dQ4 (by omega)); (try have dQ5 : _ < w'.heap.size := Nat.lt_of_lt_of_le dQ5 (by omega)); (try (have hnQ := Nat.lt_of_succ_le hz; first | (have _x := dQ0; first | (have _x := dQ1; first | (have _x := dQ2; first | (have _x := dQ3; first | (have _x := dQ4; have dQ5 := hnQ) | have dQ4 := hnQ) | have dQ3 := hnQ) | have dQ2 := hnQ) | have dQ1 := hnQ) | have dQ0 := hnQ)); (try (have hmQ := Nat.lt_of_succ_lt (Nat.lt_of_succ_le hz); first | (have _x := dQ0; first | (have _x := dQ1; first | (have _x := dQ2; first | (have _x := dQ3; first | (have _x := dQ4; have dQ5 := hmQ) | have dQ4 := hmQ) | have dQ3 := hmQ) | have dQ2 := hmQ) | have dQ1 := hmQ) | have dQ0 := hmQ)))
        all_goals go_ret
        all_goals exact ⟨by rw [HE.out]; rfl, HB0.out.trans ((show Below wr.heap.size wr _ by (repeat' first | (with_reducible exact Below.refl _ _) | (with_reducible refine Below.alloc ?_ ?_ _) | (with_reducible refine Below.drew ?_) | (with_reducible refine Below.setCell ?_ ?_ _) | (with_reducible refine below_via (by assumption) ?_ ?_) | go_size)).mono (by omega))⟩
    · obtain rfl : k = L.length := by omega
      have HR : Hid (L.find? (dis x) = none) := by show _ = _; have := hno.out; rwa [List.take_length] at this
      go_wp2_with fail
      all_goals go_ret
      all_goals exact ⟨by rw [HR.out]; rfl, HB0.out⟩
set_option maxHeartbeats 1000000 in
set_option maxRecDepth 100000 in
theorem SameJumps_any (L M : List Ln) (v1 v2 : Value) (w : World) {B1 B2 : Nat} (h1 : Own ELine w B1 v1 L) (h2 : Own ELine w B2 v2 M) :
    Calls Try.prog 64 #[v1, v2] w fun e w' => e = .returned (.bool (decide (L = M))) ∧ Below w.heap.size w w' := by
  obtain ⟨a1, cap1, rfl, hl1, hget1⟩ := h1.lineG
  obtain ⟨a2, cap2, rfl, hl2, hget2⟩ := h2.lineG
  have HG1 := Lib.hid hget1
  have HG2 := Lib.hid hget2
  clear hget1 hget2 h1 h2
  by_cases hlen : L.length = M.length
  rotate_left
  · have HR : Hid (decide (L = M) = false) := by show _ = _; exact decide_eq_false (fun e => hlen (by rw [e]))
    go_enter Try.func64, Try.ntmps64
    go_wp2_with fail
    all_goals go_ret
    all_goals exact ⟨by rw [HR.out]; rfl, by (repeat' first | (with_reducible exact Below.refl _ _) | (with_reducible refine Below.alloc ?_ ?_ _) | (with_reducible refine Below.drew ?_) | (with_reducible refine Below.setCell ?_ ?_ _) | (with_reducible refine below_via (by assumption) ?_ ?_) | go_size)⟩
  have HLEN := Lib.hid hlen
  rw [← hlen] at hl2 HG2 ⊢
  clear hlen
  go_enter Try.func64, Try.ntmps64
  go_wp2_with fail
  go_loopw [14] (fun i wr => ∃ k : Nat, k ≤ L.length ∧ i = .int .i64 k ∧ Hid (L.take k = M.take k) ∧ Below w.heap.size w wr) (fun i _ => L.length - (intOf i).toNat)
  case atStart => exact ⟨0, by omega, rfl, by show _ = _; simp, Below.refl _ _⟩
  case round =>
    obtain ⟨k, hk, rfl, hno, hbw⟩ := hrel
    have hz5 := hbw.size
    by_cases hlt : k < L.length
    · obtain ⟨b1, rfl, _, hb1, hc0, hc1, hc2⟩ := HG1.out k hlt
      obtain ⟨b2, rfl, _, hb2, hd0, hd1, hd2⟩ := HG2.out k hlt
      rw [← hbw.cell (by simpa using hb1)] at hc0 hc1 hc2
      rw [← hbw.cell (by simpa using hb2)] at hd0 hd1 hd2
      have hb1' := Nat.lt_of_lt_of_le hb1 hz5
      have hb2' := Nat.lt_of_lt_of_le hb2 hz5
      have HA : Hid (gD L Ln0 k = gD M Ln0 k → L.take (k + 1) = M.take (k + 1)) := by
        show _ → _
        intro e
        have hm : k < M.length := by have := HLEN.out; omega
        rw [gD_lt _ _ _ hlt, gD_lt _ _ _ hm] at e
        rw [List.take_succ_eq_append_getElem hlt, List.take_succ_eq_append_getElem hm, hno.out, e]
      have HB : Hid (gD L Ln0 k ≠ gD M Ln0 k → decide (L = M) = false) := by
        show _ → _
        intro e
        exact decide_eq_false (fun h => e (by rw [h]))
      generalize gD L Ln0 k = l at *
      generalize gD M Ln0 k = m at *
      go_wp2_with fail
      by_cases e : l = m
      · have HE := Lib.hid (HA.out e)
        subst e
        (with_reducible refine wp_region_qb ?_ ?_ (fun hq => ?_)); (focus kernel_rfl); (focus kernel_rfl); (repeat (go_big_quiet_step (fail))); refine wpQuiet_nil ?_
        intro wq hb
        go_wp2_with fail
        go_roundw
        case rel => exact ⟨k + 1, by omega, by go_num, HE, hbw.trans ((show Below wr.heap.size wr _ by (repeat' first | (with_reducible exact Below.refl _ _) | (with_reducible refine Below.alloc ?_ ?_ _) | (with_reducible refine Below.drew ?_) | (with_reducible refine Below.setCell ?_ ?_ _) | (with_reducible refine below_via (by assumption) ?_ ?_) | go_size)).mono (by omega))⟩
        case measure => simp [intOf]; omega
      · have HE := Lib.hid (HB.out e)
        clear HA HB hno
        obtain ⟨f1, o1, t1⟩ := l
        obtain ⟨f2, o2, t2⟩ := m
        by_cases e1 : f1 = f2
        · subst e1
          by_cases e2 : o1 = o2
          · subst e2
            by_cases e3 : t1 = t2
            · exact absurd (by rw [e3]) e
            · clear e
              (with_reducible refine wp_region_qb ?_ ?_ (fun hq => ?_)); (focus kernel_rfl); (focus kernel_rfl); (repeat (go_big_quiet_step (fail))); refine wpQuiet_nil ?_
              intro wq hb
              go_wp2_with fail
              all_goals go_ret
              all_goals exact ⟨by rw [HE.out]; rfl, hbw.trans ((show Below wr.heap.size wr _ by (repeat' first | (with_reducible exact Below.refl _ _) | (with_reducible refine Below.alloc ?_ ?_ _) | (with_reducible refine Below.drew ?_) | (with_reducible refine Below.setCell ?_ ?_ _) | (with_reducible refine below_via (by assumption) ?_ ?_) | go_size)).mono (by omega))⟩
          · clear e
            (with_reducible refine wp_region_qb ?_ ?_ (fun hq => ?_)); (focus kernel_rfl); (focus kernel_rfl); (repeat (go_big_quiet_step (fail))); refine wpQuiet_nil ?_
            intro wq hb
            go_wp2_with fail
            all_goals go_ret
            all_goals exact ⟨by rw [HE.out]; rfl, hbw.trans ((show Below wr.heap.size wr _ by (repeat' first | (with_reducible exact Below.refl _ _) | (with_reducible refine Below.alloc ?_ ?_ _) | (with_reducible refine Below.drew ?_) | (with_reducible refine Below.setCell ?_ ?_ _) | (with_reducible refine below_via (by assumption) ?_ ?_) | go_size)).mono (by omega))⟩
        · clear e
          (with_reducible refine wp_region_qb ?_ ?_ (fun hq => ?_)); (focus kernel_rfl); (focus kernel_rfl); (repeat (go_big_quiet_step (fail))); refine wpQuiet_nil ?_
          intro wq hb
          go_wp2_with fail
          all_goals go_ret
          all_goals exact ⟨by rw [HE.out]; rfl, hbw.trans ((show Below wr.heap.size wr _ by (repeat' first | (with_reducible exact Below.refl _ _) | (with_reducible refine Below.alloc ?_ ?_ _) | (with_reducible refine Below.drew ?_) | (with_reducible refine Below.setCell ?_ ?_ _) | (with_reducible refine below_via (by assumption) ?_ ?_) | go_size)).mono (by omega))⟩
    · obtain rfl : k = L.length := by omega
      have HR : Hid (decide (L = M) = true) := by show _ = _; have := hno.out; rw [List.take_length, HLEN.out, List.take_length] at this; exact decide_eq_true this
      go_wp2_with fail
      all_goals go_ret
      all_goals exact ⟨by rw [HR.out]; rfl, hbw⟩
end Go.Proofs.Ytledmebhlmpjaaa
namespace Go.Proofs.Ytledmebhlmpjaaa
open Go.ChangeShapes Go.WideShapes Go.ChangeAt Go.RowKit Go.Sort
section
variable {α : Type} {E : Elt α} {w w' : World} {base B : Nat} {v v2 : Value} {l l2 : List α}
theorem run_append_none (t ty : TypeId) (ht : Try.prog.underlying t = some (.slice E.e)) (hown : Own E w base v l) (ad : Option Addr) :
    (Builtin.append_ #[t, t] ty #[v, .slice ad 0 0]).run Try.prog w = .ok v w := by
  obtain ⟨z, hi0, hzc⟩ := E.info
  obtain ⟨i, hi, hz, hsize, hby⟩ := info_parts hi0
  rcases hown with ⟨rfl, a0, rfl⟩ | hown
  · cases a0 <;> cases ad <;> simp [Builtin.append_, run_underlying ht, sizeOf, typeInfo, hi, Builtin.lenOf, Builtin.firstCells, storeCells, loadCells, loadCellsFrom]
  · rcases hown.2 with ⟨rfl, _⟩ | ⟨g, cap, cur, rfl, _, _, hnc, _⟩
    · cases ad <;> simp [Builtin.append_, run_underlying ht, sizeOf, typeInfo, hi, Builtin.lenOf, Builtin.firstCells, storeCells, loadCells, loadCellsFrom]
    · cases ad <;> simp [Builtin.append_, run_underlying ht, sizeOf, typeInfo, hi, Builtin.lenOf, Builtin.firstCells, hnc, storeCells, loadCells, loadCellsFrom]
theorem run_appendN (t ty : TypeId) (ht : Try.prog.underlying t = some (.slice E.e)) (hown : Own E w base v l) (h2 : Own E w B v2 l2) (hlen : l.length + l2.length ≤ 1099511627776) (hbase : base ≤ w.heap.size) :
    ∃ v' w', (Builtin.append_ #[t, t] ty #[v, v2]).run Try.prog w = .ok v' w' ∧ Own E w' base v' (l ++ l2) ∧ Below base w w' ∧ w.grownBy w' v.ownBlock ∧ (v'.ownBlock = v.ownBlock ∨ v'.ownBlock = some w.heap.size) := by
  obtain ⟨z, hi0, hzc⟩ := E.info
  obtain ⟨i, hi, hz, hsize, hby⟩ := info_parts hi0
  have nilcase : ∀ ad, l2 = [] → v2 = .slice ad 0 0 → ∃ v' w', (Builtin.append_ #[t, t] ty #[v, v2]).run Try.prog w = .ok v' w' ∧ Own E w' base v' (l ++ l2) ∧ Below base w w' ∧ w.grownBy w' v.ownBlock ∧ (v'.ownBlock = v.ownBlock ∨ v'.ownBlock = some w.heap.size) := by
    rintro ad rfl rfl
    exact ⟨v, w, run_append_none t ty ht hown ad, by simpa using hown, Below.refl _ _, World.grownBy.refl _ _, .inl rfl⟩
  rcases h2 with ⟨e1, ad, e2⟩ | h2
  · exact nilcase ad e1 e2
  rcases h2.2 with ⟨e2, e1⟩ | ⟨g, cap, cur, rfl, _, hg, hnc, hcm, hcs, hx⟩
  · exact nilcase none (List.eq_nil_of_length_eq_zero e1) e2
  have hnews : ∀ j u, (l2.flatMap E.enc)[j]? = some u → w.cell? ((⟨g, 0, none⟩ : Addr).add j) = some u := by
    intro j u hu
    have hj : j < l2.length * E.size := by have := (List.getElem?_eq_some_iff.1 hu).1; rwa [flat_length] at this
    rw [add_origin, World.ownsRow.cellAt (e := E.e) (size := E.size) ⟨h2.1, .inr ⟨g, cap, cur, rfl, Nat.zero_le _, hg, hnc, hcm, hcs, hx⟩⟩ j hj]
    exact hu
  have hone : ∀ u ∈ l2.flatMap E.enc, u.oneCell' = true := by
    intro u hu
    obtain ⟨x, _, hxu⟩ := List.mem_flatMap.1 hu
    exact E.one x u hxu
  have hb := E.small
  have hbb : (l.length + l2.length) * E.bytes ≤ 1099511627776 * 64 := Nat.mul_le_mul hlen hb
  have key : ∀ v0 n, w.ownsRow base E.e E.size v0 n (l.flatMap E.enc) → n = l.length → ∃ v' w', (Builtin.append_ #[t, t] ty #[v0, .slice (some ⟨g, 0, none⟩) l2.length cap]).run Try.prog w = .ok v' w' ∧ Own E w' base v' (l ++ l2) ∧ Below base w w' ∧ w.grownBy w' v0.ownBlock ∧ (v'.ownBlock = v0.ownBlock ∨ v'.ownBlock = some w.heap.size) := by
    rintro v0 n hv0 rfl
    obtain ⟨v', w', hr, h3, h4, _, h6⟩ := run_append_own_at (P := Try.prog) w base t ty E.e i z E.size E.bytes ht hi hz hsize hby hzc E.pos v0 _ _ hv0 ⟨g, 0, none⟩ l2.length cap (l2.flatMap E.enc) (flat_length E l2) hnews hone (by unfold maxLen; omega) (by omega) hbase
    exact ⟨v', w', hr, .inr (by simpa using h3), (Below.refl _ _).grown h4 hbase (fun k hk => (World.ownsRow.lt hv0 k hk).1), h4, h6⟩
  rcases hown with ⟨rfl, a0, rfl⟩ | hown
  · rcases Nat.eq_zero_or_pos l2.length with h0 | h0
    · have : l2 = [] := List.eq_nil_of_length_eq_zero h0
      subst this
      obtain ⟨v', w', hr, h3, h4, h5, h6⟩ := key (.slice none 0 0) 0 (World.ownsRow_nil _ _ _ _) rfl
      refine ⟨.slice a0 0 0, w, ?_, Own.emptyAny _ _ _ _, Below.refl _ _, World.grownBy.refl _ _, .inl rfl⟩
      cases a0 <;> simp [Builtin.append_, run_underlying ht, sizeOf, typeInfo, hi, Builtin.lenOf, Builtin.firstCells, storeCells, loadCells, loadCellsFrom]
    · have hc0 := run_append_cap0 (P := Try.prog) w t ty E.e i z ht hi hz a0 ⟨g, 0, none⟩ l2.length cap (l2.flatMap E.enc) (by rw [flat_length, hsize]) hnews h0 (by omega) (by rw [hby]; simp at hbb; omega)
      obtain ⟨v', w', hr, h3, h4, h5, h6⟩ := key (.slice none 0 0) 0 (World.ownsRow_nil _ _ _ _) rfl
      refine ⟨v', w', hc0.trans hr, h3, h4, ⟨h5.os, h5.tape, h5.output, h5.size, fun k hk _ => h5.block k hk (by simp [Value.ownBlock])⟩, ?_⟩
      rcases h6 with h6 | h6
      · exfalso
        have hp : 0 < ([] ++ l2).length := by simpa using h0
        obtain ⟨a', cap', hv', _, _, hc⟩ := h3.form
        obtain ⟨b', hb', _⟩ := hc 0 hp
        rw [hv', hb'] at h6
        simp [Value.ownBlock] at h6
      · exact .inr h6
  · exact key v l.length hown rfl
/-- append of a slice to a slice of the call's own. -/
theorem appendN {P : Program} (hP : P = Try.prog) {ops : Array Oper} {rest : List Oper} {o : Oper} {a : Act} {Q : Exit → Act → World → Prop} (hgd : o.guard = none) (s x : Operand) (t : TypeId)
    (ho : o.op = .call { callee := .builtin .append, args := #[s, x], argTypes := #[t, t] }) (ht : P.underlying t = some (.slice E.e))
    (hs : a.eval s = v) (hx : a.eval x = v2) (hown : Own E w base v l) (h2 : Own E w B v2 l2) (hlen : l.length + l2.length ≤ 1099511627776) (hbase : base ≤ w.heap.size)
    (h : ∀ v' w', Own E w' base v' (l ++ l2) → Below base w w' → w.grownBy w' v.ownBlock → (v'.ownBlock = v.ownBlock ∨ v'.ownBlock = some w.heap.size) → wpList P ops Q rest (a.put o.dst v') w') :
    wpList P ops Q (o :: rest) a w := by
  subst hP
  obtain ⟨v', w', hr, h3, h4, h5, h6⟩ := run_appendN t o.type ht hown h2 hlen hbase
  refine wpList_plain hgd fun K hK => ?_
  unfold Oper.wp execOp
  simp only [ho, resolve, invoke, builtin, Sem.run_bind, Sem.run_pure, Result.andThen_ok, List.map_toArray, List.map_cons, List.map_nil, hs, hx, hr]
  exact hK _ _ (h v' w' h3 h4 h5 h6)
end
end Go.Proofs.Ytledmebhlmpjaaa
namespace Go.Proofs.Ytledmebhlmpjaaa
open Go.ChangeShapes Go.WideShapes Go.ChangeAt Go.RowKit Go.Sort
section
variable {α : Type} {E : Elt α} {w w' : World} {base B : Nat} {v v2 : Value} {l l2 : List α}
/-- the cells of a slice that is read -/
theorem Rd.flat {ad : Addr} (h : ∀ i (hi : i < l.length), ∀ j, j < E.size → w.cell? (ad.add (i * E.size + j)) = (E.enc l[i])[j]?) : ∀ j u, (l.flatMap E.enc)[j]? = some u → w.cell? (ad.add j) = some u := by
  intro j u hu
  have hj : j < l.length * E.size := by have := (List.getElem?_eq_some_iff.1 hu).1; rwa [flat_length] at this
  have hs : 0 < E.size := E.pos
  have hi : j / E.size < l.length := Nat.div_lt_of_lt_mul (by rw [Nat.mul_comm]; exact hj)
  have hm : j % E.size < E.size := Nat.mod_lt _ hs
  have e : j / E.size * E.size + j % E.size = j := by rw [Nat.mul_comm]; exact Nat.div_add_mod j E.size
  have h1 := h (j / E.size) hi (j % E.size) hm
  rw [e] at h1
  rw [h1, ← hu]
  have key : ∀ (l : List α) (i k : Nat) (hi : i < l.length), k < E.size → (l.flatMap E.enc)[i * E.size + k]? = (E.enc l[i])[k]? := by
    intro l
    induction l with
    | nil => intro i k hi; simp at hi
    | cons x l ih =>
      intro i k hi hk
      have hx := E.len x
      cases i with
      | zero => simp [List.getElem?_append_left (show k < (E.enc x).length by omega)]
      | succ i =>
        have e2 : (i + 1) * E.size + k = (E.enc x).length + (i * E.size + k) := by rw [hx, Nat.succ_mul]; omega
        rw [List.flatMap_cons, e2, List.getElem?_append_right (by omega), Nat.add_sub_cancel_left]
        simpa using ih i k (by simpa using hi) hk
  conv => rhs; rw [← e]
  exact (key l _ _ hi hm).symm
theorem run_append_zero (t ty : TypeId) (ht : Try.prog.underlying t = some (.slice E.e)) (hown : Own E w base v l) (ad : Option Addr) (c : Nat) :
    (Builtin.append_ #[t, t] ty #[v, .slice ad 0 c]).run Try.prog w = .ok v w := by
  obtain ⟨z, hi0, hzc⟩ := E.info
  obtain ⟨i, hi, hz, hsize, hby⟩ := info_parts hi0
  rcases hown with ⟨rfl, a0, rfl⟩ | hown
  · cases a0 <;> cases ad <;> simp [Builtin.append_, run_underlying ht, sizeOf, typeInfo, hi, Builtin.lenOf, Builtin.firstCells, storeCells, loadCells, loadCellsFrom]
  · rcases hown.2 with ⟨rfl, _⟩ | ⟨g, cap, cur, rfl, _, _, hnc, _⟩
    · cases ad <;> simp [Builtin.append_, run_underlying ht, sizeOf, typeInfo, hi, Builtin.lenOf, Builtin.firstCells, storeCells, loadCells, loadCellsFrom]
    · cases ad <;> simp [Builtin.append_, run_underlying ht, sizeOf, typeInfo, hi, Builtin.lenOf, Builtin.firstCells, hnc, storeCells, loadCells, loadCellsFrom]
theorem run_appendRd (t ty : TypeId) (ht : Try.prog.underlying t = some (.slice E.e)) (hown : Own E w base v l) (h2 : Rd E w v2 l2) (hlen : l.length + l2.length ≤ 1099511627776) (hbase : base ≤ w.heap.size) :
    ∃ v' w', (Builtin.append_ #[t, t] ty #[v, v2]).run Try.prog w = .ok v' w' ∧ Own E w' base v' (l ++ l2) ∧ Below base w w' ∧ w.grownBy w' v.ownBlock ∧ (v'.ownBlock = v.ownBlock ∨ v'.ownBlock = some w.heap.size ∧ w.heap.size < w'.heap.size) := by
  obtain ⟨z, hi0, hzc⟩ := E.info
  obtain ⟨i, hi, hz, hsize, hby⟩ := info_parts hi0
  obtain ⟨a, cap, rfl, hl2, hc2⟩ := h2
  rcases Nat.eq_zero_or_pos l2.length with h0 | h0
  · have e0 : l2 = [] := List.eq_nil_of_length_eq_zero h0
    subst e0
    exact ⟨v, w, run_append_zero t ty ht hown a cap, by simpa using hown, Below.refl _ _, World.grownBy.refl _ _, .inl rfl⟩
  obtain ⟨ad, rfl, _⟩ := hc2 0 h0
  have hc3 : ∀ i (hi : i < l2.length), ∀ j, j < E.size → w.cell? (ad.add (i * E.size + j)) = (E.enc l2[i])[j]? := by
    intro i hi
    obtain ⟨ad', e, _, h⟩ := hc2 i hi
    cases e; exact h
  have hnews := Rd.flat hc3
  have hone : ∀ u ∈ l2.flatMap E.enc, u.oneCell' = true := by
    intro u hu
    obtain ⟨x, _, hxu⟩ := List.mem_flatMap.1 hu
    exact E.one x u hxu
  have hb := E.small
  have hbb : (l.length + l2.length) * E.bytes ≤ 1099511627776 * 64 := Nat.mul_le_mul hlen hb
  have key : ∀ v0 n, w.ownsRow base E.e E.size v0 n (l.flatMap E.enc) → n = l.length → ∃ v' w', (Builtin.append_ #[t, t] ty #[v0, .slice (some ad) l2.length cap]).run Try.prog w = .ok v' w' ∧ Own E w' base v' (l ++ l2) ∧ Below base w w' ∧ w.grownBy w' v0.ownBlock ∧ (v'.ownBlock = v0.ownBlock ∨ v'.ownBlock = some w.heap.size) := by
    rintro v0 n hv0 rfl
    obtain ⟨v', w', hr, h3, h4, _, h6⟩ := run_append_own_at (P := Try.prog) w base t ty E.e i z E.size E.bytes ht hi hz hsize hby hzc E.pos v0 _ _ hv0 ad l2.length cap (l2.flatMap E.enc) (flat_length E l2) hnews hone (by unfold maxLen; omega) (by omega) hbase
    exact ⟨v', w', hr, .inr (by simpa using h3), (Below.refl _ _).grown h4 hbase (fun k hk => (World.ownsRow.lt hv0 k hk).1), h4, h6⟩
  rcases hown with ⟨rfl, a0, rfl⟩ | hown
  · have hc0 := run_append_cap0 (P := Try.prog) w t ty E.e i z ht hi hz a0 ad l2.length cap (l2.flatMap E.enc) (by rw [flat_length, hsize]) hnews h0 (by omega) (by rw [hby]; simp at hbb; omega)
    obtain ⟨v', w', hr, h3, h4, h5, h6⟩ := key (.slice none 0 0) 0 (World.ownsRow_nil _ _ _ _) rfl
    refine ⟨v', w', hc0.trans hr, h3, h4, ⟨h5.os, h5.tape, h5.output, h5.size, fun k hk _ => h5.block k hk (by simp [Value.ownBlock])⟩, ?_⟩
    rcases h6 with h6 | h6
    · exfalso
      have hp : 0 < ([] ++ l2).length := by simpa using h0
      obtain ⟨a', cap', hv', _, _, hc⟩ := h3.form
      obtain ⟨b', hb', _⟩ := hc 0 hp
      rw [hv', hb'] at h6
      simp [Value.ownBlock] at h6
    · exact .inr ⟨h6, (h3.blockGe _ (by rw [rowOf_ne (by simpa using h0)]; exact h6)).2⟩
  · obtain ⟨v', w', hr, h3, h4, h5, h6⟩ := key v l.length hown rfl
    exact ⟨v', w', hr, h3, h4, h5, h6.imp id fun h => ⟨h, (h3.blockGe _ (by rw [rowOf_ne (by simp; omega)]; exact h)).2⟩⟩
/-- append of a slice that is read to a slice of the call's own. -/
theorem appendRd {P : Program} (hP : P = Try.prog) {ops : Array Oper} {rest : List Oper} {o : Oper} {a : Act} {Q : Exit → Act → World → Prop} (hgd : o.guard = none) (s x : Operand) (t : TypeId)
    (ho : o.op = .call { callee := .builtin .append, args := #[s, x], argTypes := #[t, t] }) (ht : P.underlying t = some (.slice E.e))
    (hs : a.eval s = v) (hx : a.eval x = v2) (hown : Own E w base v l) (h2 : Rd E w v2 l2) (hlen : l.length + l2.length ≤ 1099511627776) (hbase : base ≤ w.heap.size)
    (h : ∀ v' w', Own E w' base v' (l ++ l2) → Below base w w' → w.grownBy w' v.ownBlock → (v'.ownBlock = v.ownBlock ∨ v'.ownBlock = some w.heap.size ∧ w.heap.size < w'.heap.size) → wpList P ops Q rest (a.put o.dst v') w') :
    wpList P ops Q (o :: rest) a w := by
  subst hP
  obtain ⟨v', w', hr, h3, h4, h5, h6⟩ := run_appendRd t o.type ht hown h2 hlen hbase
  refine wpList_plain hgd fun K hK => ?_
  unfold Oper.wp execOp
  simp only [ho, resolve, invoke, builtin, Sem.run_bind, Sem.run_pure, Result.andThen_ok, List.map_toArray, List.map_cons, List.map_nil, hs, hx, hr]
  exact hK _ _ (h v' w' h3 h4 h5 h6)
/-- a front part of a slice that is read, as a slice expression leaves it -/
theorem Rd.front {a : Option Addr} {n c : Nat} (h : Rd E w (.slice a n c) l) (k c' : Nat) (hk : k ≤ l.length) : Rd E w (.slice a k c') (l.take k) := by
  obtain ⟨a0, cap, e, hl, hc⟩ := h
  cases e
  have hlen : (l.take k).length = k := by simp [List.length_take, hk]
  refine ⟨a, c', by rw [hlen], by rw [hlen]; omega, fun i hi => ?_⟩
  obtain ⟨ad, e1, e2, e3⟩ := hc i (by omega)
  refine ⟨ad, e1, e2, fun j hj => ?_⟩
  rw [e3 j hj, List.getElem_take]
/-- the tail of a slice that is read -/
theorem Rd.tail {ad : Addr} {n c : Nat} (h : Rd E w (.slice (some ad) n c) l) (k m c' : Nat) (hk : k + m = l.length) : Rd E w (.slice (some (ad.add (k * E.size))) m c') (l.drop k) := by
  obtain ⟨a0, cap, e, hl, hc⟩ := h
  cases e
  have hlen : (l.drop k).length = m := by simp; omega
  refine ⟨_, c', by rw [hlen], by rw [hlen]; omega, fun i hi => ?_⟩
  obtain ⟨ad', e1, e2, e3⟩ := hc (k + i) (by omega)
  cases e1
  refine ⟨_, rfl, by rw [add_block]; exact e2, fun j hj => ?_⟩
  rw [add_of_add, ← Nat.add_assoc, ← Nat.add_mul, e3 j hj, List.getElem_drop]
end
end Go.Proofs.Ytledmebhlmpjaaa
namespace Peg
theorem free_find (a : List Ln) (k : Nat) : freeAt a k = !((a.take k).find? (dis (gD a Ln0 k))).isSome := by
  unfold freeAt
  show _ = !((a.take k).find? (dis (a.getD k ⟨0, 0, 0⟩))).isSome
  cases e : (a.take k).find? (dis (a.getD k ⟨0, 0, 0⟩)) with
  | none =>
    rw [List.find?_eq_none] at e
    simpa using e
  | some y =>
    have h1 := List.mem_of_find?_eq_some e
    have h2 := List.find?_some e
    simp only [Option.isSome_some, Bool.not_true]
    rw [List.all_eq_false]
    exact ⟨y, h1, by simpa using h2⟩
theorem best_step (a : List Ln) (k : Nat) : bestTo a (k + 1) = if freeAt a k && jlt (gD a Ln0 k) (gD a Ln0 (bestTo a k)) then k else bestTo a k := rfl
theorem nform_step (a : List Ln) (h : 0 < a.length) : nform a.length a = gD a Ln0 (bestTo a a.length) :: nform (a.take (bestTo a a.length) ++ a.drop (bestTo a a.length + 1)).length (a.take (bestTo a a.length) ++ a.drop (bestTo a a.length + 1)) := by
  obtain ⟨n, hn⟩ : ∃ n, a.length = n + 1 := ⟨a.length - 1, by omega⟩
  have hb := bestTo_lt a a.length (by omega)
  have e : (a.take (bestTo a a.length) ++ a.drop (bestTo a a.length + 1)).length = n := by simp; omega
  rw [e, ← List.eraseIdx_eq_take_drop_succ]
  conv => lhs; rw [hn, nform]
  rfl
def slLen : Go.Value → Nat
  | .slice _ n _ => n
  | _ => 0
end Peg
namespace Go.Proofs.Ytledmebhlmpjaaa
open Go.ChangeShapes Go.WideShapes Go.ChangeAt Go.RowKit Peg Go.Sort
theorem Own.takeN {α : Type} {E : Elt α} {w : World} {base : Nat} {a : Option Addr} {cap : Nat} {l : List α} (h : Own E w base (.slice a l.length cap) l) (k : Nat) (hk : k ≤ l.length) : Own E w base (.slice a k cap) (l.take k) := by
  have hl : (l.take k).length = k := by rw [List.length_take]; omega
  rcases h with ⟨rfl, a0, hv⟩ | ⟨hf, ⟨hv, hn⟩ | ⟨g, c, cur, hv, h1, h2, h3, h4, h5, h6⟩⟩
  · simp only [List.length_nil, Value.slice.injEq] at hv hk
    obtain rfl : k = 0 := by omega
    exact .inl ⟨rfl, a, by rw [hv.2.2]⟩
  · simp only [Value.slice.injEq] at hv
    obtain rfl : k = 0 := by omega
    exact .inl ⟨rfl, a, by rw [hv.2.2]⟩
  · simp only [Value.slice.injEq] at hv
    obtain ⟨ha, _, hc⟩ := hv
    subst ha hc
    refine .inr ⟨by rw [flat_length], .inr ⟨g, cap, cur, by rw [hl], h1, h2, by omega, h4, h5, ?_⟩⟩
    rw [hl]
    have e1 : cur.toList.take (k * E.size) = (cur.toList.take (l.length * E.size)).take (k * E.size) := by
      rw [List.take_take]
      congr 1
      exact (Nat.min_eq_left (Nat.mul_le_mul_right _ hk)).symm
    rw [e1, h6]
    have e2 : l.flatMap E.enc = (l.take k).flatMap E.enc ++ (l.drop k).flatMap E.enc := by rw [← List.flatMap_append, List.take_append_drop]
    rw [e2, List.take_append_of_le_length (by rw [flat_length, hl]; exact Nat.le_refl _), List.take_of_length_le (by rw [flat_length, hl]; exact Nat.le_refl _)]
/-- a slice of the call's own has room for what it holds -/
theorem Own.room {α : Type} {E : Elt α} {w : World} {base : Nat} {a : Option Addr} {n cap : Nat} {l : List α} (h : Own E w base (.slice a n cap) l) : l.length ≤ cap := by
  rcases h with ⟨rfl, a0, hv⟩ | ⟨hf, ⟨hv, hn⟩ | ⟨g, c, cur, hv, h1, h2, h3, h4, h5, h6⟩⟩
  · simp
  · omega
  · simp only [Value.slice.injEq] at hv
    obtain ⟨ha, _, hc⟩ := hv
    omega
/-- where the two slices of the normal form lie -/
def Sep (W : World) (vr vo : Value) : Prop := ∃ k, vr.ownBlock = some k ∧ k < W.heap.size ∧ ∀ g, vo.ownBlock = some g → g < W.heap.size ∧ g ≠ k
set_option maxRecDepth 100000 in
theorem copyJumps_any (L : List Ln) (v : Value) (w : World) (hv : Rd ELine w v L) (hl : L.length ≤ 1099511627776) :
    Calls Try.prog 87 #[v] w fun e w' => ∃ v', e = .returned v' ∧ Own ELine w' w.heap.size v' L ∧ Below w.heap.size w w' ∧ ∃ k, v'.ownBlock = some k ∧ w.heap.size ≤ k ∧ k < w'.heap.size := by
  obtain ⟨a, cap, rfl, h1, h2⟩ := hv
  have HV : Hid (Rd ELine w (.slice a L.length cap) L) := ⟨a, cap, rfl, h1, h2⟩
  have hb0 : Below w.heap.size w (w.alloc (.cells #[] 47)) := (Below.refl _ _).alloc (Nat.le_refl _) _
  have HV := Lib.hid (HV.out.keep hb0)
  clear h2
  go_enter Try.func87, Try.ntmps87
  go_wp2_with (at_builtin; (refine appendRd (E := ELine) (base := w.heap.size) (l := []) (l2 := L) rfl rfl _ _ 36 rfl Try.underlying36 rfl rfl (Own.emptyAny _ _ _ _) HV.out (by simpa using hl) (by simp) ?_); intro v' w2 hown5 hb5 hg5 hob5)
  all_goals go_ret
  have hz5 := hb5.size
  simp only [World.size_alloc] at hz5
  have BLK : ∃ k, v'.ownBlock = some k ∧ w.heap.size ≤ k ∧ k < w2.heap.size := by
    rcases hob5 with h | h
    · exact ⟨w.heap.size, h, Nat.le_refl _, by omega⟩
    · exact ⟨_, h.1, by simp, h.2⟩
  exact ⟨_, rfl, by simpa using hown5, hb0.trans (hb5.mono (by simp)), BLK⟩
end Go.Proofs.Ytledmebhlmpjaaa
