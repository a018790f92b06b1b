/- PzV: several texts in one (Verdict, Way1, Games0, Games1). Conditions: those that each theorem names. -/
import Derived.Test.YtledmebhlmpjaaaWay0
import Derived.Test.YtledmebhlmpjaaaPlayAll
import Derived.Test.YtledmebhlmpjaaaPlay
import Derived.Test.YtledmebhlmpjaaaPzO
set_option linter.unusedVariables false
set_option linter.unusedSimpArgs false
namespace Peg
def isSpoiled (a b o p g : Int) (l : Ln) : Bool := doOk false a b o p l && reach a b o p g false && !reach a b o (flip p l) g false
def verdictB (c1 c2 c3 c4 c5 c6 : Bool) : Int := if !c1 || !c2 then 0 else if c3 then 4 else if !c4 then 3 else if !c5 then 5 else if c6 then 2 else 1
def verdict (a b o s g n : Int) (l : Ln) : Int := verdictB (puzzleOk a b o s g) (posOk a b o n) (n == g) (reach a b o n g false) (doOk false a b o n l) (isSpoiled a b o n g l)
end Peg
namespace Go.Proofs.Ytledmebhlmpjaaa
open Go.ChangeShapes Go.WideShapes Go.ChangeAt Go.RowKit Peg Go.Sort
set_option maxRecDepth 100000 in
theorem sCanReach_any (a b o p q : Int) (hp : p ≤ 9223372036854775807) (hq : q ≤ 9223372036854775807) (w : World) :
    Calls Try.prog 19 #[.agg #[.int .i64 a, .int .i64 b, .int .i64 o], .int .i64 p, .int .i64 q] w fun e w' => e = .returned (.bool (reach a b o p q false)) ∧ Below w.heap.size w w' := by
  have H1 : Hid (∀ W, Calls Try.prog 52 #[.agg #[.int .i64 a, .int .i64 b, .int .i64 o]] W fun e w' => e = .returned (.bool (isSmall a b o)) ∧ Below W.heap.size W w') := fun W => sIsSmall_any a b o W
  have H2 : Hid (∀ W, Calls Try.prog 53 #[.agg #[.int .i64 a, .int .i64 b, .int .i64 o], .int .i64 p] W fun e w' => e = .returned (.bool (posOk a b o p)) ∧ Below W.heap.size W w') := fun W => sPositionOk_any a b o p hp W
  have H3 : Hid (∀ W, Calls Try.prog 53 #[.agg #[.int .i64 a, .int .i64 b, .int .i64 o], .int .i64 q] W fun e w' => e = .returned (.bool (posOk a b o q)) ∧ Below W.heap.size W w') := fun W => sPositionOk_any a b o q hq W
  cases hsm : isSmall a b o
  · have HE := Lib.hid (reach_false (a := a) (b := b) (o := o) (p := p) (q := q) (back := false) (by simp [hsm]))
    rw [hsm] at H1
    clear hsm
    go_enter Try.func19, Try.ntmps19
    go_wp2_with (go_at_call 52; refine (H1.out _).mono ?_; rintro e w' ⟨rfl, hb⟩; obtain ⟨hc, hf, hz, hy⟩ := bcell hb; clear hy; (try simp only [World.size_alloc, World.size_setCell, World.size_drew] at hz); (try have gQ0 : w.heap.size < w'.heap.size := by omega); (try have gQ1 : w.heap.size + 1 < w'.heap.size := by omega); (try have gQ2 : w.heap.size + 1 + 1 < w'.heap.size := by omega); (try have gQ3 : w.heap.size + 1 + 1 + 1 < w'.heap.size := by omega); (try have gQ4 : w.heap.size + 1 + 1 + 1 + 1 < w'.heap.size := by omega); (try have gQ5 : w.heap.size + 1 + 1 + 1 + 1 + 1 < w'.heap.size := by omega); (try have dQ0 : _ < w'.heap.size := Nat.lt_of_lt_of_le dQ0 (by omega)); (try have dQ1 : _ < w'.heap.size := Nat.lt_of_lt_of_le dQ1 (by omega)); (try have dQ2 : _ < w'.heap.size := Nat.lt_of_lt_of_le dQ2 (by omega)); (try have dQ3 : _ < w'.heap.size := Nat.lt_of_lt_of_le dQ3 (by omega)); (try have dQ4 : _ < w'.heap.size := Nat.lt_of_lt_of_le dQ4 (by omega)); (try have dQ5 : _ < w'.heap.size := Nat.lt_of_lt_of_le dQ5 (by omega)); (try (have hnQ := Nat.lt_of_succ_le hz; first | (have _x := dQ0; first | (have _x := dQ1; first | (have _x := dQ2; first | (have _x := dQ3; first | (have _x := dQ4; have dQ5 := hnQ) | have dQ4 := hnQ) | have dQ3 := hnQ) | have dQ2 := hnQ) | have dQ1 := hnQ) | have dQ0 := hnQ)); (try (have hmQ := Nat.lt_of_succ_lt (Nat.lt_of_succ_le hz); first | (have _x := dQ0; first | (have _x := dQ1; first | (have _x := dQ2; first | (have _x := dQ3; first | (have _x := dQ4; have dQ5 := hmQ) | have dQ4 := hmQ) | have dQ3 := hmQ) | have dQ2 := hmQ) | have dQ1 := hmQ) | have dQ0 := hmQ)))
    all_goals go_ret
    all_goals exact ⟨by simp [HE.out], by (repeat' first | (with_reducible exact Below.refl _ _) | (with_reducible refine Below.alloc ?_ ?_ _) | (with_reducible refine Below.drew ?_) | (with_reducible refine Below.setCell ?_ ?_ _) | (with_reducible refine below_via (by assumption) ?_ ?_) | go_size)⟩
  cases hpo : posOk a b o p
  · have HE := Lib.hid (reach_false (a := a) (b := b) (o := o) (p := p) (q := q) (back := false) (by simp [hpo]))
    rw [hsm] at H1; rw [hpo] at H2
    clear hsm hpo
    go_enter Try.func19, Try.ntmps19
    go_wp2_with (first | (go_at_call 52; refine (H1.out _).mono ?_; rintro e w' ⟨rfl, hb⟩; obtain ⟨hc, hf, hz, hy⟩ := bcell hb; clear hy; (try simp only [World.size_alloc, World.size_setCell, World.size_drew] at hz); (try have gQ0 : w.heap.size < w'.heap.size := by omega); (try have gQ1 : w.heap.size + 1 < w'.heap.size := by omega); (try have gQ2 : w.heap.size + 1 + 1 < w'.heap.size := by omega); (try have gQ3 : w.heap.size + 1 + 1 + 1 < w'.heap.size := by omega); (try have gQ4 : w.heap.size + 1 + 1 + 1 + 1 < w'.heap.size := by omega); (try have gQ5 : w.heap.size + 1 + 1 + 1 + 1 + 1 < w'.heap.size := by omega); (try have dQ0 : _ < w'.heap.size := Nat.lt_of_lt_of_le dQ0 (by omega)); (try have dQ1 : _ < w'.heap.size := Nat.lt_of_lt_of_le dQ1 (by omega)); (try have dQ2 : _ < w'.heap.size := Nat.lt_of_lt_of_le dQ2 (by omega)); (try have dQ3 : _ < w'.heap.size := Nat.lt_of_lt_of_le dQ3 (by omega)); (try have dQ4 : _ < w'.heap.size := Nat.lt_of_lt_of_le dQ4 (by omega)); (try have dQ5 : _ < w'.heap.size := Nat.lt_of_lt_of_le dQ5 (by omega)); (try (have hnQ := Nat.lt_of_succ_le hz; first | (have _x := dQ0; first | (have _x := dQ1; first | (have _x := dQ2; first | (have _x := dQ3; first | (have _x := dQ4; have dQ5 := hnQ) | have dQ4 := hnQ) | have dQ3 := hnQ) | have dQ2 := hnQ) | have dQ1 := hnQ) | have dQ0 := hnQ)); (try (have hmQ := Nat.lt_of_succ_lt (Nat.lt_of_succ_le hz); first | (have _x := dQ0; first | (have _x := dQ1; first | (have _x := dQ2; first | (have _x := dQ3; first | (have _x := dQ4; have dQ5 := hmQ) | have dQ4 := hmQ) | have dQ3 := hmQ) | have dQ2 := hmQ) | have dQ1 := hmQ) | have dQ0 := hmQ))) | (go_at_call 53; (with_reducible refine (H2.out _).mono ?_); rintro e w' ⟨rfl, hb⟩; obtain ⟨hc, hf, hz, hy⟩ := bcell hb; clear hy; (try simp only [World.size_alloc, World.size_setCell, World.size_drew] at hz); (try have gQ0 : w.heap.size < w'.heap.size := by omega); (try have gQ1 : w.heap.size + 1 < w'.heap.size := by omega); (try have gQ2 : w.heap.size + 1 + 1 < w'.heap.size := by omega); (try have gQ3 : w.heap.size + 1 + 1 + 1 < w'.heap.size := by omega); (try have gQ4 : w.heap.size + 1 + 1 + 1 + 1 < w'.heap.size := by omega); (try have gQ5 : w.heap.size + 1 + 1 + 1 + 1 + 1 < w'.heap.size := by omega); (try have dQ0 : _ < w'.heap.size := Nat.lt_of_lt_of_le dQ0 (by omega)); (try have dQ1 : _ < w'.heap.size := Nat.lt_of_lt_of_le dQ1 (by omega)); (try have dQ2 : _ < w'.heap.size := Nat.lt_of_lt_of_le dQ2 (by omega)); (try have dQ3 : _ < w'.heap.size := Nat.lt_of_lt_of_le dQ3 (by omega)); (try have dQ4 : _ < w'.heap.size := Nat.lt_of_lt_of_le dQ4 (by omega)); (try have dQ5 : _ < w'.heap.size := Nat.lt_of_lt_of_le dQ5 (by omega)); (try (have hnQ := Nat.lt_of_succ_le hz; first | (have _x := dQ0; first | (have _x := dQ1; first | (have _x := dQ2; first | (have _x := dQ3; first | (have _x := dQ4; have dQ5 := hnQ) | have dQ4 := hnQ) | have dQ3 := hnQ) | have dQ2 := hnQ) | have dQ1 := hnQ) | have dQ0 := hnQ)); (try (have hmQ := Nat.lt_of_succ_lt (Nat.lt_of_succ_le hz); first | (have _x := dQ0; first | (have _x := dQ1; first | (have _x := dQ2; first | (have _x := dQ3; first | (have _x := dQ4; have dQ5 := hmQ) | have dQ4 := hmQ) | have dQ3 := hmQ) | have dQ2 := hmQ) | have dQ1 := hmQ) | have dQ0 := hmQ))))
    all_goals go_ret
    all_goals exact ⟨by simp [HE.out], by (repeat' first | (with_reducible exact Below.refl _ _) | (with_reducible refine Below.alloc ?_ ?_ _) | (with_reducible refine Below.drew ?_) | (with_reducible refine Below.setCell ?_ ?_ _) | (with_reducible refine below_via (by assumption) ?_ ?_) | go_size)⟩
  cases hqo : posOk a b o q
  · have HE := Lib.hid (reach_false (a := a) (b := b) (o := o) (p := p) (q := q) (back := false) (by simp [hqo]))
    rw [hsm] at H1; rw [hpo] at H2; rw [hqo] at H3
    by_cases hpq : p = q
    · subst hpq; rw [hpo] at hqo; cases hqo
    clear hsm hpo hqo hpq
    go_enter Try.func19, Try.ntmps19
    go_wp2_with (first | (go_at_call 52; refine (H1.out _).mono ?_; rintro e w' ⟨rfl, hb⟩; obtain ⟨hc, hf, hz, hy⟩ := bcell hb; clear hy; (try simp only [World.size_alloc, World.size_setCell, World.size_drew] at hz); (try have gQ0 : w.heap.size < w'.heap.size := by omega); (try have gQ1 : w.heap.size + 1 < w'.heap.size := by omega); (try have gQ2 : w.heap.size + 1 + 1 < w'.heap.size := by omega); (try have gQ3 : w.heap.size + 1 + 1 + 1 < w'.heap.size := by omega); (try have gQ4 : w.heap.size + 1 + 1 + 1 + 1 < w'.heap.size := by omega); (try have gQ5 : w.heap.size + 1 + 1 + 1 + 1 + 1 < w'.heap.size := by omega); (try have dQ0 : _ < w'.heap.size := Nat.lt_of_lt_of_le dQ0 (by omega)); (try have dQ1 : _ < w'.heap.size := Nat.lt_of_lt_of_le dQ1 (by omega)); (try have dQ2 : _ < w'.heap.size := Nat.lt_of_lt_of_le dQ2 (by omega)); (try have dQ3 : _ < w'.heap.size := Nat.lt_of_lt_of_le dQ3 (by omega)); (try have dQ4 : _ < w'.heap.size := Nat.lt_of_lt_of_le dQ4 (by omega)); (try have dQ5 : _ < w'.heap.size := Nat.lt_of_lt_of_le dQ5 (by omega)); (try (have hnQ := Nat.lt_of_succ_le hz; first | (have _x := dQ0; first | (have _x := dQ1; first | (have _x := dQ2; first | (have _x := dQ3; first | (have _x := dQ4; have dQ5 := hnQ) | have dQ4 := hnQ) | have dQ3 := hnQ) | have dQ2 := hnQ) | have dQ1 := hnQ) | have dQ0 := hnQ)); (try (have hmQ := Nat.lt_of_succ_lt (Nat.lt_of_succ_le hz); first | (have _x := dQ0; first | (have _x := dQ1; first | (have _x := dQ2; first | (have _x := dQ3; first | (have _x := dQ4; have dQ5 := hmQ) | have dQ4 := hmQ) | have dQ3 := hmQ) | have dQ2 := hmQ) | have dQ1 := hmQ) | have dQ0 := hmQ))) | (go_at_call 53; (with_reducible refine (H2.out _).mono ?_); rintro e w' ⟨rfl, hb⟩; obtain ⟨hc, hf, hz, hy⟩ := bcell hb; clear hy; (try simp only [World.size_alloc, World.size_setCell, World.size_drew] at hz); (try have gQ0 : w.heap.size < w'.heap.size := by omega); (try have gQ1 : w.heap.size + 1 < w'.heap.size := by omega); (try have gQ2 : w.heap.size + 1 + 1 < w'.heap.size := by omega); (try have gQ3 : w.heap.size + 1 + 1 + 1 < w'.heap.size := by omega); (try have gQ4 : w.heap.size + 1 + 1 + 1 + 1 < w'.heap.size := by omega); (try have gQ5 : w.heap.size + 1 + 1 + 1 + 1 + 1 < w'.heap.size := by omega); (try have dQ0 : _ < w'.heap.size := Nat.lt_of_lt_of_le dQ0 (by omega)); (try have dQ1 : _ < w'.heap.size := Nat.lt_of_lt_of_le dQ1 (by omega)); (try have dQ2 : _ < w'.heap.size := Nat.lt_of_lt_of_le dQ2 (by omega)); (try have dQ3 : _ < w'.heap.size := Nat.lt_of_lt_of_le dQ3 (by omega)); (try have dQ4 : _ < w'.heap.size := Nat.lt_of_lt_of_le dQ4 (by omega)); (try have dQ5 : _ < w'.heap.size := Nat.lt_of_lt_of_le dQ5 (by omega)); (try (have hnQ := Nat.lt_of_succ_le hz; first | (have _x := dQ0; first | (have _x := dQ1; first | (have _x := dQ2; first | (have _x := dQ3; first | (have _x := dQ4; have dQ5 := hnQ) | have dQ4 := hnQ) | have dQ3 := hnQ) | have dQ2 := hnQ) | have dQ1 := hnQ) | have dQ0 := hnQ)); (try (have hmQ := Nat.lt_of_succ_lt (Nat.lt_of_succ_le hz); first | (have _x := dQ0; first | (have _x := dQ1; first | (have _x := dQ2; first | (have _x := dQ3; first | (have _x := dQ4; have dQ5 := hmQ) | have dQ4 := hmQ) | have dQ3 := hmQ) | have dQ2 := hmQ) | have dQ1 := hmQ) | have dQ0 := hmQ))) | (go_at_call 53; (with_reducible refine (H3.out _).mono ?_); rintro e w' ⟨rfl, hb⟩; obtain ⟨hc, hf, hz, hy⟩ := bcell hb; clear hy; (try simp only [World.size_alloc, World.size_setCell, World.size_drew] at hz); (try have gQ0 : w.heap.size < w'.heap.size := by omega); (try have gQ1 : w.heap.size + 1 < w'.heap.size := by omega); (try have gQ2 : w.heap.size + 1 + 1 < w'.heap.size := by omega); (try have gQ3 : w.heap.size + 1 + 1 + 1 < w'.heap.size := by omega); (try have gQ4 : w.heap.size + 1 + 1 + 1 + 1 < w'.heap.size := by omega); (try have gQ5 : w.heap.size + 1 + 1 + 1 + 1 + 1 < w'.heap.size := by omega); (try have dQ0 : _ < w'.heap.size := Nat.lt_of_lt_of_le dQ0 (by omega)); (try have dQ1 : _ < w'.heap.size := Nat.lt_of_lt_of_le dQ1 (by omega)); (try have dQ2 : _ < w'.heap.size := Nat.lt_of_lt_of_le dQ2 (by omega)); (try have dQ3 : _ < w'.heap.size := Nat.lt_of_lt_of_le dQ3 (by omega)); (try have dQ4 : _ < w'.heap.size := Nat.lt_of_lt_of_le dQ4 (by omega)); (try have dQ5 : _ < w'.heap.size := Nat.lt_of_lt_of_le dQ5 (by omega)); (try (have hnQ := Nat.lt_of_succ_le hz; first | (have _x := dQ0; first | (have _x := dQ1; first | (have _x := dQ2; first | (have _x := dQ3; first | (have _x := dQ4; have dQ5 := hnQ) | have dQ4 := hnQ) | have dQ3 := hnQ) | have dQ2 := hnQ) | have dQ1 := hnQ) | have dQ0 := hnQ)); (try (have hmQ := Nat.lt_of_succ_lt (Nat.lt_of_succ_le hz); first | (have _x := dQ0; first | (have _x := dQ1; first | (have _x := dQ2; first | (have _x := dQ3; first | (have _x := dQ4; have dQ5 := hmQ) | have dQ4 := hmQ) | have dQ3 := hmQ) | have dQ2 := hmQ) | have dQ1 := hmQ) | have dQ0 := hmQ))))
    all_goals go_ret
    all_goals exact ⟨by simp [HE.out], by (repeat' first | (with_reducible exact Below.refl _ _) | (with_reducible refine Below.alloc ?_ ?_ _) | (with_reducible refine Below.drew ?_) | (with_reducible refine Below.setCell ?_ ?_ _) | (with_reducible refine below_via (by assumption) ?_ ?_) | go_size)⟩
  exact sCanReach_ok a b o p q hp hq hsm hpo hqo w
set_option maxHeartbeats 1000000 in
set_option maxRecDepth 100000 in
theorem sIsSpoiled_any (a b o p g : Int) (l : Ln) (hp : p ≤ 9223372036854775807) (hg : g ≤ 9223372036854775807) (w : World) :
    Calls Try.prog 22 #[.agg #[.int .i64 a, .int .i64 b, .int .i64 o], .int .i64 p, .int .i64 g, .agg #[.int .i64 l.f, .int .i64 l.o, .int .i64 l.t]] w fun e w' => e = .returned (.bool (isSpoiled a b o p g l)) ∧ Below w.heap.size w w' := by
  have HS : Hid (isSpoiled a b o p g l = (doOk false a b o p l && reach a b o p g false && !reach a b o (flip p l) g false)) := rfl
  have HJ : Hid (∀ W, Calls Try.prog 23 #[.agg #[.int .i64 a, .int .i64 b, .int .i64 o], .int .i64 p, .agg #[.int .i64 l.f, .int .i64 l.o, .int .i64 l.t]] W fun e w' => e = .returned (.tuple #[.int .i64 (doTo false a b o p l), .bool (doOk false a b o p l)]) ∧ Below W.heap.size W w') := fun W => sDoJump_any a b o p l hp W
  have HF : Hid (doOk false a b o p l = true → doTo false a b o p l = flip p l) := fun h => by simp [doTo, h]
  have HC1 : Hid (∀ W, Calls Try.prog 19 #[.agg #[.int .i64 a, .int .i64 b, .int .i64 o], .int .i64 p, .int .i64 g] W fun e w' => e = .returned (.bool (reach a b o p g false)) ∧ Below W.heap.size W w') := fun W => sCanReach_any a b o p g hp hg W
  cases hr1 : reach a b o p g false
  · have HE : Hid (isSpoiled a b o p g l = false) := by show _ = _; rw [HS.out, hr1]; simp
    rw [hr1] at HC1
    clear hr1 HJ HF
    go_enter Try.func22, Try.ntmps22
    go_wp2_with (go_at_call 19; (with_reducible refine (HC1.out _).mono ?_); rintro e w' ⟨rfl, hb⟩; obtain ⟨hc, hf, hz, hy⟩ := bcell hb; clear hy; (try simp only [World.size_alloc, World.size_setCell, World.size_drew] at hz); (try have gQ0 : w.heap.size < w'.heap.size := by omega); (try have gQ1 : w.heap.size + 1 < w'.heap.size := by omega); (try have gQ2 : w.heap.size + 1 + 1 < w'.heap.size := by omega); (try have gQ3 : w.heap.size + 1 + 1 + 1 < w'.heap.size := by omega); (try have gQ4 : w.heap.size + 1 + 1 + 1 + 1 < w'.heap.size := by omega); (try have gQ5 : w.heap.size + 1 + 1 + 1 + 1 + 1 < w'.heap.size := by omega); (try have dQ0 : _ < w'.heap.size := Nat.lt_of_lt_of_le dQ0 (by omega)); (try have dQ1 : _ < w'.heap.size := Nat.lt_of_lt_of_le dQ1 (by omega)); (try have dQ2 : _ < w'.heap.size := Nat.lt_of_lt_of_le dQ2 (by omega)); (try have dQ3 : _ < w'.heap.size := Nat.lt_of_lt_of_le dQ3 (by omega)); (try have dQ4 : _ < w'.heap.size := Nat.lt_of_lt_of_le dQ4 (by omega)); (try have dQ5 : _ < w'.heap.size := Nat.lt_of_lt_of_le dQ5 (by omega)); (try (have hnQ := Nat.lt_of_succ_le hz; first | (have _x := dQ0; first | (have _x := dQ1; first | (have _x := dQ2; first | (have _x := dQ3; first | (have _x := dQ4; have dQ5 := hnQ) | have dQ4 := hnQ) | have dQ3 := hnQ) | have dQ2 := hnQ) | have dQ1 := hnQ) | have dQ0 := hnQ)); (try (have hmQ := Nat.lt_of_succ_lt (Nat.lt_of_succ_le hz); first | (have _x := dQ0; first | (have _x := dQ1; first | (have _x := dQ2; first | (have _x := dQ3; first | (have _x := dQ4; have dQ5 := hmQ) | have dQ4 := hmQ) | have dQ3 := hmQ) | have dQ2 := hmQ) | have dQ1 := hmQ) | have dQ0 := hmQ)))
    all_goals go_ret
    all_goals exact ⟨by simp [HE.out], by (repeat' first | (with_reducible exact Below.refl _ _) | (with_reducible refine Below.alloc ?_ ?_ _) | (with_reducible refine Below.drew ?_) | (with_reducible refine Below.setCell ?_ ?_ _) | (with_reducible refine below_via (by assumption) ?_ ?_) | go_size)⟩
  rw [hr1] at HC1
  cases hd : doOk false a b o p l
  · have HE : Hid (isSpoiled a b o p g l = false) := by show _ = _; rw [HS.out, hd]; rfl
    rw [hd] at HJ
    clear hd hr1 HF
    generalize doTo false a b o p l = q at *
    go_enter Try.func22, Try.ntmps22
    go_wp2_with (first | (go_at_call 23; refine (HJ.out _).mono ?_; rintro e w' ⟨rfl, hb⟩; obtain ⟨hc, hf, hz, hy⟩ := bcell hb; clear hy; (try simp only [World.size_alloc, World.size_setCell, World.size_drew] at hz); (try have gQ0 : w.heap.size < w'.heap.size := by omega); (try have gQ1 : w.heap.size + 1 < w'.heap.size := by omega); (try have gQ2 : w.heap.size + 1 + 1 < w'.heap.size := by omega); (try have gQ3 : w.heap.size + 1 + 1 + 1 < w'.heap.size := by omega); (try have gQ4 : w.heap.size + 1 + 1 + 1 + 1 < w'.heap.size := by omega); (try have gQ5 : w.heap.size + 1 + 1 + 1 + 1 + 1 < w'.heap.size := by omega); (try have dQ0 : _ < w'.heap.size := Nat.lt_of_lt_of_le dQ0 (by omega)); (try have dQ1 : _ < w'.heap.size := Nat.lt_of_lt_of_le dQ1 (by omega)); (try have dQ2 : _ < w'.heap.size := Nat.lt_of_lt_of_le dQ2 (by omega)); (try have dQ3 : _ < w'.heap.size := Nat.lt_of_lt_of_le dQ3 (by omega)); (try have dQ4 : _ < w'.heap.size := Nat.lt_of_lt_of_le dQ4 (by omega)); (try have dQ5 : _ < w'.heap.size := Nat.lt_of_lt_of_le dQ5 (by omega)); (try (have hnQ := Nat.lt_of_succ_le hz; first | (have _x := dQ0; first | (have _x := dQ1; first | (have _x := dQ2; first | (have _x := dQ3; first | (have _x := dQ4; have dQ5 := hnQ) | have dQ4 := hnQ) | have dQ3 := hnQ) | have dQ2 := hnQ) | have dQ1 := hnQ) | have dQ0 := hnQ)); (try (have hmQ := Nat.lt_of_succ_lt (Nat.lt_of_succ_le hz); first | (have _x := dQ0; first | (have _x := dQ1; first | (have _x := dQ2; first | (have _x := dQ3; first | (have _x := dQ4; have dQ5 := hmQ) | have dQ4 := hmQ) | have dQ3 := hmQ) | have dQ2 := hmQ) | have dQ1 := hmQ) | have dQ0 := hmQ))) | (go_at_call 19; (with_reducible refine (HC1.out _).mono ?_); rintro e w' ⟨rfl, hb⟩; obtain ⟨hc, hf, hz, hy⟩ := bcell hb; clear hy; (try simp only [World.size_alloc, World.size_setCell, World.size_drew] at hz); (try have gQ0 : w.heap.size < w'.heap.size := by omega); (try have gQ1 : w.heap.size + 1 < w'.heap.size := by omega); (try have gQ2 : w.heap.size + 1 + 1 < w'.heap.size := by omega); (try have gQ3 : w.heap.size + 1 + 1 + 1 < w'.heap.size := by omega); (try have gQ4 : w.heap.size + 1 + 1 + 1 + 1 < w'.heap.size := by omega); (try have gQ5 : w.heap.size + 1 + 1 + 1 + 1 + 1 < w'.heap.size := by omega); (try have dQ0 : _ < w'.heap.size := Nat.lt_of_lt_of_le dQ0 (by omega)); (try have dQ1 : _ < w'.heap.size := Nat.lt_of_lt_of_le dQ1 (by omega)); (try have dQ2 : _ < w'.heap.size := Nat.lt_of_lt_of_le dQ2 (by omega)); (try have dQ3 : _ < w'.heap.size := Nat.lt_of_lt_of_le dQ3 (by omega)); (try have dQ4 : _ < w'.heap.size := Nat.lt_of_lt_of_le dQ4 (by omega)); (try have dQ5 : _ < w'.heap.size := Nat.lt_of_lt_of_le dQ5 (by omega)); (try (have hnQ := Nat.lt_of_succ_le hz; first | (have _x := dQ0; first | (have _x := dQ1; first | (have _x := dQ2; first | (have _x := dQ3; first | (have _x := dQ4; have dQ5 := hnQ) | have dQ4 := hnQ) | have dQ3 := hnQ) | have dQ2 := hnQ) | have dQ1 := hnQ) | have dQ0 := hnQ)); (try (have hmQ := Nat.lt_of_succ_lt (Nat.lt_of_succ_le hz); first | (have _x := dQ0; first | (have _x := dQ1; first | (have _x := dQ2; first | (have _x := dQ3; first | (have _x := dQ4; have dQ5 := hmQ) | have dQ4 := hmQ) | have dQ3 := hmQ) | have dQ2 := hmQ) | have dQ1 := hmQ) | have dQ0 := hmQ))))
    all_goals go_ret
    all_goals exact ⟨by simp [HE.out], by (repeat' first | (with_reducible exact Below.refl _ _) | (with_reducible refine Below.alloc ?_ ?_ _) | (with_reducible refine Below.drew ?_) | (with_reducible refine Below.setCell ?_ ?_ _) | (with_reducible refine below_via (by assumption) ?_ ?_) | go_size)⟩
  have hq := flip_le hd
  have HE : Hid (isSpoiled a b o p g l = !reach a b o (flip p l) g false) := by show _ = _; rw [HS.out, hd, hr1]; rfl
  have HC2 : Hid (∀ W, Calls Try.prog 19 #[.agg #[.int .i64 a, .int .i64 b, .int .i64 o], .int .i64 (flip p l), .int .i64 g] W fun e w' => e = .returned (.bool (reach a b o (flip p l) g false)) ∧ Below W.heap.size W w') := fun W => sCanReach_any a b o (flip p l) g hq hg W
  rw [HF.out hd, hd] at HJ
  clear hd hq hr1 HF
  generalize flip p l = q at *
  generalize reach a b o q g false = r2 at *
  go_enter Try.func22, Try.ntmps22
  go_wp2_with (first | (go_at_call 23; refine (HJ.out _).mono ?_; rintro e w' ⟨rfl, hb⟩; obtain ⟨hc, hf, hz, hy⟩ := bcell hb; clear hy; (try simp only [World.size_alloc, World.size_setCell, World.size_drew] at hz); (try have gQ0 : w.heap.size < w'.heap.size := by omega); (try have gQ1 : w.heap.size + 1 < w'.heap.size := by omega); (try have gQ2 : w.heap.size + 1 + 1 < w'.heap.size := by omega); (try have gQ3 : w.heap.size + 1 + 1 + 1 < w'.heap.size := by omega); (try have gQ4 : w.heap.size + 1 + 1 + 1 + 1 < w'.heap.size := by omega); (try have gQ5 : w.heap.size + 1 + 1 + 1 + 1 + 1 < w'.heap.size := by omega); (try have dQ0 : _ < w'.heap.size := Nat.lt_of_lt_of_le dQ0 (by omega)); (try have dQ1 : _ < w'.heap.size := Nat.lt_of_lt_of_le dQ1 (by omega)); (try have dQ2 : _ < w'.heap.size := Nat.lt_of_lt_of_le dQ2 (by omega)); (try have dQ3 : _ < w'.heap.size := Nat.lt_of_lt_of_le dQ3 (by omega)); (try have dQ4 : _ < w'.heap.size := Nat.lt_of_lt_of_le dQ4 (by omega)); (try have dQ5 : _ < w'.heap.size := Nat.lt_of_lt_of_le dQ5 (by omega)); (try (have hnQ := Nat.lt_of_succ_le hz; first | (have _x := dQ0; first | (have _x := dQ1; first | (have _x := dQ2; first | (have _x := dQ3; first | (have _x := dQ4; have dQ5 := hnQ) | have dQ4 := hnQ) | have dQ3 := hnQ) | have dQ2 := hnQ) | have dQ1 := hnQ) | have dQ0 := hnQ)); (try (have hmQ := Nat.lt_of_succ_lt (Nat.lt_of_succ_le hz); first | (have _x := dQ0; first | (have _x := dQ1; first | (have _x := dQ2; first | (have _x := dQ3; first | (have _x := dQ4; have dQ5 := hmQ) | have dQ4 := hmQ) | have dQ3 := hmQ) | have dQ2 := hmQ) | have dQ1 := hmQ) | have dQ0 := hmQ))) | (go_at_call 19; (with_reducible refine (HC1.out _).mono ?_); rintro e w' ⟨rfl, hb⟩; obtain ⟨hc, hf, hz, hy⟩ := bcell hb; clear hy; (try simp only [World.size_alloc, World.size_setCell, World.size_drew] at hz); (try have gQ0 : w.heap.size < w'.heap.size := by omega); (try have gQ1 : w.heap.size + 1 < w'.heap.size := by omega); (try have gQ2 : w.heap.size + 1 + 1 < w'.heap.size := by omega); (try have gQ3 : w.heap.size + 1 + 1 + 1 < w'.heap.size := by omega); (try have gQ4 : w.heap.size + 1 + 1 + 1 + 1 < w'.heap.size := by omega); (try have gQ5 : w.heap.size + 1 + 1 + 1 + 1 + 1 < w'.heap.size := by omega); (try have dQ0 : _ < w'.heap.size := Nat.lt_of_lt_of_le dQ0 (by omega)); (try have dQ1 : _ < w'.heap.size := Nat.lt_of_lt_of_le dQ1 (by omega)); (try have dQ2 : _ < w'.heap.size := Nat.lt_of_lt_of_le dQ2 (by omega)); (try have dQ3 : _ < w'.heap.size := Nat.lt_of_lt_of_le dQ3 (by omega)); (try have dQ4 : _ < w'.heap.size := Nat.lt_of_lt_of_le dQ4 (by omega)); (try have dQ5 : _ < w'.heap.size := Nat.lt_of_lt_of_le dQ5 (by omega)); (try (have hnQ := Nat.lt_of_succ_le hz; first | (have _x := dQ0; first | (have _x := dQ1; first | (have _x := dQ2; first | (have _x := dQ3; first | (have _x := dQ4; have dQ5 := hnQ) | have dQ4 := hnQ) | have dQ3 := hnQ) | have dQ2 := hnQ) | have dQ1 := hnQ) | have dQ0 := hnQ)); (try (have hmQ := Nat.lt_of_succ_lt (Nat.lt_of_succ_le hz); first | (have _x := dQ0; first | (have _x := dQ1; first | (have _x := dQ2; first | (have _x := dQ3; first | (have _x := dQ4; have dQ5 := hmQ) | have dQ4 := hmQ) | have dQ3 := hmQ) | have dQ2 := hmQ) | have dQ1 := hmQ) | have dQ0 := hmQ))) | (go_at_call 19; (with_reducible refine (HC2.out _).mono ?_); rintro e w' ⟨rfl, hb⟩; obtain ⟨hc, hf, hz, hy⟩ := bcell hb; clear hy; (try simp only [World.size_alloc, World.size_setCell, World.size_drew] at hz); (try have gQ0 : w.heap.size < w'.heap.size := by omega); (try have gQ1 : w.heap.size + 1 < w'.heap.size := by omega); (try have gQ2 : w.heap.size + 1 + 1 < w'.heap.size := by omega); (try have gQ3 : w.heap.size + 1 + 1 + 1 < w'.heap.size := by omega); (try have gQ4 : w.heap.size + 1 + 1 + 1 + 1 < w'.heap.size := by omega); (try have gQ5 : w.heap.size + 1 + 1 + 1 + 1 + 1 < w'.heap.size := by omega); (try have dQ0 : _ < w'.heap.size := Nat.lt_of_lt_of_le dQ0 (by omega)); (try have dQ1 : _ < w'.heap.size := Nat.lt_of_lt_of_le dQ1 (by omega)); (try have dQ2 : _ < w'.heap.size := Nat.lt_of_lt_of_le dQ2 (by omega)); (try have dQ3 : _ < w'.heap.size := Nat.lt_of_lt_of_le dQ3 (by omega)); (try have dQ4 : _ < w'.heap.size := Nat.lt_of_lt_of_le dQ4 (by omega)); (try have dQ5 : _ < w'.heap.size := Nat.lt_of_lt_of_le dQ5 (by omega)); (try (have hnQ := Nat.lt_of_succ_le hz; first | (have _x := dQ0; first | (have _x := dQ1; first | (have _x := dQ2; first | (have _x := dQ3; first | (have _x := dQ4; have dQ5 := hnQ) | have dQ4 := hnQ) | have dQ3 := hnQ) | have dQ2 := hnQ) | have dQ1 := hnQ) | have dQ0 := hnQ)); (try (have hmQ := Nat.lt_of_succ_lt (Nat.lt_of_succ_le hz); first | (have _x := dQ0; first | (have _x := dQ1; first | (have _x := dQ2; first | (have _x := dQ3; first | (have _x := dQ4; have dQ5 := hmQ) | have dQ4 := hmQ) | have dQ3 := hmQ) | have dQ2 := hmQ) | have dQ1 := hmQ) | have dQ0 := hmQ))))
  all_goals go_ret
  all_goals exact ⟨by simp [HE.out, *], by (repeat' first | (with_reducible exact Below.refl _ _) | (with_reducible refine Below.alloc ?_ ?_ _) | (with_reducible refine Below.drew ?_) | (with_reducible refine Below.setCell ?_ ?_ _) | (with_reducible refine below_via (by assumption) ?_ ?_) | go_size)⟩
end Go.Proofs.Ytledmebhlmpjaaa
namespace Peg
/-- the first line whose jump leads on to the goal -/
def stepW (a b o g p : Int) : Option Ln := (linesOf a b o).find? fun l => canJ p l && hasB (spreadOf a b o g true) (flip p l)
theorem stepW_jumps {a b o g p : Int} (hp : posOk a b o p = true) : (jumpsOf a b o p).find? (fun l => hasB (spreadOf a b o g true) (flip p l)) = stepW a b o g p := by
  rw [jumpsOf, if_pos hp, List.find?_filter, stepW]
  congr 1
  funext l
  simp
theorem step_some {a b o g n : Int} (hs : isSmall a b o = true) (hn : posOk a b o n = true) (hg : posOk a b o g = true) (hr : reach a b o n g false = true) (hne : n ≠ g) :
    ∃ x, stepW a b o g n = some x ∧ x ∈ linesOf a b o ∧ canJ n x = true ∧ hasB (spreadOf a b o g true) (flip n x) = true ∧ reach a b o (flip n x) g false = true ∧ posOk a b o (flip n x) = true := by
  have hst := (hasB_iff hs hn).1 hr
  have hex : ∃ x ∈ linesOf a b o, (canJ n x && hasB (spreadOf a b o g true) (flip n x)) = true := by
    cases hst with
    | refl => exact absurd rfl hne
    | step h1 h2 h3 =>
      refine ⟨_, h1, ?_⟩
      rw [Bool.and_eq_true]
      exact ⟨h2, by rw [hasB_iff hs hg]; exact h3.rev (flip_nonneg _ _)⟩
  obtain ⟨y, hy1, hy2⟩ := hex
  cases hf : stepW a b o g n with
  | none =>
    have := List.find?_eq_none.1 hf y hy1
    rw [hy2] at this
    exact absurd rfl this
  | some x =>
    have h1 := List.find?_some hf
    rw [Bool.and_eq_true] at h1
    have h2 := List.mem_of_find?_eq_some hf
    have hp := posOk_flip hn h2
    exact ⟨x, rfl, h2, h1.1, h1.2, by rw [← back_iff hs hp hg]; exact h1.2, hp⟩
def wayRun (a b o g : Int) : Nat → Int → List Ln
  | 0, _ => []
  | f + 1, p => if p = g then [] else match stepW a b o g p with
    | none => []
    | some x => x :: wayRun a b o g f (flip p x)
def wayTo (a b o p g : Int) : List Ln := if reach a b o p g false = true then wayRun a b o g (pegs p) p else []
theorem reach_parts {a b o p g : Int} (h : reach a b o p g false = true) : isSmall a b o = true ∧ posOk a b o p = true ∧ posOk a b o g = true := by
  cases hc : (isSmall a b o && posOk a b o p && posOk a b o g)
  · rw [reach_false hc] at h; cases h
  · simp only [Bool.and_eq_true] at hc
    exact ⟨hc.1.1, hc.1.2, hc.2⟩
theorem has_reach {a b o p g : Int} : hasB (spreadOf a b o g true) p = reach a b o p g false := by
  cases h1 : isSmall a b o
  · rw [reach_false (by rw [h1]; rfl)]
    have : spreadOf a b o g true = [] := by simp [spreadOf, h1]
    rw [this]; simp [hasB]
  cases h2 : posOk a b o g
  · rw [reach_false (by rw [h2]; simp)]
    have : spreadOf a b o g true = [] := by simp [spreadOf, h2]
    rw [this]; simp [hasB]
  cases h3 : posOk a b o p
  · rw [reach_false (by rw [h3]; simp)]
    cases h4 : hasB (spreadOf a b o g true) p
    · rfl
    · have := Steps.pos h2 ((hasB_iff h1 h2).1 h4)
      rw [h3] at this; cases this
  · exact back_iff h1 h3 h2
theorem wayRun_plays {a b o g : Int} (hs : isSmall a b o = true) (hg : posOk a b o g = true) : ∀ (f : Nat) (p : Int), posOk a b o p = true → reach a b o p g false = true → pegs p ≤ f →
    playTo false a b o p (wayRun a b o g f p) = some g ∧ (wayRun a b o g f p).length + pegs g = pegs p
  | 0, p, hp, hr, hf => by
    by_cases hne : p = g
    · subst hne; simp [wayRun, playTo]
    · obtain ⟨x, _, h2, h3, _, _, _⟩ := step_some hs hp hg hr hne
      have := pegs_jump (linesOf_in h2).1 h3
      omega
  | f + 1, p, hp, hr, hf => by
    by_cases hne : p = g
    · subst hne; simp [wayRun, playTo]
    · obtain ⟨x, h1, h2, h3, _, h5, h6⟩ := step_some hs hp hg hr hne
      have hpj := pegs_jump (linesOf_in h2).1 h3
      obtain ⟨i1, i2⟩ := wayRun_plays hs hg f (flip p x) h6 h5 (by omega)
      rw [wayRun, if_neg hne, h1]
      simp only [playTo]
      rw [if_pos (by simp [doOk, hp, isLn_of h2, can, h3])]
      refine ⟨i1, ?_⟩
      rw [List.length_cons]
      omega
end Peg
namespace Peg
/-- the number of games from p to g of at most f jumps -/
def gm (ls : List Ln) (g : Int) : Nat → Int → Nat
  | 0, p => if p = g then 1 else 0
  | f + 1, p => if p = g then 1 else ((ls.filter (canJ p)).map fun l => gm ls g f (flip p l)).sum
def games (a b o g p : Int) : Nat := gm (linesOf a b o) g (pegs p) p
theorem pegs_two {p : Int} {l : Ln} (hl : LnOk l) (h : canJ p l = true) : 2 ≤ pegs p := by
  have h1 := pegs_jump hl h
  have h2 : 1 ≤ pegs (flip p l) := by
    rw [pegs_eq]
    refine List.countP_pos_iff.2 ⟨l.t.toNat, ?_, ?_⟩
    · unfold LnOk at hl; rw [List.mem_range]; omega
    · obtain ⟨n1, n2, n3⟩ := lnOk_nat hl
      simp only [canJ, tb_nat, Bool.and_eq_true, Bool.not_eq_true'] at h
      rw [flip_tb, h.2]
      simp
  omega
theorem games_goal (a b o g : Int) : games a b o g g = 1 := by
  unfold games
  cases pegs g <;> simp [gm]
theorem games_step {a b o g p : Int} (h : p ≠ g) : games a b o g p = (((linesOf a b o).filter (canJ p)).map fun l => games a b o g (flip p l)).sum := by
  unfold games
  cases hp : pegs p with
  | zero =>
    have : (linesOf a b o).filter (canJ p) = [] := by
      rw [List.filter_eq_nil_iff]
      intro l hl hc
      have := pegs_two (linesOf_in hl).1 hc
      omega
    rw [this]
    simp [gm, h]
  | succ f =>
    rw [gm, if_neg h]
    congr 1
    refine List.map_congr_left fun l hl => ?_
    obtain ⟨h1, h2⟩ := List.mem_filter.1 hl
    have := pegs_jump (linesOf_in h1).1 h2
    rw [show pegs (flip p l) = f from by omega]
theorem gm_zero {ls : List Ln} {g p : Int} (h : ¬ Steps ls false p g) : ∀ f, gm ls g f p = 0
  | 0 => by
    rw [gm, if_neg]
    rintro rfl
    exact h (.refl _)
  | f + 1 => by
    rw [gm, if_neg (by rintro rfl; exact h (.refl _))]
    have key : ∀ L : List Ln, (∀ l ∈ L, l ∈ ls.filter (canJ p)) → (L.map fun l => gm ls g f (flip p l)).sum = 0 := by
      intro L
      induction L with
      | nil => intro _; rfl
      | cons l L ih =>
        intro hL
        obtain ⟨h1, h2⟩ := List.mem_filter.1 (hL l (by simp))
        rw [List.map_cons, List.sum_cons, ih fun m hm => hL m (by simp [hm]), gm_zero (fun h3 => h (.step h1 h2 h3)) f]
    exact key _ fun _ hl => hl
/-! how many jumps there are -/
theorem linesFrom_f {a b o k : Int} {l : Ln} (h : l ∈ linesFrom a b o k) : l.f = k := by
  simp only [linesFrom, linesPart, List.mem_filterMap] at h
  obtain ⟨q, _, hq⟩ := h
  unfold lineTo at hq
  split at hq
  · split at hq
    · simp only [Option.some.injEq] at hq
      subst hq; rfl
    · cases hq
  · cases hq
theorem holesTo_mono (p : Int) : ∀ (d n : Nat), (holesTo p n).length ≤ (holesTo p (n + d)).length
  | 0, n => Nat.le_refl _
  | d + 1, n => by
    refine Nat.le_trans (holesTo_mono p d n) ?_
    rw [← Nat.add_assoc]
    cases h : tb p ((n + d : Nat) : Int)
    · rw [holesTo_succ_no _ _ h]; exact Nat.le_refl _
    · rw [holesTo_succ_yes _ _ h]; simp
theorem jumps_part {a b o p : Int} {c : Nat} (hc : ∀ k ∈ holesOf a b o, (linesFrom a b o k).length ≤ c) (hh : ∀ n, ∀ k ∈ holesTo o n, n ≤ (a * b).toNat → k ∈ holesOf a b o) :
    ∀ n, n ≤ (a * b).toNat → (((holesTo o n).flatMap (linesFrom a b o)).filter (canJ p)).length ≤ c * (holesTo p n).length
  | 0, _ => by simp [holesTo]
  | n + 1, hn => by
    have ih := jumps_part (p := p) hc hh n (by omega)
    have hm : (holesTo p n).length ≤ (holesTo p (n + 1)).length := holesTo_mono p 1 n
    cases ho : tb o (n : Int)
    · rw [holesTo_succ_no _ _ ho]
      exact Nat.le_trans ih (Nat.mul_le_mul_left c hm)
    · have hk := hc n (hh (n + 1) n (by rw [holesTo_succ_yes _ _ ho]; simp) hn)
      rw [holesTo_succ_yes _ _ ho, List.flatMap_append, List.filter_append, List.length_append]
      cases hp : tb p (n : Int)
      · rw [holesTo_succ_no _ _ hp]
        have : ((([(n : Int)] : List Int).flatMap (linesFrom a b o)).filter (canJ p)) = [] := by
          rw [List.filter_eq_nil_iff]
          intro l hl
          simp only [List.flatMap_cons, List.flatMap_nil, List.append_nil] at hl
          simp [canJ, linesFrom_f hl, hp]
        rw [this]
        simpa using ih
      · rw [holesTo_succ_yes _ _ hp]
        have h1 : ((([(n : Int)] : List Int).flatMap (linesFrom a b o)).filter (canJ p)).length ≤ c := by
          refine Nat.le_trans (List.length_filter_le _ _) ?_
          simpa using hk
        rw [List.length_append, Nat.mul_add]
        simp only [List.length_singleton, Nat.mul_one]
        omega
theorem jumps_le {a b o p : Int} {c : Nat} (hc : ∀ k ∈ holesOf a b o, (linesFrom a b o k).length ≤ c) (hb : boardOk a b o = true) : ((linesOf a b o).filter (canJ p)).length ≤ c * pegs p := by
  have ha := area (boardOk_sides hb).1 (boardOk_sides hb).2
  have h1 := jumps_part (p := p) hc (fun n k hk hn => by
    rw [holesOf, if_pos hb]
    simp only [holesTo, List.mem_map, List.mem_filter, List.mem_range] at hk ⊢
    obtain ⟨i, ⟨h1, h2⟩, h3⟩ := hk
    exact ⟨i, ⟨by omega, h2⟩, h3⟩) _ (Nat.le_refl _)
  have h2 : (holesTo p (a * b).toNat).length ≤ pegs p := by
    have := holesTo_mono p (49 - (a * b).toNat) (a * b).toNat
    rwa [show (a * b).toNat + (49 - (a * b).toNat) = 49 from by omega] at this
  rw [linesOf, holesOf, if_pos hb]
  exact Nat.le_trans h1 (Nat.mul_le_mul_left c h2)
/-- games of a board whose holes have at most c lines each -/
def gb (c : Nat) : Nat → Nat
  | 0 => 1
  | 1 => 1
  | k + 2 => c * (k + 2) * gb c (k + 1)
theorem sum_le {α : Type} (f : α → Nat) (B : Nat) : ∀ (l : List α), (∀ x ∈ l, f x ≤ B) → (l.map f).sum ≤ l.length * B
  | [], _ => by simp
  | x :: l, h => by
    have h1 := h x (by simp)
    have h2 := sum_le f B l fun y hy => h y (by simp [hy])
    simp only [List.map_cons, List.sum_cons, List.length_cons, Nat.add_mul]
    omega
theorem gb_pos {c : Nat} (hc : 1 ≤ c) : ∀ k, 1 ≤ gb c k
  | 0 => Nat.le_refl _
  | 1 => Nat.le_refl _
  | k + 2 => by
    rw [gb]
    exact Nat.mul_pos (Nat.mul_pos hc (by omega)) (gb_pos hc (k + 1))
theorem gb_mono {c : Nat} (hc : 1 ≤ c) (k : Nat) : gb c k ≤ gb c (k + 1) := by
  cases k with
  | zero => exact Nat.le_refl _
  | succ k =>
    rw [gb]
    exact Nat.le_mul_of_pos_left _ (Nat.mul_pos hc (by omega))
theorem gb_le {c : Nat} (hc : 1 ≤ c) (k : Nat) : ∀ d, gb c k ≤ gb c (k + d)
  | 0 => Nat.le_refl _
  | d + 1 => Nat.le_trans (gb_le hc k d) (gb_mono hc (k + d))
theorem games_le {a b o g : Int} {c : Nat} (hc1 : 1 ≤ c) (hc : ∀ k ∈ holesOf a b o, (linesFrom a b o k).length ≤ c) (hb : boardOk a b o = true) : ∀ (k : Nat) (p : Int), pegs p = k → games a b o g p ≤ gb c k
  | k, p, hk => by
    by_cases hg : p = g
    · subst hg; rw [games_goal]; exact gb_pos hc1 _
    · rw [games_step hg]
      match k, hk with
      | 0, hk | 1, hk =>
        have : (linesOf a b o).filter (canJ p) = [] := by
          rw [List.filter_eq_nil_iff]
          intro l hl hcj
          have := pegs_two (linesOf_in hl).1 hcj
          omega
        rw [this]
        simp
      | k + 2, hk =>
        refine Nat.le_trans (sum_le _ (gb c (k + 1)) _ fun l hl => ?_) ?_
        · obtain ⟨h1, h2⟩ := List.mem_filter.1 hl
          have h3 := pegs_jump (linesOf_in h1).1 h2
          exact games_le hc1 hc hb (k + 1) _ (by omega)
        · rw [gb]
          refine Nat.mul_le_mul_right _ ?_
          have := jumps_le (p := p) hc hb
          rwa [hk] at this
theorem lineTo_way {k way : Int} {o : Int} {l : Ln} (h : lineTo 4 4 o k way = some l) : 0 ≤ k % 4 + 2 * dx way ∧ k % 4 + 2 * dx way ≤ 3 ∧ 0 ≤ k / 4 + 2 * dy way ∧ k / 4 + 2 * dy way ≤ 3 := by
  unfold lineTo at h
  split at h
  · rename_i h1
    split at h
    · rename_i h2
      simp only [stepTo] at h1
      split at h1
      · split at h1
        · split at h1
          · rename_i x1 y1 t1
            have hv : stepTo 4 4 o k way = (k / 4 + dy way) * 4 + (k % 4 + dx way) := by
              simp only [stepTo]
              rw [if_pos x1, if_pos y1, if_pos t1]
            rw [hv] at h2
            simp only [stepTo] at h2
            split at h2
            · split at h2
              · rename_i x2 y2
                rw [inR_iff] at x1 y1 x2 y2
                generalize dx way = u at *
                generalize dy way = v at *
                omega
              · omega
            · omega
          · omega
        · omega
      · omega
    · cases h
  · cases h
theorem linesFrom_44 (o k : Int) : (linesFrom 4 4 o k).length ≤ 2 := by
  have e : linesFrom 4 4 o k = (lineTo 4 4 o k 0).toList ++ (lineTo 4 4 o k 1).toList ++ (lineTo 4 4 o k 2).toList ++ (lineTo 4 4 o k 3).toList := by
    unfold linesFrom
    rw [linesPart_succ, linesPart_succ, linesPart_succ, linesPart_succ]
    simp [linesPart]
  rw [e]
  have h02 : lineTo 4 4 o k 0 = none ∨ lineTo 4 4 o k 2 = none := by
    cases h0 : lineTo 4 4 o k 0 with
    | none => exact Or.inl rfl
    | some l =>
      cases h2 : lineTo 4 4 o k 2 with
      | none => exact Or.inr rfl
      | some m =>
        have a1 := lineTo_way h0
        have a2 := lineTo_way h2
        simp [dx, dy] at a1 a2
        omega
  have h13 : lineTo 4 4 o k 1 = none ∨ lineTo 4 4 o k 3 = none := by
    cases h0 : lineTo 4 4 o k 1 with
    | none => exact Or.inl rfl
    | some l =>
      cases h2 : lineTo 4 4 o k 3 with
      | none => exact Or.inr rfl
      | some m =>
        have a1 := lineTo_way h0
        have a2 := lineTo_way h2
        simp [dx, dy] at a1 a2
        omega
  have hl : ∀ x : Option Ln, x.toList.length ≤ 1 := fun x => by cases x <;> simp
  simp only [List.length_append]
  have l0 := hl (lineTo 4 4 o k 0)
  have l1 := hl (lineTo 4 4 o k 1)
  have l2 := hl (lineTo 4 4 o k 2)
  have l3 := hl (lineTo 4 4 o k 3)
  rcases h02 with h | h <;> rcases h13 with h' | h' <;> simp only [h, h', Option.toList_none, List.length_nil] <;> omega
/-- pegs on a board of n cells -/
theorem pegs_cells {p : Int} {n : Nat} (hn : n ≤ 49) (h0 : 0 ≤ p) (hp : p < pw n) : pegs p = (holesTo p n).length := by
  have key : ∀ d, n + d ≤ 49 → (holesTo p (n + d)).length = (holesTo p n).length := by
    intro d
    induction d with
    | zero => intro _; rfl
    | succ d ih =>
      intro hd
      rw [← Nat.add_assoc, holesTo_succ_no, ih (by omega)]
      rw [tb_nat]
      refine Nat.testBit_lt_two_pow ?_
      have h1 : p.toNat < 2 ^ n := by
        have : pw (n : Int) = ((2 ^ n : Nat) : Int) := by simp [pw]
        omega
      exact Nat.lt_of_lt_of_le h1 (Nat.pow_le_pow_right (by decide) (by simp only [Int.toNat_natCast]; omega))
  have := key (49 - n) (by omega)
  rw [show n + (49 - n) = 49 from by omega] at this
  exact this
theorem full_no {p : Int} {n : Nat} (h : (holesTo p n).length = n) : ∀ i, i < n → tb p (i : Int) = true := by
  intro i hi
  have h1 : (List.range n).filter (fun i : Nat => tb p (i : Int)) = List.range n := by
    refine List.filter_eq_self.2 ?_
    have h2 : ((List.range n).filter (fun i : Nat => tb p (i : Int))).length = (List.range n).length := by
      unfold holesTo at h; rw [List.length_map] at h; simpa using h
    exact List.length_filter_eq_length_iff.1 h2
  have := List.filter_eq_self.1 h1 i (List.mem_range.2 hi)
  simpa using this
/-- the number of games of a small board fits 62 bits -/
theorem games_fits {a b o g p : Int} (hs : isSmall a b o = true) (hp : posOk a b o p = true) : games a b o g p ≤ 9000000000000000000 := by
  obtain ⟨hb, ha1, ha2, _, _⟩ := small_N hs
  obtain ⟨hsa, hsb⟩ := boardOk_sides hb
  have hpN := pos_N hp
  have hpw : p < pw ((a * b).toNat : Int) := by
    rw [show (((a * b).toNat : Nat) : Int) = a * b from by omega, pwN (by omega)]; exact hpN.2
  have hpc := pegs_cells (n := (a * b).toNat) (by omega) hpN.1 hpw
  have hle : pegs p ≤ (a * b).toNat := by rw [hpc]; exact holesTo_length _ _
  by_cases h16 : a * b = 16
  · have h44 : a = 4 ∧ b = 4 := by
      rw [inR_iff] at hsa hsb
      have : a = 1 ∨ a = 2 ∨ a = 3 ∨ a = 4 ∨ a = 5 ∨ a = 6 ∨ a = 7 := by omega
      rcases this with rfl | rfl | rfl | rfl | rfl | rfl | rfl <;> omega
    obtain ⟨rfl, rfl⟩ := h44
    refine Nat.le_trans (games_le (c := 2) (by decide) (fun k _ => linesFrom_44 o k) hb _ p rfl) ?_
    have h1 := gb_le (c := 2) (by decide) (pegs p) (16 - pegs p)
    rw [show pegs p + (16 - pegs p) = 16 from by omega] at h1
    refine Nat.le_trans h1 ?_
    decide
  · have hc : ∀ k ∈ holesOf a b o, (linesFrom a b o k).length ≤ 4 := fun k _ => linesPart_length a b o k 4
    by_cases hf : pegs p ≤ 14
    · refine Nat.le_trans (games_le (c := 4) (by decide) hc hb _ p rfl) ?_
      have h1 := gb_le (c := 4) (by decide) (pegs p) (14 - pegs p)
      rw [show pegs p + (14 - pegs p) = 14 from by omega] at h1
      refine Nat.le_trans h1 ?_
      decide
    · have hN : (a * b).toNat = 15 := by omega
      have hno : (linesOf a b o).filter (canJ p) = [] := by
        rw [List.filter_eq_nil_iff]
        intro l hl hcj
        have hin := linesOf_in hl
        have hfull := full_no (p := p) (n := 15) (by rw [← hN, ← hpc]; omega) l.t.toNat (by
          have := hin.2
          omega)
        simp only [canJ, tb_nat, Bool.and_eq_true, Bool.not_eq_true'] at hcj
        rw [tb_nat] at hfull
        simp only [Int.toNat_natCast] at hfull
        rw [hfull] at hcj
        cases hcj.2
      by_cases hg : p = g
      · subst hg; rw [games_goal]; omega
      · rw [games_step hg, hno]; simp
end Peg
namespace Peg
/-- the first of a list whose share holds the index, and the index in it -/
def pick (f : Ln → Nat) : List Ln → Nat → Option (Ln × Nat)
  | [], _ => none
  | l :: s, i => if i < f l then some (l, i) else pick f s (i - f l)
theorem pick_some {f : Ln → Nat} : ∀ {L : List Ln} {i : Nat}, i < (L.map f).sum → ∃ l j, pick f L i = some (l, j) ∧ l ∈ L ∧ j < f l
  | [], i, h => by simp at h
  | l :: s, i, h => by
    by_cases h1 : i < f l
    · exact ⟨l, i, by rw [pick, if_pos h1], by simp, h1⟩
    · rw [List.map_cons, List.sum_cons] at h
      obtain ⟨m, j, h2, h3, h4⟩ := pick_some (f := f) (L := s) (i := i - f l) (by omega)
      exact ⟨m, j, by rw [pick, if_neg h1, h2], by simp [h3], h4⟩
/-- passing over those ahead -/
theorem pick_skip {f : Ln → Nat} : ∀ (A B : List Ln) (i : Nat), (A.map f).sum ≤ i → pick f (A ++ B) i = pick f B (i - (A.map f).sum)
  | [], B, i, _ => by simp
  | l :: A, B, i, h => by
    rw [List.map_cons, List.sum_cons] at h
    rw [List.cons_append, pick, if_neg (by omega), pick_skip A B _ (by omega), List.map_cons, List.sum_cons]
    congr 1
    omega
def gAt (a b o g : Int) : Nat → Int → Nat → List Ln
  | 0, _, _ => []
  | f + 1, p, i => if p = g then [] else match pick (fun l => games a b o g (flip p l)) ((linesOf a b o).filter (canJ p)) i with
    | none => []
    | some (l, j) => l :: gAt a b o g f (flip p l) j
def gameAt (a b o p g : Int) (i : Nat) : List Ln := gAt a b o g (pegs p) p i
theorem gAt_plays {a b o g : Int} : ∀ (f : Nat) (p : Int) (i : Nat), posOk a b o p = true → i < games a b o g p → pegs p = f →
    playTo false a b o p (gAt a b o g f p i) = some g ∧ (gAt a b o g f p i).length + pegs g = pegs p
  | 0, p, i, hp, hi, hf => by
    by_cases hg : p = g
    · subst hg; simp [gAt, playTo]
    · rw [games_step hg] at hi
      obtain ⟨l, j, -, h2, -⟩ := pick_some hi
      obtain ⟨h3, h4⟩ := List.mem_filter.1 h2
      have := pegs_jump (linesOf_in h3).1 h4
      omega
  | f + 1, p, i, hp, hi, hf => by
    by_cases hg : p = g
    · subst hg; simp [gAt, playTo]
    · rw [games_step hg] at hi
      obtain ⟨l, j, h1, h2, h5⟩ := pick_some hi
      obtain ⟨h3, h4⟩ := List.mem_filter.1 h2
      have hpj := pegs_jump (linesOf_in h3).1 h4
      obtain ⟨i1, i2⟩ := gAt_plays f (flip p l) j (posOk_flip hp h3) h5 (by omega)
      rw [gAt, if_neg hg, h1]
      simp only [playTo]
      rw [if_pos (by simp [doOk, hp, isLn_of h3, can, h4])]
      refine ⟨i1, ?_⟩
      rw [List.length_cons]
      omega
theorem games_pos {a b o p g : Int} (h : Steps (linesOf a b o) false p g) : 1 ≤ games a b o g p := by
  induction h with
  | refl p => rw [games_goal]; exact Nat.le_refl _
  | step h1 h2 _ ih =>
    rename_i p q l _hst
    by_cases hg : p = q
    · subst hg; rw [games_goal]; exact Nat.le_refl _
    · rw [games_step hg]
      have key : ∀ L : List Ln, l ∈ L → games a b o q (flip p l) ≤ (L.map fun l => games a b o q (flip p l)).sum := by
        intro L
        induction L with
        | nil => intro h; cases h
        | cons x L ih2 =>
          intro h
          rw [List.map_cons, List.sum_cons]
          rcases List.mem_cons.1 h with rfl | h
          · omega
          · have := ih2 h; omega
      exact Nat.le_trans ih (key _ (List.mem_filter.2 ⟨h1, h2⟩))
/-- the test of two games by the reference, by the program -/
def same10 (a c : List Ln) : Bool := decide (a.length ≤ 10) && decide (c.length ≤ 10) && eqv a c
def hasOne (a b o s g : Int) : Bool := isSolvable a b o s g && decide ((pegs s : Int) - pegs g ≤ 10) && decide (games a b o g s ≤ 200) && (List.range (games a b o g s)).all fun i => same10 (wayTo a b o s g) (gameAt a b o s g i)
theorem way_len {a b o s g : Int} (h : isSolvable a b o s g = true) : ((wayTo a b o s g).length : Int) = (pegs s : Int) - pegs g ∧ playTo false a b o s (wayTo a b o s g) = some g := by
  simp only [isSolvable, Bool.and_eq_true] at h
  obtain ⟨h1, h2, h3⟩ := reach_parts h.2
  obtain ⟨i1, i2⟩ := wayRun_plays h1 h3 (pegs s) s h2 h.2 (Nat.le_refl _)
  rw [wayTo, if_pos h.2]
  exact ⟨by omega, i1⟩
theorem solv_steps {a b o s g : Int} (h : isSolvable a b o s g = true) : isSmall a b o = true ∧ posOk a b o s = true ∧ posOk a b o g = true ∧ Steps (linesOf a b o) false s g := by
  simp only [isSolvable, Bool.and_eq_true] at h
  obtain ⟨h1, h2, h3⟩ := reach_parts h.2
  refine ⟨h1, h2, h3, (hasB_iff h1 h2).1 h.2⟩
/-- the reference asks no number of jumps: a way of more than ten is no one way to it either -/
theorem hasOne_ref (a b o s g : Int) : (isSolvable a b o s g && decide (games a b o g s ≤ 200) && (List.range (games a b o g s)).all fun i => same10 (wayTo a b o s g) (gameAt a b o s g i)) = hasOne a b o s g := by
  unfold hasOne
  cases hs : isSolvable a b o s g
  · simp
  by_cases hd : (pegs s : Int) - pegs g ≤ 10
  · simp [hd]
  · have h1 := (way_len hs).1
    have h2 := games_pos (solv_steps hs).2.2.2
    have h3 : ((List.range (games a b o g s)).all fun i => same10 (wayTo a b o s g) (gameAt a b o s g i)) = false := by
      rw [List.all_eq_false]
      refine ⟨0, List.mem_range.2 (by omega), ?_⟩
      unfold same10
      rw [decide_eq_false (by omega)]
      simp
    rw [h3]
    simp
end Peg
