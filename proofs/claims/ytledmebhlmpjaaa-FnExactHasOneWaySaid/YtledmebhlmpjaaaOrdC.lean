/- OrdC: contracts of touches, DoDisturb (both), disturbsOne, CompareJumps. No condition. -/
import Derived.Test.YtledmebhlmpjaaaOrd0
import Derived.Test.YtledmebhlmpjaaaMem3
import Derived.Test.YtledmebhlmpjaaaLines
import Derived.Deep.Cut
import Derived.IntWalk
set_option linter.unusedVariables false
set_option linter.unusedSimpArgs false
namespace Peg
/-- the order of jumps, as a number -/
def cmpJ (a c : Ln) : Int := if jlt a c then -1 else if a.f = c.f ∧ a.t = c.t then 0 else 1
theorem cmpJ_neg (a c : Ln) : (decide (cmpJ a c < 0)) = jlt a c := by
  unfold cmpJ
  cases jlt a c
  · simp only [Bool.false_eq_true, if_false]
    split <;> rfl
  · rfl
end Peg
namespace Go.Proofs.Ytledmebhlmpjaaa
open Go.ChangeShapes Go.WideShapes Go.ChangeAt Go.RowKit Peg Go.Sort
set_option maxRecDepth 100000 in
theorem touches_any (l : Ln) (k : Int) (w : World) :
    Calls Try.prog 104 #[.agg #[.int .i64 l.f, .int .i64 l.o, .int .i64 l.t], .int .i64 k] w fun e w' => e = .returned (.bool (touch l k)) ∧ Below w.heap.size w w' := by
  by_cases h1 : l.f = k
  · go_enter Try.func104, Try.ntmps104
    go_wp2_with fail
    all_goals go_ret
    all_goals exact ⟨by simp [touch, h1], by (repeat' first | (with_reducible exact Below.refl _ _) | (with_reducible refine Below.alloc ?_ ?_ _) | (with_reducible refine Below.drew ?_) | (with_reducible refine Below.setCell ?_ ?_ _) | (with_reducible refine below_via (by assumption) ?_ ?_) | go_size)⟩
  · by_cases h2 : l.o = k
    · go_enter Try.func104, Try.ntmps104
      go_wp2_with fail
      all_goals go_ret
      all_goals exact ⟨by simp [touch, h1, h2], by (repeat' first | (with_reducible exact Below.refl _ _) | (with_reducible refine Below.alloc ?_ ?_ _) | (with_reducible refine Below.drew ?_) | (with_reducible refine Below.setCell ?_ ?_ _) | (with_reducible refine below_via (by assumption) ?_ ?_) | go_size)⟩
    · by_cases h3 : l.t = k
      · go_enter Try.func104, Try.ntmps104
        go_wp2_with fail
        all_goals go_ret
        all_goals exact ⟨by simp [touch, h1, h2, h3], by (repeat' first | (with_reducible exact Below.refl _ _) | (with_reducible refine Below.alloc ?_ ?_ _) | (with_reducible refine Below.drew ?_) | (with_reducible refine Below.setCell ?_ ?_ _) | (with_reducible refine below_via (by assumption) ?_ ?_) | go_size)⟩
      · go_enter Try.func104, Try.ntmps104
        go_wp2_with fail
        all_goals go_ret
        all_goals exact ⟨by simp [touch, h1, h2, h3], by (repeat' first | (with_reducible exact Below.refl _ _) | (with_reducible refine Below.alloc ?_ ?_ _) | (with_reducible refine Below.drew ?_) | (with_reducible refine Below.setCell ?_ ?_ _) | (with_reducible refine below_via (by assumption) ?_ ?_) | go_size)⟩
set_option maxRecDepth 100000 in
theorem DoDisturb_any (a c : Ln) (w : World) :
    Calls Try.prog 101 #[.agg #[.int .i64 a.f, .int .i64 a.o, .int .i64 a.t], .agg #[.int .i64 c.f, .int .i64 c.o, .int .i64 c.t]] w fun e w' => e = .returned (.bool (dis a c)) ∧ Below w.heap.size w w' := by
  have HT : Hid (∀ k W, Calls Try.prog 104 #[.agg #[.int .i64 c.f, .int .i64 c.o, .int .i64 c.t], .int .i64 k] W fun e w' => e = .returned (.bool (touch c k)) ∧ Below W.heap.size W w') := fun k W => touches_any c k W
  have HD : Hid (dis a c = (touch c a.f || touch c a.o || touch c a.t)) := rfl
  rw [HD.out]
  have hx : ∀ k, touch c k = touch c k := fun _ => rfl
  cases h1 : touch c a.f <;> cases h2 : touch c a.o <;> cases h3 : touch c a.t
  all_goals
    have T1 := Lib.hid (HT.out a.f)
    have T2 := Lib.hid (HT.out a.o)
    have T3 := Lib.hid (HT.out a.t)
    rw [h1] at T1
    rw [h2] at T2
    rw [h3] at T3
    clear h1 h2 h3 HT HD hx
    go_enter Try.func101, Try.ntmps101
    go_wp2_with (go_at_call 104; first | (with_reducible refine (T1.out _).mono ?_; rintro e w' ⟨rfl, hb⟩; obtain ⟨hc, hf, hz, hy⟩ := bcell hb; clear hy; (try simp only [World.size_alloc, World.size_setCell, World.size_drew] at hz); (try have gQ0 : w.heap.size < w'.heap.size := by omega); (try have gQ1 : w.heap.size + 1 < w'.heap.size := by omega); (try have gQ2 : w.heap.size + 1 + 1 < w'.heap.size := by omega); (try have gQ3 : w.heap.size + 1 + 1 + 1 < w'.heap.size := by omega); (try have gQ4 : w.heap.size + 1 + 1 + 1 + 1 < w'.heap.size := by omega); (try have gQ5 : w.heap.size + 1 + 1 + 1 + 1 + 1 < w'.heap.size := by omega); (try have dQ0 : _ < w'.heap.size := Nat.lt_of_lt_of_le dQ0 (by omega)); (try have dQ1 : _ < w'.heap.size := Nat.lt_of_lt_of_le dQ1 (by omega)); (try have dQ2 : _ < w'.heap.size := Nat.lt_of_lt_of_le dQ2 (by omega)); (try have dQ3 : _ < w'.heap.size := Nat.lt_of_lt_of_le dQ3 (by omega)); (try have dQ4 : _ < w'.heap.size := Nat.lt_of_lt_of_le dQ4 (by omega)); (try have dQ5 : _ < w'.heap.size := Nat.lt_of_lt_of_le dQ5 (by omega)); (try (have hnQ := Nat.lt_of_succ_le hz; first | (have _x := dQ0; first | (have _x := dQ1; first | (have _x := dQ2; first | (have _x := dQ3; first | (have _x := dQ4; have dQ5 := hnQ) | have dQ4 := hnQ) | have dQ3 := hnQ) | have dQ2 := hnQ) | have dQ1 := hnQ) | have dQ0 := hnQ)); (try (have hmQ := Nat.lt_of_succ_lt (Nat.lt_of_succ_le hz); first | (have _x := dQ0; first | (have _x := dQ1; first | (have _x := dQ2; first | (have _x := dQ3; first | (have _x := dQ4; have dQ5 := hmQ) | have dQ4 := hmQ) | have dQ3 := hmQ) | have dQ2 := hmQ) | have dQ1 := hmQ) | have dQ0 := hmQ))) | (with_reducible refine (T2.out _).mono ?_; rintro e w' ⟨rfl, hb⟩; obtain ⟨hc, hf, hz, hy⟩ := bcell hb; clear hy; (try simp only [World.size_alloc, World.size_setCell, World.size_drew] at hz); (try have gQ0 : w.heap.size < w'.heap.size := by omega); (try have gQ1 : w.heap.size + 1 < w'.heap.size := by omega); (try have gQ2 : w.heap.size + 1 + 1 < w'.heap.size := by omega); (try have gQ3 : w.heap.size + 1 + 1 + 1 < w'.heap.size := by omega); (try have gQ4 : w.heap.size + 1 + 1 + 1 + 1 < w'.heap.size := by omega); (try have gQ5 : w.heap.size + 1 + 1 + 1 + 1 + 1 < w'.heap.size := by omega); (try have dQ0 : _ < w'.heap.size := Nat.lt_of_lt_of_le dQ0 (by omega)); (try have dQ1 : _ < w'.heap.size := Nat.lt_of_lt_of_le dQ1 (by omega)); (try have dQ2 : _ < w'.heap.size := Nat.lt_of_lt_of_le dQ2 (by omega)); (try have dQ3 : _ < w'.heap.size := Nat.lt_of_lt_of_le dQ3 (by omega)); (try have dQ4 : _ < w'.heap.size := Nat.lt_of_lt_of_le dQ4 (by omega)); (try have dQ5 : _ < w'.heap.size := Nat.lt_of_lt_of_le dQ5 (by omega)); (try (have hnQ := Nat.lt_of_succ_le hz; first | (have _x := dQ0; first | (have _x := dQ1; first | (have _x := dQ2; first | (have _x := dQ3; first | (have _x := dQ4; have dQ5 := hnQ) | have dQ4 := hnQ) | have dQ3 := hnQ) | have dQ2 := hnQ) | have dQ1 := hnQ) | have dQ0 := hnQ)); (try (have hmQ := Nat.lt_of_succ_lt (Nat.lt_of_succ_le hz); first | (have _x := dQ0; first | (have _x := dQ1; first | (have _x := dQ2; first | (have _x := dQ3; first | (have _x := dQ4; have dQ5 := hmQ) | have dQ4 := hmQ) | have dQ3 := hmQ) | have dQ2 := hmQ) | have dQ1 := hmQ) | have dQ0 := hmQ))) | (with_reducible refine (T3.out _).mono ?_; rintro e w' ⟨rfl, hb⟩; obtain ⟨hc, hf, hz, hy⟩ := bcell hb; clear hy; (try simp only [World.size_alloc, World.size_setCell, World.size_drew] at hz); (try have gQ0 : w.heap.size < w'.heap.size := by omega); (try have gQ1 : w.heap.size + 1 < w'.heap.size := by omega); (try have gQ2 : w.heap.size + 1 + 1 < w'.heap.size := by omega); (try have gQ3 : w.heap.size + 1 + 1 + 1 < w'.heap.size := by omega); (try have gQ4 : w.heap.size + 1 + 1 + 1 + 1 < w'.heap.size := by omega); (try have gQ5 : w.heap.size + 1 + 1 + 1 + 1 + 1 < w'.heap.size := by omega); (try have dQ0 : _ < w'.heap.size := Nat.lt_of_lt_of_le dQ0 (by omega)); (try have dQ1 : _ < w'.heap.size := Nat.lt_of_lt_of_le dQ1 (by omega)); (try have dQ2 : _ < w'.heap.size := Nat.lt_of_lt_of_le dQ2 (by omega)); (try have dQ3 : _ < w'.heap.size := Nat.lt_of_lt_of_le dQ3 (by omega)); (try have dQ4 : _ < w'.heap.size := Nat.lt_of_lt_of_le dQ4 (by omega)); (try have dQ5 : _ < w'.heap.size := Nat.lt_of_lt_of_le dQ5 (by omega)); (try (have hnQ := Nat.lt_of_succ_le hz; first | (have _x := dQ0; first | (have _x := dQ1; first | (have _x := dQ2; first | (have _x := dQ3; first | (have _x := dQ4; have dQ5 := hnQ) | have dQ4 := hnQ) | have dQ3 := hnQ) | have dQ2 := hnQ) | have dQ1 := hnQ) | have dQ0 := hnQ)); (try (have hmQ := Nat.lt_of_succ_lt (Nat.lt_of_succ_le hz); first | (have _x := dQ0; first | (have _x := dQ1; first | (have _x := dQ2; first | (have _x := dQ3; first | (have _x := dQ4; have dQ5 := hmQ) | have dQ4 := hmQ) | have dQ3 := hmQ) | have dQ2 := hmQ) | have dQ1 := hmQ) | have dQ0 := hmQ))))
    all_goals go_ret
    all_goals exact ⟨rfl, by (repeat' first | (with_reducible exact Below.refl _ _) | (with_reducible refine Below.alloc ?_ ?_ _) | (with_reducible refine Below.drew ?_) | (with_reducible refine Below.setCell ?_ ?_ _) | (with_reducible refine below_via (by assumption) ?_ ?_) | go_size)⟩
set_option maxRecDepth 100000 in
theorem CompareJumps_any (a c : Ln) (w : World) :
    Calls Try.prog 89 #[.agg #[.int .i64 a.f, .int .i64 a.o, .int .i64 a.t], .agg #[.int .i64 c.f, .int .i64 c.o, .int .i64 c.t]] w fun e w' => e = .returned (.int .i64 (cmpJ a c)) ∧ Below w.heap.size w w' := by
  by_cases h1 : a.f < c.f
  · go_enter Try.func89, Try.ntmps89
    go_wp2_with fail
    all_goals go_ret
    all_goals exact ⟨by simp [cmpJ, jlt, h1] <;> (first | rfl | (rw [if_neg (by omega)]; simp [*])), by (repeat' first | (with_reducible exact Below.refl _ _) | (with_reducible refine Below.alloc ?_ ?_ _) | (with_reducible refine Below.drew ?_) | (with_reducible refine Below.setCell ?_ ?_ _) | (with_reducible refine below_via (by assumption) ?_ ?_) | go_size)⟩
  · by_cases h2 : a.f = c.f
    · by_cases h3 : a.t < c.t
      · go_enter Try.func89, Try.ntmps89
        go_wp2_with fail
        all_goals go_ret
        all_goals exact ⟨by simp [cmpJ, jlt, h1, h2, h3] <;> (first | rfl | (rw [if_neg (by omega)]; simp [*])), by (repeat' first | (with_reducible exact Below.refl _ _) | (with_reducible refine Below.alloc ?_ ?_ _) | (with_reducible refine Below.drew ?_) | (with_reducible refine Below.setCell ?_ ?_ _) | (with_reducible refine below_via (by assumption) ?_ ?_) | go_size)⟩
      · by_cases h4 : a.t = c.t
        · go_enter Try.func89, Try.ntmps89
          go_wp2_with fail
          all_goals go_ret
          all_goals exact ⟨by simp [cmpJ, jlt, h1, h2, h3] <;> (first | rfl | (rw [if_neg (by omega)]; simp [*])), by (repeat' first | (with_reducible exact Below.refl _ _) | (with_reducible refine Below.alloc ?_ ?_ _) | (with_reducible refine Below.drew ?_) | (with_reducible refine Below.setCell ?_ ?_ _) | (with_reducible refine below_via (by assumption) ?_ ?_) | go_size)⟩
        · go_enter Try.func89, Try.ntmps89
          go_wp2_with fail
          all_goals go_ret
          all_goals exact ⟨by simp [cmpJ, jlt, h1, h2, h3] <;> (first | rfl | (rw [if_neg (by omega)]; simp [*])), by (repeat' first | (with_reducible exact Below.refl _ _) | (with_reducible refine Below.alloc ?_ ?_ _) | (with_reducible refine Below.drew ?_) | (with_reducible refine Below.setCell ?_ ?_ _) | (with_reducible refine below_via (by assumption) ?_ ?_) | go_size)⟩
    · go_enter Try.func89, Try.ntmps89
      go_wp2_with fail
      all_goals go_ret
      all_goals exact ⟨by simp [cmpJ, jlt, h1, h2] <;> (first | rfl | (rw [if_neg (by omega)]; simp [*])), by (repeat' first | (with_reducible exact Below.refl _ _) | (with_reducible refine Below.alloc ?_ ?_ _) | (with_reducible refine Below.drew ?_) | (with_reducible refine Below.setCell ?_ ?_ _) | (with_reducible refine below_via (by assumption) ?_ ?_) | go_size)⟩
end Go.Proofs.Ytledmebhlmpjaaa
