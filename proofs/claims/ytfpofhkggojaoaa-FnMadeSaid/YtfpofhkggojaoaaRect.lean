/- Rect: contract of Rectangle at the sides that the laws use. Conditions: width 3 or 4, height 3. -/
import Derived.Test.YtfpofhkggojaoaaBeside
set_option linter.unusedVariables false
set_option linter.unusedSimpArgs false
namespace Go.Proofs.Ytfpofhkggojaoaa
open Go.ChangeShapes Go.WideShapes Go.ChangeAt Go.RowKit Peg Go.Sort
theorem Rectangle_3 (w : World) :
    Calls Try.prog 42 #[.int .i64 3, .int .i64 3] w fun e w' => e = .returned (.agg #[.int .i64 3, .int .i64 3, .int .i64 511]) ∧ Below w.heap.size w w' := by
  have HI : Hid (∀ W, Calls Try.prog 125 #[.int .i64 3, .int .i64 1, .int .i64 7] W fun e w' => e = .returned (.bool true) ∧ W = w') := fun W => within_any 3 1 7 W
  go_enter Try.func42, Try.ntmps42
  go_wp2_with (go_at_call 125; refine (HI.out _).mono ?_; rintro e w' ⟨rfl, rfl⟩)
  all_goals ((try simp only [Exit.inBlock, Exit.then]); refine bodyPost_ret (v := .agg #[.int .i64 3, .int .i64 3, .int .i64 511]) (by simp [results, Try.results42, go_sem, *]) rfl ⟨rfl, by (repeat' first | (with_reducible exact Below.refl _ _) | (with_reducible refine Below.alloc ?_ ?_ _) | (with_reducible refine Below.drew ?_) | (with_reducible refine Below.setCell ?_ ?_ _) | (with_reducible refine below_via (by assumption) ?_ ?_) | go_size)⟩)
theorem Rectangle_4 (w : World) :
    Calls Try.prog 42 #[.int .i64 4, .int .i64 3] w fun e w' => e = .returned (.agg #[.int .i64 4, .int .i64 3, .int .i64 4095]) ∧ Below w.heap.size w w' := by
  have HI : Hid (∀ W, Calls Try.prog 125 #[.int .i64 3, .int .i64 1, .int .i64 7] W fun e w' => e = .returned (.bool true) ∧ W = w') := fun W => within_any 3 1 7 W
  have HJ : Hid (∀ W, Calls Try.prog 125 #[.int .i64 4, .int .i64 1, .int .i64 7] W fun e w' => e = .returned (.bool true) ∧ W = w') := fun W => within_any 4 1 7 W
  go_enter Try.func42, Try.ntmps42
  go_wp2_with (go_at_call 125; first | ((with_reducible refine (HI.out _).mono ?_); rintro e w' ⟨rfl, rfl⟩) | ((with_reducible refine (HJ.out _).mono ?_); rintro e w' ⟨rfl, rfl⟩))
  all_goals ((try simp only [Exit.inBlock, Exit.then]); refine bodyPost_ret (v := .agg #[.int .i64 4, .int .i64 3, .int .i64 4095]) (by simp [results, Try.results42, go_sem, *]) rfl ⟨rfl, by (repeat' first | (with_reducible exact Below.refl _ _) | (with_reducible refine Below.alloc ?_ ?_ _) | (with_reducible refine Below.drew ?_) | (with_reducible refine Below.setCell ?_ ?_ _) | (with_reducible refine below_via (by assumption) ?_ ?_) | go_size)⟩)
def recO (a : Int) : Int := if a = 3 then 511 else 4095
theorem Rectangle_34 (a : Int) (h : a = 3 ∨ a = 4) (w : World) :
    Calls Try.prog 42 #[.int .i64 a, .int .i64 3] w fun e w' => e = .returned (.agg #[.int .i64 a, .int .i64 3, .int .i64 (recO a)]) ∧ Below w.heap.size w w' := by
  rcases h with rfl | rfl
  · exact Rectangle_3 w
  · exact Rectangle_4 w
theorem recO_small {a : Int} (h : a = 3 ∨ a = 4) : isSmall a 3 (recO a) = true := by
  rcases h with rfl | rfl <;> decide
theorem recO_hole {a : Int} (h : a = 3 ∨ a = 4) {k : Int} (h0 : 0 ≤ k) (h1 : k < 9) : hasHole a 3 (recO a) k = true := by
  obtain ⟨n, rfl⟩ : ∃ n : Nat, k = n := ⟨k.toNat, by omega⟩
  have key : ∀ n : Nat, n < 9 → hasHole 3 3 (recO 3) (n : Int) = true ∧ hasHole 4 3 (recO 4) (n : Int) = true := by decide
  rcases h with rfl | rfl
  · exact (key n (by omega)).1
  · exact (key n (by omega)).2
end Go.Proofs.Ytfpofhkggojaoaa
