/- Diff: contracts of DifficultyOf and the reference's. Conditions: numbers in range. -/
import Derived.Test.YtledmebhlmpjaaaPop
import Derived.Test.YtledmebhlmpjaaaSSpoils
import Derived.Test.YtledmebhlmpjaaaPzV
set_option linter.unusedVariables false
set_option linter.unusedSimpArgs false
namespace Peg
def difficulty (a b o s g : Int) : Int := if isSolvable a b o s g = true then spoils a b o s g + pegs s - pegs g else -1
theorem spoils_bd (a b o s g : Int) : 0 ≤ spoils a b o s g ∧ spoils a b o s g ≤ 12845056 := by
  unfold spoils
  split
  · have h1 := spoilsTo_le (linesOf a b o) (spreadOf a b o g true) (reachList a b o s) (reachList a b o s).length
    have h2 := linesOf_le a b o
    have h3 : (reachList a b o s).length ≤ 65536 := by
      have h4 := spreadOf_le a b o s false
      have h5 := listTo_length (spreadOf a b o s false) (spreadOf a b o s false).length
      have : (reachList a b o s).length = (listTo (spreadOf a b o s false) (spreadOf a b o s false).length).length := rfl
      omega
    have h6 : (reachList a b o s).length * (linesOf a b o).length ≤ 65536 * 196 := Nat.mul_le_mul h3 h2
    omega
  · omega
end Peg
namespace Go.Proofs.Ytledmebhlmpjaaa
open Go.ChangeShapes Go.WideShapes Go.ChangeAt Go.RowKit Peg Go.Sort
set_option maxHeartbeats 1000000 in
set_option maxRecDepth 100000 in
theorem DifficultyOf_any (a b o s g : Int) (hs : s ≤ 9223372036854775807) (hg : g ≤ 9223372036854775807) (w : World) :
    Calls Try.prog 11 #[.agg #[.int .i64 a, .int .i64 b, .int .i64 o, .int .i64 s, .int .i64 g]] w fun e w' => e = .returned (.int .i64 (difficulty a b o s g)) ∧ Below w.heap.size w w' := by
  have H1 : Hid (∀ W, Calls Try.prog 15 #[.agg #[.int .i64 a, .int .i64 b, .int .i64 o, .int .i64 s, .int .i64 g]] W fun e w' => e = .returned (.bool (isSolvable a b o s g)) ∧ Below W.heap.size W w') := fun W => IsSolvable_any a b o s g hs hg W
  have H2 : Hid (∀ W, Calls Try.prog 10 #[.agg #[.int .i64 a, .int .i64 b, .int .i64 o, .int .i64 s, .int .i64 g]] W fun e w' => e = .returned (.int .i64 (spoils a b o s g)) ∧ Below W.heap.size W w') := fun W => CountSpoils_any a b o s g hs hg W
  cases hsol : isSolvable a b o s g
  · have HE : Hid (difficulty a b o s g = -1) := by show _ = _; simp [difficulty, hsol]
    rw [hsol] at H1
    clear hsol
    go_enter Try.func11, Try.ntmps11
    go_wp2_with (go_at_call 15; refine (H1.out _).mono ?_; rintro e w' ⟨rfl, hb⟩; obtain ⟨hc, hf, hz, hy⟩ := bcell hb; clear hy; (try simp only [World.size_alloc, World.size_setCell, World.size_drew] at hz); (try have gQ0 : w.heap.size < w'.heap.size := by omega); (try have gQ1 : w.heap.size + 1 < w'.heap.size := by omega); (try have gQ2 : w.heap.size + 1 + 1 < w'.heap.size := by omega); (try have gQ3 : w.heap.size + 1 + 1 + 1 < w'.heap.size := by omega); (try have gQ4 : w.heap.size + 1 + 1 + 1 + 1 < w'.heap.size := by omega); (try have gQ5 : w.heap.size + 1 + 1 + 1 + 1 + 1 < w'.heap.size := by omega); (try have dQ0 : _ < w'.heap.size := Nat.lt_of_lt_of_le dQ0 (by omega)); (try have dQ1 : _ < w'.heap.size := Nat.lt_of_lt_of_le dQ1 (by omega)); (try have dQ2 : _ < w'.heap.size := Nat.lt_of_lt_of_le dQ2 (by omega)); (try have dQ3 : _ < w'.heap.size := Nat.lt_of_lt_of_le dQ3 (by omega)); (try have dQ4 : _ < w'.heap.size := Nat.lt_of_lt_of_le dQ4 (by omega)); (try have dQ5 : _ < w'.heap.size := Nat.lt_of_lt_of_le dQ5 (by omega)); (try (have hnQ := Nat.lt_of_succ_le hz; first | (have _x := dQ0; first | (have _x := dQ1; first | (have _x := dQ2; first | (have _x := dQ3; first | (have _x := dQ4; have dQ5 := hnQ) | have dQ4 := hnQ) | have dQ3 := hnQ) | have dQ2 := hnQ) | have dQ1 := hnQ) | have dQ0 := hnQ)); (try (have hmQ := Nat.lt_of_succ_lt (Nat.lt_of_succ_le hz); first | (have _x := dQ0; first | (have _x := dQ1; first | (have _x := dQ2; first | (have _x := dQ3; first | (have _x := dQ4; have dQ5 := hmQ) | have dQ4 := hmQ) | have dQ3 := hmQ) | have dQ2 := hmQ) | have dQ1 := hmQ) | have dQ0 := hmQ)))
    all_goals go_ret
    all_goals exact ⟨by simp [HE.out], by (repeat' first | (with_reducible exact Below.refl _ _) | (with_reducible refine Below.alloc ?_ ?_ _) | (with_reducible refine Below.drew ?_) | (with_reducible refine Below.setCell ?_ ?_ _) | (with_reducible refine below_via (by assumption) ?_ ?_) | go_size)⟩
  have HE : Hid (difficulty a b o s g = spoils a b o s g + pegs s - pegs g) := by show _ = _; simp [difficulty, hsol]
  have hsol' := hsol
  simp only [isSolvable, puzzleOk, Bool.and_eq_true] at hsol'
  have hsb := pos_lt hsol'.1.1.2
  have hgb := pos_lt hsol'.1.2
  have H3 : Hid (∀ W, Calls Try.prog 41 #[.int .i64 s] W fun e w' => e = .returned (.int .i64 (pegs s : Nat)) ∧ Below W.heap.size W w') := fun W => (pegsIn_any s hsb.1 hsb.2 W).mono fun e w' h => ⟨h.1, h.2 ▸ Below.refl _ _⟩
  have H4 : Hid (∀ W, Calls Try.prog 41 #[.int .i64 g] W fun e w' => e = .returned (.int .i64 (pegs g : Nat)) ∧ Below W.heap.size W w') := fun W => (pegsIn_any g hgb.1 hgb.2 W).mono fun e w' h => ⟨h.1, h.2 ▸ Below.refl _ _⟩
  have hd := spoils_bd a b o s g
  have hp1 := pegs_le s
  have hp2 := pegs_le g
  rw [hsol] at H1
  rw [HE.out]
  clear hsol hsol' HE hs hg hsb hgb
  generalize spoils a b o s g = S at *
  generalize pegs s = ps at *
  generalize pegs g = pg at *
  go_enter Try.func11, Try.ntmps11
  go_wp2_with (first | (go_at_call 15; refine (H1.out _).mono ?_; rintro e w' ⟨rfl, hb⟩; obtain ⟨hc, hf, hz, hy⟩ := bcell hb; clear hy; (try simp only [World.size_alloc, World.size_setCell, World.size_drew] at hz); (try have gQ0 : w.heap.size < w'.heap.size := by omega); (try have gQ1 : w.heap.size + 1 < w'.heap.size := by omega); (try have gQ2 : w.heap.size + 1 + 1 < w'.heap.size := by omega); (try have gQ3 : w.heap.size + 1 + 1 + 1 < w'.heap.size := by omega); (try have gQ4 : w.heap.size + 1 + 1 + 1 + 1 < w'.heap.size := by omega); (try have gQ5 : w.heap.size + 1 + 1 + 1 + 1 + 1 < w'.heap.size := by omega); (try have dQ0 : _ < w'.heap.size := Nat.lt_of_lt_of_le dQ0 (by omega)); (try have dQ1 : _ < w'.heap.size := Nat.lt_of_lt_of_le dQ1 (by omega)); (try have dQ2 : _ < w'.heap.size := Nat.lt_of_lt_of_le dQ2 (by omega)); (try have dQ3 : _ < w'.heap.size := Nat.lt_of_lt_of_le dQ3 (by omega)); (try have dQ4 : _ < w'.heap.size := Nat.lt_of_lt_of_le dQ4 (by omega)); (try have dQ5 : _ < w'.heap.size := Nat.lt_of_lt_of_le dQ5 (by omega)); (try (have hnQ := Nat.lt_of_succ_le hz; first | (have _x := dQ0; first | (have _x := dQ1; first | (have _x := dQ2; first | (have _x := dQ3; first | (have _x := dQ4; have dQ5 := hnQ) | have dQ4 := hnQ) | have dQ3 := hnQ) | have dQ2 := hnQ) | have dQ1 := hnQ) | have dQ0 := hnQ)); (try (have hmQ := Nat.lt_of_succ_lt (Nat.lt_of_succ_le hz); first | (have _x := dQ0; first | (have _x := dQ1; first | (have _x := dQ2; first | (have _x := dQ3; first | (have _x := dQ4; have dQ5 := hmQ) | have dQ4 := hmQ) | have dQ3 := hmQ) | have dQ2 := hmQ) | have dQ1 := hmQ) | have dQ0 := hmQ))) | ((with_reducible refine wp_region_qb ?_ ?_ (fun hq => ?_)); (focus kernel_rfl); (focus kernel_rfl); (repeat (go_big_quiet_step ((first | (go_at_call 10; exact Calls.regrown_of (H2.out _)) | (go_at_call 41; (first | (with_reducible exact Calls.regrown_of (H3.out _)) | (with_reducible exact Calls.regrown_of (H4.out _)))))))); refine wpQuiet_nil ?_; intro wq hb; obtain ⟨hc, hf, hz, hy⟩ := bcell hb; clear hq hy; (try simp only [World.size_alloc, World.size_setCell, World.size_drew] at hz); (try have gQ0 : w.heap.size < wq.heap.size := by omega); (try have gQ1 : w.heap.size + 1 < wq.heap.size := by omega); (try have gQ2 : w.heap.size + 1 + 1 < wq.heap.size := by omega); (try have gQ3 : w.heap.size + 1 + 1 + 1 < wq.heap.size := by omega); (try have gQ4 : w.heap.size + 1 + 1 + 1 + 1 < wq.heap.size := by omega); (try have gQ5 : w.heap.size + 1 + 1 + 1 + 1 + 1 < wq.heap.size := by omega); (try have dQ0 : _ < wq.heap.size := Nat.lt_of_lt_of_le dQ0 (by omega)); (try have dQ1 : _ < wq.heap.size := Nat.lt_of_lt_of_le dQ1 (by omega)); (try have dQ2 : _ < wq.heap.size := Nat.lt_of_lt_of_le dQ2 (by omega)); (try have dQ3 : _ < wq.heap.size := Nat.lt_of_lt_of_le dQ3 (by omega)); (try have dQ4 : _ < wq.heap.size := Nat.lt_of_lt_of_le dQ4 (by omega)); (try have dQ5 : _ < wq.heap.size := Nat.lt_of_lt_of_le dQ5 (by omega)); (try (have hnQ := Nat.lt_of_succ_le hz; first | (have _x := dQ0; first | (have _x := dQ1; first | (have _x := dQ2; first | (have _x := dQ3; first | (have _x := dQ4; have dQ5 := hnQ) | have dQ4 := hnQ) | have dQ3 := hnQ) | have dQ2 := hnQ) | have dQ1 := hnQ) | have dQ0 := hnQ)); (try (have hmQ := Nat.lt_of_succ_lt (Nat.lt_of_succ_le hz); first | (have _x := dQ0; first | (have _x := dQ1; first | (have _x := dQ2; first | (have _x := dQ3; first | (have _x := dQ4; have dQ5 := hmQ) | have dQ4 := hmQ) | have dQ3 := hmQ) | have dQ2 := hmQ) | have dQ1 := hmQ) | have dQ0 := hmQ))))
  go_ret
  exact ⟨by simp [Int.sub_eq_add_neg], by (repeat' first | (with_reducible exact Below.refl _ _) | (with_reducible refine Below.alloc ?_ ?_ _) | (with_reducible refine Below.drew ?_) | (with_reducible refine Below.setCell ?_ ?_ _) | (with_reducible refine below_via (by assumption) ?_ ?_) | go_size)⟩
end Go.Proofs.Ytledmebhlmpjaaa
