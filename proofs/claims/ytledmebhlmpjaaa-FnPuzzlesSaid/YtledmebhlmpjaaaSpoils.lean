/- Spoils: contracts of CountSpoils and the reference's. Conditions: numbers in range. -/
import Derived.Test.YtledmebhlmpjaaaReach2
set_option linter.unusedVariables false
set_option linter.unusedSimpArgs false
namespace Peg
def spoilsBy (B : List Bool) (p : Int) (l : Ln) : Bool := canJ p l && !hasB B (flip p l)
def spoilsAt (L : List Ln) (B : List Bool) (p : Int) : Nat := if hasB B p = true then L.countP (spoilsBy B p) else 0
def spoilsTo (L : List Ln) (B : List Bool) (R : List Int) (k : Nat) : Nat := ((R.take k).map (spoilsAt L B)).sum
def spoils (a b o s g : Int) : Int := if puzzleOk a b o s g = true then (spoilsTo (linesOf a b o) (spreadOf a b o g true) (reachList a b o s) (reachList a b o s).length : Int) else 0
theorem countP_take {α : Type} (f : α → Bool) (L : List α) (d : α) (j : Nat) (h : j < L.length) : (L.take (j + 1)).countP f = (L.take j).countP f + (if f (L.getD j d) = true then 1 else 0) := by
  rw [List.take_succ_eq_append_getElem h, List.countP_append]
  simp [List.countP_cons, h]
theorem spoilsTo_succ (L : List Ln) (B : List Bool) (R : List Int) (k : Nat) (h : k < R.length) : spoilsTo L B R (k + 1) = spoilsTo L B R k + spoilsAt L B (R.getD k 0) := by
  unfold spoilsTo
  rw [List.take_succ_eq_append_getElem h, List.map_append, List.sum_append]
  simp [h]
theorem spoilsAt_le (L : List Ln) (B : List Bool) (p : Int) : spoilsAt L B p ≤ L.length := by
  unfold spoilsAt
  split
  · exact List.countP_le_length
  · omega
theorem spoilsTo_le (L : List Ln) (B : List Bool) (R : List Int) (k : Nat) : spoilsTo L B R k ≤ k * L.length := by
  unfold spoilsTo
  have h : ∀ (X : List Int), (X.map (spoilsAt L B)).sum ≤ X.length * L.length := by
    intro X
    induction X with
    | nil => simp
    | cons x r ih =>
      simp only [List.map_cons, List.sum_cons, List.length_cons, Nat.add_mul]
      have := spoilsAt_le L B x
      omega
  refine Nat.le_trans (h _) (Nat.mul_le_mul_right _ ?_)
  simp; omega
theorem linesOf_le (a b o : Int) : (linesOf a b o).length ≤ 196 := by
  have h1 := linesFrom_le a b o (holesOf a b o)
  have h2 := holesOf_length a b o
  have e : linesOf a b o = (holesOf a b o).flatMap (linesFrom a b o) := rfl
  rw [← e] at h1
  omega
end Peg
namespace Go.Proofs.Ytledmebhlmpjaaa
open Go.ChangeShapes Go.WideShapes Go.ChangeAt Go.RowKit Peg Go.Sort
set_option maxHeartbeats 1000000 in
set_option maxRecDepth 100000 in
theorem CountSpoils_any (a b o s g : Int) (hs : s ≤ 9223372036854775807) (hg : g ≤ 9223372036854775807) (w : World) :
    Calls Try.prog 10 #[.agg #[.int .i64 a, .int .i64 b, .int .i64 o, .int .i64 s, .int .i64 g]] w fun e w' => e = .returned (.int .i64 (spoils a b o s g)) ∧ Below w.heap.size w w' := by
  by_cases hpz : puzzleOk a b o s g = true
  rotate_left
  · have HF : Hid (spoils a b o s g = 0) := by show _ = _; simp [spoils, hpz]
    go_enter Try.func10, Try.ntmps10
    go_wp2_with (first | (go_at_call 14; refine (PuzzleOk_any _ _ _ _ _ hs hg _).mono ?_; rintro e w' ⟨rfl, hb⟩; obtain ⟨hc, hf, hz, hy⟩ := bcell hb; clear hy; (try simp only [World.size_alloc, World.size_setCell, World.size_drew] at hz); (try have gQ0 : w.heap.size < w'.heap.size := by omega); (try have gQ1 : w.heap.size + 1 < w'.heap.size := by omega); (try have gQ2 : w.heap.size + 1 + 1 < w'.heap.size := by omega); (try have gQ3 : w.heap.size + 1 + 1 + 1 < w'.heap.size := by omega); (try have gQ4 : w.heap.size + 1 + 1 + 1 + 1 < w'.heap.size := by omega); (try have gQ5 : w.heap.size + 1 + 1 + 1 + 1 + 1 < w'.heap.size := by omega); (try have dQ0 : _ < w'.heap.size := Nat.lt_of_lt_of_le dQ0 (by omega)); (try have dQ1 : _ < w'.heap.size := Nat.lt_of_lt_of_le dQ1 (by omega)); (try have dQ2 : _ < w'.heap.size := Nat.lt_of_lt_of_le dQ2 (by omega)); (try have dQ3 : _ < w'.heap.size := Nat.lt_of_lt_of_le dQ3 (by omega)); (try have dQ4 : _ < w'.heap.size := Nat.lt_of_lt_of_le dQ4 (by omega)); (try have dQ5 : _ < w'.heap.size := Nat.lt_of_lt_of_le dQ5 (by omega)); (try (have hnQ := Nat.lt_of_succ_le hz; first | (have _x := dQ0; first | (have _x := dQ1; first | (have _x := dQ2; first | (have _x := dQ3; first | (have _x := dQ4; have dQ5 := hnQ) | have dQ4 := hnQ) | have dQ3 := hnQ) | have dQ2 := hnQ) | have dQ1 := hnQ) | have dQ0 := hnQ)); (try (have hmQ := Nat.lt_of_succ_lt (Nat.lt_of_succ_le hz); first | (have _x := dQ0; first | (have _x := dQ1; first | (have _x := dQ2; first | (have _x := dQ3; first | (have _x := dQ4; have dQ5 := hmQ) | have dQ4 := hmQ) | have dQ3 := hmQ) | have dQ2 := hmQ) | have dQ1 := hmQ) | have dQ0 := hmQ))) | ((with_reducible refine wp_region_qb ?_ ?_ (fun hq => ?_)); (focus kernel_rfl); (focus kernel_rfl); (repeat (go_big_quiet_step ((first | (go_at_call 14; exact Calls.regrown_of (PuzzleOk_any _ _ _ _ _ hs hg _)))))); refine wpQuiet_nil ?_; intro wq hb; obtain ⟨hc, hf, hz, hy⟩ := bcell hb; clear hq hy; (try simp only [World.size_alloc, World.size_setCell, World.size_drew] at hz); (try have gQ0 : w.heap.size < wq.heap.size := by omega); (try have gQ1 : w.heap.size + 1 < wq.heap.size := by omega); (try have gQ2 : w.heap.size + 1 + 1 < wq.heap.size := by omega); (try have gQ3 : w.heap.size + 1 + 1 + 1 < wq.heap.size := by omega); (try have gQ4 : w.heap.size + 1 + 1 + 1 + 1 < wq.heap.size := by omega); (try have gQ5 : w.heap.size + 1 + 1 + 1 + 1 + 1 < wq.heap.size := by omega); (try have dQ0 : _ < wq.heap.size := Nat.lt_of_lt_of_le dQ0 (by omega)); (try have dQ1 : _ < wq.heap.size := Nat.lt_of_lt_of_le dQ1 (by omega)); (try have dQ2 : _ < wq.heap.size := Nat.lt_of_lt_of_le dQ2 (by omega)); (try have dQ3 : _ < wq.heap.size := Nat.lt_of_lt_of_le dQ3 (by omega)); (try have dQ4 : _ < wq.heap.size := Nat.lt_of_lt_of_le dQ4 (by omega)); (try have dQ5 : _ < wq.heap.size := Nat.lt_of_lt_of_le dQ5 (by omega)); (try (have hnQ := Nat.lt_of_succ_le hz; first | (have _x := dQ0; first | (have _x := dQ1; first | (have _x := dQ2; first | (have _x := dQ3; first | (have _x := dQ4; have dQ5 := hnQ) | have dQ4 := hnQ) | have dQ3 := hnQ) | have dQ2 := hnQ) | have dQ1 := hnQ) | have dQ0 := hnQ)); (try (have hmQ := Nat.lt_of_succ_lt (Nat.lt_of_succ_le hz); first | (have _x := dQ0; first | (have _x := dQ1; first | (have _x := dQ2; first | (have _x := dQ3; first | (have _x := dQ4; have dQ5 := hmQ) | have dQ4 := hmQ) | have dQ3 := hmQ) | have dQ2 := hmQ) | have dQ1 := hmQ) | have dQ0 := hmQ))))
    go_ret
    exact ⟨by rw [HF.out]; rfl, by (repeat' first | (with_reducible exact Below.refl _ _) | (with_reducible refine Below.alloc ?_ ?_ _) | (with_reducible refine Below.drew ?_) | (with_reducible refine Below.setCell ?_ ?_ _) | (with_reducible refine below_via (by assumption) ?_ ?_) | go_size)⟩
  have hpz' := hpz
  simp only [puzzleOk, Bool.and_eq_true] at hpz'
  obtain ⟨⟨hsm, hso⟩, hgo⟩ := hpz'
  have HF : Hid (spoils a b o s g = (spoilsTo (linesOf a b o) (spreadOf a b o g true) (reachList a b o s) (reachList a b o s).length : Int)) := by show _ = _; simp [spoils, hpz]
  have HI : Hid (∀ l ∈ linesOf a b o, LnIn a b l) := fun l hl => linesOf_in hl
  have hN := small_N hsm
  have HR : Hid (∀ x ∈ reachList a b o s, 0 ≤ x ∧ x < 65537) := by
    intro x hx
    have h1 := listOf_mem hx
    have h2 := spreadOf_le a b o s false
    omega
  have hL196 := linesOf_le a b o
  have hRl : (reachList a b o s).length ≤ 65536 := Nat.le_trans (listTo_length _ _) (spreadOf_le a b o s false)
  go_enter Try.func10, Try.ntmps10
  go_wp2_with (first | (go_at_call 14; refine (PuzzleOk_any _ _ _ _ _ hs hg _).mono ?_; rintro e w' ⟨rfl, hb⟩; obtain ⟨hc, hf, hz, hy⟩ := bcell hb; clear hy; (try simp only [World.size_alloc, World.size_setCell, World.size_drew] at hz); (try have gQ0 : w.heap.size < w'.heap.size := by omega); (try have gQ1 : w.heap.size + 1 < w'.heap.size := by omega); (try have gQ2 : w.heap.size + 1 + 1 < w'.heap.size := by omega); (try have gQ3 : w.heap.size + 1 + 1 + 1 < w'.heap.size := by omega); (try have gQ4 : w.heap.size + 1 + 1 + 1 + 1 < w'.heap.size := by omega); (try have gQ5 : w.heap.size + 1 + 1 + 1 + 1 + 1 < w'.heap.size := by omega); (try have dQ0 : _ < w'.heap.size := Nat.lt_of_lt_of_le dQ0 (by omega)); (try have dQ1 : _ < w'.heap.size := Nat.lt_of_lt_of_le dQ1 (by omega)); (try have dQ2 : _ < w'.heap.size := Nat.lt_of_lt_of_le dQ2 (by omega)); (try have dQ3 : _ < w'.heap.size := Nat.lt_of_lt_of_le dQ3 (by omega)); (try have dQ4 : _ < w'.heap.size := Nat.lt_of_lt_of_le dQ4 (by omega)); (try have dQ5 : _ < w'.heap.size := Nat.lt_of_lt_of_le dQ5 (by omega)); (try (have hnQ := Nat.lt_of_succ_le hz; first | (have _x := dQ0; first | (have _x := dQ1; first | (have _x := dQ2; first | (have _x := dQ3; first | (have _x := dQ4; have dQ5 := hnQ) | have dQ4 := hnQ) | have dQ3 := hnQ) | have dQ2 := hnQ) | have dQ1 := hnQ) | have dQ0 := hnQ)); (try (have hmQ := Nat.lt_of_succ_lt (Nat.lt_of_succ_le hz); first | (have _x := dQ0; first | (have _x := dQ1; first | (have _x := dQ2; first | (have _x := dQ3; first | (have _x := dQ4; have dQ5 := hmQ) | have dQ4 := hmQ) | have dQ3 := hmQ) | have dQ2 := hmQ) | have dQ1 := hmQ) | have dQ0 := hmQ))) | ((with_reducible refine wp_region_qb ?_ ?_ (fun hq => ?_)); (focus kernel_rfl); (focus kernel_rfl); (repeat (go_big_quiet_step ((first | (go_at_call 14; exact Calls.regrown_of (PuzzleOk_any _ _ _ _ _ hs hg _)))))); refine wpQuiet_nil ?_; intro wq hb; obtain ⟨hc, hf, hz, hy⟩ := bcell hb; clear hq hy; (try simp only [World.size_alloc, World.size_setCell, World.size_drew] at hz); (try have gQ0 : w.heap.size < wq.heap.size := by omega); (try have gQ1 : w.heap.size + 1 < wq.heap.size := by omega); (try have gQ2 : w.heap.size + 1 + 1 < wq.heap.size := by omega); (try have gQ3 : w.heap.size + 1 + 1 + 1 < wq.heap.size := by omega); (try have gQ4 : w.heap.size + 1 + 1 + 1 + 1 < wq.heap.size := by omega); (try have gQ5 : w.heap.size + 1 + 1 + 1 + 1 + 1 < wq.heap.size := by omega); (try have dQ0 : _ < wq.heap.size := Nat.lt_of_lt_of_le dQ0 (by omega)); (try have dQ1 : _ < wq.heap.size := Nat.lt_of_lt_of_le dQ1 (by omega)); (try have dQ2 : _ < wq.heap.size := Nat.lt_of_lt_of_le dQ2 (by omega)); (try have dQ3 : _ < wq.heap.size := Nat.lt_of_lt_of_le dQ3 (by omega)); (try have dQ4 : _ < wq.heap.size := Nat.lt_of_lt_of_le dQ4 (by omega)); (try have dQ5 : _ < wq.heap.size := Nat.lt_of_lt_of_le dQ5 (by omega)); (try (have hnQ := Nat.lt_of_succ_le hz; first | (have _x := dQ0; first | (have _x := dQ1; first | (have _x := dQ2; first | (have _x := dQ3; first | (have _x := dQ4; have dQ5 := hnQ) | have dQ4 := hnQ) | have dQ3 := hnQ) | have dQ2 := hnQ) | have dQ1 := hnQ) | have dQ0 := hnQ)); (try (have hmQ := Nat.lt_of_succ_lt (Nat.lt_of_succ_le hz); first | (have _x := dQ0; first | (have _x := dQ1; first | (have _x := dQ2; first | (have _x := dQ3; first | (have _x := dQ4; have dQ5 := hmQ) | have dQ4 := hmQ) | have dQ3 := hmQ) | have dQ2 := hmQ) | have dQ1 := hmQ) | have dQ0 := hmQ))))
  refine (LinesOf_any _ _ _ _).mono ?_
  rintro e w' ⟨vL, rfl, hownL, hb⟩
  obtain ⟨hc, hf, hz, hy⟩ := bcell hb; clear hy; (try simp only [World.size_alloc, World.size_setCell, World.size_drew] at hz); (try have gQ0 : w.heap.size < w'.heap.size := by omega); (try have gQ1 : w.heap.size + 1 < w'.heap.size := by omega); (try have gQ2 : w.heap.size + 1 + 1 < w'.heap.size := by omega); (try have gQ3 : w.heap.size + 1 + 1 + 1 < w'.heap.size := by omega); (try have gQ4 : w.heap.size + 1 + 1 + 1 + 1 < w'.heap.size := by omega); (try have gQ5 : w.heap.size + 1 + 1 + 1 + 1 + 1 < w'.heap.size := by omega); (try have dQ0 : _ < w'.heap.size := Nat.lt_of_lt_of_le dQ0 (by omega)); (try have dQ1 : _ < w'.heap.size := Nat.lt_of_lt_of_le dQ1 (by omega)); (try have dQ2 : _ < w'.heap.size := Nat.lt_of_lt_of_le dQ2 (by omega)); (try have dQ3 : _ < w'.heap.size := Nat.lt_of_lt_of_le dQ3 (by omega)); (try have dQ4 : _ < w'.heap.size := Nat.lt_of_lt_of_le dQ4 (by omega)); (try have dQ5 : _ < w'.heap.size := Nat.lt_of_lt_of_le dQ5 (by omega)); (try (have hnQ := Nat.lt_of_succ_le hz; first | (have _x := dQ0; first | (have _x := dQ1; first | (have _x := dQ2; first | (have _x := dQ3; first | (have _x := dQ4; have dQ5 := hnQ) | have dQ4 := hnQ) | have dQ3 := hnQ) | have dQ2 := hnQ) | have dQ1 := hnQ) | have dQ0 := hnQ)); (try (have hmQ := Nat.lt_of_succ_lt (Nat.lt_of_succ_le hz); first | (have _x := dQ0; first | (have _x := dQ1; first | (have _x := dQ2; first | (have _x := dQ3; first | (have _x := dQ4; have dQ5 := hmQ) | have dQ4 := hmQ) | have dQ3 := hmQ) | have dQ2 := hmQ) | have dQ1 := hmQ) | have dQ0 := hmQ))
  obtain ⟨w2, rfl⟩ : ∃ w2 : World, w2 = w' := ⟨_, rfl⟩
  have HW2 := Lib.hid (show Below w.heap.size w w2 by (repeat' first | (with_reducible exact Below.refl _ _) | (with_reducible refine Below.alloc ?_ ?_ _) | (with_reducible refine Below.drew ?_) | (with_reducible refine Below.setCell ?_ ?_ _) | (with_reducible refine below_via (by assumption) ?_ ?_) | go_size))
  go_wp2_with fail
  refine (spreadOf_any _ _ _ _ _ hg _).mono ?_
  rintro e w' ⟨vB, rfl, hownB, hb⟩
  have hownL3 := hownL.keep hb
  have HW3 := Lib.hid (below_via hb HW2.out (by omega))
  obtain ⟨hc, hf, hz, hy⟩ := bcell hb; clear hy; (try simp only [World.size_alloc, World.size_setCell, World.size_drew] at hz); (try have gQ0 : w.heap.size < w'.heap.size := by omega); (try have gQ1 : w.heap.size + 1 < w'.heap.size := by omega); (try have gQ2 : w.heap.size + 1 + 1 < w'.heap.size := by omega); (try have gQ3 : w.heap.size + 1 + 1 + 1 < w'.heap.size := by omega); (try have gQ4 : w.heap.size + 1 + 1 + 1 + 1 < w'.heap.size := by omega); (try have gQ5 : w.heap.size + 1 + 1 + 1 + 1 + 1 < w'.heap.size := by omega); (try have dQ0 : _ < w'.heap.size := Nat.lt_of_lt_of_le dQ0 (by omega)); (try have dQ1 : _ < w'.heap.size := Nat.lt_of_lt_of_le dQ1 (by omega)); (try have dQ2 : _ < w'.heap.size := Nat.lt_of_lt_of_le dQ2 (by omega)); (try have dQ3 : _ < w'.heap.size := Nat.lt_of_lt_of_le dQ3 (by omega)); (try have dQ4 : _ < w'.heap.size := Nat.lt_of_lt_of_le dQ4 (by omega)); (try have dQ5 : _ < w'.heap.size := Nat.lt_of_lt_of_le dQ5 (by omega)); (try (have hnQ := Nat.lt_of_succ_le hz; first | (have _x := dQ0; first | (have _x := dQ1; first | (have _x := dQ2; first | (have _x := dQ3; first | (have _x := dQ4; have dQ5 := hnQ) | have dQ4 := hnQ) | have dQ3 := hnQ) | have dQ2 := hnQ) | have dQ1 := hnQ) | have dQ0 := hnQ)); (try (have hmQ := Nat.lt_of_succ_lt (Nat.lt_of_succ_le hz); first | (have _x := dQ0; first | (have _x := dQ1; first | (have _x := dQ2; first | (have _x := dQ3; first | (have _x := dQ4; have dQ5 := hmQ) | have dQ4 := hmQ) | have dQ3 := hmQ) | have dQ2 := hmQ) | have dQ1 := hmQ) | have dQ0 := hmQ))
  obtain ⟨w3, rfl⟩ : ∃ w3 : World, w3 = w' := ⟨_, rfl⟩
  go_wp2_with fail
  refine (ReachOf_any _ _ _ _ hs _).mono ?_
  rintro e w' ⟨vR, rfl, hownR, hb⟩
  have hownL4 := hownL3.keep hb
  have hownB4 := hownB.keep hb
  have HW4 := Lib.hid (below_via hb HW3.out (by omega))
  obtain ⟨hc, hf, hz, hy⟩ := bcell hb; clear hy; (try simp only [World.size_alloc, World.size_setCell, World.size_drew] at hz); (try have gQ0 : w.heap.size < w'.heap.size := by omega); (try have gQ1 : w.heap.size + 1 < w'.heap.size := by omega); (try have gQ2 : w.heap.size + 1 + 1 < w'.heap.size := by omega); (try have gQ3 : w.heap.size + 1 + 1 + 1 < w'.heap.size := by omega); (try have gQ4 : w.heap.size + 1 + 1 + 1 + 1 < w'.heap.size := by omega); (try have gQ5 : w.heap.size + 1 + 1 + 1 + 1 + 1 < w'.heap.size := by omega); (try have dQ0 : _ < w'.heap.size := Nat.lt_of_lt_of_le dQ0 (by omega)); (try have dQ1 : _ < w'.heap.size := Nat.lt_of_lt_of_le dQ1 (by omega)); (try have dQ2 : _ < w'.heap.size := Nat.lt_of_lt_of_le dQ2 (by omega)); (try have dQ3 : _ < w'.heap.size := Nat.lt_of_lt_of_le dQ3 (by omega)); (try have dQ4 : _ < w'.heap.size := Nat.lt_of_lt_of_le dQ4 (by omega)); (try have dQ5 : _ < w'.heap.size := Nat.lt_of_lt_of_le dQ5 (by omega)); (try (have hnQ := Nat.lt_of_succ_le hz; first | (have _x := dQ0; first | (have _x := dQ1; first | (have _x := dQ2; first | (have _x := dQ3; first | (have _x := dQ4; have dQ5 := hnQ) | have dQ4 := hnQ) | have dQ3 := hnQ) | have dQ2 := hnQ) | have dQ1 := hnQ) | have dQ0 := hnQ)); (try (have hmQ := Nat.lt_of_succ_lt (Nat.lt_of_succ_le hz); first | (have _x := dQ0; first | (have _x := dQ1; first | (have _x := dQ2; first | (have _x := dQ3; first | (have _x := dQ4; have dQ5 := hmQ) | have dQ4 := hmQ) | have dQ3 := hmQ) | have dQ2 := hmQ) | have dQ1 := hmQ) | have dQ0 := hmQ))
  obtain ⟨w4, rfl⟩ : ∃ w4 : World, w4 = w' := ⟨_, rfl⟩
  generalize linesOf a b o = L at *
  generalize spreadOf a b o g true = B at *
  generalize reachList a b o s = R at *
  obtain ⟨aL, capL, rfl, hnL, hgetL⟩ := hownL4.line
  obtain ⟨aR, capR, rfl, hnR, hgetR⟩ := hownR.int
  have HGL := Lib.hid hgetL
  have HGR := Lib.hid hgetR
  clear hgetL hgetR hownL hownL3 hownB
  obtain ⟨aB, capB, rfl, hnB⟩ := hownB4.boolsSmall
  go_wp2_with fail
  have hLR : R.length * L.length ≤ 65536 * 196 := Nat.mul_le_mul hRl hL196
  go_loopw [5, 29] (fun c i wr => ∃ k : Nat, k ≤ R.length ∧ i = .int .i64 k ∧ c = .int .i64 (spoilsTo L B R k : Nat) ∧ Below w4.heap.size w4 wr) (fun _ i _ => R.length - (intOf i).toNat)
  case atStart => exact ⟨0, by omega, rfl, rfl, Below.refl _ _⟩
  case round =>
    obtain ⟨k, hk, rfl, rfl, hbw⟩ := hrel
    obtain ⟨wo, rfl⟩ : ∃ wo : World, wo = wr := ⟨_, rfl⟩
    have hz4 := hbw.size
    have hcl := spoilsTo_le L B R k
    have hcl2 : k * L.length ≤ R.length * L.length := Nat.mul_le_mul_right _ hk
    by_cases hlt : k < R.length
    · obtain ⟨bR, rfl, hbR1, hbR2, hcR⟩ := HGR.out k hlt
      have hcRw : wo.cell? ⟨bR, k, none⟩ = some (.int .i64 (R.getD k 0)) := (hbw.cell (p := ⟨bR, k, none⟩) hbR2).trans hcR
      clear hcR
      obtain ⟨hp0, hp1⟩ := HR.out _ (getD_mem R k 0 hlt)
      have HS := Lib.hid (spoilsTo_succ L B R k hlt)
      have hownBo := hownB4.keep hbw
      generalize R.getD k 0 = pk at *
      generalize hC : spoilsTo L B R k = C at *
      clear hC
      have HB : Hid (spoilsAt L B pk = if hasB B pk = true then L.countP (spoilsBy B pk) else 0) := rfl
      go_wp2_with fail
      refine (has_any _ pk _ _ _ hownBo).mono ?_
      rintro e w' ⟨rfl, hb⟩
      have hBh := below_via hb hbw (by omega)
      obtain ⟨w5, rfl⟩ : ∃ w5 : World, w5 = w' := ⟨_, rfl⟩
      cases hh : hasB B pk
      · go_wp2_with fail
        go_roundw
        case rel => exact ⟨k + 1, by omega, by go_num, by rw [HS.out, HB.out, hh]; simp, hBh⟩
        case measure => simp [intOf]; omega
      · go_wp2_with fail
        go_loopw [5, 39] (fun c i wr => ∃ j : Nat, j ≤ L.length ∧ i = .int .i64 j ∧ c = .int .i64 ((C + (L.take j).countP (spoilsBy B pk) : Nat) : Int) ∧ Below w4.heap.size w4 wr) (fun _ i _ => L.length - (intOf i).toNat)
        case atStart => exact ⟨0, by omega, rfl, by simp, hBh⟩
        case round =>
          obtain ⟨j, hj, rfl, rfl, hbw2⟩ := hrel
          have hz5 := hbw2.size
          have hcp : (L.take j).countP (spoilsBy B pk) ≤ L.length := Nat.le_trans List.countP_le_length (by simp; omega)
          by_cases hjt : j < L.length
          · obtain ⟨bL, rfl, hbL1, hbL2, hl1, hl2, hl3⟩ := HGL.out j hjt
            have hin := HI.out _ (getD_mem L j Ln0 hjt)
            have hm1 : wr.cell? ⟨bL, j * 3, none⟩ = some (.int .i64 (L.getD j Ln0).f) := (hbw2.cell (p := ⟨bL, j * 3, none⟩) hbL2).trans hl1
            have hm2 : wr.cell? ⟨bL, j * 3 + 1, none⟩ = some (.int .i64 (L.getD j Ln0).o) := (hbw2.cell (p := ⟨bL, j * 3 + 1, none⟩) hbL2).trans hl2
            have hm3 : wr.cell? ⟨bL, j * 3 + 2, none⟩ = some (.int .i64 (L.getD j Ln0).t) := (hbw2.cell (p := ⟨bL, j * 3 + 2, none⟩) hbL2).trans hl3
            clear hl1 hl2 hl3
            have HC := Lib.hid (countP_take (spoilsBy B pk) L Ln0 j hjt)
            have HBy : Hid (spoilsBy B pk (L.getD j Ln0) = (canJ pk (L.getD j Ln0) && !hasB B (Peg.flip pk (L.getD j Ln0)))) := rfl
            have hownBr := (hownB4.keep hbw2).alloc (.cells #[.int .i64 (L.getD j Ln0).f, .int .i64 (L.getD j Ln0).o, .int .i64 (L.getD j Ln0).t] 47)
            generalize L.getD j Ln0 = l at *
            generalize (L.take j).countP (spoilsBy B pk) = D at *
            have HCJ : Hid (∀ W, Calls Try.prog 40 #[.int .i64 pk, .agg #[.int .i64 l.f, .int .i64 l.o, .int .i64 l.t]] W fun e w' => e = .returned (.tuple #[.int .i64 (jumpTo pk l), .bool (canJ pk l)]) ∧ Below W.heap.size W w') := fun W => jumpFrom_any pk l hin.1 hp0 (by omega) W
            cases hcan : canJ pk l
            · rw [hcan] at HBy
              simp only [show jumpTo pk l = pk from by simp [jumpTo, hcan], hcan] at HCJ
              go_wp2_with (go_at_call 40; refine (HCJ.out _).mono ?_; rintro e w' ⟨rfl, hb⟩; obtain ⟨hc, hf, hz, hy⟩ := bcell hb; clear hy; (try simp only [World.size_alloc, World.size_setCell, World.size_drew] at hz); (try have gQ0 : w.heap.size < w'.heap.size := by omega); (try have gQ1 : w.heap.size + 1 < w'.heap.size := by omega); (try have gQ2 : w.heap.size + 1 + 1 < w'.heap.size := by omega); (try have gQ3 : w.heap.size + 1 + 1 + 1 < w'.heap.size := by omega); (try have gQ4 : w.heap.size + 1 + 1 + 1 + 1 < w'.heap.size := by omega); (try have gQ5 : w.heap.size + 1 + 1 + 1 + 1 + 1 < w'.heap.size := by omega); (try have dQ0 : _ < w'.heap.size := Nat.lt_of_lt_of_le dQ0 (by omega)); (try have dQ1 : _ < w'.heap.size := Nat.lt_of_lt_of_le dQ1 (by omega)); (try have dQ2 : _ < w'.heap.size := Nat.lt_of_lt_of_le dQ2 (by omega)); (try have dQ3 : _ < w'.heap.size := Nat.lt_of_lt_of_le dQ3 (by omega)); (try have dQ4 : _ < w'.heap.size := Nat.lt_of_lt_of_le dQ4 (by omega)); (try have dQ5 : _ < w'.heap.size := Nat.lt_of_lt_of_le dQ5 (by omega)); (try (have hnQ := Nat.lt_of_succ_le hz; first | (have _x := dQ0; first | (have _x := dQ1; first | (have _x := dQ2; first | (have _x := dQ3; first | (have _x := dQ4; have dQ5 := hnQ) | have dQ4 := hnQ) | have dQ3 := hnQ) | have dQ2 := hnQ) | have dQ1 := hnQ) | have dQ0 := hnQ)); (try (have hmQ := Nat.lt_of_succ_lt (Nat.lt_of_succ_le hz); first | (have _x := dQ0; first | (have _x := dQ1; first | (have _x := dQ2; first | (have _x := dQ3; first | (have _x := dQ4; have dQ5 := hmQ) | have dQ4 := hmQ) | have dQ3 := hmQ) | have dQ2 := hmQ) | have dQ1 := hmQ) | have dQ0 := hmQ)); have hB6 := below_via hb (hbw2.alloc (by omega) _) (by simp; omega))
              go_roundw
              case rel => exact ⟨j + 1, by omega, by go_num, by rw [HC.out, HBy.out]; simp, hB6⟩
              case measure => simp [intOf]; omega
            · rw [hcan] at HBy
              simp only [show jumpTo pk l = Peg.flip pk l from by simp [jumpTo, hcan], hcan] at HCJ
              generalize Peg.flip pk l = q at *
              go_wp2_with (go_at_call 40; refine (HCJ.out _).mono ?_; rintro e w' ⟨rfl, hb⟩; obtain ⟨hc, hf, hz, hy⟩ := bcell hb; clear hy; (try simp only [World.size_alloc, World.size_setCell, World.size_drew] at hz); (try have gQ0 : w.heap.size < w'.heap.size := by omega); (try have gQ1 : w.heap.size + 1 < w'.heap.size := by omega); (try have gQ2 : w.heap.size + 1 + 1 < w'.heap.size := by omega); (try have gQ3 : w.heap.size + 1 + 1 + 1 < w'.heap.size := by omega); (try have gQ4 : w.heap.size + 1 + 1 + 1 + 1 < w'.heap.size := by omega); (try have gQ5 : w.heap.size + 1 + 1 + 1 + 1 + 1 < w'.heap.size := by omega); (try have dQ0 : _ < w'.heap.size := Nat.lt_of_lt_of_le dQ0 (by omega)); (try have dQ1 : _ < w'.heap.size := Nat.lt_of_lt_of_le dQ1 (by omega)); (try have dQ2 : _ < w'.heap.size := Nat.lt_of_lt_of_le dQ2 (by omega)); (try have dQ3 : _ < w'.heap.size := Nat.lt_of_lt_of_le dQ3 (by omega)); (try have dQ4 : _ < w'.heap.size := Nat.lt_of_lt_of_le dQ4 (by omega)); (try have dQ5 : _ < w'.heap.size := Nat.lt_of_lt_of_le dQ5 (by omega)); (try (have hnQ := Nat.lt_of_succ_le hz; first | (have _x := dQ0; first | (have _x := dQ1; first | (have _x := dQ2; first | (have _x := dQ3; first | (have _x := dQ4; have dQ5 := hnQ) | have dQ4 := hnQ) | have dQ3 := hnQ) | have dQ2 := hnQ) | have dQ1 := hnQ) | have dQ0 := hnQ)); (try (have hmQ := Nat.lt_of_succ_lt (Nat.lt_of_succ_le hz); first | (have _x := dQ0; first | (have _x := dQ1; first | (have _x := dQ2; first | (have _x := dQ3; first | (have _x := dQ4; have dQ5 := hmQ) | have dQ4 := hmQ) | have dQ3 := hmQ) | have dQ2 := hmQ) | have dQ1 := hmQ) | have dQ0 := hmQ)); have hB6 := below_via hb (hbw2.alloc (by omega) _) (by simp; omega); have hownB6 := hownBr.keep hb)
              refine (has_any _ q _ _ _ hownB6).mono ?_
              rintro e w' ⟨rfl, hb⟩
              have hB7 := below_via hb hB6 (by omega)
              obtain ⟨w7, rfl⟩ : ∃ w7 : World, w7 = w' := ⟨_, rfl⟩
              cases hh2 : hasB B q
              · go_wp2_with fail
                go_roundw
                case rel => exact ⟨j + 1, by omega, by go_num, by rw [HC.out, HBy.out, hh2]; simp; omega, hB7⟩
                case measure => simp [intOf]; omega
              · go_wp2_with fail
                go_roundw
                case rel => exact ⟨j + 1, by omega, by go_num, by rw [HC.out, HBy.out, hh2]; simp, hB7⟩
                case measure => simp [intOf]; omega
          · obtain rfl : j = L.length := by omega
            rw [List.take_length]
            go_wp2_with fail
            go_roundw
            case rel => exact ⟨k + 1, by omega, by go_num, by rw [HS.out, HB.out, hh]; simp, hbw2⟩
            case measure => simp [intOf]; omega
    · obtain rfl : k = R.length := by omega
      go_wp2_with fail
      go_ret
      exact ⟨by rw [HF.out]; rfl, HW4.out.trans (hbw.mono (by omega))⟩
end Go.Proofs.Ytledmebhlmpjaaa
