/- EntL: contracts of the laws' own functions on one entrant. Conditions: lengths in range. -/
import Derived.Test.YtikmacjeeaklmaaEnt
import Derived.Test.YtikmacjeeaklmaaOpenE
set_option linter.unusedVariables false
set_option linter.unusedSimpArgs false
namespace Go.Proofs.Ytikmacjeeaklmaa
open Go.ChangeShapes Go.WideShapes Go.ChangeAt Go.RowKit Peg Go.Sort
def RetEntrant (w : World) (e : Ent) (en : Ending) (w' : World) : Prop := ∃ vr, en = .returned (.agg #[.int .i64 e.n, vr]) ∧ Own EResult w' w.heap.size vr e.rs ∧ Below w.heap.size w w'
set_option maxRecDepth 100000 in
theorem szEntrant_any (v : Value) (e : Ent) (left : Int) (h0 : 0 ≤ left) (h1 : left ≤ 1048576) (w : World) (hv : EntArg w v e) :
    Calls Try.prog 101 #[v, .int .i64 left] w fun en w' => en = .returned (.int .i64 (if (e.rs.length : Int) ≤ left then left - e.rs.length else -1)) ∧ Below w.heap.size w w' := by
  obtain ⟨vr, rfl, hr⟩ := hv
  have hr1 := Lib.hid (hr.keep ((Below.refl _ _).alloc (Nat.le_refl _) (.cells #[.int .i64 e.n, vr] 112)))
  clear hr
  by_cases h : (e.rs.length : Int) ≤ left
  · rw [if_pos h]
    go_enter Try.func101, Try.ntmps101
    go_wp2_with fail
    refine (szResultS_any _ _ _ h0 h1 _ hr1.out).mono ?_
    rw [if_pos h]
    rintro e w' ⟨rfl, rfl⟩
    go_wp2_with fail
    all_goals go_ret
    all_goals exact ⟨by simp, by (repeat' first | (with_reducible exact Below.refl _ _) | (with_reducible refine Below.alloc ?_ ?_ _) | (with_reducible refine Below.drew ?_) | (with_reducible refine Below.setCell ?_ ?_ _) | (with_reducible refine below_via (by assumption) ?_ ?_) | go_size)⟩
  · rw [if_neg h]
    have H := Lib.hid h
    go_enter Try.func101, Try.ntmps101
    go_wp2_with fail
    refine (szResultS_any _ _ _ h0 h1 _ hr1.out).mono ?_
    rw [if_neg (by have := H.out; omega)]
    rintro e w' ⟨rfl, rfl⟩
    go_wp2_with fail
    all_goals go_ret
    all_goals exact ⟨by simp, by (repeat' first | (with_reducible exact Below.refl _ _) | (with_reducible refine Below.alloc ?_ ?_ _) | (with_reducible refine Below.drew ?_) | (with_reducible refine Below.setCell ?_ ?_ _) | (with_reducible refine below_via (by assumption) ?_ ?_) | go_size)⟩
set_option maxRecDepth 100000 in
theorem toEntrant_any (v : Value) (e : Ent) (hl : e.rs.length ≤ 1048576) (w : World) (hv : EntArg w v e) :
    Calls Try.prog 104 #[v] w (RetEntrant w e) := by
  obtain ⟨vr, rfl, hr⟩ := hv
  have hr1 := Lib.hid (fun w' (hb : Below w.heap.size w w') => hr.keep hb)
  clear hr
  go_enter Try.func104, Try.ntmps104
  go_wp2_with fail
  refine (toResultS_any _ _ _ (hr1.out _ (by (repeat' first | (with_reducible exact Below.refl _ _) | (with_reducible refine Below.alloc ?_ ?_ _) | (with_reducible refine Below.drew ?_) | (with_reducible refine Below.setCell ?_ ?_ _) | (with_reducible refine below_via (by assumption) ?_ ?_) | go_size))) hl).mono ?_
  rintro e' w' ⟨x1, rfl, ho, hb⟩
  have hO := Lib.hid ho
  obtain ⟨a1, c1, rfl, _, _⟩ := ho.resultG
  have hB := Lib.hid (show Below w.heap.size w w' by (repeat' first | (with_reducible exact Below.refl _ _) | (with_reducible refine Below.alloc ?_ ?_ _) | (with_reducible refine Below.drew ?_) | (with_reducible refine Below.setCell ?_ ?_ _) | (with_reducible refine below_via (by assumption) ?_ ?_) | go_size))
  clear ho
  obtain ⟨hc, hf, hz, hy⟩ := bcell hb; clear hy; (try simp only [World.size_alloc, World.size_setCell, World.size_drew] at hz); (try have gQ0 : w.heap.size < w'.heap.size := by omega); (try have gQ1 : w.heap.size + 1 < w'.heap.size := by omega); (try have gQ2 : w.heap.size + 1 + 1 < w'.heap.size := by omega); (try have gQ3 : w.heap.size + 1 + 1 + 1 < w'.heap.size := by omega); (try have gQ4 : w.heap.size + 1 + 1 + 1 + 1 < w'.heap.size := by omega); (try have gQ5 : w.heap.size + 1 + 1 + 1 + 1 + 1 < w'.heap.size := by omega); (try have dQ0 : _ < w'.heap.size := Nat.lt_of_lt_of_le dQ0 (by omega)); (try have dQ1 : _ < w'.heap.size := Nat.lt_of_lt_of_le dQ1 (by omega)); (try have dQ2 : _ < w'.heap.size := Nat.lt_of_lt_of_le dQ2 (by omega)); (try have dQ3 : _ < w'.heap.size := Nat.lt_of_lt_of_le dQ3 (by omega)); (try have dQ4 : _ < w'.heap.size := Nat.lt_of_lt_of_le dQ4 (by omega)); (try have dQ5 : _ < w'.heap.size := Nat.lt_of_lt_of_le dQ5 (by omega)); (try (have hnQ := Nat.lt_of_succ_le hz; first | (have _x := dQ0; first | (have _x := dQ1; first | (have _x := dQ2; first | (have _x := dQ3; first | (have _x := dQ4; have dQ5 := hnQ) | have dQ4 := hnQ) | have dQ3 := hnQ) | have dQ2 := hnQ) | have dQ1 := hnQ) | have dQ0 := hnQ)); (try (have hmQ := Nat.lt_of_succ_lt (Nat.lt_of_succ_le hz); first | (have _x := dQ0; first | (have _x := dQ1; first | (have _x := dQ2; first | (have _x := dQ3; first | (have _x := dQ4; have dQ5 := hmQ) | have dQ4 := hmQ) | have dQ3 := hmQ) | have dQ2 := hmQ) | have dQ1 := hmQ) | have dQ0 := hmQ))
  have s0 : (w'.cell? ⟨w.heap.size + 1 + 1, 1, none⟩).isSome = true := by simp [go_sem, *]
  have f0 : ∀ j, w'.frozen? ⟨w.heap.size + 1 + 1, j, none⟩ = false := fun j => by simp [go_sem, *]
  have s1 : w'.cell? ⟨w.heap.size + 1 + 1, 0, none⟩ = some (.int .i64 e.n) := by simp [go_sem, *]
  have t0 : (w'.cell? ⟨w.heap.size + 1, 0, none⟩).isSome = true := by simp [go_sem, *]
  have t1 : (w'.cell? ⟨w.heap.size + 1, 1, none⟩).isSome = true := by simp [go_sem, *]
  have f1 : ∀ j, w'.frozen? ⟨w.heap.size + 1, j, none⟩ = false := fun j => by simp [go_sem, *]
  obtain ⟨u0, s0⟩ := Option.isSome_iff_exists.1 s0
  obtain ⟨v0, t0⟩ := Option.isSome_iff_exists.1 t0
  obtain ⟨v1, t1⟩ := Option.isSome_iff_exists.1 t1
  clear hc hf
  go_wp2_with fail
  (try simp only [Exit.inBlock, Exit.then]); refine bodyPost_ret (v := .agg #[.int .i64 e.n, .slice a1 e.rs.length c1]) (by simp [results, Try.results104, go_sem, *]) rfl ⟨_, rfl, ?_, ?_⟩
  · exact (((hO.out.setLow (by simp only [World.size_alloc]; omega) _).setLow (by simp only [World.size_alloc]; omega) _).setLow (by simp only [World.size_alloc]; omega) _).mono (by simp only [World.size_alloc]; omega)
  · have := hB.out; (repeat' first | (with_reducible exact Below.refl _ _) | (with_reducible refine Below.alloc ?_ ?_ _) | (with_reducible refine Below.drew ?_) | (with_reducible refine Below.setCell ?_ ?_ _) | (with_reducible refine below_via (by assumption) ?_ ?_) | go_size)
set_option maxRecDepth 100000 in
theorem eqEntrant_same (n : Int) (rs : List Rs) (v1 v2 : Value) (w : World) {B1 B2 : Nat} (h1 : Own EResult w B1 v1 rs) (h2 : Own EResult w B2 v2 rs) :
    Calls Try.prog 107 #[.agg #[.int .i64 n, v1], .agg #[.int .i64 n, v2]] w fun e w' => e = .returned (.bool true) ∧ Below w.heap.size w w' := by
  have hb0 : Below w.heap.size w ((w.alloc (.cells #[.int .i64 n, v1] 117)).alloc (.cells #[.int .i64 n, v2] 117)) := by (repeat' first | (with_reducible exact Below.refl _ _) | (with_reducible refine Below.alloc ?_ ?_ _) | (with_reducible refine Below.drew ?_) | (with_reducible refine Below.setCell ?_ ?_ _) | (with_reducible refine below_via (by assumption) ?_ ?_) | go_size)
  have H1 := Lib.hid (h1.keep hb0)
  have H2 := Lib.hid (h2.keep hb0)
  clear h1 h2 hb0
  go_enter Try.func107, Try.ntmps107
  go_wp2_with (go_at_call 153; refine (eqResultS_same _ _ _ _ H1.out H2.out).mono ?_; rintro e w' ⟨rfl, hb⟩; obtain ⟨hc, hf, hz, hy⟩ := bcell hb; clear hy; (try simp only [World.size_alloc, World.size_setCell, World.size_drew] at hz); (try have gQ0 : w.heap.size < w'.heap.size := by omega); (try have gQ1 : w.heap.size + 1 < w'.heap.size := by omega); (try have gQ2 : w.heap.size + 1 + 1 < w'.heap.size := by omega); (try have gQ3 : w.heap.size + 1 + 1 + 1 < w'.heap.size := by omega); (try have gQ4 : w.heap.size + 1 + 1 + 1 + 1 < w'.heap.size := by omega); (try have gQ5 : w.heap.size + 1 + 1 + 1 + 1 + 1 < w'.heap.size := by omega); (try have dQ0 : _ < w'.heap.size := Nat.lt_of_lt_of_le dQ0 (by omega)); (try have dQ1 : _ < w'.heap.size := Nat.lt_of_lt_of_le dQ1 (by omega)); (try have dQ2 : _ < w'.heap.size := Nat.lt_of_lt_of_le dQ2 (by omega)); (try have dQ3 : _ < w'.heap.size := Nat.lt_of_lt_of_le dQ3 (by omega)); (try have dQ4 : _ < w'.heap.size := Nat.lt_of_lt_of_le dQ4 (by omega)); (try have dQ5 : _ < w'.heap.size := Nat.lt_of_lt_of_le dQ5 (by omega)); (try (have hnQ := Nat.lt_of_succ_le hz; first | (have _x := dQ0; first | (have _x := dQ1; first | (have _x := dQ2; first | (have _x := dQ3; first | (have _x := dQ4; have dQ5 := hnQ) | have dQ4 := hnQ) | have dQ3 := hnQ) | have dQ2 := hnQ) | have dQ1 := hnQ) | have dQ0 := hnQ)); (try (have hmQ := Nat.lt_of_succ_lt (Nat.lt_of_succ_le hz); first | (have _x := dQ0; first | (have _x := dQ1; first | (have _x := dQ2; first | (have _x := dQ3; first | (have _x := dQ4; have dQ5 := hmQ) | have dQ4 := hmQ) | have dQ3 := hmQ) | have dQ2 := hmQ) | have dQ1 := hmQ) | have dQ0 := hmQ)))
  all_goals go_ret
  all_goals exact ⟨by simp, by (repeat' first | (with_reducible exact Below.refl _ _) | (with_reducible refine Below.alloc ?_ ?_ _) | (with_reducible refine Below.drew ?_) | (with_reducible refine Below.setCell ?_ ?_ _) | (with_reducible refine below_via (by assumption) ?_ ?_) | go_size)⟩
end Go.Proofs.Ytikmacjeeaklmaa
