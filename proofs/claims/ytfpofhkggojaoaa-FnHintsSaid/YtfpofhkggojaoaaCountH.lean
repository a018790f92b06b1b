/- CountH: contracts of CountHints and the reference's. Conditions: numbers in range. -/
import Derived.Test.YtfpofhkggojaoaaVerdict
import Derived.Test.YtfpofhkggojaoaaHint
set_option linter.unusedVariables false
set_option linter.unusedSimpArgs false
namespace Peg
theorem hint_step {a b o s g n : Int} (hz : puzzleOk a b o s g = true) (hn : posOk a b o n = true) (hr : reach a b o n g false = true) (hne : n ≠ g) :
    ∃ x r, hints a b o s g n = x :: r ∧ x ∈ linesOf a b o ∧ canJ n x = true ∧ reach a b o (flip n x) g false = true ∧ posOk a b o (flip n x) = true := by
  have hz' := hz
  simp only [puzzleOk, Bool.and_eq_true] at hz'
  obtain ⟨⟨hs, _⟩, hg⟩ := hz'
  have hst := (hasB_iff hs hn).1 hr
  have hh : hints a b o s g n = goodJumps a b o n g := by simp [hints, hz, hn]
  have key : ∀ x, x ∈ goodJumps a b o n g ↔ x ∈ linesOf a b o ∧ canJ n x = true ∧ hasB (spreadOf a b o g true) (flip n x) = true := by
    intro x
    simp [goodJumps, jumpsOf, hn]
    exact fun _ => And.comm
  have hex : ∃ x, x ∈ goodJumps a b o n g := by
    cases hst with
    | refl => exact absurd rfl hne
    | step h1 h2 h3 =>
      refine ⟨_, (key _).2 ⟨h1, h2, ?_⟩⟩
      rw [hasB_iff hs hg]
      exact h3.rev (flip_nonneg _ _)
  obtain ⟨y, hy⟩ := hex
  cases hl : goodJumps a b o n g with
  | nil => rw [hl] at hy; simp at hy
  | cons x r =>
    have hx := (key x).1 (by rw [hl]; simp)
    have hp := posOk_flip hn hx.1
    refine ⟨x, r, by rw [hh, hl], hx.1, hx.2.1, ?_, hp⟩
    rw [← back_iff hs hp hg]
    exact hx.2.2
def countHints (a b o s g : Int) : Int := if isSolvable a b o s g = true then (pegs s : Int) - pegs g else -1
end Peg
namespace Go.Proofs.Ytfpofhkggojaoaa
open Go.ChangeShapes Go.WideShapes Go.ChangeAt Go.RowKit Peg Go.Sort
set_option maxHeartbeats 1000000 in
set_option maxRecDepth 100000 in
theorem CountHints_any (a b o s g : Int) (hs : s ≤ 9223372036854775807) (hg : g ≤ 9223372036854775807) (w : World) :
    Calls Try.prog 22 #[.agg #[.int .i64 a, .int .i64 b, .int .i64 o, .int .i64 s, .int .i64 g]] w fun e w' => e = .returned (.int .i64 (countHints a b o s g)) ∧ Below w.heap.size w w' := by
  have H1 : Hid (∀ W, Calls Try.prog 73 #[.agg #[.int .i64 a, .int .i64 b, .int .i64 o, .int .i64 s, .int .i64 g]] W fun e w' => e = .returned (.bool (isSolvable a b o s g)) ∧ Below W.heap.size W w') := fun W => IsSolvable_any a b o s g hs hg W
  cases hsol : isSolvable a b o s g
  · have HE : Hid (countHints a b o s g = -1) := by show _ = _; simp [countHints, hsol]
    rw [hsol] at H1
    clear hsol
    go_enter Try.func22, Try.ntmps22
    go_wp2_with (go_at_call 73; refine (H1.out _).mono ?_; rintro e w' ⟨rfl, hb⟩; obtain ⟨hc, hf, hz, hy⟩ := bcell hb; clear hy; (try simp only [World.size_alloc, World.size_setCell, World.size_drew] at hz); (try have gQ0 : w.heap.size < w'.heap.size := by omega); (try have gQ1 : w.heap.size + 1 < w'.heap.size := by omega); (try have gQ2 : w.heap.size + 1 + 1 < w'.heap.size := by omega); (try have gQ3 : w.heap.size + 1 + 1 + 1 < w'.heap.size := by omega); (try have gQ4 : w.heap.size + 1 + 1 + 1 + 1 < w'.heap.size := by omega); (try have gQ5 : w.heap.size + 1 + 1 + 1 + 1 + 1 < w'.heap.size := by omega); (try have dQ0 : _ < w'.heap.size := Nat.lt_of_lt_of_le dQ0 (by omega)); (try have dQ1 : _ < w'.heap.size := Nat.lt_of_lt_of_le dQ1 (by omega)); (try have dQ2 : _ < w'.heap.size := Nat.lt_of_lt_of_le dQ2 (by omega)); (try have dQ3 : _ < w'.heap.size := Nat.lt_of_lt_of_le dQ3 (by omega)); (try have dQ4 : _ < w'.heap.size := Nat.lt_of_lt_of_le dQ4 (by omega)); (try have dQ5 : _ < w'.heap.size := Nat.lt_of_lt_of_le dQ5 (by omega)); (try (have hnQ := Nat.lt_of_succ_le hz; first | (have _x := dQ0; first | (have _x := dQ1; first | (have _x := dQ2; first | (have _x := dQ3; first | (have _x := dQ4; have dQ5 := hnQ) | have dQ4 := hnQ) | have dQ3 := hnQ) | have dQ2 := hnQ) | have dQ1 := hnQ) | have dQ0 := hnQ)); (try (have hmQ := Nat.lt_of_succ_lt (Nat.lt_of_succ_le hz); first | (have _x := dQ0; first | (have _x := dQ1; first | (have _x := dQ2; first | (have _x := dQ3; first | (have _x := dQ4; have dQ5 := hmQ) | have dQ4 := hmQ) | have dQ3 := hmQ) | have dQ2 := hmQ) | have dQ1 := hmQ) | have dQ0 := hmQ)))
    all_goals go_ret
    all_goals exact ⟨by simp [HE.out], by (repeat' first | (with_reducible exact Below.refl _ _) | (with_reducible refine Below.alloc ?_ ?_ _) | (with_reducible refine Below.drew ?_) | (with_reducible refine Below.setCell ?_ ?_ _) | (with_reducible refine below_via (by assumption) ?_ ?_) | go_size)⟩
  have HE : Hid (countHints a b o s g = (pegs s : Int) - pegs g) := by show _ = _; simp [countHints, hsol]
  obtain ⟨hz, hr0⟩ : puzzleOk a b o s g = true ∧ reach a b o s g false = true := by simpa [isSolvable] using hsol
  obtain ⟨⟨_, hso⟩, hgo⟩ : (isSmall a b o = true ∧ posOk a b o s = true) ∧ posOk a b o g = true := by simpa [puzzleOk] using hz
  have HZ := Lib.hid hz
  have HR0 := Lib.hid hr0
  have HSO := Lib.hid hso
  rw [hsol] at H1
  clear hsol hz hr0 hso hgo
  go_enter Try.func22, Try.ntmps22
  go_wp2_with (go_at_call 73; refine (H1.out _).mono ?_; rintro e w' ⟨rfl, hb⟩; have hbox0 : (∀ j, w'.cell? ⟨w.heap.size, j, none⟩ = #[Value.int .i64 a, .int .i64 b, .int .i64 o, .int .i64 s, .int .i64 g][j]?) := (fun j => (hb.cell (by simp)).trans (by simp)))
  obtain ⟨w3, rfl⟩ : ∃ w3 : World, w3 = w' := ⟨_, rfl⟩
  have HW3 := Lib.hid (show Below w.heap.size w w3 by (repeat' first | (with_reducible exact Below.refl _ _) | (with_reducible refine Below.alloc ?_ ?_ _) | (with_reducible refine Below.drew ?_) | (with_reducible refine Below.setCell ?_ ?_ _) | (with_reducible refine below_via (by assumption) ?_ ?_) | go_size))
  have gz3 : w.heap.size < w3.heap.size := by have := hb.size; simp at this; omega
  clear hb
  go_loopw [3, 4] (fun ct nw wr => ∃ (c : Nat) (n : Int), ct = .int .i64 c ∧ nw = .int .i64 n ∧ Hid (reach a b o n g false = true) ∧ Hid (posOk a b o n = true) ∧ Hid (c + pegs n = pegs s) ∧ c ≤ 49 ∧ Below w3.heap.size w3 wr) (fun ct _ _ => 50 - (intOf ct).toNat)
  case atStart => exact ⟨0, s, rfl, rfl, HR0, HSO, by show _ = _; omega, by omega, Below.refl _ _⟩
  case round =>
    obtain ⟨c, n, rfl, rfl, hre, hpo, hcn, hc49, hbw⟩ := hrel
    have hz5 := hbw.size
    have hbox : ∀ j, wr.cell? ⟨w.heap.size, j, none⟩ = #[Value.int .i64 a, .int .i64 b, .int .i64 o, .int .i64 s, .int .i64 g][j]? := fun j => (hbw.cell (by exact gz3)).trans (hbox0 j)
    have gW0 : w.heap.size < wr.heap.size := by omega
    cases hq : (n != g)
    · have HF : Hid ((pegs s : Int) - pegs g = c) := by
        show _ = _
        have h1 := hcn.out
        have h2 : n = g := by simpa using hq
        subst h2
        omega
      go_wp2_with fail
      go_ret
      exact ⟨by simp [HE.out, HF.out], HW3.out.trans (hbw.mono (by omega))⟩
    · obtain ⟨x, r, hx0, hx1, hx2, hx3, hx4⟩ := hint_step HZ.out hpo.out hre.out (by simpa using hq)
      have hpb := pos_lt hpo.out
      have HH : Hid (∀ W, Calls Try.prog 27 #[.agg #[.int .i64 a, .int .i64 b, .int .i64 o, .int .i64 s, .int .i64 g], .int .i64 n] W fun e w' => e = .returned (.tuple #[.agg #[.int .i64 x.f, .int .i64 x.o, .int .i64 x.t], .bool true]) ∧ Below W.heap.size W w') := fun W => by
        have := HintFor_any a b o s g n hs hg (by omega) W
        rw [hx0] at this
        simpa [hintVal] using this
      have HJ : Hid (∀ W, Calls Try.prog 101 #[.agg #[.int .i64 a, .int .i64 b, .int .i64 o], .int .i64 n, .agg #[.int .i64 x.f, .int .i64 x.o, .int .i64 x.t]] W fun e w' => e = .returned (.tuple #[.int .i64 (flip n x), .bool true]) ∧ Below W.heap.size W w') := fun W => by
        have hd : doOk false a b o n x = true := by simp [doOk, hpo.out, isLn_of hx1, can, hx2]
        have := DoJump_any a b o n x (by omega) W
        rwa [show doTo false a b o n x = flip n x from by simp [doTo, hd], hd] at this
      have HPJ := Lib.hid (pegs_jump (linesOf_in hx1).1 hx2)
      have HX3 := Lib.hid hx3
      have HX4 := Lib.hid hx4
      clear hx0 hx1 hx2 hx3 hx4
      generalize flip n x = m at *
      have hc48 : c + 1 ≤ 49 := by have := hcn.out; have := HPJ.out; have := pegs_le s; omega
      go_wp2_with (first | (go_at_call 27; refine (HH.out _).mono ?_; rintro e w' ⟨rfl, hb⟩; obtain ⟨hc, hf, hz, hy⟩ := bcell hb; clear hy; (try simp only [World.size_alloc, World.size_setCell, World.size_drew] at hz); (try have gQ0 : w.heap.size < w'.heap.size := by omega); (try have gQ1 : w.heap.size + 1 < w'.heap.size := by omega); (try have gQ2 : w.heap.size + 1 + 1 < w'.heap.size := by omega); (try have gQ3 : w.heap.size + 1 + 1 + 1 < w'.heap.size := by omega); (try have gQ4 : w.heap.size + 1 + 1 + 1 + 1 < w'.heap.size := by omega); (try have gQ5 : w.heap.size + 1 + 1 + 1 + 1 + 1 < w'.heap.size := by omega); (try have dQ0 : _ < w'.heap.size := Nat.lt_of_lt_of_le dQ0 (by omega)); (try have dQ1 : _ < w'.heap.size := Nat.lt_of_lt_of_le dQ1 (by omega)); (try have dQ2 : _ < w'.heap.size := Nat.lt_of_lt_of_le dQ2 (by omega)); (try have dQ3 : _ < w'.heap.size := Nat.lt_of_lt_of_le dQ3 (by omega)); (try have dQ4 : _ < w'.heap.size := Nat.lt_of_lt_of_le dQ4 (by omega)); (try have dQ5 : _ < w'.heap.size := Nat.lt_of_lt_of_le dQ5 (by omega)); (try (have hnQ := Nat.lt_of_succ_le hz; first | (have _x := dQ0; first | (have _x := dQ1; first | (have _x := dQ2; first | (have _x := dQ3; first | (have _x := dQ4; have dQ5 := hnQ) | have dQ4 := hnQ) | have dQ3 := hnQ) | have dQ2 := hnQ) | have dQ1 := hnQ) | have dQ0 := hnQ)); (try (have hmQ := Nat.lt_of_succ_lt (Nat.lt_of_succ_le hz); first | (have _x := dQ0; first | (have _x := dQ1; first | (have _x := dQ2; first | (have _x := dQ3; first | (have _x := dQ4; have dQ5 := hmQ) | have dQ4 := hmQ) | have dQ3 := hmQ) | have dQ2 := hmQ) | have dQ1 := hmQ) | have dQ0 := hmQ)); (try have sQ00 : (w'.cell? ⟨w.heap.size, 0, none⟩).isSome = true := by simp [go_sem, *]); (try have sQ01 : (w'.cell? ⟨w.heap.size, 1, none⟩).isSome = true := by simp [go_sem, *]); (try have sQ02 : (w'.cell? ⟨w.heap.size, 2, none⟩).isSome = true := by simp [go_sem, *]); (try have sQ03 : (w'.cell? ⟨w.heap.size, 3, none⟩).isSome = true := by simp [go_sem, *]); (try have sQ04 : (w'.cell? ⟨w.heap.size, 4, none⟩).isSome = true := by simp [go_sem, *]); (try have sQ10 : (w'.cell? ⟨w.heap.size + 1, 0, none⟩).isSome = true := by simp [go_sem, *]); (try have sQ11 : (w'.cell? ⟨w.heap.size + 1, 1, none⟩).isSome = true := by simp [go_sem, *]); (try have sQ12 : (w'.cell? ⟨w.heap.size + 1, 2, none⟩).isSome = true := by simp [go_sem, *]); (try have sQ13 : (w'.cell? ⟨w.heap.size + 1, 3, none⟩).isSome = true := by simp [go_sem, *]); (try have sQ14 : (w'.cell? ⟨w.heap.size + 1, 4, none⟩).isSome = true := by simp [go_sem, *]); (try have sQ20 : (w'.cell? ⟨w.heap.size + 1 + 1, 0, none⟩).isSome = true := by simp [go_sem, *]); (try have sQ21 : (w'.cell? ⟨w.heap.size + 1 + 1, 1, none⟩).isSome = true := by simp [go_sem, *]); (try have sQ22 : (w'.cell? ⟨w.heap.size + 1 + 1, 2, none⟩).isSome = true := by simp [go_sem, *]); (try have sQ23 : (w'.cell? ⟨w.heap.size + 1 + 1, 3, none⟩).isSome = true := by simp [go_sem, *]); (try have sQ24 : (w'.cell? ⟨w.heap.size + 1 + 1, 4, none⟩).isSome = true := by simp [go_sem, *]); (try have fQ0 : ∀ j, w'.frozen? ⟨w.heap.size, j, none⟩ = false := by intro j; simp [go_sem, *]); (try have fQ1 : ∀ j, w'.frozen? ⟨w.heap.size + 1, j, none⟩ = false := by intro j; simp [go_sem, *]); (try have fQ2 : ∀ j, w'.frozen? ⟨w.heap.size + 1 + 1, j, none⟩ = false := by intro j; simp [go_sem, *])) | (go_at_call 101; refine (HJ.out _).mono ?_; rintro e w' ⟨rfl, hb⟩; obtain ⟨hc, hf, hz, hy⟩ := bcell hb; clear hy; (try simp only [World.size_alloc, World.size_setCell, World.size_drew] at hz); (try have gQ0 : w.heap.size < w'.heap.size := by omega); (try have gQ1 : w.heap.size + 1 < w'.heap.size := by omega); (try have gQ2 : w.heap.size + 1 + 1 < w'.heap.size := by omega); (try have gQ3 : w.heap.size + 1 + 1 + 1 < w'.heap.size := by omega); (try have gQ4 : w.heap.size + 1 + 1 + 1 + 1 < w'.heap.size := by omega); (try have gQ5 : w.heap.size + 1 + 1 + 1 + 1 + 1 < w'.heap.size := by omega); (try have dQ0 : _ < w'.heap.size := Nat.lt_of_lt_of_le dQ0 (by omega)); (try have dQ1 : _ < w'.heap.size := Nat.lt_of_lt_of_le dQ1 (by omega)); (try have dQ2 : _ < w'.heap.size := Nat.lt_of_lt_of_le dQ2 (by omega)); (try have dQ3 : _ < w'.heap.size := Nat.lt_of_lt_of_le dQ3 (by omega)); (try have dQ4 : _ < w'.heap.size := Nat.lt_of_lt_of_le dQ4 (by omega)); (try have dQ5 : _ < w'.heap.size := Nat.lt_of_lt_of_le dQ5 (by omega)); (try (have hnQ := Nat.lt_of_succ_le hz; first | (have _x := dQ0; first | (have _x := dQ1; first | (have _x := dQ2; first | (have _x := dQ3; first | (have _x := dQ4; have dQ5 := hnQ) | have dQ4 := hnQ) | have dQ3 := hnQ) | have dQ2 := hnQ) | have dQ1 := hnQ) | have dQ0 := hnQ)); (try (have hmQ := Nat.lt_of_succ_lt (Nat.lt_of_succ_le hz); first | (have _x := dQ0; first | (have _x := dQ1; first | (have _x := dQ2; first | (have _x := dQ3; first | (have _x := dQ4; have dQ5 := hmQ) | have dQ4 := hmQ) | have dQ3 := hmQ) | have dQ2 := hmQ) | have dQ1 := hmQ) | have dQ0 := hmQ)); (try have sQ00 : (w'.cell? ⟨w.heap.size, 0, none⟩).isSome = true := by simp [go_sem, *]); (try have sQ01 : (w'.cell? ⟨w.heap.size, 1, none⟩).isSome = true := by simp [go_sem, *]); (try have sQ02 : (w'.cell? ⟨w.heap.size, 2, none⟩).isSome = true := by simp [go_sem, *]); (try have sQ03 : (w'.cell? ⟨w.heap.size, 3, none⟩).isSome = true := by simp [go_sem, *]); (try have sQ04 : (w'.cell? ⟨w.heap.size, 4, none⟩).isSome = true := by simp [go_sem, *]); (try have sQ10 : (w'.cell? ⟨w.heap.size + 1, 0, none⟩).isSome = true := by simp [go_sem, *]); (try have sQ11 : (w'.cell? ⟨w.heap.size + 1, 1, none⟩).isSome = true := by simp [go_sem, *]); (try have sQ12 : (w'.cell? ⟨w.heap.size + 1, 2, none⟩).isSome = true := by simp [go_sem, *]); (try have sQ13 : (w'.cell? ⟨w.heap.size + 1, 3, none⟩).isSome = true := by simp [go_sem, *]); (try have sQ14 : (w'.cell? ⟨w.heap.size + 1, 4, none⟩).isSome = true := by simp [go_sem, *]); (try have sQ20 : (w'.cell? ⟨w.heap.size + 1 + 1, 0, none⟩).isSome = true := by simp [go_sem, *]); (try have sQ21 : (w'.cell? ⟨w.heap.size + 1 + 1, 1, none⟩).isSome = true := by simp [go_sem, *]); (try have sQ22 : (w'.cell? ⟨w.heap.size + 1 + 1, 2, none⟩).isSome = true := by simp [go_sem, *]); (try have sQ23 : (w'.cell? ⟨w.heap.size + 1 + 1, 3, none⟩).isSome = true := by simp [go_sem, *]); (try have sQ24 : (w'.cell? ⟨w.heap.size + 1 + 1, 4, none⟩).isSome = true := by simp [go_sem, *]); (try have fQ0 : ∀ j, w'.frozen? ⟨w.heap.size, j, none⟩ = false := by intro j; simp [go_sem, *]); (try have fQ1 : ∀ j, w'.frozen? ⟨w.heap.size + 1, j, none⟩ = false := by intro j; simp [go_sem, *]); (try have fQ2 : ∀ j, w'.frozen? ⟨w.heap.size + 1 + 1, j, none⟩ = false := by intro j; simp [go_sem, *])))
      go_roundw
      case rel => exact ⟨c + 1, m, by go_num, rfl, HX3, HX4, by show _ = _; have := hcn.out; have := HPJ.out; omega, hc48, by (repeat' first | (with_reducible exact Below.refl _ _) | (with_reducible refine Below.alloc ?_ ?_ _) | (with_reducible refine Below.drew ?_) | (with_reducible refine Below.setCell ?_ ?_ _) | (with_reducible refine below_via (by assumption) ?_ ?_) | go_size)⟩
      case measure => simp [intOf]; omega
end Go.Proofs.Ytfpofhkggojaoaa
