/- BestS: contracts of BestSeed and the reference's. Conditions: numbers in range. -/
import Derived.Test.YtfpofhkggojaoaaDiff
import Derived.Test.YtfpofhkggojaoaaMakeP
import Derived.Test.YtfpofhkggojaoaaCountH
set_option linter.unusedVariables false
set_option linter.unusedSimpArgs false
namespace Peg
theorem mkRun_steps {a b o : Int} : ∀ (k : Nat) (m : Mk), Steps (linesOf a b o) true m.p (mkRun a b o k m).p := by
  intro k
  induction k with
  | zero => intro m; exact .refl _
  | succ k ih =>
    intro m
    unfold mkRun
    split
    · exact .refl _
    · rename_i h
      obtain ⟨_, h2, h3⟩ := undosOf_in (mkLn_in h)
      exact .step h2 (by simpa [can] using h3) (ih (mkNext a b o m))
theorem posOk_pw {a b o h : Int} (hh : hasHole a b o h = true) : posOk a b o (pw h) = true := by
  obtain ⟨h1, h2, h3, h4⟩ := hasHole_bd hh
  have hp := pw_pos h
  have : band (pw h) o = pw h := by
    refine tb_ext (band_nonneg _ _) (by omega) fun i => ?_
    rw [band_tb]
    have e : (pw h).toNat = 2 ^ h.toNat := by
      unfold pw
      have : ((2 : Int) ^ h.toNat) = ((2 ^ h.toNat : Nat) : Int) := by simp
      rw [this]; rfl
    rw [e, Nat.testBit_two_pow]
    by_cases hi : h.toNat = i
    · subst hi
      have : o.toNat.testBit h.toNat = true := h4
      simp [this]
    · simp [hi]
  simp [posOk, h1, this]
  omega
theorem steps_pegs {a b o p q : Int} (h : Steps (linesOf a b o) false p q) : pegs q ≤ pegs p := by
  induction h with
  | refl p => exact Nat.le_refl _
  | step h1 hc _ ih =>
    have := pegs_jump (linesOf_in h1).1 hc
    omega
theorem makePuzzle_ok {a b o h n s p : Int} (hm : makePuzzle a b o h n s = some p) : isSolvable a b o p (pw h) = true ∧ posOk a b o p = true ∧ posOk a b o (pw h) = true ∧ 0 ≤ difficulty a b o p (pw h) ∧ difficulty a b o p (pw h) ≤ 12845105 := by
  unfold makePuzzle at hm
  split at hm
  · rename_i h1
    split at hm
    · cases hm
    · simp only [Option.some.injEq] at hm
      subst hm
      simp only [makeP1, Bool.and_eq_true] at h1
      obtain ⟨⟨⟨hs, hh⟩, _⟩, _⟩ := h1
      have hg := posOk_pw hh
      have hst : Steps (linesOf a b o) true (pw h) (makeGame a b o (pw h) n s).2 := by
        unfold makeGame
        split
        · exact mkRun_steps n.toNat ⟨s, pw h, []⟩
        · exact .refl _
      have hpo := hst.pos hg
      have hrev := hst.rev (pos_N hg).1
      have hr : reach a b o (makeGame a b o (pw h) n s).2 (pw h) false = true := (hasB_iff hs hpo).2 hrev
      have hsol : isSolvable a b o (makeGame a b o (pw h) n s).2 (pw h) = true := by simp [isSolvable, puzzleOk, hs, hpo, hg, hr]
      have hp := steps_pegs hrev
      have hd := spoils_bd a b o (makeGame a b o (pw h) n s).2 (pw h)
      have hp1 := pegs_le (makeGame a b o (pw h) n s).2
      refine ⟨hsol, hpo, hg, ?_, ?_⟩
      · simp only [difficulty, hsol, if_true]; omega
      · simp only [difficulty, hsol, if_true]; omega
  · cases hm
def bsStep (a b o h n : Int) (st : Option (Nat × Int)) (k : Nat) : Option (Nat × Int) :=
  match makePuzzle a b o h n k with
  | none => st
  | some p => match st with
    | none => some (k, difficulty a b o p (pw h))
    | some (i, m) => if m < difficulty a b o p (pw h) then some (k, difficulty a b o p (pw h)) else some (i, m)
def bsRun (a b o h n : Int) : Nat → Option (Nat × Int)
  | 0 => none
  | k + 1 => bsStep a b o h n (bsRun a b o h n k) k
def bsBest : Option (Nat × Int) → Int
  | none => -1
  | some (i, _) => i
def bsMost (z : Int) : Option (Nat × Int) → Int
  | none => z
  | some (_, m) => m
def bestSeed (a b o h n t : Int) : Int := if inR t 1 20 = true then bsBest (bsRun a b o h n t.toNat) else -1
theorem bsRun_bd (a b o h n : Int) (k : Nat) : (bsRun a b o h n k = none) ∨ ∃ i m, bsRun a b o h n k = some (i, m) ∧ 0 ≤ m ∧ m ≤ 12845105 ∧ i < k := by
  induction k with
  | zero => exact .inl rfl
  | succ k ih =>
    show bsStep a b o h n (bsRun a b o h n k) k = none ∨ ∃ i m, bsStep a b o h n (bsRun a b o h n k) k = some (i, m) ∧ 0 ≤ m ∧ m ≤ 12845105 ∧ i < k + 1
    unfold bsStep
    cases hm : makePuzzle a b o h n k with
    | none =>
      rcases ih with h0 | ⟨i, m, h0, h1, h2, h3⟩
      · exact .inl h0
      · exact .inr ⟨i, m, h0, h1, h2, by omega⟩
    | some p =>
      obtain ⟨_, _, _, d0, d1⟩ := makePuzzle_ok hm
      rcases ih with h0 | ⟨i, m, h0, h1, h2, h3⟩
      · rw [h0]; exact .inr ⟨k, _, rfl, d0, d1, by omega⟩
      · rw [h0]
        by_cases hlt : m < difficulty a b o p (pw h)
        · exact .inr ⟨k, _, by simp [hlt], d0, d1, by omega⟩
        · exact .inr ⟨i, m, by simp [hlt], h1, h2, by omega⟩
end Peg
namespace Go.Proofs.Ytfpofhkggojaoaa
open Go.ChangeShapes Go.WideShapes Go.ChangeAt Go.RowKit Peg Go.Sort
set_option maxHeartbeats 1000000 in
set_option maxRecDepth 100000 in
theorem BestSeed_any (a b o h n t : Int) (hn : -9223372036854775808 ≤ n) (w : World) :
    Calls Try.prog 47 #[.agg #[.int .i64 a, .int .i64 b, .int .i64 o], .int .i64 h, .int .i64 n, .int .i64 t] w fun e w' => e = .returned (.int .i64 (bestSeed a b o h n t)) ∧ Below w.heap.size w w' := by
  have HN : Hid (∀ W, Calls Try.prog 125 #[.int .i64 t, .int .i64 1, .int .i64 20] W fun e w' => e = .returned (.bool (inR t 1 20)) ∧ W = w') := fun W => within_any t 1 20 W
  cases ht : inR t 1 20
  · have HE : Hid (bestSeed a b o h n t = -1) := by show _ = _; simp [bestSeed, ht]
    rw [ht] at HN
    clear ht
    go_enter Try.func47, Try.ntmps47
    go_wp2_with (go_at_call 125; (with_reducible refine (HN.out _).mono ?_); rintro e w' ⟨rfl, rfl⟩)
    all_goals go_ret
    all_goals exact ⟨by simp [HE.out], by (repeat' first | (with_reducible exact Below.refl _ _) | (with_reducible refine Below.alloc ?_ ?_ _) | (with_reducible refine Below.drew ?_) | (with_reducible refine Below.setCell ?_ ?_ _) | (with_reducible refine below_via (by assumption) ?_ ?_) | go_size)⟩
  have HE : Hid (bestSeed a b o h n t = bsBest (bsRun a b o h n t.toNat)) := by show _ = _; simp [bestSeed, ht]
  have ht2 := inR_iff.1 ht
  rw [ht] at HN
  obtain ⟨T, rfl⟩ := Int.eq_ofNat_of_zero_le (show (0 : Int) ≤ t by omega)
  rw [Int.toNat_natCast] at HE
  have hT : T ≤ 20 := by omega
  clear ht ht2
  go_enter Try.func47, Try.ntmps47
  go_wp2_with (go_at_call 125; (with_reducible refine (HN.out _).mono ?_); rintro e w' ⟨rfl, rfl⟩)
  go_loopw [9, 10, 11] (fun bs ms i wr => ∃ k : Nat, k ≤ T ∧ i = .int .i64 k ∧ bs = .int .i64 (bsBest (bsRun a b o h n k)) ∧ ms = .int .i64 (bsMost 0 (bsRun a b o h n k)) ∧ Below (w.heap.size + 1) (w.alloc (.cells #[.int .i64 a, .int .i64 b, .int .i64 o] 27)) wr) (fun _ _ i _ => T - (intOf i).toNat)
  case atStart => exact ⟨0, by omega, rfl, rfl, rfl, by (repeat' first | (with_reducible exact Below.refl _ _) | (with_reducible refine Below.alloc ?_ ?_ _) | (with_reducible refine Below.drew ?_) | (with_reducible refine Below.setCell ?_ ?_ _) | (with_reducible refine below_via (by assumption) ?_ ?_) | go_size)⟩
  case round =>
    obtain ⟨k, hk, rfl, rfl, rfl, hbw⟩ := hrel
    have gW0 : w.heap.size < wr.heap.size := by have := hbw.size; simp at this; omega
    have hbA : Below w.heap.size w wr := ((Below.refl _ _).alloc (Nat.le_refl _) _).trans (hbw.mono (by omega))
    have hbox : ∀ j, wr.cell? ⟨w.heap.size, j, none⟩ = #[Value.int .i64 a, .int .i64 b, .int .i64 o][j]? := fun j => (hbw.cell (by simp)).trans (by simp)
    have HB := Lib.hid hbA
    have HBW := Lib.hid hbw
    clear hbw hbA
    by_cases hlt : k < T
    · have HM : Hid (∀ W, Calls Try.prog 44 #[.agg #[.int .i64 a, .int .i64 b, .int .i64 o], .int .i64 h, .int .i64 n, .int .i64 k] W fun e w' => e = .returned (optPz a b o h (makePuzzle a b o h n k)) ∧ Below W.heap.size W w') := fun W => MakePuzzle_any a b o h n k hn W
      have HS : Hid (bsRun a b o h n (k + 1) = bsStep a b o h n (bsRun a b o h n k) k) := rfl
      have hbd := bsRun_bd a b o h n k
      cases hM : makePuzzle a b o h n k with
      | none =>
        have HV : Hid (bsRun a b o h n (k + 1) = bsRun a b o h n k) := by show _ = _; rw [HS.out]; simp [bsStep, hM]
        rw [hM] at HM
        simp only [optPz] at HM
        clear hM HS hbd
        generalize bsRun a b o h n k = st at *
        go_wp2_with (go_at_call 44; refine (HM.out _).mono ?_; rintro e w' ⟨rfl, hb⟩; obtain ⟨hc, hf, hz, hy⟩ := bcell hb; clear hy; (try simp only [World.size_alloc, World.size_setCell, World.size_drew] at hz); (try have gQ0 : w.heap.size < w'.heap.size := by omega); (try have gQ1 : w.heap.size + 1 < w'.heap.size := by omega); (try have gQ2 : w.heap.size + 1 + 1 < w'.heap.size := by omega); (try have gQ3 : w.heap.size + 1 + 1 + 1 < w'.heap.size := by omega); (try have gQ4 : w.heap.size + 1 + 1 + 1 + 1 < w'.heap.size := by omega); (try have gQ5 : w.heap.size + 1 + 1 + 1 + 1 + 1 < w'.heap.size := by omega); (try have dQ0 : _ < w'.heap.size := Nat.lt_of_lt_of_le dQ0 (by omega)); (try have dQ1 : _ < w'.heap.size := Nat.lt_of_lt_of_le dQ1 (by omega)); (try have dQ2 : _ < w'.heap.size := Nat.lt_of_lt_of_le dQ2 (by omega)); (try have dQ3 : _ < w'.heap.size := Nat.lt_of_lt_of_le dQ3 (by omega)); (try have dQ4 : _ < w'.heap.size := Nat.lt_of_lt_of_le dQ4 (by omega)); (try have dQ5 : _ < w'.heap.size := Nat.lt_of_lt_of_le dQ5 (by omega)); (try (have hnQ := Nat.lt_of_succ_le hz; first | (have _x := dQ0; first | (have _x := dQ1; first | (have _x := dQ2; first | (have _x := dQ3; first | (have _x := dQ4; have dQ5 := hnQ) | have dQ4 := hnQ) | have dQ3 := hnQ) | have dQ2 := hnQ) | have dQ1 := hnQ) | have dQ0 := hnQ)); (try (have hmQ := Nat.lt_of_succ_lt (Nat.lt_of_succ_le hz); first | (have _x := dQ0; first | (have _x := dQ1; first | (have _x := dQ2; first | (have _x := dQ3; first | (have _x := dQ4; have dQ5 := hmQ) | have dQ4 := hmQ) | have dQ3 := hmQ) | have dQ2 := hmQ) | have dQ1 := hmQ) | have dQ0 := hmQ)); have hB7 := below_via hb HBW.out (by omega))
        go_roundw
        case rel => exact ⟨k + 1, by omega, by go_num, by rw [HV.out], by rw [HV.out], by have := HBW.out; (repeat' first | (with_reducible exact Below.refl _ _) | (with_reducible refine Below.alloc ?_ ?_ _) | (with_reducible refine Below.drew ?_) | (with_reducible refine Below.setCell ?_ ?_ _) | (with_reducible refine below_via (by assumption) ?_ ?_) | go_size)⟩
        case measure => simp [intOf]; omega
      | some p =>
        obtain ⟨_, hpo, hgo, hd0, hd1⟩ := makePuzzle_ok hM
        have h1 := pos_lt hpo
        have h2 := pos_lt hgo
        have HD : Hid (∀ W, Calls Try.prog 69 #[.agg #[.int .i64 a, .int .i64 b, .int .i64 o, .int .i64 p, .int .i64 (pw h)]] W fun e w' => e = .returned (.int .i64 (difficulty a b o p (pw h))) ∧ Below W.heap.size W w') := fun W => DifficultyOf_any a b o p (pw h) (by omega) (by omega) W
        rw [hM] at HM
        simp only [optPz] at HM
        have HS2 : Hid (bsStep a b o h n (bsRun a b o h n k) k = match bsRun a b o h n k with
          | none => some (k, difficulty a b o p (pw h))
          | some (i, m) => if m < difficulty a b o p (pw h) then some (k, difficulty a b o p (pw h)) else some (i, m)) := by show _ = _; simp [bsStep, hM]
        clear hM hpo hgo h1 h2
        generalize difficulty a b o p (pw h) = d at *
        rcases hbd with h0 | ⟨i, m, h0, hm0, hm1, hik⟩
        · have HV : Hid (bsRun a b o h n (k + 1) = some (k, d)) := by show _ = _; rw [HS.out, HS2.out, h0]
          rw [h0]
          simp only [bsBest, bsMost]
          clear h0 HS HS2
          generalize pw h = P at *
          go_wp2_with (first | (go_at_call 44; refine (HM.out _).mono ?_; rintro e w' ⟨rfl, hb⟩; obtain ⟨hc, hf, hz, hy⟩ := bcell hb; clear hy; (try simp only [World.size_alloc, World.size_setCell, World.size_drew] at hz); (try have gQ0 : w.heap.size < w'.heap.size := by omega); (try have gQ1 : w.heap.size + 1 < w'.heap.size := by omega); (try have gQ2 : w.heap.size + 1 + 1 < w'.heap.size := by omega); (try have gQ3 : w.heap.size + 1 + 1 + 1 < w'.heap.size := by omega); (try have gQ4 : w.heap.size + 1 + 1 + 1 + 1 < w'.heap.size := by omega); (try have gQ5 : w.heap.size + 1 + 1 + 1 + 1 + 1 < w'.heap.size := by omega); (try have dQ0 : _ < w'.heap.size := Nat.lt_of_lt_of_le dQ0 (by omega)); (try have dQ1 : _ < w'.heap.size := Nat.lt_of_lt_of_le dQ1 (by omega)); (try have dQ2 : _ < w'.heap.size := Nat.lt_of_lt_of_le dQ2 (by omega)); (try have dQ3 : _ < w'.heap.size := Nat.lt_of_lt_of_le dQ3 (by omega)); (try have dQ4 : _ < w'.heap.size := Nat.lt_of_lt_of_le dQ4 (by omega)); (try have dQ5 : _ < w'.heap.size := Nat.lt_of_lt_of_le dQ5 (by omega)); (try (have hnQ := Nat.lt_of_succ_le hz; first | (have _x := dQ0; first | (have _x := dQ1; first | (have _x := dQ2; first | (have _x := dQ3; first | (have _x := dQ4; have dQ5 := hnQ) | have dQ4 := hnQ) | have dQ3 := hnQ) | have dQ2 := hnQ) | have dQ1 := hnQ) | have dQ0 := hnQ)); (try (have hmQ := Nat.lt_of_succ_lt (Nat.lt_of_succ_le hz); first | (have _x := dQ0; first | (have _x := dQ1; first | (have _x := dQ2; first | (have _x := dQ3; first | (have _x := dQ4; have dQ5 := hmQ) | have dQ4 := hmQ) | have dQ3 := hmQ) | have dQ2 := hmQ) | have dQ1 := hmQ) | have dQ0 := hmQ)); have hB7 := Lib.hid (below_via hb HBW.out (by omega))) | (go_at_call 69; refine (HD.out _).mono ?_; rintro e w' ⟨rfl, hb⟩; obtain ⟨hc, hf, hz, hy⟩ := bcell hb; clear hy; (try simp only [World.size_alloc, World.size_setCell, World.size_drew] at hz); (try have gQ0 : w.heap.size < w'.heap.size := by omega); (try have gQ1 : w.heap.size + 1 < w'.heap.size := by omega); (try have gQ2 : w.heap.size + 1 + 1 < w'.heap.size := by omega); (try have gQ3 : w.heap.size + 1 + 1 + 1 < w'.heap.size := by omega); (try have gQ4 : w.heap.size + 1 + 1 + 1 + 1 < w'.heap.size := by omega); (try have gQ5 : w.heap.size + 1 + 1 + 1 + 1 + 1 < w'.heap.size := by omega); (try have dQ0 : _ < w'.heap.size := Nat.lt_of_lt_of_le dQ0 (by omega)); (try have dQ1 : _ < w'.heap.size := Nat.lt_of_lt_of_le dQ1 (by omega)); (try have dQ2 : _ < w'.heap.size := Nat.lt_of_lt_of_le dQ2 (by omega)); (try have dQ3 : _ < w'.heap.size := Nat.lt_of_lt_of_le dQ3 (by omega)); (try have dQ4 : _ < w'.heap.size := Nat.lt_of_lt_of_le dQ4 (by omega)); (try have dQ5 : _ < w'.heap.size := Nat.lt_of_lt_of_le dQ5 (by omega)); (try (have hnQ := Nat.lt_of_succ_le hz; first | (have _x := dQ0; first | (have _x := dQ1; first | (have _x := dQ2; first | (have _x := dQ3; first | (have _x := dQ4; have dQ5 := hnQ) | have dQ4 := hnQ) | have dQ3 := hnQ) | have dQ2 := hnQ) | have dQ1 := hnQ) | have dQ0 := hnQ)); (try (have hmQ := Nat.lt_of_succ_lt (Nat.lt_of_succ_le hz); first | (have _x := dQ0; first | (have _x := dQ1; first | (have _x := dQ2; first | (have _x := dQ3; first | (have _x := dQ4; have dQ5 := hmQ) | have dQ4 := hmQ) | have dQ3 := hmQ) | have dQ2 := hmQ) | have dQ1 := hmQ) | have dQ0 := hmQ))))
          go_roundw
          case rel => exact ⟨k + 1, by omega, by go_num, by rw [HV.out] <;> rfl, by rw [HV.out] <;> rfl, by have := HBW.out; (repeat' first | (with_reducible exact Below.refl _ _) | (with_reducible refine Below.alloc ?_ ?_ _) | (with_reducible refine Below.drew ?_) | (with_reducible refine Below.setCell ?_ ?_ _) | (with_reducible refine below_via (by assumption) ?_ ?_) | go_size)⟩
          case measure => simp [intOf]; omega
        · rw [h0]
          simp only [bsBest, bsMost]
          have hi0 : ((i : Int) < 0) = False := by simp
          have hi1 : decide ((i : Int) < 0) = false := by simp
          by_cases hlt2 : m < d
          · have HV : Hid (bsRun a b o h n (k + 1) = some (k, d)) := by show _ = _; rw [HS.out, HS2.out, h0]; simp [hlt2]
            have hd2 : decide (m < d) = true := by simpa using hlt2
            clear h0 HS HS2
            generalize pw h = P at *
            go_wp2_with (first | (go_at_call 44; refine (HM.out _).mono ?_; rintro e w' ⟨rfl, hb⟩; obtain ⟨hc, hf, hz, hy⟩ := bcell hb; clear hy; (try simp only [World.size_alloc, World.size_setCell, World.size_drew] at hz); (try have gQ0 : w.heap.size < w'.heap.size := by omega); (try have gQ1 : w.heap.size + 1 < w'.heap.size := by omega); (try have gQ2 : w.heap.size + 1 + 1 < w'.heap.size := by omega); (try have gQ3 : w.heap.size + 1 + 1 + 1 < w'.heap.size := by omega); (try have gQ4 : w.heap.size + 1 + 1 + 1 + 1 < w'.heap.size := by omega); (try have gQ5 : w.heap.size + 1 + 1 + 1 + 1 + 1 < w'.heap.size := by omega); (try have dQ0 : _ < w'.heap.size := Nat.lt_of_lt_of_le dQ0 (by omega)); (try have dQ1 : _ < w'.heap.size := Nat.lt_of_lt_of_le dQ1 (by omega)); (try have dQ2 : _ < w'.heap.size := Nat.lt_of_lt_of_le dQ2 (by omega)); (try have dQ3 : _ < w'.heap.size := Nat.lt_of_lt_of_le dQ3 (by omega)); (try have dQ4 : _ < w'.heap.size := Nat.lt_of_lt_of_le dQ4 (by omega)); (try have dQ5 : _ < w'.heap.size := Nat.lt_of_lt_of_le dQ5 (by omega)); (try (have hnQ := Nat.lt_of_succ_le hz; first | (have _x := dQ0; first | (have _x := dQ1; first | (have _x := dQ2; first | (have _x := dQ3; first | (have _x := dQ4; have dQ5 := hnQ) | have dQ4 := hnQ) | have dQ3 := hnQ) | have dQ2 := hnQ) | have dQ1 := hnQ) | have dQ0 := hnQ)); (try (have hmQ := Nat.lt_of_succ_lt (Nat.lt_of_succ_le hz); first | (have _x := dQ0; first | (have _x := dQ1; first | (have _x := dQ2; first | (have _x := dQ3; first | (have _x := dQ4; have dQ5 := hmQ) | have dQ4 := hmQ) | have dQ3 := hmQ) | have dQ2 := hmQ) | have dQ1 := hmQ) | have dQ0 := hmQ)); have hB7 := Lib.hid (below_via hb HBW.out (by omega))) | (go_at_call 69; refine (HD.out _).mono ?_; rintro e w' ⟨rfl, hb⟩; obtain ⟨hc, hf, hz, hy⟩ := bcell hb; clear hy; (try simp only [World.size_alloc, World.size_setCell, World.size_drew] at hz); (try have gQ0 : w.heap.size < w'.heap.size := by omega); (try have gQ1 : w.heap.size + 1 < w'.heap.size := by omega); (try have gQ2 : w.heap.size + 1 + 1 < w'.heap.size := by omega); (try have gQ3 : w.heap.size + 1 + 1 + 1 < w'.heap.size := by omega); (try have gQ4 : w.heap.size + 1 + 1 + 1 + 1 < w'.heap.size := by omega); (try have gQ5 : w.heap.size + 1 + 1 + 1 + 1 + 1 < w'.heap.size := by omega); (try have dQ0 : _ < w'.heap.size := Nat.lt_of_lt_of_le dQ0 (by omega)); (try have dQ1 : _ < w'.heap.size := Nat.lt_of_lt_of_le dQ1 (by omega)); (try have dQ2 : _ < w'.heap.size := Nat.lt_of_lt_of_le dQ2 (by omega)); (try have dQ3 : _ < w'.heap.size := Nat.lt_of_lt_of_le dQ3 (by omega)); (try have dQ4 : _ < w'.heap.size := Nat.lt_of_lt_of_le dQ4 (by omega)); (try have dQ5 : _ < w'.heap.size := Nat.lt_of_lt_of_le dQ5 (by omega)); (try (have hnQ := Nat.lt_of_succ_le hz; first | (have _x := dQ0; first | (have _x := dQ1; first | (have _x := dQ2; first | (have _x := dQ3; first | (have _x := dQ4; have dQ5 := hnQ) | have dQ4 := hnQ) | have dQ3 := hnQ) | have dQ2 := hnQ) | have dQ1 := hnQ) | have dQ0 := hnQ)); (try (have hmQ := Nat.lt_of_succ_lt (Nat.lt_of_succ_le hz); first | (have _x := dQ0; first | (have _x := dQ1; first | (have _x := dQ2; first | (have _x := dQ3; first | (have _x := dQ4; have dQ5 := hmQ) | have dQ4 := hmQ) | have dQ3 := hmQ) | have dQ2 := hmQ) | have dQ1 := hmQ) | have dQ0 := hmQ))))
            go_roundw
            case rel => exact ⟨k + 1, by omega, by go_num, by rw [HV.out] <;> rfl, by rw [HV.out] <;> rfl, by have := HBW.out; (repeat' first | (with_reducible exact Below.refl _ _) | (with_reducible refine Below.alloc ?_ ?_ _) | (with_reducible refine Below.drew ?_) | (with_reducible refine Below.setCell ?_ ?_ _) | (with_reducible refine below_via (by assumption) ?_ ?_) | go_size)⟩
            case measure => simp [intOf]; omega
          · have HV : Hid (bsRun a b o h n (k + 1) = some (i, m)) := by show _ = _; rw [HS.out, HS2.out, h0]; simp [hlt2]
            have hd2 : decide (m < d) = false := by simpa using hlt2
            clear h0 HS HS2
            generalize pw h = P at *
            go_wp2_with (first | (go_at_call 44; refine (HM.out _).mono ?_; rintro e w' ⟨rfl, hb⟩; obtain ⟨hc, hf, hz, hy⟩ := bcell hb; clear hy; (try simp only [World.size_alloc, World.size_setCell, World.size_drew] at hz); (try have gQ0 : w.heap.size < w'.heap.size := by omega); (try have gQ1 : w.heap.size + 1 < w'.heap.size := by omega); (try have gQ2 : w.heap.size + 1 + 1 < w'.heap.size := by omega); (try have gQ3 : w.heap.size + 1 + 1 + 1 < w'.heap.size := by omega); (try have gQ4 : w.heap.size + 1 + 1 + 1 + 1 < w'.heap.size := by omega); (try have gQ5 : w.heap.size + 1 + 1 + 1 + 1 + 1 < w'.heap.size := by omega); (try have dQ0 : _ < w'.heap.size := Nat.lt_of_lt_of_le dQ0 (by omega)); (try have dQ1 : _ < w'.heap.size := Nat.lt_of_lt_of_le dQ1 (by omega)); (try have dQ2 : _ < w'.heap.size := Nat.lt_of_lt_of_le dQ2 (by omega)); (try have dQ3 : _ < w'.heap.size := Nat.lt_of_lt_of_le dQ3 (by omega)); (try have dQ4 : _ < w'.heap.size := Nat.lt_of_lt_of_le dQ4 (by omega)); (try have dQ5 : _ < w'.heap.size := Nat.lt_of_lt_of_le dQ5 (by omega)); (try (have hnQ := Nat.lt_of_succ_le hz; first | (have _x := dQ0; first | (have _x := dQ1; first | (have _x := dQ2; first | (have _x := dQ3; first | (have _x := dQ4; have dQ5 := hnQ) | have dQ4 := hnQ) | have dQ3 := hnQ) | have dQ2 := hnQ) | have dQ1 := hnQ) | have dQ0 := hnQ)); (try (have hmQ := Nat.lt_of_succ_lt (Nat.lt_of_succ_le hz); first | (have _x := dQ0; first | (have _x := dQ1; first | (have _x := dQ2; first | (have _x := dQ3; first | (have _x := dQ4; have dQ5 := hmQ) | have dQ4 := hmQ) | have dQ3 := hmQ) | have dQ2 := hmQ) | have dQ1 := hmQ) | have dQ0 := hmQ)); have hB7 := Lib.hid (below_via hb HBW.out (by omega))) | (go_at_call 69; refine (HD.out _).mono ?_; rintro e w' ⟨rfl, hb⟩; obtain ⟨hc, hf, hz, hy⟩ := bcell hb; clear hy; (try simp only [World.size_alloc, World.size_setCell, World.size_drew] at hz); (try have gQ0 : w.heap.size < w'.heap.size := by omega); (try have gQ1 : w.heap.size + 1 < w'.heap.size := by omega); (try have gQ2 : w.heap.size + 1 + 1 < w'.heap.size := by omega); (try have gQ3 : w.heap.size + 1 + 1 + 1 < w'.heap.size := by omega); (try have gQ4 : w.heap.size + 1 + 1 + 1 + 1 < w'.heap.size := by omega); (try have gQ5 : w.heap.size + 1 + 1 + 1 + 1 + 1 < w'.heap.size := by omega); (try have dQ0 : _ < w'.heap.size := Nat.lt_of_lt_of_le dQ0 (by omega)); (try have dQ1 : _ < w'.heap.size := Nat.lt_of_lt_of_le dQ1 (by omega)); (try have dQ2 : _ < w'.heap.size := Nat.lt_of_lt_of_le dQ2 (by omega)); (try have dQ3 : _ < w'.heap.size := Nat.lt_of_lt_of_le dQ3 (by omega)); (try have dQ4 : _ < w'.heap.size := Nat.lt_of_lt_of_le dQ4 (by omega)); (try have dQ5 : _ < w'.heap.size := Nat.lt_of_lt_of_le dQ5 (by omega)); (try (have hnQ := Nat.lt_of_succ_le hz; first | (have _x := dQ0; first | (have _x := dQ1; first | (have _x := dQ2; first | (have _x := dQ3; first | (have _x := dQ4; have dQ5 := hnQ) | have dQ4 := hnQ) | have dQ3 := hnQ) | have dQ2 := hnQ) | have dQ1 := hnQ) | have dQ0 := hnQ)); (try (have hmQ := Nat.lt_of_succ_lt (Nat.lt_of_succ_le hz); first | (have _x := dQ0; first | (have _x := dQ1; first | (have _x := dQ2; first | (have _x := dQ3; first | (have _x := dQ4; have dQ5 := hmQ) | have dQ4 := hmQ) | have dQ3 := hmQ) | have dQ2 := hmQ) | have dQ1 := hmQ) | have dQ0 := hmQ))))
            go_roundw
            case rel => exact ⟨k + 1, by omega, by go_num, by rw [HV.out] <;> rfl, by rw [HV.out] <;> rfl, by have := HBW.out; (repeat' first | (with_reducible exact Below.refl _ _) | (with_reducible refine Below.alloc ?_ ?_ _) | (with_reducible refine Below.drew ?_) | (with_reducible refine Below.setCell ?_ ?_ _) | (with_reducible refine below_via (by assumption) ?_ ?_) | go_size)⟩
            case measure => simp [intOf]; omega
    · obtain rfl : k = T := by omega
      go_wp2_with fail
      go_ret
      exact ⟨by simp [HE.out], HB.out⟩
end Go.Proofs.Ytfpofhkggojaoaa
