/- Good: contracts of GoodJumps and the reference's. Conditions: numbers in range. -/
import Derived.Test.YtfpofhkggojaoaaJumps
set_option linter.unusedVariables false
set_option linter.unusedSimpArgs false
namespace Peg
def goodJumps (a b o p g : Int) : List Ln := (jumpsOf a b o p).filter (fun l => hasB (spreadOf a b o g true) (flip p l))
theorem jumpsOf_in {a b o p : Int} {l : Ln} (h : l ∈ jumpsOf a b o p) : posOk a b o p = true ∧ l ∈ linesOf a b o ∧ canJ p l = true := by
  unfold jumpsOf at h
  split at h
  · rename_i hp
    have := List.mem_filter.1 h
    exact ⟨hp, this.1, this.2⟩
  · cases h
theorem jumpsOf_le (a b o p : Int) : (jumpsOf a b o p).length ≤ 196 := by
  unfold jumpsOf
  split
  · exact Nat.le_trans (List.length_filter_le _ _) (linesOf_le a b o)
  · simp
end Peg
namespace Go.Proofs.Ytfpofhkggojaoaa
open Go.ChangeShapes Go.WideShapes Go.ChangeAt Go.RowKit Peg Go.Sort
set_option maxHeartbeats 1000000 in
set_option maxRecDepth 100000 in
theorem GoodJumps_any (a b o p g : Int) (hp : p ≤ 9223372036854775807) (hg : g ≤ 9223372036854775807) (w : World) :
    Calls Try.prog 109 #[.agg #[.int .i64 a, .int .i64 b, .int .i64 o], .int .i64 p, .int .i64 g] w (RetLines w (goodJumps a b o p g)) := by
  have HF : Hid (goodJumps a b o p g = (jumpsOf a b o p).filter (fun l => hasB (spreadOf a b o g true) (Peg.flip p l))) := rfl
  have HI : Hid (∀ l ∈ jumpsOf a b o p, LnIn a b l ∧ canJ p l = true ∧ 0 ≤ p ∧ p < 562949953421312) := fun l hl => by
    have h1 := jumpsOf_in hl
    have h2 := pos_lt h1.1
    exact ⟨linesOf_in h1.2.1, h1.2.2, h2.1, h2.2⟩
  have hL196 := jumpsOf_le a b o p
  go_enter Try.func109, Try.ntmps109
  go_wp2_with fail
  refine (spreadOf_any _ _ _ _ _ hg _).mono ?_
  rintro e w' ⟨vB, rfl, hownB, hb⟩
  obtain ⟨hc, hf, hz, hy⟩ := bcell hb; clear hy; (try simp only [World.size_alloc, World.size_setCell, World.size_drew] at hz); (try have gQ0 : w.heap.size < w'.heap.size := by omega); (try have gQ1 : w.heap.size + 1 < w'.heap.size := by omega); (try have gQ2 : w.heap.size + 1 + 1 < w'.heap.size := by omega); (try have gQ3 : w.heap.size + 1 + 1 + 1 < w'.heap.size := by omega); (try have gQ4 : w.heap.size + 1 + 1 + 1 + 1 < w'.heap.size := by omega); (try have gQ5 : w.heap.size + 1 + 1 + 1 + 1 + 1 < w'.heap.size := by omega); (try have dQ0 : _ < w'.heap.size := Nat.lt_of_lt_of_le dQ0 (by omega)); (try have dQ1 : _ < w'.heap.size := Nat.lt_of_lt_of_le dQ1 (by omega)); (try have dQ2 : _ < w'.heap.size := Nat.lt_of_lt_of_le dQ2 (by omega)); (try have dQ3 : _ < w'.heap.size := Nat.lt_of_lt_of_le dQ3 (by omega)); (try have dQ4 : _ < w'.heap.size := Nat.lt_of_lt_of_le dQ4 (by omega)); (try have dQ5 : _ < w'.heap.size := Nat.lt_of_lt_of_le dQ5 (by omega)); (try (have hnQ := Nat.lt_of_succ_le hz; first | (have _x := dQ0; first | (have _x := dQ1; first | (have _x := dQ2; first | (have _x := dQ3; first | (have _x := dQ4; have dQ5 := hnQ) | have dQ4 := hnQ) | have dQ3 := hnQ) | have dQ2 := hnQ) | have dQ1 := hnQ) | have dQ0 := hnQ)); (try (have hmQ := Nat.lt_of_succ_lt (Nat.lt_of_succ_le hz); first | (have _x := dQ0; first | (have _x := dQ1; first | (have _x := dQ2; first | (have _x := dQ3; first | (have _x := dQ4; have dQ5 := hmQ) | have dQ4 := hmQ) | have dQ3 := hmQ) | have dQ2 := hmQ) | have dQ1 := hmQ) | have dQ0 := hmQ))
  obtain ⟨w2, rfl⟩ : ∃ w2 : World, w2 = w' := ⟨_, rfl⟩
  have HW2 := Lib.hid (show Below w.heap.size w w2 by (repeat' first | (with_reducible exact Below.refl _ _) | (with_reducible refine Below.alloc ?_ ?_ _) | (with_reducible refine Below.drew ?_) | (with_reducible refine Below.setCell ?_ ?_ _) | (with_reducible refine below_via (by assumption) ?_ ?_) | go_size))
  go_wp2_with fail
  refine (JumpsOf_any _ _ _ _ hp _).mono ?_
  rintro e w' ⟨vL, rfl, hownL, hb⟩
  have hownB3 := (hownB.alloc _).keep hb
  have HW3 := Lib.hid (below_via hb (HW2.out.alloc (by omega) _) (by simp; omega))
  obtain ⟨hc, hf, hz, hy⟩ := bcell hb; clear hy; (try simp only [World.size_alloc, World.size_setCell, World.size_drew] at hz); (try have gQ0 : w.heap.size < w'.heap.size := by omega); (try have gQ1 : w.heap.size + 1 < w'.heap.size := by omega); (try have gQ2 : w.heap.size + 1 + 1 < w'.heap.size := by omega); (try have gQ3 : w.heap.size + 1 + 1 + 1 < w'.heap.size := by omega); (try have gQ4 : w.heap.size + 1 + 1 + 1 + 1 < w'.heap.size := by omega); (try have gQ5 : w.heap.size + 1 + 1 + 1 + 1 + 1 < w'.heap.size := by omega); (try have dQ0 : _ < w'.heap.size := Nat.lt_of_lt_of_le dQ0 (by omega)); (try have dQ1 : _ < w'.heap.size := Nat.lt_of_lt_of_le dQ1 (by omega)); (try have dQ2 : _ < w'.heap.size := Nat.lt_of_lt_of_le dQ2 (by omega)); (try have dQ3 : _ < w'.heap.size := Nat.lt_of_lt_of_le dQ3 (by omega)); (try have dQ4 : _ < w'.heap.size := Nat.lt_of_lt_of_le dQ4 (by omega)); (try have dQ5 : _ < w'.heap.size := Nat.lt_of_lt_of_le dQ5 (by omega)); (try (have hnQ := Nat.lt_of_succ_le hz; first | (have _x := dQ0; first | (have _x := dQ1; first | (have _x := dQ2; first | (have _x := dQ3; first | (have _x := dQ4; have dQ5 := hnQ) | have dQ4 := hnQ) | have dQ3 := hnQ) | have dQ2 := hnQ) | have dQ1 := hnQ) | have dQ0 := hnQ)); (try (have hmQ := Nat.lt_of_succ_lt (Nat.lt_of_succ_le hz); first | (have _x := dQ0; first | (have _x := dQ1; first | (have _x := dQ2; first | (have _x := dQ3; first | (have _x := dQ4; have dQ5 := hmQ) | have dQ4 := hmQ) | have dQ3 := hmQ) | have dQ2 := hmQ) | have dQ1 := hmQ) | have dQ0 := hmQ))
  obtain ⟨w3, rfl⟩ : ∃ w3 : World, w3 = w' := ⟨_, rfl⟩
  generalize jumpsOf a b o p = L at *
  generalize spreadOf a b o g true = B at *
  obtain ⟨aL, capL, rfl, hnL, hgetL⟩ := hownL.line
  have HGL := Lib.hid hgetL
  clear hgetL hownL hownB
  obtain ⟨aB, capB, rfl, hnB⟩ := hownB3.boolsSmall
  go_wp2_with fail
  go_loopw [8, 21] (fun v i wr => ∃ j : Nat, j ≤ L.length ∧ i = .int .i64 j ∧ Own ELine wr w3.heap.size v ((L.take j).filter (fun l => hasB B (Peg.flip p l))) ∧ Below w3.heap.size w3 wr) (fun _ i _ => L.length - (intOf i).toNat)
  case atStart => exact ⟨0, by omega, rfl, Own.emptyAny _ _ _ _, Below.refl _ _⟩
  case round =>
    obtain ⟨j, hj, rfl, hown, hbw2⟩ := hrel
    have hz5 := hbw2.size
    have hle := filter_take_le (fun l => hasB B (Peg.flip p l)) L j
    by_cases hjt : j < L.length
    · obtain ⟨bL, rfl, hbL1, hbL2, hl1, hl2, hl3⟩ := HGL.out j hjt
      obtain ⟨hin, hcan, hp0, hp1⟩ := HI.out _ (getD_mem L j Ln0 hjt)
      have hm1 : wr.cell? ⟨bL, j * 3, none⟩ = some (.int .i64 (L.getD j Ln0).f) := (hbw2.cell (p := ⟨bL, j * 3, none⟩) hbL2).trans hl1
      have hm2 : wr.cell? ⟨bL, j * 3 + 1, none⟩ = some (.int .i64 (L.getD j Ln0).o) := (hbw2.cell (p := ⟨bL, j * 3 + 1, none⟩) hbL2).trans hl2
      have hm3 : wr.cell? ⟨bL, j * 3 + 2, none⟩ = some (.int .i64 (L.getD j Ln0).t) := (hbw2.cell (p := ⟨bL, j * 3 + 2, none⟩) hbL2).trans hl3
      clear hl1 hl2 hl3
      have HC : Hid ((L.take (j + 1)).filter (fun l => hasB B (Peg.flip p l)) = (L.take j).filter (fun l => hasB B (Peg.flip p l)) ++ (if hasB B (Peg.flip p (L.getD j Ln0)) = true then [L.getD j Ln0] else [])) := filter_take _ L Ln0 j hjt
      generalize L.getD j Ln0 = l at *
      generalize (L.take j).filter (fun l => hasB B (Peg.flip p l)) = D at *
      have hownA := hown.alloc (.cells #[.int .i64 l.f, .int .i64 l.o, .int .i64 l.t] 51)
      have hownBr := (hownB3.keep hbw2).alloc (.cells #[.int .i64 l.f, .int .i64 l.o, .int .i64 l.t] 51)
      have HCJ : Hid (∀ W, Calls Try.prog 151 #[.int .i64 p, .agg #[.int .i64 l.f, .int .i64 l.o, .int .i64 l.t]] W fun e w' => e = .returned (.tuple #[.int .i64 (jumpTo p l), .bool (canJ p l)]) ∧ Below W.heap.size W w') := fun W => jumpFrom_any p l hin.1 hp0 hp1 W
      simp only [show jumpTo p l = Peg.flip p l from by simp [jumpTo, hcan], hcan] at HCJ
      generalize Peg.flip p l = q at *
      go_wp2_with (go_at_call 151; refine (HCJ.out _).mono ?_; rintro e w' ⟨rfl, hb⟩; obtain ⟨hc, hf, hz, hy⟩ := bcell hb; clear hy; (try simp only [World.size_alloc, World.size_setCell, World.size_drew] at hz); (try have gQ0 : w.heap.size < w'.heap.size := by omega); (try have gQ1 : w.heap.size + 1 < w'.heap.size := by omega); (try have gQ2 : w.heap.size + 1 + 1 < w'.heap.size := by omega); (try have gQ3 : w.heap.size + 1 + 1 + 1 < w'.heap.size := by omega); (try have gQ4 : w.heap.size + 1 + 1 + 1 + 1 < w'.heap.size := by omega); (try have gQ5 : w.heap.size + 1 + 1 + 1 + 1 + 1 < w'.heap.size := by omega); (try have dQ0 : _ < w'.heap.size := Nat.lt_of_lt_of_le dQ0 (by omega)); (try have dQ1 : _ < w'.heap.size := Nat.lt_of_lt_of_le dQ1 (by omega)); (try have dQ2 : _ < w'.heap.size := Nat.lt_of_lt_of_le dQ2 (by omega)); (try have dQ3 : _ < w'.heap.size := Nat.lt_of_lt_of_le dQ3 (by omega)); (try have dQ4 : _ < w'.heap.size := Nat.lt_of_lt_of_le dQ4 (by omega)); (try have dQ5 : _ < w'.heap.size := Nat.lt_of_lt_of_le dQ5 (by omega)); (try (have hnQ := Nat.lt_of_succ_le hz; first | (have _x := dQ0; first | (have _x := dQ1; first | (have _x := dQ2; first | (have _x := dQ3; first | (have _x := dQ4; have dQ5 := hnQ) | have dQ4 := hnQ) | have dQ3 := hnQ) | have dQ2 := hnQ) | have dQ1 := hnQ) | have dQ0 := hnQ)); (try (have hmQ := Nat.lt_of_succ_lt (Nat.lt_of_succ_le hz); first | (have _x := dQ0; first | (have _x := dQ1; first | (have _x := dQ2; first | (have _x := dQ3; first | (have _x := dQ4; have dQ5 := hmQ) | have dQ4 := hmQ) | have dQ3 := hmQ) | have dQ2 := hmQ) | have dQ1 := hmQ) | have dQ0 := hmQ)); have hB6 := below_via hb (hbw2.alloc (by omega) _) (by simp; omega); have hown6 := hownA.keep hb; have hownB6 := hownBr.keep hb)
      refine (has_any _ q _ _ _ hownB6).mono ?_
      rintro e w' ⟨rfl, hb⟩; obtain ⟨hc, hf, hz, hy⟩ := bcell hb; clear hy; (try simp only [World.size_alloc, World.size_setCell, World.size_drew] at hz); (try have gQ0 : w.heap.size < w'.heap.size := by omega); (try have gQ1 : w.heap.size + 1 < w'.heap.size := by omega); (try have gQ2 : w.heap.size + 1 + 1 < w'.heap.size := by omega); (try have gQ3 : w.heap.size + 1 + 1 + 1 < w'.heap.size := by omega); (try have gQ4 : w.heap.size + 1 + 1 + 1 + 1 < w'.heap.size := by omega); (try have gQ5 : w.heap.size + 1 + 1 + 1 + 1 + 1 < w'.heap.size := by omega); (try have dQ0 : _ < w'.heap.size := Nat.lt_of_lt_of_le dQ0 (by omega)); (try have dQ1 : _ < w'.heap.size := Nat.lt_of_lt_of_le dQ1 (by omega)); (try have dQ2 : _ < w'.heap.size := Nat.lt_of_lt_of_le dQ2 (by omega)); (try have dQ3 : _ < w'.heap.size := Nat.lt_of_lt_of_le dQ3 (by omega)); (try have dQ4 : _ < w'.heap.size := Nat.lt_of_lt_of_le dQ4 (by omega)); (try have dQ5 : _ < w'.heap.size := Nat.lt_of_lt_of_le dQ5 (by omega)); (try (have hnQ := Nat.lt_of_succ_le hz; first | (have _x := dQ0; first | (have _x := dQ1; first | (have _x := dQ2; first | (have _x := dQ3; first | (have _x := dQ4; have dQ5 := hnQ) | have dQ4 := hnQ) | have dQ3 := hnQ) | have dQ2 := hnQ) | have dQ1 := hnQ) | have dQ0 := hnQ)); (try (have hmQ := Nat.lt_of_succ_lt (Nat.lt_of_succ_le hz); first | (have _x := dQ0; first | (have _x := dQ1; first | (have _x := dQ2; first | (have _x := dQ3; first | (have _x := dQ4; have dQ5 := hmQ) | have dQ4 := hmQ) | have dQ3 := hmQ) | have dQ2 := hmQ) | have dQ1 := hmQ) | have dQ0 := hmQ))
      have hB7 := below_via hb hB6 (by omega)
      have hown7 := hown6.keep hb
      cases hh2 : hasB B q
      · rw [hh2] at HC
        go_wp2_with fail
        go_roundw
        case rel => exact ⟨j + 1, by omega, by go_num, by rw [HC.out]; simpa using hown7, hB7⟩
        case measure => simp [intOf]; omega
      · rw [hh2] at HC
        go_wp2_with (at_builtin; (refine append1 (E := ELine) (l := D) rfl rfl _ _ 32 rfl Try.underlying32 rfl hown7 l rfl (by omega) (by omega) ?_); intro v' w8 hown8 hb8 hg8)
        go_roundw
        case rel => exact ⟨j + 1, by omega, by go_num, by rw [HC.out]; simpa using hown8, hB7.trans hb8⟩
        case measure => simp [intOf]; omega
    · obtain rfl : j = L.length := by omega
      rw [List.take_length] at hown
      go_wp2_with fail
      go_ret
      exact ⟨_, rfl, by rw [HF.out]; exact hown.mono (by omega), HW3.out.trans (hbw2.mono (by omega))⟩
end Go.Proofs.Ytfpofhkggojaoaa
