/- Ent: contracts of TotalOf, BestResult and the reference's; of the laws' own functions on one entrant. Conditions: lengths in range. -/
import Derived.Test.YtfpofhkggojaoaaEnt0
import Derived.Test.YtfpofhkggojaoaaArgR
set_option linter.unusedVariables false
set_option linter.unusedSimpArgs false
namespace Go.Proofs.Ytfpofhkggojaoaa
open Go.ChangeShapes Go.WideShapes Go.ChangeAt Go.RowKit Peg Go.Sort
set_option maxRecDepth 100000 in
theorem TotalOf_any (n : Int) (rs : List Rs) (v : Value) (hl : rs.length ≤ 1048576) (w : World) {B : Nat} (hv : Own EResult w B v rs) :
    Calls Try.prog 55 #[.agg #[.int .i64 n, v]] w fun e w' => e = .returned (.int .i64 (totalOf rs)) ∧ Below w.heap.size w w' := by
  obtain ⟨a, cap, rfl, _, hget⟩ := hv.resultG
  have HG := Lib.hid hget
  clear hget hv
  go_enter Try.func55, Try.ntmps55
  go_wp2_with fail
  go_loopw [3, 9] (fun t i wr => ∃ k : Nat, k ≤ rs.length ∧ i = .int .i64 k ∧ t = .int .i64 (totalOf (rs.take k)) ∧ Below w.heap.size w wr) (fun _ i _ => rs.length - (intOf i).toNat)
  case atStart => exact ⟨0, by omega, rfl, by simp [totalOf], by (repeat' first | (with_reducible exact Below.refl _ _) | (with_reducible refine Below.alloc ?_ ?_ _) | (with_reducible refine Below.drew ?_) | (with_reducible refine Below.setCell ?_ ?_ _) | (with_reducible refine below_via (by assumption) ?_ ?_) | go_size)⟩
  case round =>
    obtain ⟨k, hk, rfl, rfl, hbw⟩ := hrel
    have hz := hbw.size
    have hbd := totalOf_take_bd rs k
    by_cases hlt : k < rs.length
    · obtain ⟨b1, rfl, _, hb1, hc0, hc1, hc2, hc3⟩ := HG.out k hlt
      rw [← hbw.cell (by simpa using hb1)] at hc0 hc1 hc2 hc3
      have HT := Lib.hid (totalOf_take hlt)
      have HP : Hid (∀ W, Calls Try.prog 39 #[.agg #[.int .i64 (gD rs Rs0 k).l, .bool (gD rs Rs0 k).c, .int .i64 (gD rs Rs0 k).s, .int .i64 (gD rs Rs0 k).t]] W fun e w' => e = .returned (.int .i64 (ptsR (gD rs Rs0 k))) ∧ Below W.heap.size W w') := fun W => PointsOf_any _ _ _ _ W
      have hp := ptsR_bd (gD rs Rs0 k)
      generalize gD rs Rs0 k = r at *
      generalize totalOf (rs.take k) = T at *
      generalize ptsR r = p at *
      have gW : b1 < wr.heap.size := by omega
      go_wp2_with (go_at_call 39; refine (HP.out _).mono ?_; rintro e w' ⟨rfl, hb⟩; have hb2 := below_via hb (hbw.alloc (by omega) _) (by simp; omega))
      go_roundw
      case rel => exact ⟨k + 1, by omega, by go_num, by rw [HT.out], hb2⟩
      case measure => simp [intOf]; omega
    · obtain rfl : k = rs.length := by omega
      have HT : Hid (totalOf (rs.take rs.length) = totalOf rs) := by show _ = _; rw [List.take_length]
      go_wp2_with fail
      go_ret
      exact ⟨by simp [HT.out], hbw⟩
set_option maxHeartbeats 1000000 in
set_option maxRecDepth 100000 in
theorem BestResult_any (n : Int) (rs : List Rs) (v : Value) (hl : rs.length ≤ 1048576) (w : World) {B : Nat} (hv : Own EResult w B v rs) :
    Calls Try.prog 56 #[.agg #[.int .i64 n, v]] w fun e w' => e = .returned (.int .i64 (bestOf rs)) ∧ Below w.heap.size w w' := by
  obtain ⟨a, cap, rfl, _, hget⟩ := hv.resultG
  have HG := Lib.hid hget
  clear hget hv
  go_enter Try.func56, Try.ntmps56
  go_wp2_with fail
  go_loopw [3, 9] (fun t i wr => ∃ k : Nat, k ≤ rs.length ∧ i = .int .i64 k ∧ t = .int .i64 (bestRun rs k) ∧ Hid ((rs.take k).all okR = true) ∧ Below (w.heap.size + 1) (w.alloc (.cells #[.int .i64 n, .slice a rs.length cap] 88)) wr) (fun _ i _ => rs.length - (intOf i).toNat)
  case atStart => exact ⟨0, by omega, rfl, rfl, by show _ = _; simp, Below.refl _ _⟩
  case round =>
    obtain ⟨k, hk, rfl, rfl, hall, hbw⟩ := hrel
    have hz : w.heap.size + 1 ≤ wr.heap.size := by have := hbw.size; simpa using this
    have hbA : Below w.heap.size w wr := ((Below.refl _ _).alloc (Nat.le_refl _) _).trans (hbw.mono (by omega))
    have hbox : ∀ j, wr.cell? ⟨w.heap.size, j, none⟩ = #[Value.int .i64 n, .slice a rs.length cap][j]? := fun j => (hbw.cell (by simp)).trans (by simp)
    have gW0 : w.heap.size < wr.heap.size := by omega
    have hbd := bestRun_bd rs k
    by_cases hlt : k < rs.length
    · obtain ⟨b1, rfl, _, hb1, hc0, hc1, hc2, hc3⟩ := HG.out k hlt
      rw [← hbA.cell (by simpa using hb1)] at hc0 hc1 hc2 hc3
      have gW : b1 < wr.heap.size := by omega
      have HO : Hid (∀ W, Calls Try.prog 38 #[.agg #[.int .i64 (gD rs Rs0 k).l, .bool (gD rs Rs0 k).c, .int .i64 (gD rs Rs0 k).s, .int .i64 (gD rs Rs0 k).t]] W fun e w' => e = .returned (.bool (okR (gD rs Rs0 k))) ∧ Below W.heap.size W w') := fun W => ResultOk_any _ _ _ _ W
      cases hok : okR (gD rs Rs0 k)
      · have HE : Hid (bestOf rs = -1) := by show _ = _; simp only [bestOf]; rw [all_take_no hlt hok]; rfl
        rw [hok] at HO
        clear hok
        generalize gD rs Rs0 k = r at *
        go_wp2_with (go_at_call 38; refine (HO.out _).mono ?_; rintro e w' ⟨rfl, hb⟩; obtain ⟨hc, hf, hz, hy⟩ := bcell hb; clear hy; (try simp only [World.size_alloc, World.size_setCell, World.size_drew] at hz); (try have gQ0 : w.heap.size < w'.heap.size := by omega); (try have gQ1 : w.heap.size + 1 < w'.heap.size := by omega); (try have gQ2 : w.heap.size + 1 + 1 < w'.heap.size := by omega); (try have gQ3 : w.heap.size + 1 + 1 + 1 < w'.heap.size := by omega); (try have gQ4 : w.heap.size + 1 + 1 + 1 + 1 < w'.heap.size := by omega); (try have gQ5 : w.heap.size + 1 + 1 + 1 + 1 + 1 < w'.heap.size := by omega); (try have dQ0 : _ < w'.heap.size := Nat.lt_of_lt_of_le dQ0 (by omega)); (try have dQ1 : _ < w'.heap.size := Nat.lt_of_lt_of_le dQ1 (by omega)); (try have dQ2 : _ < w'.heap.size := Nat.lt_of_lt_of_le dQ2 (by omega)); (try have dQ3 : _ < w'.heap.size := Nat.lt_of_lt_of_le dQ3 (by omega)); (try have dQ4 : _ < w'.heap.size := Nat.lt_of_lt_of_le dQ4 (by omega)); (try have dQ5 : _ < w'.heap.size := Nat.lt_of_lt_of_le dQ5 (by omega)); (try (have hnQ := Nat.lt_of_succ_le hz; first | (have _x := dQ0; first | (have _x := dQ1; first | (have _x := dQ2; first | (have _x := dQ3; first | (have _x := dQ4; have dQ5 := hnQ) | have dQ4 := hnQ) | have dQ3 := hnQ) | have dQ2 := hnQ) | have dQ1 := hnQ) | have dQ0 := hnQ)); (try (have hmQ := Nat.lt_of_succ_lt (Nat.lt_of_succ_le hz); first | (have _x := dQ0; first | (have _x := dQ1; first | (have _x := dQ2; first | (have _x := dQ3; first | (have _x := dQ4; have dQ5 := hmQ) | have dQ4 := hmQ) | have dQ3 := hmQ) | have dQ2 := hmQ) | have dQ1 := hmQ) | have dQ0 := hmQ)))
        all_goals go_ret
        all_goals exact ⟨by simp [HE.out], by (repeat' first | (with_reducible exact Below.refl _ _) | (with_reducible refine Below.alloc ?_ ?_ _) | (with_reducible refine Below.drew ?_) | (with_reducible refine Below.setCell ?_ ?_ _) | (with_reducible refine below_via (by assumption) ?_ ?_) | go_size)⟩
      rw [hok] at HO
      have HN := Lib.hid (all_take_yes hlt hall.out hok)
      have HS : Hid (bestRun rs (k + 1) = bestStep rs (bestRun rs k) k) := rfl
      clear hok
      by_cases hneg : bestRun rs k < 0
      · have HV : Hid (bestRun rs (k + 1) = k) := by show _ = _; rw [HS.out, bestStep, if_pos hneg]
        generalize gD rs Rs0 k = r at *
        generalize bestRun rs k = b0 at *
        have hd : decide (b0 < 0) = true := by simpa using hneg
        go_wp2_with (first | (go_at_call 38; refine (HO.out _).mono ?_; rintro e w' ⟨rfl, hb⟩; obtain ⟨hc, hf, hz, hy⟩ := bcell hb; clear hy; (try simp only [World.size_alloc, World.size_setCell, World.size_drew] at hz); (try have gQ0 : w.heap.size < w'.heap.size := by omega); (try have gQ1 : w.heap.size + 1 < w'.heap.size := by omega); (try have gQ2 : w.heap.size + 1 + 1 < w'.heap.size := by omega); (try have gQ3 : w.heap.size + 1 + 1 + 1 < w'.heap.size := by omega); (try have gQ4 : w.heap.size + 1 + 1 + 1 + 1 < w'.heap.size := by omega); (try have gQ5 : w.heap.size + 1 + 1 + 1 + 1 + 1 < w'.heap.size := by omega); (try have dQ0 : _ < w'.heap.size := Nat.lt_of_lt_of_le dQ0 (by omega)); (try have dQ1 : _ < w'.heap.size := Nat.lt_of_lt_of_le dQ1 (by omega)); (try have dQ2 : _ < w'.heap.size := Nat.lt_of_lt_of_le dQ2 (by omega)); (try have dQ3 : _ < w'.heap.size := Nat.lt_of_lt_of_le dQ3 (by omega)); (try have dQ4 : _ < w'.heap.size := Nat.lt_of_lt_of_le dQ4 (by omega)); (try have dQ5 : _ < w'.heap.size := Nat.lt_of_lt_of_le dQ5 (by omega)); (try (have hnQ := Nat.lt_of_succ_le hz; first | (have _x := dQ0; first | (have _x := dQ1; first | (have _x := dQ2; first | (have _x := dQ3; first | (have _x := dQ4; have dQ5 := hnQ) | have dQ4 := hnQ) | have dQ3 := hnQ) | have dQ2 := hnQ) | have dQ1 := hnQ) | have dQ0 := hnQ)); (try (have hmQ := Nat.lt_of_succ_lt (Nat.lt_of_succ_le hz); first | (have _x := dQ0; first | (have _x := dQ1; first | (have _x := dQ2; first | (have _x := dQ3; first | (have _x := dQ4; have dQ5 := hmQ) | have dQ4 := hmQ) | have dQ3 := hmQ) | have dQ2 := hmQ) | have dQ1 := hmQ) | have dQ0 := hmQ)); have gX : b1 < w'.heap.size := by omega) | ((with_reducible refine wp_region_qb ?_ ?_ (fun hq => ?_)); (focus kernel_rfl); (focus kernel_rfl); (repeat (go_big_quiet_step (fail))); refine wpQuiet_nil ?_; intro wq hb; obtain ⟨hc, hf, hz, hy⟩ := bcell hb; clear hq hy; (try simp only [World.size_alloc, World.size_setCell, World.size_drew] at hz); (try have gQ0 : w.heap.size < wq.heap.size := by omega); (try have gQ1 : w.heap.size + 1 < wq.heap.size := by omega); (try have gQ2 : w.heap.size + 1 + 1 < wq.heap.size := by omega); (try have gQ3 : w.heap.size + 1 + 1 + 1 < wq.heap.size := by omega); (try have gQ4 : w.heap.size + 1 + 1 + 1 + 1 < wq.heap.size := by omega); (try have gQ5 : w.heap.size + 1 + 1 + 1 + 1 + 1 < wq.heap.size := by omega); (try have dQ0 : _ < wq.heap.size := Nat.lt_of_lt_of_le dQ0 (by omega)); (try have dQ1 : _ < wq.heap.size := Nat.lt_of_lt_of_le dQ1 (by omega)); (try have dQ2 : _ < wq.heap.size := Nat.lt_of_lt_of_le dQ2 (by omega)); (try have dQ3 : _ < wq.heap.size := Nat.lt_of_lt_of_le dQ3 (by omega)); (try have dQ4 : _ < wq.heap.size := Nat.lt_of_lt_of_le dQ4 (by omega)); (try have dQ5 : _ < wq.heap.size := Nat.lt_of_lt_of_le dQ5 (by omega)); (try (have hnQ := Nat.lt_of_succ_le hz; first | (have _x := dQ0; first | (have _x := dQ1; first | (have _x := dQ2; first | (have _x := dQ3; first | (have _x := dQ4; have dQ5 := hnQ) | have dQ4 := hnQ) | have dQ3 := hnQ) | have dQ2 := hnQ) | have dQ1 := hnQ) | have dQ0 := hnQ)); (try (have hmQ := Nat.lt_of_succ_lt (Nat.lt_of_succ_le hz); first | (have _x := dQ0; first | (have _x := dQ1; first | (have _x := dQ2; first | (have _x := dQ3; first | (have _x := dQ4; have dQ5 := hmQ) | have dQ4 := hmQ) | have dQ3 := hmQ) | have dQ2 := hmQ) | have dQ1 := hmQ) | have dQ0 := hmQ))))
        go_roundw
        case rel => exact ⟨k + 1, by omega, by go_num, by rw [HV.out], HN, by clear hbA; (repeat' first | (with_reducible exact Below.refl _ _) | (with_reducible refine Below.alloc ?_ ?_ _) | (with_reducible refine Below.drew ?_) | (with_reducible refine Below.setCell ?_ ?_ _) | (with_reducible refine below_via (by assumption) ?_ ?_) | go_size)⟩
        case measure => simp [intOf]; omega
      · obtain ⟨m, hm⟩ : ∃ m : Nat, bestRun rs k = m := ⟨(bestRun rs k).toNat, by omega⟩
        have HV : Hid (bestRun rs (k + 1) = if betR (gD rs Rs0 k) (gD rs Rs0 m) = true then (k : Int) else m) := by show _ = _; rw [HS.out, bestStep, if_neg hneg, hm]; rfl
        have hmk : m < k := by omega
        obtain ⟨b1', e1, _, _, hd0, hd1, hd2, hd3⟩ := HG.out m (by omega)
        obtain rfl : b1 = b1' := by simpa using e1
        rw [← hbA.cell (by simpa using hb1)] at hd0 hd1 hd2 hd3
        have HB : Hid (∀ W, Calls Try.prog 30 #[.agg #[.int .i64 (gD rs Rs0 k).l, .bool (gD rs Rs0 k).c, .int .i64 (gD rs Rs0 k).s, .int .i64 (gD rs Rs0 k).t], .agg #[.int .i64 (gD rs Rs0 m).l, .bool (gD rs Rs0 m).c, .int .i64 (gD rs Rs0 m).s, .int .i64 (gD rs Rs0 m).t]] W fun e w' => e = .returned (.bool (betR (gD rs Rs0 k) (gD rs Rs0 m))) ∧ Below W.heap.size W w') := fun W => IsBetter_any _ _ _ _ _ _ _ _ W
        have hdm : decide ((m : Int) < 0) = false := by simp
        clear e1 hneg hbd HS
        rw [hm]
        clear hm
        cases hbt : betR (gD rs Rs0 k) (gD rs Rs0 m)
        all_goals
          rw [hbt] at HV HB
          clear hbt
          generalize gD rs Rs0 k = r at *
          generalize gD rs Rs0 m = r2 at *
          go_wp2_with (first | (go_at_call 38; refine (HO.out _).mono ?_; rintro e w' ⟨rfl, hb⟩; obtain ⟨hc, hf, hz, hy⟩ := bcell hb; clear hy; (try simp only [World.size_alloc, World.size_setCell, World.size_drew] at hz); (try have gQ0 : w.heap.size < w'.heap.size := by omega); (try have gQ1 : w.heap.size + 1 < w'.heap.size := by omega); (try have gQ2 : w.heap.size + 1 + 1 < w'.heap.size := by omega); (try have gQ3 : w.heap.size + 1 + 1 + 1 < w'.heap.size := by omega); (try have gQ4 : w.heap.size + 1 + 1 + 1 + 1 < w'.heap.size := by omega); (try have gQ5 : w.heap.size + 1 + 1 + 1 + 1 + 1 < w'.heap.size := by omega); (try have dQ0 : _ < w'.heap.size := Nat.lt_of_lt_of_le dQ0 (by omega)); (try have dQ1 : _ < w'.heap.size := Nat.lt_of_lt_of_le dQ1 (by omega)); (try have dQ2 : _ < w'.heap.size := Nat.lt_of_lt_of_le dQ2 (by omega)); (try have dQ3 : _ < w'.heap.size := Nat.lt_of_lt_of_le dQ3 (by omega)); (try have dQ4 : _ < w'.heap.size := Nat.lt_of_lt_of_le dQ4 (by omega)); (try have dQ5 : _ < w'.heap.size := Nat.lt_of_lt_of_le dQ5 (by omega)); (try (have hnQ := Nat.lt_of_succ_le hz; first | (have _x := dQ0; first | (have _x := dQ1; first | (have _x := dQ2; first | (have _x := dQ3; first | (have _x := dQ4; have dQ5 := hnQ) | have dQ4 := hnQ) | have dQ3 := hnQ) | have dQ2 := hnQ) | have dQ1 := hnQ) | have dQ0 := hnQ)); (try (have hmQ := Nat.lt_of_succ_lt (Nat.lt_of_succ_le hz); first | (have _x := dQ0; first | (have _x := dQ1; first | (have _x := dQ2; first | (have _x := dQ3; first | (have _x := dQ4; have dQ5 := hmQ) | have dQ4 := hmQ) | have dQ3 := hmQ) | have dQ2 := hmQ) | have dQ1 := hmQ) | have dQ0 := hmQ)); have gX : b1 < w'.heap.size := by omega) | ((with_reducible refine wp_region_qb ?_ ?_ (fun hq => ?_)); (focus kernel_rfl); (focus kernel_rfl); (repeat (go_big_quiet_step (((go_at_call 30; exact Calls.regrown_of (HB.out _)))))); refine wpQuiet_nil ?_; intro wq hb; obtain ⟨hc, hf, hz, hy⟩ := bcell hb; clear hq hy; (try simp only [World.size_alloc, World.size_setCell, World.size_drew] at hz); (try have gQ0 : w.heap.size < wq.heap.size := by omega); (try have gQ1 : w.heap.size + 1 < wq.heap.size := by omega); (try have gQ2 : w.heap.size + 1 + 1 < wq.heap.size := by omega); (try have gQ3 : w.heap.size + 1 + 1 + 1 < wq.heap.size := by omega); (try have gQ4 : w.heap.size + 1 + 1 + 1 + 1 < wq.heap.size := by omega); (try have gQ5 : w.heap.size + 1 + 1 + 1 + 1 + 1 < wq.heap.size := by omega); (try have dQ0 : _ < wq.heap.size := Nat.lt_of_lt_of_le dQ0 (by omega)); (try have dQ1 : _ < wq.heap.size := Nat.lt_of_lt_of_le dQ1 (by omega)); (try have dQ2 : _ < wq.heap.size := Nat.lt_of_lt_of_le dQ2 (by omega)); (try have dQ3 : _ < wq.heap.size := Nat.lt_of_lt_of_le dQ3 (by omega)); (try have dQ4 : _ < wq.heap.size := Nat.lt_of_lt_of_le dQ4 (by omega)); (try have dQ5 : _ < wq.heap.size := Nat.lt_of_lt_of_le dQ5 (by omega)); (try (have hnQ := Nat.lt_of_succ_le hz; first | (have _x := dQ0; first | (have _x := dQ1; first | (have _x := dQ2; first | (have _x := dQ3; first | (have _x := dQ4; have dQ5 := hnQ) | have dQ4 := hnQ) | have dQ3 := hnQ) | have dQ2 := hnQ) | have dQ1 := hnQ) | have dQ0 := hnQ)); (try (have hmQ := Nat.lt_of_succ_lt (Nat.lt_of_succ_le hz); first | (have _x := dQ0; first | (have _x := dQ1; first | (have _x := dQ2; first | (have _x := dQ3; first | (have _x := dQ4; have dQ5 := hmQ) | have dQ4 := hmQ) | have dQ3 := hmQ) | have dQ2 := hmQ) | have dQ1 := hmQ) | have dQ0 := hmQ))))
          go_roundw
          case rel => exact ⟨k + 1, by omega, by go_num, by rw [HV.out]; rfl, HN, by clear hbA; (repeat' first | (with_reducible exact Below.refl _ _) | (with_reducible refine Below.alloc ?_ ?_ _) | (with_reducible refine Below.drew ?_) | (with_reducible refine Below.setCell ?_ ?_ _) | (with_reducible refine below_via (by assumption) ?_ ?_) | go_size)⟩
          case measure => simp [intOf]; omega
    · obtain rfl : k = rs.length := by omega
      have HT : Hid (bestOf rs = bestRun rs rs.length) := by show _ = _; have := hall.out; rw [List.take_length] at this; simp [bestOf, this]
      go_wp2_with fail
      go_ret
      exact ⟨by simp [HT.out], hbA⟩
end Go.Proofs.Ytfpofhkggojaoaa
