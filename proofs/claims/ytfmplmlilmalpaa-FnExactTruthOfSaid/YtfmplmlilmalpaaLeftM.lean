/- LeftM: contracts of FewestLeft of the program and of the reference. Conditions: the board is small, the position is in order. -/
import Derived.Test.YtfmplmlilmalpaaPop
import Derived.Test.YtfmplmlilmalpaaReach2
import Derived.Test.YtfmplmlilmalpaaFewest0
import Derived.Test.YtfmplmlilmalpaaMem3
set_option linter.unusedVariables false
set_option linter.unusedSimpArgs false
namespace Peg
theorem left_succ {R : List Int} {k : Nat} (h : k < R.length) : fewestL (R.take (k + 1)) = lessOf (fewestL (R.take k)) (pegs (gD R 0 k)) := by
  unfold fewestL
  rw [List.take_add_one, List.foldl_append]
  have : R[k]? = some (gD R 0 k) := by simp [gD, h]
  rw [this]
  rfl
theorem left_ge (R : List Int) : ∀ k, k ≤ R.length → -1 ≤ fewestL (R.take k) ∧ fewestL (R.take k) ≤ 49
  | 0, _ => by simp [fewestL]
  | k + 1, h => by
    have ih := left_ge R k (by omega)
    rw [left_succ (by omega)]
    have := pegs_le (gD R 0 k)
    unfold lessOf
    split <;> omega
end Peg
namespace Go.Proofs.Ytfmplmlilmalpaa
open Go.ChangeShapes Go.WideShapes Go.ChangeAt Go.RowKit Peg Go.Sort
set_option maxHeartbeats 1000000 in
set_option maxRecDepth 100000 in
theorem FewestLeft_any (a b o p : Int) (hs : isSmall a b o = true) (hp : posOk a b o p = true) (w : World) :
    Calls Try.prog 23 #[.agg #[.int .i64 a, .int .i64 b, .int .i64 o], .int .i64 p] w fun e w' => e = .returned (.int .i64 (fewestLeft a b o p)) ∧ Below w.heap.size w w' := by
  have hpl := pos_lt hp
  have HR : Hid (∀ x ∈ reachList a b o p, 0 ≤ x ∧ x < 65536) := by
    intro x hx
    have h1 := listOf_mem hx
    rw [spreadOf_length hs hp] at h1
    have := (small_N hs).2.2.2.1
    exact ⟨h1.1, by omega⟩
  have HF : Hid (fewestLeft a b o p = fewestL (reachList a b o p)) := rfl
  go_enter Try.func23, Try.ntmps23
  go_wp2_with fail
  refine (ReachOf_any _ _ _ _ (by omega) _).mono ?_
  rintro e w2 ⟨vR, rfl, hownR, hb⟩
  have HW := Lib.hid (show Below w.heap.size w w2 by (repeat' first | (with_reducible exact Below.refl _ _) | (with_reducible refine Below.alloc ?_ ?_ _) | (with_reducible refine Below.drew ?_) | (with_reducible refine Below.setCell ?_ ?_ _) | (with_reducible refine below_via (by assumption) ?_ ?_) | go_size))
  obtain ⟨aR, capR, rfl, hnR, hgetR⟩ := hownR.intG
  have HGR := Lib.hid hgetR
  clear hgetR hownR hb
  generalize reachList a b o p = R at *
  have HLE := Lib.hid (left_ge R)
  have HSU := Lib.hid (fun k (h : k < R.length) => left_succ h)
  go_wp2_with fail
  go_loopw [5, 12] (fun c i wr => ∃ k : Nat, k ≤ R.length ∧ i = .int .i64 k ∧ c = .int .i64 (fewestL (R.take k)) ∧ Below w2.heap.size w2 wr) (fun _ i _ => R.length - (intOf i).toNat)
  case atStart => exact ⟨0, by omega, rfl, by simp [fewestL], Below.refl _ _⟩
  case round =>
    obtain ⟨k, hk, rfl, rfl, hbw⟩ := hrel
    have hz := hbw.size
    by_cases hlt : k < R.length
    · obtain ⟨bR, rfl, _, hbR2, hcR⟩ := HGR.out k hlt
      have hcRw := (hbw.cell (p := ⟨bR, k, none⟩) hbR2).trans hcR
      have hrg := HR.out _ (gD_mem R 0 k hlt)
      have HS := Lib.hid (HSU.out k hlt)
      have hle := HLE.out k (by omega)
      have hP := pegsIn_any (gD R 0 k) hrg.1 (by omega)
      clear hcR
      generalize gD R 0 k = q at *
      generalize fewestL (R.take k) = m at *
      have HP := Lib.hid hP
      clear hP
      generalize pegs q = c at *
      by_cases h1 : m < 0
      · have hd1 : decide (m < 0) = true := decide_eq_true h1
        have HV : Hid (fewestL (R.take (k + 1)) = c) := by show _ = _; rw [HS.out, lessOf, if_pos (Or.inl h1)]
        go_wp2_with (go_at_call 42; refine (HP.out _).mono ?_; rintro e w' ⟨rfl, rfl⟩)
        go_roundw
        case rel => exact ⟨k + 1, by omega, by go_num, by rw [HV.out], hbw⟩
        case measure => simp [intOf]; omega
      · have hd1 : decide (m < 0) = false := decide_eq_false h1
        by_cases h2 : (c : Int) < m
        · have hd2 : decide ((c : Int) < m) = true := decide_eq_true h2
          have HV : Hid (fewestL (R.take (k + 1)) = c) := by show _ = _; rw [HS.out, lessOf, if_pos (Or.inr h2)]
          go_wp2_with (go_at_call 42; refine (HP.out _).mono ?_; rintro e w' ⟨rfl, rfl⟩)
          go_roundw
          case rel => exact ⟨k + 1, by omega, by go_num, by rw [HV.out], hbw⟩
          case measure => simp [intOf]; omega
        · have hd2 : decide ((c : Int) < m) = false := decide_eq_false h2
          have HV : Hid (fewestL (R.take (k + 1)) = m) := by show _ = _; rw [HS.out, lessOf, if_neg (by omega)]
          go_wp2_with (go_at_call 42; refine (HP.out _).mono ?_; rintro e w' ⟨rfl, rfl⟩)
          go_roundw
          case rel => exact ⟨k + 1, by omega, by go_num, by rw [HV.out], hbw⟩
          case measure => simp [intOf]; omega
    · obtain rfl : k = R.length := by omega
      rw [List.take_length]
      go_wp2_with fail
      all_goals go_ret
      all_goals exact ⟨by simp [HF.out], HW.out.trans (hbw.mono HW.out.size)⟩
set_option maxHeartbeats 1000000 in
set_option maxRecDepth 100000 in
theorem sFewestLeft_any (a b o p : Int) (hs : isSmall a b o = true) (hp : posOk a b o p = true) (w : World) :
    Calls Try.prog 15 #[.agg #[.int .i64 a, .int .i64 b, .int .i64 o], .int .i64 p] w fun e w' => e = .returned (.int .i64 (fewestLeft a b o p)) ∧ Below w.heap.size w w' := by
  have hpl := pos_lt hp
  have HR : Hid (∀ x ∈ reachList a b o p, 0 ≤ x ∧ x < 65536) := by
    intro x hx
    have h1 := listOf_mem hx
    rw [spreadOf_length hs hp] at h1
    have := (small_N hs).2.2.2.1
    exact ⟨h1.1, by omega⟩
  have HCP : Hid (∀ q ∈ reachList a b o p, ∀ W, Calls Try.prog 33 #[.agg #[.int .i64 a, .int .i64 b, .int .i64 o], .int .i64 q] W fun e w' => e = .returned (.int .i64 (pegs q : Nat)) ∧ Below W.heap.size W w') := by
    intro q hq W
    have h1 := listOf_mem hq
    have h2 : hasB (spreadOf a b o p false) q = true := by
      simp only [hasB, Bool.and_eq_true, decide_eq_true_eq]
      exact ⟨⟨h1.1, h1.2.1⟩, h1.2.2⟩
    have hpq := Peg.Steps.pos hp ((hasB_iff hs hp).1 h2)
    have h := sCountPegs_any a b o q (by have := pos_lt hpq; omega) W
    rwa [if_pos hpq] at h
  have HF : Hid (fewestLeft a b o p = fewestL (reachList a b o p)) := rfl
  go_enter Try.func15, Try.ntmps15
  go_wp2_with fail
  refine (sReachOf_any _ _ _ _ (by omega) _).mono ?_
  rintro e w2 ⟨vR, rfl, hownR, hb⟩
  have hz2 := hb.size
  simp only [World.size_alloc] at hz2
  have hB2 : Below (w.heap.size + 1) (w.alloc (.cells #[.int .i64 a, .int .i64 b, .int .i64 o] 32)) w2 := by simpa using hb
  have HB2 := Lib.hid hB2
  have hbox2 : ∀ j, w2.cell? ⟨w.heap.size, j, none⟩ = #[Value.int .i64 a, .int .i64 b, .int .i64 o][j]? := fun j => (HB2.out.cell (by simp)).trans (by simp)
  have gW2 : w.heap.size < w2.heap.size := by omega
  have HW : Hid (Below w.heap.size w w2) := ((Below.refl _ _).alloc (Nat.le_refl _) _).trans (HB2.out.mono (by omega))
  obtain ⟨aR, capR, rfl, hnR, hgetR⟩ := hownR.intG
  have HGR := Lib.hid hgetR
  clear hgetR hownR hb hB2
  generalize reachList a b o p = R at *
  have HLE := Lib.hid (left_ge R)
  have HSU := Lib.hid (fun k (h : k < R.length) => left_succ h)
  go_wp2_with fail
  go_loopw [6, 7] (fun c i wr => ∃ k : Nat, k ≤ R.length ∧ i = .int .i64 k ∧ c = .int .i64 (fewestL (R.take k)) ∧ Below w2.heap.size w2 wr) (fun _ i _ => R.length - (intOf i).toNat)
  case atStart => exact ⟨0, by omega, rfl, by simp [fewestL], Below.refl _ _⟩
  case round =>
    obtain ⟨k, hk, rfl, rfl, hbw⟩ := hrel
    have hz := hbw.size
    have hboxr : ∀ j, wr.cell? ⟨w.heap.size, j, none⟩ = #[Value.int .i64 a, .int .i64 b, .int .i64 o][j]? := fun j => (hbw.cell (by simpa using gW2)).trans (hbox2 j)
    have gWr : w.heap.size < wr.heap.size := by omega
    by_cases hlt : k < R.length
    · obtain ⟨bR, rfl, _, hbR2, hcR⟩ := HGR.out k hlt
      have hcRw := (hbw.cell (p := ⟨bR, k, none⟩) hbR2).trans hcR
      have gR : bR < wr.heap.size := by omega
      have hrg := HR.out _ (gD_mem R 0 k hlt)
      have HS := Lib.hid (HSU.out k hlt)
      have hle := HLE.out k (by omega)
      have HP := Lib.hid (HCP.out _ (gD_mem R 0 k hlt))
      clear hcR
      generalize gD R 0 k = q at *
      generalize fewestL (R.take k) = m at *
      generalize pegs q = c at *
      by_cases h1 : m < 0
      · have hd1 : decide (m < 0) = true := decide_eq_true h1
        have HV : Hid (fewestL (R.take (k + 1)) = c) := by show _ = _; rw [HS.out, lessOf, if_pos (Or.inl h1)]
        go_wp2_with ((with_reducible refine wp_region_qb ?_ ?_ (fun hq => ?_)); (focus kernel_rfl); (focus kernel_rfl); (repeat (go_big_quiet_step ((go_at_call 33; exact Calls.regrown_of (HP.out _))))); refine wpQuiet_nil ?_; (intro wq hbq; clear hq))
        go_roundw
        case rel => exact ⟨k + 1, by omega, by go_num, by rw [HV.out], hbw.trans (hbq.mono hz)⟩
        case measure => simp [intOf]; omega
      · have hd1 : decide (m < 0) = false := decide_eq_false h1
        by_cases h2 : (c : Int) < m
        · have hd2 : decide ((c : Int) < m) = true := decide_eq_true h2
          have HV : Hid (fewestL (R.take (k + 1)) = c) := by show _ = _; rw [HS.out, lessOf, if_pos (Or.inr h2)]
          go_wp2_with ((with_reducible refine wp_region_qb ?_ ?_ (fun hq => ?_)); (focus kernel_rfl); (focus kernel_rfl); (repeat (go_big_quiet_step ((go_at_call 33; exact Calls.regrown_of (HP.out _))))); refine wpQuiet_nil ?_; (intro wq hbq; clear hq))
          go_roundw
          case rel => exact ⟨k + 1, by omega, by go_num, by rw [HV.out], hbw.trans (hbq.mono hz)⟩
          case measure => simp [intOf]; omega
        · have hd2 : decide ((c : Int) < m) = false := decide_eq_false h2
          have HV : Hid (fewestL (R.take (k + 1)) = m) := by show _ = _; rw [HS.out, lessOf, if_neg (by omega)]
          go_wp2_with ((with_reducible refine wp_region_qb ?_ ?_ (fun hq => ?_)); (focus kernel_rfl); (focus kernel_rfl); (repeat (go_big_quiet_step ((go_at_call 33; exact Calls.regrown_of (HP.out _))))); refine wpQuiet_nil ?_; (intro wq hbq; clear hq))
          go_roundw
          case rel => exact ⟨k + 1, by omega, by go_num, by rw [HV.out], hbw.trans (hbq.mono hz)⟩
          case measure => simp [intOf]; omega
    · obtain rfl : k = R.length := by omega
      rw [List.take_length]
      go_wp2_with fail
      all_goals go_ret
      all_goals exact ⟨by simp [HF.out], HW.out.trans (hbw.mono HW.out.size)⟩
end Go.Proofs.Ytfmplmlilmalpaa
