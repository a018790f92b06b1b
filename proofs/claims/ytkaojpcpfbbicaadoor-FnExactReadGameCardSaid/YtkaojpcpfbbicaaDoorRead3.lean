/- Read3: contract of the reference's ReadJump. No condition. -/
import Derived.Test.YtkaojpcpfbbicaaDoorRead0
import Derived.Test.YtkaojpcpfbbicaaDoorPlay
set_option linter.unusedVariables false
set_option linter.unusedSimpArgs false
namespace Peg
theorem str_neS {x y : ByteArray} (h : x ≠ y) : (x.toList == y.toList) = false := by
  rw [beq_eq_false_iff_ne]
  intro e
  rw [Go.Lib.toList_data, Go.Lib.toList_data] at e
  exact h (ba_ext e)
end Peg
namespace Go.Proofs.YtkaojpcpfbbicaaDoor
open Go.ChangeShapes Go.WideShapes Go.ChangeAt Go.RowKit Peg Go.Sort
set_option maxHeartbeats 1000000 in
set_option maxRecDepth 100000 in
theorem sReadJump_any (a b o : Int) (s : ByteArray) (w : World) :
    Calls Tryd.prog 21 #[.agg #[.int .i64 a, .int .i64 b, .int .i64 o], .string s] w fun e w' => e = .returned (optLn (readJump a b o s)) ∧ Below w.heap.size w w' := by
  have HLO : Hid (∀ W, Calls Tryd.prog 49 #[.agg #[.int .i64 a, .int .i64 b, .int .i64 o]] W (RetLines W (linesOf a b o))) := fun W => sLinesOf_any a b o W
  have HJT : Hid (∀ (l : Ln) W, Calls Tryd.prog 12 #[.agg #[.int .i64 a, .int .i64 b, .int .i64 o], .agg #[.int .i64 l.f, .int .i64 l.o, .int .i64 l.t]] W fun e w' => e = .returned (.string (jumpText a b o l)) ∧ Below W.heap.size W w') := fun l W => sJumpText_any a b o l W
  have HF : Hid (readJump a b o s = (linesOf a b o).find? fun l => decide (jumpText a b o l = s)) := rfl
  have hl196 := linesOf_le a b o
  generalize jumpText a b o = jt at *
  generalize linesOf a b o = L at *
  go_enter Tryd.func21, Tryd.ntmps21
  go_wp2_with fail
  refine (HLO.out _).mono ?_
  rintro e w' ⟨vL, rfl, hownL, hb⟩
  obtain ⟨hc, hf, hz, hy⟩ := bcell hb; clear hy; (try simp only [World.size_alloc, World.size_setCell, World.size_drew] at hz); (try have gQ0 : w.heap.size < w'.heap.size := by omega); (try have gQ1 : w.heap.size + 1 < w'.heap.size := by omega); (try have gQ2 : w.heap.size + 1 + 1 < w'.heap.size := by omega); (try have gQ3 : w.heap.size + 1 + 1 + 1 < w'.heap.size := by omega); (try have gQ4 : w.heap.size + 1 + 1 + 1 + 1 < w'.heap.size := by omega); (try have gQ5 : w.heap.size + 1 + 1 + 1 + 1 + 1 < w'.heap.size := by omega); (try have dQ0 : _ < w'.heap.size := Nat.lt_of_lt_of_le dQ0 (by omega)); (try have dQ1 : _ < w'.heap.size := Nat.lt_of_lt_of_le dQ1 (by omega)); (try have dQ2 : _ < w'.heap.size := Nat.lt_of_lt_of_le dQ2 (by omega)); (try have dQ3 : _ < w'.heap.size := Nat.lt_of_lt_of_le dQ3 (by omega)); (try have dQ4 : _ < w'.heap.size := Nat.lt_of_lt_of_le dQ4 (by omega)); (try have dQ5 : _ < w'.heap.size := Nat.lt_of_lt_of_le dQ5 (by omega)); (try (have hnQ := Nat.lt_of_succ_le hz; first | (have _x := dQ0; first | (have _x := dQ1; first | (have _x := dQ2; first | (have _x := dQ3; first | (have _x := dQ4; have dQ5 := hnQ) | have dQ4 := hnQ) | have dQ3 := hnQ) | have dQ2 := hnQ) | have dQ1 := hnQ) | have dQ0 := hnQ)); (try (have hmQ := Nat.lt_of_succ_lt (Nat.lt_of_succ_le hz); first | (have _x := dQ0; first | (have _x := dQ1; first | (have _x := dQ2; first | (have _x := dQ3; first | (have _x := dQ4; have dQ5 := hmQ) | have dQ4 := hmQ) | have dQ3 := hmQ) | have dQ2 := hmQ) | have dQ1 := hmQ) | have dQ0 := hmQ))
  obtain ⟨w3, rfl⟩ : ∃ w3 : World, w3 = w' := ⟨_, rfl⟩
  have HW3 := Lib.hid (show Below w.heap.size w w3 by (repeat' first | (with_reducible exact Below.refl _ _) | (with_reducible refine Below.alloc ?_ ?_ _) | (with_reducible refine Below.drew ?_) | (with_reducible refine Below.setCell ?_ ?_ _) | (with_reducible refine below_via (by assumption) ?_ ?_) | go_size))
  have hbx0 : ∀ j, w3.cell? ⟨w.heap.size, j, none⟩ = #[Value.int .i64 a, .int .i64 b, .int .i64 o][j]? := fun j => by rw [hc _ _ (by simp; omega)]; simp [go_sem]
  have hbox0 : ∀ j, w3.cell? ⟨w.heap.size + 1, j, none⟩ = #[Value.int .i64 0, .int .i64 0, .int .i64 0][j]? := fun j => by rw [hc _ _ (by simp)]; simp
  have hfz0 : ∀ j, w3.frozen? ⟨w.heap.size + 1, j, none⟩ = false := fun j => by rw [hf _ _ (by simp)]; simp
  obtain ⟨aL, capL, rfl, hnL, hgetL⟩ := hownL.lineG
  have HGL := Lib.hid hgetL
  clear hgetL hownL hc hf
  go_wp2_with fail
  go_loopw [7] (fun i wr => ∃ k : Nat, k ≤ L.length ∧ i = .int .i64 k ∧ Hid ((L.take k).find? (fun l => decide (jt l = s)) = none) ∧ Below w3.heap.size w3 wr) (fun i _ => L.length - (intOf i).toNat)
  case atStart => exact ⟨0, by omega, rfl, by show _ = _; simp, Below.refl _ _⟩
  case round =>
    obtain ⟨k, hk, rfl, hno, hbw⟩ := hrel
    have hz5 := hbw.size
    have hbx : ∀ j, wr.cell? ⟨w.heap.size, j, none⟩ = #[Value.int .i64 a, .int .i64 b, .int .i64 o][j]? := fun j => (hbw.cell (by simp; omega)).trans (hbx0 j)
    have hbox : ∀ j, wr.cell? ⟨w.heap.size + 1, j, none⟩ = #[Value.int .i64 0, .int .i64 0, .int .i64 0][j]? := fun j => (hbw.cell (by simp; omega)).trans (hbox0 j)
    have hfz : ∀ j, wr.frozen? ⟨w.heap.size + 1, j, none⟩ = false := fun j => (hbw.frozen (by simp; omega)).trans (hfz0 j)
    have gW0 : w.heap.size + 1 < wr.heap.size := by omega
    have gW2 : w.heap.size < wr.heap.size := by omega
    by_cases hlt : k < L.length
    · obtain ⟨bL, rfl, _, hbL, hc0, hc1, hc2⟩ := HGL.out k hlt
      rw [← hbw.cell (by simpa using hbL)] at hc0 hc1 hc2
      have HY := Lib.hid (find_take_yes (fun l => decide (jt l = s)) L Ln0 k hlt hno.out)
      have HN := Lib.hid (find_take_no (fun l => decide (jt l = s)) L Ln0 k hlt hno.out)
      have HC := Lib.hid (HJT.out (gD L Ln0 k))
      generalize gD L Ln0 k = l at *
      have gW1 : bL < wr.heap.size := by omega
      by_cases hq : jt l = s
      · have HR : Hid (readJump a b o s = some l) := by show _ = _; rw [HF.out, HY.out (by simpa using hq)]
        rw [hq] at HC
        clear HY HN
        go_wp2_with ((with_reducible refine wp_region_qb ?_ ?_ (fun hq => ?_)); (focus kernel_rfl); (focus kernel_rfl); (repeat (go_big_quiet_step ((go_at_call 12; exact Calls.regrown_of (HC.out _))))); refine wpQuiet_nil ?_; intro w2 hb2; clear hq; have hz2 := hb2.size; have hc3 := (hb2.cell (p := ⟨bL, k * 3, none⟩) gW1).trans hc0; have hc4 := (hb2.cell (p := ⟨bL, k * 3 + 1, none⟩) gW1).trans hc1; have hc5 := (hb2.cell (p := ⟨bL, k * 3 + 2, none⟩) gW1).trans hc2; have hbo2 : ∀ j, w2.cell? ⟨w.heap.size + 1, j, none⟩ = #[Value.int .i64 0, .int .i64 0, .int .i64 0][j]? := (fun j => (hb2.cell gW0).trans (hbox j)); have hfo2 : ∀ j, w2.frozen? ⟨w.heap.size + 1, j, none⟩ = false := (fun j => (hb2.frozen gW0).trans (hfz j)); have gW5 : w.heap.size + 1 < w2.heap.size := (by omega); have gW6 : bL < w2.heap.size := (by omega); have HW9 := HW3.out)
        all_goals ((try simp only [Exit.inBlock, Exit.then]); refine bodyPost_ret (v := .tuple #[.agg #[.int .i64 l.f, .int .i64 l.o, .int .i64 l.t], .bool true]) (by simp [results, Tryd.results21, go_sem, *]) rfl ⟨by rw [HR.out]; rfl, by (repeat' first | (with_reducible exact Below.refl _ _) | (with_reducible refine Below.alloc ?_ ?_ _) | (with_reducible refine Below.drew ?_) | (with_reducible refine Below.setCell ?_ ?_ _) | (with_reducible refine below_via (by assumption) ?_ ?_) | go_size)⟩)
      · have HR := Lib.hid (HN.out (by simpa using hq))
        have hne := str_neS hq
        clear HY HN
        go_wp2_with ((with_reducible refine wp_region_qb ?_ ?_ (fun hq => ?_)); (focus kernel_rfl); (focus kernel_rfl); (repeat (go_big_quiet_step ((go_at_call 12; exact Calls.regrown_of (HC.out _))))); refine wpQuiet_nil ?_; intro w2 hb2; clear hq; have hz2 := hb2.size)
        all_goals go_roundw
        case rel => exact ⟨k + 1, by omega, by go_num, HR, by (repeat' first | (with_reducible exact Below.refl _ _) | (with_reducible refine Below.alloc ?_ ?_ _) | (with_reducible refine Below.drew ?_) | (with_reducible refine Below.setCell ?_ ?_ _) | (with_reducible refine below_via (by assumption) ?_ ?_) | go_size)⟩
        case measure => simp [intOf]; omega
    · obtain rfl : k = L.length := by omega
      have HR : Hid (readJump a b o s = none) := by show _ = _; rw [HF.out]; have := hno.out; rwa [List.take_length] at this
      have HW9 := HW3.out
      go_wp2_with fail
      all_goals ((try simp only [Exit.inBlock, Exit.then]); refine bodyPost_ret (v := .tuple #[.agg #[.int .i64 0, .int .i64 0, .int .i64 0], .bool false]) (by simp [results, Tryd.results21, go_sem, *]) rfl ⟨by rw [HR.out]; rfl, by (repeat' first | (with_reducible exact Below.refl _ _) | (with_reducible refine Below.alloc ?_ ?_ _) | (with_reducible refine Below.drew ?_) | (with_reducible refine Below.setCell ?_ ?_ _) | (with_reducible refine below_via (by assumption) ?_ ?_) | go_size)⟩)
end Go.Proofs.YtkaojpcpfbbicaaDoor
