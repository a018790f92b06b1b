/- Sweeps: contracts of CountSweeps and the reference's. Conditions: the slice's form. -/
import Derived.Test.YtfpofhkggojaoaaPlay0
import Derived.Test.YtfpofhkggojaoaaArgL
set_option linter.unusedVariables false
set_option linter.unusedSimpArgs false
namespace Peg
def newSweep (L : List Ln) (i : Nat) : Bool := (i == 0) || ((gD L Ln0 (i - 1)).t != (gD L Ln0 i).f)
def sweepsTo (L : List Ln) (k : Nat) : Nat := (List.range k).countP (newSweep L)
def sweeps (L : List Ln) : Nat := sweepsTo L L.length
theorem sweepsTo_succ (L : List Ln) (k : Nat) : sweepsTo L (k + 1) = sweepsTo L k + (if newSweep L k = true then 1 else 0) := by
  simp [sweepsTo, List.range_succ, List.countP_append, List.countP_cons]
theorem sweepsTo_le (L : List Ln) (k : Nat) : sweepsTo L k ≤ k := by
  have := List.countP_le_length (p := newSweep L) (l := List.range k)
  simpa [sweepsTo] using this
theorem newSweep_succ (L : List Ln) (k : Nat) : newSweep L (k + 1) = ((gD L Ln0 k).t != (gD L Ln0 (k + 1)).f) := by
  simp [newSweep]
end Peg
namespace Go.Proofs.Ytfpofhkggojaoaa
open Go.ChangeShapes Go.WideShapes Go.ChangeAt Go.RowKit Peg Go.Sort
set_option maxHeartbeats 1000000 in
set_option maxRecDepth 100000 in
theorem CountSweeps_any (L : List Ln) (v : Value) (w : World) {B : Nat} (hv : Own ELine w B v L) :
    Calls Try.prog 124 #[v] w fun e w' => e = .returned (.int .i64 (sweeps L : Nat)) ∧ Below w.heap.size w w' := by
  obtain ⟨aL, capL, rfl, hnL, hgetL⟩ := hv.lineG
  have HGL := Lib.hid hgetL
  clear hgetL hv
  go_enter Try.func124, Try.ntmps124
  go_wp2_with fail
  go_loopw [3, 8] (fun c i wr => ∃ k : Nat, k ≤ L.length ∧ i = .int .i64 k ∧ c = .int .i64 (sweepsTo L k : Nat) ∧ Below w.heap.size w wr) (fun _ i _ => L.length - (intOf i).toNat)
  case atStart => exact ⟨0, by omega, rfl, rfl, Below.refl _ _⟩
  case round =>
    obtain ⟨k, hk, rfl, rfl, hbw⟩ := hrel
    have hz5 := hbw.size
    have hle := sweepsTo_le L k
    have HT := Lib.hid (sweepsTo_succ L k)
    by_cases hlt : k < L.length
    · obtain ⟨bL, rfl, _, hbL, hc0, hc1, hc2⟩ := HGL.out k hlt
      rw [← hbw.cell (by simpa using hbL)] at hc0 hc1 hc2
      have gW : bL < wr.heap.size := by omega
      cases k with
      | zero =>
        have HV : Hid (sweepsTo L (0 + 1) = 1) := by show _ = _; rw [HT.out]; simp [sweepsTo, newSweep]
        go_wp2_with ((with_reducible refine wp_region_qb ?_ ?_ (fun hq => ?_)); (focus kernel_rfl); (focus kernel_rfl); (repeat (go_big_quiet_step (fail))); refine wpQuiet_nil ?_; intro wq hb; obtain ⟨hc, hf, hz, hy⟩ := bcell hb; clear hq hy; (try simp only [World.size_alloc, World.size_setCell, World.size_drew] at hz); (try have gQ0 : w.heap.size < wq.heap.size := by omega); (try have gQ1 : w.heap.size + 1 < wq.heap.size := by omega); (try have gQ2 : w.heap.size + 1 + 1 < wq.heap.size := by omega); (try have gQ3 : w.heap.size + 1 + 1 + 1 < wq.heap.size := by omega); (try have gQ4 : w.heap.size + 1 + 1 + 1 + 1 < wq.heap.size := by omega); (try have gQ5 : w.heap.size + 1 + 1 + 1 + 1 + 1 < wq.heap.size := by omega); (try have dQ0 : _ < wq.heap.size := Nat.lt_of_lt_of_le dQ0 (by omega)); (try have dQ1 : _ < wq.heap.size := Nat.lt_of_lt_of_le dQ1 (by omega)); (try have dQ2 : _ < wq.heap.size := Nat.lt_of_lt_of_le dQ2 (by omega)); (try have dQ3 : _ < wq.heap.size := Nat.lt_of_lt_of_le dQ3 (by omega)); (try have dQ4 : _ < wq.heap.size := Nat.lt_of_lt_of_le dQ4 (by omega)); (try have dQ5 : _ < wq.heap.size := Nat.lt_of_lt_of_le dQ5 (by omega)); (try (have hnQ := Nat.lt_of_succ_le hz; first | (have _x := dQ0; first | (have _x := dQ1; first | (have _x := dQ2; first | (have _x := dQ3; first | (have _x := dQ4; have dQ5 := hnQ) | have dQ4 := hnQ) | have dQ3 := hnQ) | have dQ2 := hnQ) | have dQ1 := hnQ) | have dQ0 := hnQ)); (try (have hmQ := Nat.lt_of_succ_lt (Nat.lt_of_succ_le hz); first | (have _x := dQ0; first | (have _x := dQ1; first | (have _x := dQ2; first | (have _x := dQ3; first | (have _x := dQ4; have dQ5 := hmQ) | have dQ4 := hmQ) | have dQ3 := hmQ) | have dQ2 := hmQ) | have dQ1 := hmQ) | have dQ0 := hmQ)))
        go_roundw
        case rel => exact ⟨1, by omega, by go_num, by rw [HV.out]; simp [sweepsTo], by (repeat' first | (with_reducible exact Below.refl _ _) | (with_reducible refine Below.alloc ?_ ?_ _) | (with_reducible refine Below.drew ?_) | (with_reducible refine Below.setCell ?_ ?_ _) | (with_reducible refine below_via (by assumption) ?_ ?_) | go_size)⟩
        case measure => simp [intOf]; omega
      | succ k =>
        obtain ⟨bL', e1, _, _, hd0, hd1, hd2⟩ := HGL.out k (by omega)
        obtain rfl : bL = bL' := by simpa using e1
        rw [← hbw.cell (by simpa using hbL)] at hd0 hd1 hd2
        have HN := Lib.hid (newSweep_succ L k)
        generalize hT0 : sweepsTo L (k + 1) = T at *
        clear e1 hT0
        generalize gD L Ln0 (k + 1) = l at *
        generalize gD L Ln0 k = m at *
        have hk0 : ((k : Int) + 1 == 0) = false := by rw [beq_eq_false_iff_ne]; omega

        by_cases hne : m.t = l.f
        · have HV : Hid (sweepsTo L (k + 1 + 1) = T) := by show _ = _; rw [HT.out, HN.out]; simp [hne]
          have hd : (m.t != l.f) = false := by simp [hne]
          have hd' : (l.f != m.t) = false := by simp [hne]
          go_wp2_with ((with_reducible refine wp_region_qb ?_ ?_ (fun hq => ?_)); (focus kernel_rfl); (focus kernel_rfl); (repeat (go_big_quiet_step (fail))); refine wpQuiet_nil ?_; intro wq hb; obtain ⟨hc, hf, hz, hy⟩ := bcell hb; clear hq hy; (try simp only [World.size_alloc, World.size_setCell, World.size_drew] at hz); (try have gQ0 : w.heap.size < wq.heap.size := by omega); (try have gQ1 : w.heap.size + 1 < wq.heap.size := by omega); (try have gQ2 : w.heap.size + 1 + 1 < wq.heap.size := by omega); (try have gQ3 : w.heap.size + 1 + 1 + 1 < wq.heap.size := by omega); (try have gQ4 : w.heap.size + 1 + 1 + 1 + 1 < wq.heap.size := by omega); (try have gQ5 : w.heap.size + 1 + 1 + 1 + 1 + 1 < wq.heap.size := by omega); (try have dQ0 : _ < wq.heap.size := Nat.lt_of_lt_of_le dQ0 (by omega)); (try have dQ1 : _ < wq.heap.size := Nat.lt_of_lt_of_le dQ1 (by omega)); (try have dQ2 : _ < wq.heap.size := Nat.lt_of_lt_of_le dQ2 (by omega)); (try have dQ3 : _ < wq.heap.size := Nat.lt_of_lt_of_le dQ3 (by omega)); (try have dQ4 : _ < wq.heap.size := Nat.lt_of_lt_of_le dQ4 (by omega)); (try have dQ5 : _ < wq.heap.size := Nat.lt_of_lt_of_le dQ5 (by omega)); (try (have hnQ := Nat.lt_of_succ_le hz; first | (have _x := dQ0; first | (have _x := dQ1; first | (have _x := dQ2; first | (have _x := dQ3; first | (have _x := dQ4; have dQ5 := hnQ) | have dQ4 := hnQ) | have dQ3 := hnQ) | have dQ2 := hnQ) | have dQ1 := hnQ) | have dQ0 := hnQ)); (try (have hmQ := Nat.lt_of_succ_lt (Nat.lt_of_succ_le hz); first | (have _x := dQ0; first | (have _x := dQ1; first | (have _x := dQ2; first | (have _x := dQ3; first | (have _x := dQ4; have dQ5 := hmQ) | have dQ4 := hmQ) | have dQ3 := hmQ) | have dQ2 := hmQ) | have dQ1 := hmQ) | have dQ0 := hmQ)))
          go_roundw
          case rel => exact ⟨k + 1 + 1, by omega, by go_num, by rw [HV.out], by (repeat' first | (with_reducible exact Below.refl _ _) | (with_reducible refine Below.alloc ?_ ?_ _) | (with_reducible refine Below.drew ?_) | (with_reducible refine Below.setCell ?_ ?_ _) | (with_reducible refine below_via (by assumption) ?_ ?_) | go_size)⟩
          case measure => simp [intOf]; omega
        · have HV : Hid (sweepsTo L (k + 1 + 1) = T + 1) := by show _ = _; rw [HT.out, HN.out]; simp [hne]
          have hd : (m.t != l.f) = true := by simp [hne]
          have hd' : (l.f != m.t) = true := by simp [Ne.symm hne]
          go_wp2_with ((with_reducible refine wp_region_qb ?_ ?_ (fun hq => ?_)); (focus kernel_rfl); (focus kernel_rfl); (repeat (go_big_quiet_step (fail))); refine wpQuiet_nil ?_; intro wq hb; obtain ⟨hc, hf, hz, hy⟩ := bcell hb; clear hq hy; (try simp only [World.size_alloc, World.size_setCell, World.size_drew] at hz); (try have gQ0 : w.heap.size < wq.heap.size := by omega); (try have gQ1 : w.heap.size + 1 < wq.heap.size := by omega); (try have gQ2 : w.heap.size + 1 + 1 < wq.heap.size := by omega); (try have gQ3 : w.heap.size + 1 + 1 + 1 < wq.heap.size := by omega); (try have gQ4 : w.heap.size + 1 + 1 + 1 + 1 < wq.heap.size := by omega); (try have gQ5 : w.heap.size + 1 + 1 + 1 + 1 + 1 < wq.heap.size := by omega); (try have dQ0 : _ < wq.heap.size := Nat.lt_of_lt_of_le dQ0 (by omega)); (try have dQ1 : _ < wq.heap.size := Nat.lt_of_lt_of_le dQ1 (by omega)); (try have dQ2 : _ < wq.heap.size := Nat.lt_of_lt_of_le dQ2 (by omega)); (try have dQ3 : _ < wq.heap.size := Nat.lt_of_lt_of_le dQ3 (by omega)); (try have dQ4 : _ < wq.heap.size := Nat.lt_of_lt_of_le dQ4 (by omega)); (try have dQ5 : _ < wq.heap.size := Nat.lt_of_lt_of_le dQ5 (by omega)); (try (have hnQ := Nat.lt_of_succ_le hz; first | (have _x := dQ0; first | (have _x := dQ1; first | (have _x := dQ2; first | (have _x := dQ3; first | (have _x := dQ4; have dQ5 := hnQ) | have dQ4 := hnQ) | have dQ3 := hnQ) | have dQ2 := hnQ) | have dQ1 := hnQ) | have dQ0 := hnQ)); (try (have hmQ := Nat.lt_of_succ_lt (Nat.lt_of_succ_le hz); first | (have _x := dQ0; first | (have _x := dQ1; first | (have _x := dQ2; first | (have _x := dQ3; first | (have _x := dQ4; have dQ5 := hmQ) | have dQ4 := hmQ) | have dQ3 := hmQ) | have dQ2 := hmQ) | have dQ1 := hmQ) | have dQ0 := hmQ)))
          go_roundw
          case rel => exact ⟨k + 1 + 1, by omega, by go_num, by rw [HV.out]; go_num, by (repeat' first | (with_reducible exact Below.refl _ _) | (with_reducible refine Below.alloc ?_ ?_ _) | (with_reducible refine Below.drew ?_) | (with_reducible refine Below.setCell ?_ ?_ _) | (with_reducible refine below_via (by assumption) ?_ ?_) | go_size)⟩
          case measure => simp [intOf]; omega
    · obtain rfl : k = L.length := by omega
      go_wp2_with fail
      go_ret
      exact ⟨rfl, hbw⟩
set_option maxHeartbeats 1000000 in
set_option maxRecDepth 100000 in
theorem sCountSweeps_any (L : List Ln) (v : Value) (w : World) {B : Nat} (hv : Own ELine w B v L) :
    Calls Try.prog 41 #[v] w fun e w' => e = .returned (.int .i64 (sweeps L : Nat)) ∧ Below w.heap.size w w' := by
  obtain ⟨aL, capL, rfl, hnL, hgetL⟩ := hv.lineG
  have HGL := Lib.hid hgetL
  clear hgetL hv
  go_enter Try.func41, Try.ntmps41
  go_wp2_with fail
  go_loopw [3, 4] (fun c i wr => ∃ k : Nat, k ≤ L.length ∧ i = .int .i64 k ∧ c = .int .i64 (sweepsTo L k : Nat) ∧ Below w.heap.size w wr) (fun _ i _ => L.length - (intOf i).toNat)
  case atStart => exact ⟨0, by omega, rfl, rfl, Below.refl _ _⟩
  case round =>
    obtain ⟨k, hk, rfl, rfl, hbw⟩ := hrel
    have hz5 := hbw.size
    have hle := sweepsTo_le L k
    have HT := Lib.hid (sweepsTo_succ L k)
    by_cases hlt : k < L.length
    · obtain ⟨bL, rfl, _, hbL, hc0, hc1, hc2⟩ := HGL.out k hlt
      rw [← hbw.cell (by simpa using hbL)] at hc0 hc1 hc2
      have gW : bL < wr.heap.size := by omega
      cases k with
      | zero =>
        have HV : Hid (sweepsTo L (0 + 1) = 1) := by show _ = _; rw [HT.out]; simp [sweepsTo, newSweep]
        go_wp2_with ((with_reducible refine wp_region_qb ?_ ?_ (fun hq => ?_)); (focus kernel_rfl); (focus kernel_rfl); (repeat (go_big_quiet_step (fail))); refine wpQuiet_nil ?_; intro wq hb; obtain ⟨hc, hf, hz, hy⟩ := bcell hb; clear hq hy; (try simp only [World.size_alloc, World.size_setCell, World.size_drew] at hz); (try have gQ0 : w.heap.size < wq.heap.size := by omega); (try have gQ1 : w.heap.size + 1 < wq.heap.size := by omega); (try have gQ2 : w.heap.size + 1 + 1 < wq.heap.size := by omega); (try have gQ3 : w.heap.size + 1 + 1 + 1 < wq.heap.size := by omega); (try have gQ4 : w.heap.size + 1 + 1 + 1 + 1 < wq.heap.size := by omega); (try have gQ5 : w.heap.size + 1 + 1 + 1 + 1 + 1 < wq.heap.size := by omega); (try have dQ0 : _ < wq.heap.size := Nat.lt_of_lt_of_le dQ0 (by omega)); (try have dQ1 : _ < wq.heap.size := Nat.lt_of_lt_of_le dQ1 (by omega)); (try have dQ2 : _ < wq.heap.size := Nat.lt_of_lt_of_le dQ2 (by omega)); (try have dQ3 : _ < wq.heap.size := Nat.lt_of_lt_of_le dQ3 (by omega)); (try have dQ4 : _ < wq.heap.size := Nat.lt_of_lt_of_le dQ4 (by omega)); (try have dQ5 : _ < wq.heap.size := Nat.lt_of_lt_of_le dQ5 (by omega)); (try (have hnQ := Nat.lt_of_succ_le hz; first | (have _x := dQ0; first | (have _x := dQ1; first | (have _x := dQ2; first | (have _x := dQ3; first | (have _x := dQ4; have dQ5 := hnQ) | have dQ4 := hnQ) | have dQ3 := hnQ) | have dQ2 := hnQ) | have dQ1 := hnQ) | have dQ0 := hnQ)); (try (have hmQ := Nat.lt_of_succ_lt (Nat.lt_of_succ_le hz); first | (have _x := dQ0; first | (have _x := dQ1; first | (have _x := dQ2; first | (have _x := dQ3; first | (have _x := dQ4; have dQ5 := hmQ) | have dQ4 := hmQ) | have dQ3 := hmQ) | have dQ2 := hmQ) | have dQ1 := hmQ) | have dQ0 := hmQ)))
        go_roundw
        case rel => exact ⟨1, by omega, by go_num, by rw [HV.out]; simp [sweepsTo], by (repeat' first | (with_reducible exact Below.refl _ _) | (with_reducible refine Below.alloc ?_ ?_ _) | (with_reducible refine Below.drew ?_) | (with_reducible refine Below.setCell ?_ ?_ _) | (with_reducible refine below_via (by assumption) ?_ ?_) | go_size)⟩
        case measure => simp [intOf]; omega
      | succ k =>
        obtain ⟨bL', e1, _, _, hd0, hd1, hd2⟩ := HGL.out k (by omega)
        obtain rfl : bL = bL' := by simpa using e1
        rw [← hbw.cell (by simpa using hbL)] at hd0 hd1 hd2
        have HN := Lib.hid (newSweep_succ L k)
        generalize hT0 : sweepsTo L (k + 1) = T at *
        clear e1 hT0
        generalize gD L Ln0 (k + 1) = l at *
        generalize gD L Ln0 k = m at *
        have hk0 : ((k : Int) + 1 == 0) = false := by rw [beq_eq_false_iff_ne]; omega

        by_cases hne : m.t = l.f
        · have HV : Hid (sweepsTo L (k + 1 + 1) = T) := by show _ = _; rw [HT.out, HN.out]; simp [hne]
          have hd : (m.t != l.f) = false := by simp [hne]
          have hd' : (l.f != m.t) = false := by simp [hne]
          go_wp2_with ((with_reducible refine wp_region_qb ?_ ?_ (fun hq => ?_)); (focus kernel_rfl); (focus kernel_rfl); (repeat (go_big_quiet_step (fail))); refine wpQuiet_nil ?_; intro wq hb; obtain ⟨hc, hf, hz, hy⟩ := bcell hb; clear hq hy; (try simp only [World.size_alloc, World.size_setCell, World.size_drew] at hz); (try have gQ0 : w.heap.size < wq.heap.size := by omega); (try have gQ1 : w.heap.size + 1 < wq.heap.size := by omega); (try have gQ2 : w.heap.size + 1 + 1 < wq.heap.size := by omega); (try have gQ3 : w.heap.size + 1 + 1 + 1 < wq.heap.size := by omega); (try have gQ4 : w.heap.size + 1 + 1 + 1 + 1 < wq.heap.size := by omega); (try have gQ5 : w.heap.size + 1 + 1 + 1 + 1 + 1 < wq.heap.size := by omega); (try have dQ0 : _ < wq.heap.size := Nat.lt_of_lt_of_le dQ0 (by omega)); (try have dQ1 : _ < wq.heap.size := Nat.lt_of_lt_of_le dQ1 (by omega)); (try have dQ2 : _ < wq.heap.size := Nat.lt_of_lt_of_le dQ2 (by omega)); (try have dQ3 : _ < wq.heap.size := Nat.lt_of_lt_of_le dQ3 (by omega)); (try have dQ4 : _ < wq.heap.size := Nat.lt_of_lt_of_le dQ4 (by omega)); (try have dQ5 : _ < wq.heap.size := Nat.lt_of_lt_of_le dQ5 (by omega)); (try (have hnQ := Nat.lt_of_succ_le hz; first | (have _x := dQ0; first | (have _x := dQ1; first | (have _x := dQ2; first | (have _x := dQ3; first | (have _x := dQ4; have dQ5 := hnQ) | have dQ4 := hnQ) | have dQ3 := hnQ) | have dQ2 := hnQ) | have dQ1 := hnQ) | have dQ0 := hnQ)); (try (have hmQ := Nat.lt_of_succ_lt (Nat.lt_of_succ_le hz); first | (have _x := dQ0; first | (have _x := dQ1; first | (have _x := dQ2; first | (have _x := dQ3; first | (have _x := dQ4; have dQ5 := hmQ) | have dQ4 := hmQ) | have dQ3 := hmQ) | have dQ2 := hmQ) | have dQ1 := hmQ) | have dQ0 := hmQ)))
          go_roundw
          case rel => exact ⟨k + 1 + 1, by omega, by go_num, by rw [HV.out], by (repeat' first | (with_reducible exact Below.refl _ _) | (with_reducible refine Below.alloc ?_ ?_ _) | (with_reducible refine Below.drew ?_) | (with_reducible refine Below.setCell ?_ ?_ _) | (with_reducible refine below_via (by assumption) ?_ ?_) | go_size)⟩
          case measure => simp [intOf]; omega
        · have HV : Hid (sweepsTo L (k + 1 + 1) = T + 1) := by show _ = _; rw [HT.out, HN.out]; simp [hne]
          have hd : (m.t != l.f) = true := by simp [hne]
          have hd' : (l.f != m.t) = true := by simp [Ne.symm hne]
          go_wp2_with ((with_reducible refine wp_region_qb ?_ ?_ (fun hq => ?_)); (focus kernel_rfl); (focus kernel_rfl); (repeat (go_big_quiet_step (fail))); refine wpQuiet_nil ?_; intro wq hb; obtain ⟨hc, hf, hz, hy⟩ := bcell hb; clear hq hy; (try simp only [World.size_alloc, World.size_setCell, World.size_drew] at hz); (try have gQ0 : w.heap.size < wq.heap.size := by omega); (try have gQ1 : w.heap.size + 1 < wq.heap.size := by omega); (try have gQ2 : w.heap.size + 1 + 1 < wq.heap.size := by omega); (try have gQ3 : w.heap.size + 1 + 1 + 1 < wq.heap.size := by omega); (try have gQ4 : w.heap.size + 1 + 1 + 1 + 1 < wq.heap.size := by omega); (try have gQ5 : w.heap.size + 1 + 1 + 1 + 1 + 1 < wq.heap.size := by omega); (try have dQ0 : _ < wq.heap.size := Nat.lt_of_lt_of_le dQ0 (by omega)); (try have dQ1 : _ < wq.heap.size := Nat.lt_of_lt_of_le dQ1 (by omega)); (try have dQ2 : _ < wq.heap.size := Nat.lt_of_lt_of_le dQ2 (by omega)); (try have dQ3 : _ < wq.heap.size := Nat.lt_of_lt_of_le dQ3 (by omega)); (try have dQ4 : _ < wq.heap.size := Nat.lt_of_lt_of_le dQ4 (by omega)); (try have dQ5 : _ < wq.heap.size := Nat.lt_of_lt_of_le dQ5 (by omega)); (try (have hnQ := Nat.lt_of_succ_le hz; first | (have _x := dQ0; first | (have _x := dQ1; first | (have _x := dQ2; first | (have _x := dQ3; first | (have _x := dQ4; have dQ5 := hnQ) | have dQ4 := hnQ) | have dQ3 := hnQ) | have dQ2 := hnQ) | have dQ1 := hnQ) | have dQ0 := hnQ)); (try (have hmQ := Nat.lt_of_succ_lt (Nat.lt_of_succ_le hz); first | (have _x := dQ0; first | (have _x := dQ1; first | (have _x := dQ2; first | (have _x := dQ3; first | (have _x := dQ4; have dQ5 := hmQ) | have dQ4 := hmQ) | have dQ3 := hmQ) | have dQ2 := hmQ) | have dQ1 := hmQ) | have dQ0 := hmQ)))
          go_roundw
          case rel => exact ⟨k + 1 + 1, by omega, by go_num, by rw [HV.out]; go_num, by (repeat' first | (with_reducible exact Below.refl _ _) | (with_reducible refine Below.alloc ?_ ?_ _) | (with_reducible refine Below.drew ?_) | (with_reducible refine Below.setCell ?_ ?_ _) | (with_reducible refine below_via (by assumption) ?_ ?_) | go_size)⟩
          case measure => simp [intOf]; omega
    · obtain rfl : k = L.length := by omega
      go_wp2_with fail
      go_ret
      exact ⟨rfl, hbw⟩
end Go.Proofs.Ytfpofhkggojaoaa
