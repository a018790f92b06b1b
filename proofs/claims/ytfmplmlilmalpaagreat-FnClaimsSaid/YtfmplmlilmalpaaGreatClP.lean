/- ClP: several texts in one (Sweeps, Pop0, Pop). Conditions: those that each theorem names. -/
import Derived.Test.YtfmplmlilmalpaaGreatPlay0
import Derived.Test.YtfmplmlilmalpaaGreatClO
import Derived.Test.YtfmplmlilmalpaaGreatWay0
import Derived.Test.YtfmplmlilmalpaaGreatSLines
set_option linter.unusedVariables false
set_option linter.unusedSimpArgs false
namespace Peg
def newSweep (L : List Ln) (i : Nat) : Bool := (i == 0) || ((gD L Ln0 (i - 1)).t != (gD L Ln0 i).f)
def sweepsTo (L : List Ln) (k : Nat) : Nat := (List.range k).countP (newSweep L)
def sweeps (L : List Ln) : Nat := sweepsTo L L.length
theorem sweepsTo_succ (L : List Ln) (k : Nat) : sweepsTo L (k + 1) = sweepsTo L k + (if newSweep L k = true then 1 else 0) := by
  simp [sweepsTo, List.range_succ, List.countP_append, List.countP_cons]
theorem sweepsTo_le (L : List Ln) (k : Nat) : sweepsTo L k ≤ k := by
  have := List.countP_le_length (p := newSweep L) (l := List.range k)
  simpa [sweepsTo] using this
theorem newSweep_succ (L : List Ln) (k : Nat) : newSweep L (k + 1) = ((gD L Ln0 k).t != (gD L Ln0 (k + 1)).f) := by
  simp [newSweep]
end Peg
namespace Go.Proofs.YtfmplmlilmalpaaGreat
open Go.ChangeShapes Go.WideShapes Go.ChangeAt Go.RowKit Peg Go.Sort
set_option maxHeartbeats 1000000 in
set_option maxRecDepth 100000 in
theorem CountSweeps_any (L : List Ln) (v : Value) (w : World) {B : Nat} (hv : Own ELine w B v L) :
    Calls Tryz.prog 23 #[v] w fun e w' => e = .returned (.int .i64 (sweeps L : Nat)) ∧ Below w.heap.size w w' := by
  obtain ⟨aL, capL, rfl, hnL, hgetL⟩ := hv.lineG
  have HGL := Lib.hid hgetL
  clear hgetL hv
  go_enter Tryz.func23, Tryz.ntmps23
  go_wp2_with fail
  go_loopw [3, 8] (fun c i wr => ∃ k : Nat, k ≤ L.length ∧ i = .int .i64 k ∧ c = .int .i64 (sweepsTo L k : Nat) ∧ Below w.heap.size w wr) (fun _ i _ => L.length - (intOf i).toNat)
  case atStart => exact ⟨0, by omega, rfl, rfl, Below.refl _ _⟩
  case round =>
    obtain ⟨k, hk, rfl, rfl, hbw⟩ := hrel
    have hz5 := hbw.size
    have hle := sweepsTo_le L k
    have HT := Lib.hid (sweepsTo_succ L k)
    by_cases hlt : k < L.length
    · obtain ⟨bL, rfl, _, hbL, hc0, hc1, hc2⟩ := HGL.out k hlt
      rw [← hbw.cell (by simpa using hbL)] at hc0 hc1 hc2
      have gW : bL < wr.heap.size := by omega
      cases k with
      | zero =>
        have HV : Hid (sweepsTo L (0 + 1) = 1) := by show _ = _; rw [HT.out]; simp [sweepsTo, newSweep]
        go_wp2_with ((with_reducible refine wp_region_qb ?_ ?_ (fun hq => ?_)); (focus kernel_rfl); (focus kernel_rfl); (repeat (go_big_quiet_step (fail))); refine wpQuiet_nil ?_; intro wq hb; obtain ⟨hc, hf, hz, hy⟩ := bcell hb; clear hq hy; (try simp only [World.size_alloc, World.size_setCell, World.size_drew] at hz); (try have gQ0 : w.heap.size < wq.heap.size := by omega); (try have gQ1 : w.heap.size + 1 < wq.heap.size := by omega); (try have gQ2 : w.heap.size + 1 + 1 < wq.heap.size := by omega); (try have gQ3 : w.heap.size + 1 + 1 + 1 < wq.heap.size := by omega); (try have gQ4 : w.heap.size + 1 + 1 + 1 + 1 < wq.heap.size := by omega); (try have gQ5 : w.heap.size + 1 + 1 + 1 + 1 + 1 < wq.heap.size := by omega); (try have dQ0 : _ < wq.heap.size := Nat.lt_of_lt_of_le dQ0 (by omega)); (try have dQ1 : _ < wq.heap.size := Nat.lt_of_lt_of_le dQ1 (by omega)); (try have dQ2 : _ < wq.heap.size := Nat.lt_of_lt_of_le dQ2 (by omega)); (try have dQ3 : _ < wq.heap.size := Nat.lt_of_lt_of_le dQ3 (by omega)); (try have dQ4 : _ < wq.heap.size := Nat.lt_of_lt_of_le dQ4 (by omega)); (try have dQ5 : _ < wq.heap.size := Nat.lt_of_lt_of_le dQ5 (by omega)); (try (have hnQ := Nat.lt_of_succ_le hz; first | (have _x := dQ0; first | (have _x := dQ1; first | (have _x := dQ2; first | (have _x := dQ3; first | (have _x := dQ4; have dQ5 := hnQ) | have dQ4 := hnQ) | have dQ3 := hnQ) | have dQ2 := hnQ) | have dQ1 := hnQ) | have dQ0 := hnQ)); (try (have hmQ := Nat.lt_of_succ_lt (Nat.lt_of_succ_le hz); first | (have _x := dQ0; first | (have _x := dQ1; first | (have _x := dQ2; first | (have _x := dQ3; first | (have _x := dQ4; have dQ5 := hmQ) | have dQ4 := hmQ) | have dQ3 := hmQ) | have dQ2 := hmQ) | have dQ1 := hmQ) | have dQ0 := hmQ)))
        go_roundw
        case rel => exact ⟨1, by omega, by go_num, by rw [HV.out]; simp [sweepsTo], by (repeat' first | (with_reducible exact Below.refl _ _) | (with_reducible refine Below.alloc ?_ ?_ _) | (with_reducible refine Below.drew ?_) | (with_reducible refine Below.setCell ?_ ?_ _) | (with_reducible refine below_via (by assumption) ?_ ?_) | go_size)⟩
        case measure => simp [intOf]; omega
      | succ k =>
        obtain ⟨bL', e1, _, _, hd0, hd1, hd2⟩ := HGL.out k (by omega)
        obtain rfl : bL = bL' := by simpa using e1
        rw [← hbw.cell (by simpa using hbL)] at hd0 hd1 hd2
        have HN := Lib.hid (newSweep_succ L k)
        generalize hT0 : sweepsTo L (k + 1) = T at *
        clear e1 hT0
        generalize gD L Ln0 (k + 1) = l at *
        generalize gD L Ln0 k = m at *
        have hk0 : ((k : Int) + 1 == 0) = false := by rw [beq_eq_false_iff_ne]; omega

        by_cases hne : m.t = l.f
        · have HV : Hid (sweepsTo L (k + 1 + 1) = T) := by show _ = _; rw [HT.out, HN.out]; simp [hne]
          have hd : (m.t != l.f) = false := by simp [hne]
          have hd' : (l.f != m.t) = false := by simp [hne]
          go_wp2_with ((with_reducible refine wp_region_qb ?_ ?_ (fun hq => ?_)); (focus kernel_rfl); (focus kernel_rfl); (repeat (go_big_quiet_step (fail))); refine wpQuiet_nil ?_; intro wq hb; obtain ⟨hc, hf, hz, hy⟩ := bcell hb; clear hq hy; (try simp only [World.size_alloc, World.size_setCell, World.size_drew] at hz); (try have gQ0 : w.heap.size < wq.heap.size := by omega); (try have gQ1 : w.heap.size + 1 < wq.heap.size := by omega); (try have gQ2 : w.heap.size + 1 + 1 < wq.heap.size := by omega); (try have gQ3 : w.heap.size + 1 + 1 + 1 < wq.heap.size := by omega); (try have gQ4 : w.heap.size + 1 + 1 + 1 + 1 < wq.heap.size := by omega); (try have gQ5 : w.heap.size + 1 + 1 + 1 + 1 + 1 < wq.heap.size := by omega); (try have dQ0 : _ < wq.heap.size := Nat.lt_of_lt_of_le dQ0 (by omega)); (try have dQ1 : _ < wq.heap.size := Nat.lt_of_lt_of_le dQ1 (by omega)); (try have dQ2 : _ < wq.heap.size := Nat.lt_of_lt_of_le dQ2 (by omega)); (try have dQ3 : _ < wq.heap.size := Nat.lt_of_lt_of_le dQ3 (by omega)); (try have dQ4 : _ < wq.heap.size := Nat.lt_of_lt_of_le dQ4 (by omega)); (try have dQ5 : _ < wq.heap.size := Nat.lt_of_lt_of_le dQ5 (by omega)); (try (have hnQ := Nat.lt_of_succ_le hz; first | (have _x := dQ0; first | (have _x := dQ1; first | (have _x := dQ2; first | (have _x := dQ3; first | (have _x := dQ4; have dQ5 := hnQ) | have dQ4 := hnQ) | have dQ3 := hnQ) | have dQ2 := hnQ) | have dQ1 := hnQ) | have dQ0 := hnQ)); (try (have hmQ := Nat.lt_of_succ_lt (Nat.lt_of_succ_le hz); first | (have _x := dQ0; first | (have _x := dQ1; first | (have _x := dQ2; first | (have _x := dQ3; first | (have _x := dQ4; have dQ5 := hmQ) | have dQ4 := hmQ) | have dQ3 := hmQ) | have dQ2 := hmQ) | have dQ1 := hmQ) | have dQ0 := hmQ)))
          go_roundw
          case rel => exact ⟨k + 1 + 1, by omega, by go_num, by rw [HV.out], by (repeat' first | (with_reducible exact Below.refl _ _) | (with_reducible refine Below.alloc ?_ ?_ _) | (with_reducible refine Below.drew ?_) | (with_reducible refine Below.setCell ?_ ?_ _) | (with_reducible refine below_via (by assumption) ?_ ?_) | go_size)⟩
          case measure => simp [intOf]; omega
        · have HV : Hid (sweepsTo L (k + 1 + 1) = T + 1) := by show _ = _; rw [HT.out, HN.out]; simp [hne]
          have hd : (m.t != l.f) = true := by simp [hne]
          have hd' : (l.f != m.t) = true := by simp [Ne.symm hne]
          go_wp2_with ((with_reducible refine wp_region_qb ?_ ?_ (fun hq => ?_)); (focus kernel_rfl); (focus kernel_rfl); (repeat (go_big_quiet_step (fail))); refine wpQuiet_nil ?_; intro wq hb; obtain ⟨hc, hf, hz, hy⟩ := bcell hb; clear hq hy; (try simp only [World.size_alloc, World.size_setCell, World.size_drew] at hz); (try have gQ0 : w.heap.size < wq.heap.size := by omega); (try have gQ1 : w.heap.size + 1 < wq.heap.size := by omega); (try have gQ2 : w.heap.size + 1 + 1 < wq.heap.size := by omega); (try have gQ3 : w.heap.size + 1 + 1 + 1 < wq.heap.size := by omega); (try have gQ4 : w.heap.size + 1 + 1 + 1 + 1 < wq.heap.size := by omega); (try have gQ5 : w.heap.size + 1 + 1 + 1 + 1 + 1 < wq.heap.size := by omega); (try have dQ0 : _ < wq.heap.size := Nat.lt_of_lt_of_le dQ0 (by omega)); (try have dQ1 : _ < wq.heap.size := Nat.lt_of_lt_of_le dQ1 (by omega)); (try have dQ2 : _ < wq.heap.size := Nat.lt_of_lt_of_le dQ2 (by omega)); (try have dQ3 : _ < wq.heap.size := Nat.lt_of_lt_of_le dQ3 (by omega)); (try have dQ4 : _ < wq.heap.size := Nat.lt_of_lt_of_le dQ4 (by omega)); (try have dQ5 : _ < wq.heap.size := Nat.lt_of_lt_of_le dQ5 (by omega)); (try (have hnQ := Nat.lt_of_succ_le hz; first | (have _x := dQ0; first | (have _x := dQ1; first | (have _x := dQ2; first | (have _x := dQ3; first | (have _x := dQ4; have dQ5 := hnQ) | have dQ4 := hnQ) | have dQ3 := hnQ) | have dQ2 := hnQ) | have dQ1 := hnQ) | have dQ0 := hnQ)); (try (have hmQ := Nat.lt_of_succ_lt (Nat.lt_of_succ_le hz); first | (have _x := dQ0; first | (have _x := dQ1; first | (have _x := dQ2; first | (have _x := dQ3; first | (have _x := dQ4; have dQ5 := hmQ) | have dQ4 := hmQ) | have dQ3 := hmQ) | have dQ2 := hmQ) | have dQ1 := hmQ) | have dQ0 := hmQ)))
          go_roundw
          case rel => exact ⟨k + 1 + 1, by omega, by go_num, by rw [HV.out]; go_num, by (repeat' first | (with_reducible exact Below.refl _ _) | (with_reducible refine Below.alloc ?_ ?_ _) | (with_reducible refine Below.drew ?_) | (with_reducible refine Below.setCell ?_ ?_ _) | (with_reducible refine below_via (by assumption) ?_ ?_) | go_size)⟩
          case measure => simp [intOf]; omega
    · obtain rfl : k = L.length := by omega
      go_wp2_with fail
      go_ret
      exact ⟨rfl, hbw⟩
set_option maxHeartbeats 1000000 in
set_option maxRecDepth 100000 in
theorem sCountSweeps_any (L : List Ln) (v : Value) (w : World) {B : Nat} (hv : Own ELine w B v L) :
    Calls Tryz.prog 32 #[v] w fun e w' => e = .returned (.int .i64 (sweeps L : Nat)) ∧ Below w.heap.size w w' := by
  obtain ⟨aL, capL, rfl, hnL, hgetL⟩ := hv.lineG
  have HGL := Lib.hid hgetL
  clear hgetL hv
  go_enter Tryz.func32, Tryz.ntmps32
  go_wp2_with fail
  go_loopw [3, 4] (fun c i wr => ∃ k : Nat, k ≤ L.length ∧ i = .int .i64 k ∧ c = .int .i64 (sweepsTo L k : Nat) ∧ Below w.heap.size w wr) (fun _ i _ => L.length - (intOf i).toNat)
  case atStart => exact ⟨0, by omega, rfl, rfl, Below.refl _ _⟩
  case round =>
    obtain ⟨k, hk, rfl, rfl, hbw⟩ := hrel
    have hz5 := hbw.size
    have hle := sweepsTo_le L k
    have HT := Lib.hid (sweepsTo_succ L k)
    by_cases hlt : k < L.length
    · obtain ⟨bL, rfl, _, hbL, hc0, hc1, hc2⟩ := HGL.out k hlt
      rw [← hbw.cell (by simpa using hbL)] at hc0 hc1 hc2
      have gW : bL < wr.heap.size := by omega
      cases k with
      | zero =>
        have HV : Hid (sweepsTo L (0 + 1) = 1) := by show _ = _; rw [HT.out]; simp [sweepsTo, newSweep]
        go_wp2_with ((with_reducible refine wp_region_qb ?_ ?_ (fun hq => ?_)); (focus kernel_rfl); (focus kernel_rfl); (repeat (go_big_quiet_step (fail))); refine wpQuiet_nil ?_; intro wq hb; obtain ⟨hc, hf, hz, hy⟩ := bcell hb; clear hq hy; (try simp only [World.size_alloc, World.size_setCell, World.size_drew] at hz); (try have gQ0 : w.heap.size < wq.heap.size := by omega); (try have gQ1 : w.heap.size + 1 < wq.heap.size := by omega); (try have gQ2 : w.heap.size + 1 + 1 < wq.heap.size := by omega); (try have gQ3 : w.heap.size + 1 + 1 + 1 < wq.heap.size := by omega); (try have gQ4 : w.heap.size + 1 + 1 + 1 + 1 < wq.heap.size := by omega); (try have gQ5 : w.heap.size + 1 + 1 + 1 + 1 + 1 < wq.heap.size := by omega); (try have dQ0 : _ < wq.heap.size := Nat.lt_of_lt_of_le dQ0 (by omega)); (try have dQ1 : _ < wq.heap.size := Nat.lt_of_lt_of_le dQ1 (by omega)); (try have dQ2 : _ < wq.heap.size := Nat.lt_of_lt_of_le dQ2 (by omega)); (try have dQ3 : _ < wq.heap.size := Nat.lt_of_lt_of_le dQ3 (by omega)); (try have dQ4 : _ < wq.heap.size := Nat.lt_of_lt_of_le dQ4 (by omega)); (try have dQ5 : _ < wq.heap.size := Nat.lt_of_lt_of_le dQ5 (by omega)); (try (have hnQ := Nat.lt_of_succ_le hz; first | (have _x := dQ0; first | (have _x := dQ1; first | (have _x := dQ2; first | (have _x := dQ3; first | (have _x := dQ4; have dQ5 := hnQ) | have dQ4 := hnQ) | have dQ3 := hnQ) | have dQ2 := hnQ) | have dQ1 := hnQ) | have dQ0 := hnQ)); (try (have hmQ := Nat.lt_of_succ_lt (Nat.lt_of_succ_le hz); first | (have _x := dQ0; first | (have _x := dQ1; first | (have _x := dQ2; first | (have _x := dQ3; first | (have _x := dQ4; have dQ5 := hmQ) | have dQ4 := hmQ) | have dQ3 := hmQ) | have dQ2 := hmQ) | have dQ1 := hmQ) | have dQ0 := hmQ)))
        go_roundw
        case rel => exact ⟨1, by omega, by go_num, by rw [HV.out]; simp [sweepsTo], by (repeat' first | (with_reducible exact Below.refl _ _) | (with_reducible refine Below.alloc ?_ ?_ _) | (with_reducible refine Below.drew ?_) | (with_reducible refine Below.setCell ?_ ?_ _) | (with_reducible refine below_via (by assumption) ?_ ?_) | go_size)⟩
        case measure => simp [intOf]; omega
      | succ k =>
        obtain ⟨bL', e1, _, _, hd0, hd1, hd2⟩ := HGL.out k (by omega)
        obtain rfl : bL = bL' := by simpa using e1
        rw [← hbw.cell (by simpa using hbL)] at hd0 hd1 hd2
        have HN := Lib.hid (newSweep_succ L k)
        generalize hT0 : sweepsTo L (k + 1) = T at *
        clear e1 hT0
        generalize gD L Ln0 (k + 1) = l at *
        generalize gD L Ln0 k = m at *
        have hk0 : ((k : Int) + 1 == 0) = false := by rw [beq_eq_false_iff_ne]; omega

        by_cases hne : m.t = l.f
        · have HV : Hid (sweepsTo L (k + 1 + 1) = T) := by show _ = _; rw [HT.out, HN.out]; simp [hne]
          have hd : (m.t != l.f) = false := by simp [hne]
          have hd' : (l.f != m.t) = false := by simp [hne]
          go_wp2_with ((with_reducible refine wp_region_qb ?_ ?_ (fun hq => ?_)); (focus kernel_rfl); (focus kernel_rfl); (repeat (go_big_quiet_step (fail))); refine wpQuiet_nil ?_; intro wq hb; obtain ⟨hc, hf, hz, hy⟩ := bcell hb; clear hq hy; (try simp only [World.size_alloc, World.size_setCell, World.size_drew] at hz); (try have gQ0 : w.heap.size < wq.heap.size := by omega); (try have gQ1 : w.heap.size + 1 < wq.heap.size := by omega); (try have gQ2 : w.heap.size + 1 + 1 < wq.heap.size := by omega); (try have gQ3 : w.heap.size + 1 + 1 + 1 < wq.heap.size := by omega); (try have gQ4 : w.heap.size + 1 + 1 + 1 + 1 < wq.heap.size := by omega); (try have gQ5 : w.heap.size + 1 + 1 + 1 + 1 + 1 < wq.heap.size := by omega); (try have dQ0 : _ < wq.heap.size := Nat.lt_of_lt_of_le dQ0 (by omega)); (try have dQ1 : _ < wq.heap.size := Nat.lt_of_lt_of_le dQ1 (by omega)); (try have dQ2 : _ < wq.heap.size := Nat.lt_of_lt_of_le dQ2 (by omega)); (try have dQ3 : _ < wq.heap.size := Nat.lt_of_lt_of_le dQ3 (by omega)); (try have dQ4 : _ < wq.heap.size := Nat.lt_of_lt_of_le dQ4 (by omega)); (try have dQ5 : _ < wq.heap.size := Nat.lt_of_lt_of_le dQ5 (by omega)); (try (have hnQ := Nat.lt_of_succ_le hz; first | (have _x := dQ0; first | (have _x := dQ1; first | (have _x := dQ2; first | (have _x := dQ3; first | (have _x := dQ4; have dQ5 := hnQ) | have dQ4 := hnQ) | have dQ3 := hnQ) | have dQ2 := hnQ) | have dQ1 := hnQ) | have dQ0 := hnQ)); (try (have hmQ := Nat.lt_of_succ_lt (Nat.lt_of_succ_le hz); first | (have _x := dQ0; first | (have _x := dQ1; first | (have _x := dQ2; first | (have _x := dQ3; first | (have _x := dQ4; have dQ5 := hmQ) | have dQ4 := hmQ) | have dQ3 := hmQ) | have dQ2 := hmQ) | have dQ1 := hmQ) | have dQ0 := hmQ)))
          go_roundw
          case rel => exact ⟨k + 1 + 1, by omega, by go_num, by rw [HV.out], by (repeat' first | (with_reducible exact Below.refl _ _) | (with_reducible refine Below.alloc ?_ ?_ _) | (with_reducible refine Below.drew ?_) | (with_reducible refine Below.setCell ?_ ?_ _) | (with_reducible refine below_via (by assumption) ?_ ?_) | go_size)⟩
          case measure => simp [intOf]; omega
        · have HV : Hid (sweepsTo L (k + 1 + 1) = T + 1) := by show _ = _; rw [HT.out, HN.out]; simp [hne]
          have hd : (m.t != l.f) = true := by simp [hne]
          have hd' : (l.f != m.t) = true := by simp [Ne.symm hne]
          go_wp2_with ((with_reducible refine wp_region_qb ?_ ?_ (fun hq => ?_)); (focus kernel_rfl); (focus kernel_rfl); (repeat (go_big_quiet_step (fail))); refine wpQuiet_nil ?_; intro wq hb; obtain ⟨hc, hf, hz, hy⟩ := bcell hb; clear hq hy; (try simp only [World.size_alloc, World.size_setCell, World.size_drew] at hz); (try have gQ0 : w.heap.size < wq.heap.size := by omega); (try have gQ1 : w.heap.size + 1 < wq.heap.size := by omega); (try have gQ2 : w.heap.size + 1 + 1 < wq.heap.size := by omega); (try have gQ3 : w.heap.size + 1 + 1 + 1 < wq.heap.size := by omega); (try have gQ4 : w.heap.size + 1 + 1 + 1 + 1 < wq.heap.size := by omega); (try have gQ5 : w.heap.size + 1 + 1 + 1 + 1 + 1 < wq.heap.size := by omega); (try have dQ0 : _ < wq.heap.size := Nat.lt_of_lt_of_le dQ0 (by omega)); (try have dQ1 : _ < wq.heap.size := Nat.lt_of_lt_of_le dQ1 (by omega)); (try have dQ2 : _ < wq.heap.size := Nat.lt_of_lt_of_le dQ2 (by omega)); (try have dQ3 : _ < wq.heap.size := Nat.lt_of_lt_of_le dQ3 (by omega)); (try have dQ4 : _ < wq.heap.size := Nat.lt_of_lt_of_le dQ4 (by omega)); (try have dQ5 : _ < wq.heap.size := Nat.lt_of_lt_of_le dQ5 (by omega)); (try (have hnQ := Nat.lt_of_succ_le hz; first | (have _x := dQ0; first | (have _x := dQ1; first | (have _x := dQ2; first | (have _x := dQ3; first | (have _x := dQ4; have dQ5 := hnQ) | have dQ4 := hnQ) | have dQ3 := hnQ) | have dQ2 := hnQ) | have dQ1 := hnQ) | have dQ0 := hnQ)); (try (have hmQ := Nat.lt_of_succ_lt (Nat.lt_of_succ_le hz); first | (have _x := dQ0; first | (have _x := dQ1; first | (have _x := dQ2; first | (have _x := dQ3; first | (have _x := dQ4; have dQ5 := hmQ) | have dQ4 := hmQ) | have dQ3 := hmQ) | have dQ2 := hmQ) | have dQ1 := hmQ) | have dQ0 := hmQ)))
          go_roundw
          case rel => exact ⟨k + 1 + 1, by omega, by go_num, by rw [HV.out]; go_num, by (repeat' first | (with_reducible exact Below.refl _ _) | (with_reducible refine Below.alloc ?_ ?_ _) | (with_reducible refine Below.drew ?_) | (with_reducible refine Below.setCell ?_ ?_ _) | (with_reducible refine below_via (by assumption) ?_ ?_) | go_size)⟩
          case measure => simp [intOf]; omega
    · obtain rfl : k = L.length := by omega
      go_wp2_with fail
      go_ret
      exact ⟨rfl, hbw⟩
end Go.Proofs.YtfmplmlilmalpaaGreat
namespace Peg
def byb (f : Nat → Nat) : Nat → Nat → Nat
  | 0, _ => 0
  | n + 1, x => f (x % 256) + 256 * byb f n (x / 256)
def rep (c : Nat) : Nat → Nat
  | 0 => 0
  | n + 1 => c + 256 * rep c n
theorem and_byte (x c m : Nat) (hc : c < 256) : x &&& (c + 256 * m) = (x % 256 &&& c) + 256 * (x / 256 &&& m) := by
  have h1 := Nat.and_mod_two_pow (a := x) (b := c + 256 * m) (n := 8)
  have h2 := Nat.and_div_two_pow (a := x) (b := c + 256 * m) (n := 8)
  have e8 : (2 : Nat) ^ 8 = 256 := by decide
  rw [e8] at h1 h2
  rw [show (c + 256 * m) % 256 = c from by omega] at h1
  rw [show (c + 256 * m) / 256 = m from by omega] at h2
  omega
theorem and_rep (c : Nat) (hc : c < 256) : ∀ n x, x &&& rep c n = byb (fun r => r &&& c) n x := by
  intro n
  induction n with
  | zero => intro x; simp [rep, byb]
  | succ n ih => intro x; rw [rep, and_byte x c _ hc, ih]; rfl
set_option maxRecDepth 100000 in
theorem b1 : ∀ r : Fin 512, ((r.val / 2) % 256) &&& 85 = ((r.val % 256) / 2) &&& 85 := by decide +kernel
set_option maxRecDepth 100000 in
theorem b2 : ∀ r : Fin 1024, ((r.val / 4) % 256) &&& 51 = ((r.val % 256) / 4) &&& 51 := by decide +kernel
theorem step1 : ∀ n x, (x / 2 &&& rep 85 n) + (x &&& rep 85 n) = byb (fun r => (r / 2 &&& 85) + (r &&& 85)) n x := by
  intro n
  induction n with
  | zero => intro x; simp [rep, byb]
  | succ n ih =>
    intro x
    rw [rep, and_byte _ 85 _ (by decide), and_byte _ 85 _ (by decide), byb, ← ih]
    have h := b1 ⟨x % 512, by omega⟩
    simp only at h
    rw [show (x % 512 / 2) % 256 = x / 2 % 256 from by omega, show x % 512 % 256 = x % 256 from by omega] at h
    rw [h, show x / 2 / 256 = x / 256 / 2 from by omega]
    omega
theorem step2 : ∀ n x, (x / 4 &&& rep 51 n) + (x &&& rep 51 n) = byb (fun r => (r / 4 &&& 51) + (r &&& 51)) n x := by
  intro n
  induction n with
  | zero => intro x; simp [rep, byb]
  | succ n ih =>
    intro x
    rw [rep, and_byte _ 51 _ (by decide), and_byte _ 51 _ (by decide), byb, ← ih]
    have h := b2 ⟨x % 1024, by omega⟩
    simp only at h
    rw [show (x % 1024 / 4) % 256 = x / 4 % 256 from by omega, show x % 1024 % 256 = x % 256 from by omega] at h
    rw [h, show x / 4 / 256 = x / 256 / 4 from by omega]
    omega
set_option maxRecDepth 100000 in
theorem f1lt : ∀ r : Fin 256, (r.val / 2 &&& 85) + (r.val &&& 85) < 256 := by decide +kernel
def f1 (r : Nat) : Nat := (r / 2 &&& 85) + (r &&& 85)
def f2 (r : Nat) : Nat := (r / 4 &&& 51) + (r &&& 51)
def pc8 (r : Nat) : Nat := (List.range 8).countP fun j => r.testBit j
set_option maxRecDepth 100000 in
theorem f2lt : ∀ r : Fin 256, f2 (f1 r.val) % 16 ≤ 4 ∧ f2 (f1 r.val) / 16 ≤ 4 ∧ f2 (f1 r.val) % 16 + f2 (f1 r.val) / 16 = pc8 r.val ∧ f1 r.val < 256 := by decide +kernel
theorem byb_byb (f g : Nat → Nat) (hf : ∀ r, r < 256 → f r < 256) : ∀ n x, byb g n (byb f n x) = byb (fun r => g (f r)) n x := by
  intro n
  induction n with
  | zero => intro x; rfl
  | succ n ih =>
    intro x
    have h := hf (x % 256) (by omega)
    have e1 : byb f (n + 1) x % 256 = f (x % 256) := by rw [byb]; omega
    have e2 : byb f (n + 1) x / 256 = byb f n (x / 256) := by rw [byb]; omega
    show g (byb f (n + 1) x % 256) + 256 * byb g n (byb f (n + 1) x / 256) = _
    rw [e1, e2, ih]
    rfl
theorem byb_lt (f : Nat → Nat) (hf : ∀ r, r < 256 → f r < 256) : ∀ n x, byb f n x < 256 ^ n := by
  intro n
  induction n with
  | zero => intro x; simp [byb]
  | succ n ih =>
    intro x
    have h := hf (x % 256) (by omega)
    have h2 := ih (x / 256)
    rw [byb, Nat.pow_succ]
    generalize (256 : Nat) ^ n = P at *
    omega
theorem fold3 (x0 x1 x2 x3 x4 x5 x6 x7 h0 h1 h2 h3 h4 h5 h6 h7 : Nat) (a : x0 ≤ 4 ∧ x1 ≤ 4 ∧ x2 ≤ 4 ∧ x3 ≤ 4 ∧ x4 ≤ 4 ∧ x5 ≤ 4 ∧ x6 ≤ 4 ∧ x7 ≤ 4) (b : h0 ≤ 4 ∧ h1 ≤ 4 ∧ h2 ≤ 4 ∧ h3 ≤ 4 ∧ h4 ≤ 4 ∧ h5 ≤ 4 ∧ h6 ≤ 4 ∧ h7 ≤ 4)
    (y : Nat) (hy : y = (x0 + 16 * h0) + 256 * ((x1 + 16 * h1) + 256 * ((x2 + 16 * h2) + 256 * ((x3 + 16 * h3) + 256 * ((x4 + 16 * h4) + 256 * ((x5 + 16 * h5) + 256 * ((x6 + 16 * h6) + 256 * ((x7 + 16 * h7))))))))) :
    byb (fun r => r &&& 15) 8 (y / 16 + y) = (x0 + h0) + 256 * ((x1 + h1) + 256 * ((x2 + h2) + 256 * ((x3 + h3) + 256 * ((x4 + h4) + 256 * ((x5 + h5) + 256 * ((x6 + h6) + 256 * ((x7 + h7)))))))) := by
  have e : (y / 16 + y) = ((x0 + h0) + 16 * (h0 + x1)) + 256 * (((x1 + h1) + 16 * (h1 + x2)) + 256 * (((x2 + h2) + 16 * (h2 + x3)) + 256 * (((x3 + h3) + 16 * (h3 + x4)) + 256 * (((x4 + h4) + 16 * (h4 + x5)) + 256 * (((x5 + h5) + 16 * (h5 + x6)) + 256 * (((x6 + h6) + 16 * (h6 + x7)) + 256 * (((x7 + h7) + 16 * h7)))))))) := by omega
  have m15 : ∀ r, r &&& 15 = r % 16 := fun r => Nat.and_two_pow_sub_one_eq_mod r 4
  rw [e]
  clear e hy
  have st : ∀ n lo hi rest, lo + hi * 16 < 256 → lo < 16 → byb (fun r => r &&& 15) (n + 1) ((lo + 16 * hi) + 256 * rest) = lo + 256 * byb (fun r => r &&& 15) n rest := by
    intro n lo hi rest h1 h2
    rw [byb, m15, show ((lo + 16 * hi) + 256 * rest) / 256 = rest from by omega, show ((lo + 16 * hi) + 256 * rest) % 256 % 16 = lo from by omega]
  rw [st 7 _ _ _ (by omega) (by omega), st 6 _ _ _ (by omega) (by omega), st 5 _ _ _ (by omega) (by omega), st 4 _ _ _ (by omega) (by omega), st 3 _ _ _ (by omega) (by omega), st 2 _ _ _ (by omega) (by omega), st 1 _ _ _ (by omega) (by omega)]
  have := st 0 (x7 + h7) h7 0 (by omega) (by omega)
  rw [show (x7 + h7 + 16 * h7 + 256 * 0) = (x7 + h7 + 16 * h7) from by omega] at this
  rw [this]
  simp [byb]
def pop1 (x : Nat) : Nat := (x / 2 &&& 6148914691236517205) + (x &&& 6148914691236517205)
def pop2 (x : Nat) : Nat := (x / 4 &&& 3689348814741910323) + (x &&& 3689348814741910323)
def pop3 (x : Nat) : Nat := (x / 16 + x) &&& 1085102592571150095
def pop4 (x : Nat) : Nat := x + x / 256
def pop5 (x : Nat) : Nat := x + x / 65536
def pop6 (x : Nat) : Nat := x + x / 4294967296
def cnt (x : Nat) (n : Nat) : Nat := (List.range n).countP fun i => x.testBit i
theorem cnt_add (x n : Nat) : cnt x (n + 8) = cnt x n + pc8 (x / 2 ^ n % 256) := by
  unfold cnt pc8
  rw [List.range_add, List.countP_append, List.countP_map]
  congr 1
  apply List.countP_congr
  intro j hj
  have hj8 : j < 8 := by simpa using hj
  have e8 : (256 : Nat) = 2 ^ 8 := by decide
  simp only [Function.comp]
  rw [e8, Nat.testBit_mod_two_pow, Nat.testBit_div_two_pow]
  simp [hj8, Nat.add_comm]
theorem cnt64 (x : Nat) : cnt x 64 = pc8 (x % 256) + pc8 (x / 256 % 256) + pc8 (x / 65536 % 256) + pc8 (x / 16777216 % 256) + pc8 (x / 4294967296 % 256) + pc8 (x / 1099511627776 % 256) + pc8 (x / 281474976710656 % 256) + pc8 (x / 72057594037927936 % 256) := by
  rw [cnt_add x 56, cnt_add x 48, cnt_add x 40, cnt_add x 32, cnt_add x 24, cnt_add x 16, cnt_add x 8, cnt_add x 0]
  simp [cnt]
set_option maxRecDepth 100000 in
theorem pc8le : ∀ r : Fin 256, pc8 r.val ≤ 8 := by decide +kernel
theorem div1 (a r : Nat) (h : a < 256) : (a + 256 * r) / 256 = r := by omega
theorem div2 (a b r : Nat) (h : a < 256) (h2 : b < 256) : (a + 256 * (b + 256 * r)) / 65536 = r := by omega
theorem div4 (a b c d r : Nat) (h : a < 256) (h2 : b < 256) (h3 : c < 256) (h4 : d < 256) : (a + 256 * (b + 256 * (c + 256 * (d + 256 * r)))) / 4294967296 = r := by omega
theorem e4 (c0 c1 c2 c3 c4 c5 c6 c7 : Nat) (h : c0 ≤ 8) (y : Nat) (hy : y = c0 + 256 * (c1 + 256 * (c2 + 256 * (c3 + 256 * (c4 + 256 * (c5 + 256 * (c6 + 256 * c7))))))) :
    pop4 y = (c0 + c1) + 256 * ((c1 + c2) + 256 * ((c2 + c3) + 256 * ((c3 + c4) + 256 * ((c4 + c5) + 256 * ((c5 + c6) + 256 * ((c6 + c7) + 256 * c7)))))) := by
  unfold pop4
  rw [hy, div1 c0 _ (by omega)]
  clear hy
  omega
theorem e5 (d0 d1 d2 d3 d4 d5 d6 d7 : Nat) (h : d0 < 256) (h1 : d1 < 256) (y : Nat) (hy : y = d0 + 256 * (d1 + 256 * (d2 + 256 * (d3 + 256 * (d4 + 256 * (d5 + 256 * (d6 + 256 * d7))))))) :
    pop5 y = (d0 + d2) + 256 * ((d1 + d3) + 256 * ((d2 + d4) + 256 * ((d3 + d5) + 256 * ((d4 + d6) + 256 * ((d5 + d7) + 256 * (d6 + 256 * d7)))))) := by
  unfold pop5
  rw [hy, div2 d0 d1 _ h h1]
  clear hy
  omega
theorem e6 (d0 d1 d2 d3 d4 d5 d6 d7 : Nat) (h : d0 < 256) (h1 : d1 < 256) (h2 : d2 < 256) (h3 : d3 < 256) (y : Nat) (hy : y = d0 + 256 * (d1 + 256 * (d2 + 256 * (d3 + 256 * (d4 + 256 * (d5 + 256 * (d6 + 256 * d7))))))) :
    pop6 y = (d0 + d4) + 256 * ((d1 + d5) + 256 * ((d2 + d6) + 256 * ((d3 + d7) + 256 * (d4 + 256 * (d5 + 256 * (d6 + 256 * d7)))))) := by
  unfold pop6
  rw [hy, div4 d0 d1 d2 d3 _ h h1 h2 h3]
  clear hy
  omega
theorem pop_last (c0 c1 c2 c3 c4 c5 c6 c7 : Nat) (h : c0 ≤ 8 ∧ c1 ≤ 8 ∧ c2 ≤ 8 ∧ c3 ≤ 8 ∧ c4 ≤ 8 ∧ c5 ≤ 8 ∧ c6 ≤ 8 ∧ c7 ≤ 8) (y : Nat) (hy : y = c0 + 256 * (c1 + 256 * (c2 + 256 * (c3 + 256 * (c4 + 256 * (c5 + 256 * (c6 + 256 * c7))))))) :
    pop4 y ≤ 1157442765409226768 ∧ pop5 (pop4 y) ≤ 2314885530818453536 ∧ pop6 (pop5 (pop4 y)) ≤ 4629771061636907072 ∧ pop6 (pop5 (pop4 y)) % 128 = c0 + c1 + c2 + c3 + c4 + c5 + c6 + c7 := by
  have a4 := e4 c0 c1 c2 c3 c4 c5 c6 c7 (by omega) y hy
  have a5 := e5 _ _ _ _ _ _ _ _ (by omega) (by omega) _ a4
  have a6 := e6 _ _ _ _ _ _ _ _ (by omega) (by omega) (by omega) (by omega) _ a5
  generalize pop6 (pop5 (pop4 y)) = y6 at *
  generalize pop5 (pop4 y) = y5 at *
  generalize pop4 y = y4 at *
  clear hy
  obtain ⟨h0, h1, h2, h3, h4, h5, h6, h7⟩ := h
  refine ⟨by clear a5 a6; omega, by clear a4 a6; omega, by clear a4 a5; omega, ?_⟩
  clear a4 a5
  have : y6 % 128 = (c0 + c1 + (c2 + c3) + (c4 + c5 + (c6 + c7))) % 128 := by
    generalize (c1 + c2 + (c3 + c4) + (c5 + c6 + c7)) = R1 at a6
    rw [a6, show ∀ A B : Nat, (A + 256 * B) % 128 = A % 128 from fun A B => by omega]
  rw [this]
  omega
theorem pop_law {x : Nat} (hx : x < 18446744073709551616) : pop1 x < 18446744073709551616 ∧ pop2 (pop1 x) ≤ 4919131752989213764 ∧ pop4 (pop3 (pop2 (pop1 x))) ≤ 1157442765409226768 ∧ pop5 (pop4 (pop3 (pop2 (pop1 x)))) ≤ 2314885530818453536 ∧ pop6 (pop5 (pop4 (pop3 (pop2 (pop1 x))))) ≤ 4629771061636907072 ∧ pop6 (pop5 (pop4 (pop3 (pop2 (pop1 x))))) % 128 = cnt x 64 := by
  have r1 : (6148914691236517205 : Nat) = rep 85 8 := by decide
  have r2 : (3689348814741910323 : Nat) = rep 51 8 := by decide
  have r3 : (1085102592571150095 : Nat) = rep 15 8 := by decide
  have s1 : pop1 x = byb f1 8 x := by unfold pop1; rw [r1, step1]; rfl
  have s2 : pop2 (pop1 x) = byb (fun r => f2 (f1 r)) 8 x := by
    rw [s1]; unfold pop2; rw [r2, step2]
    exact byb_byb f1 f2 (fun r hr => (f2lt ⟨r, hr⟩).2.2.2) 8 x
  have hb : pop1 x < 18446744073709551616 := by
    rw [s1]
    have := byb_lt f1 (fun r hr => (f2lt ⟨r, hr⟩).2.2.2) 8 x
    rwa [show (256 : Nat) ^ 8 = 18446744073709551616 from by decide] at this
  have hr : ∀ z, z % 256 < 256 := fun z => Nat.mod_lt _ (by decide)
  have q0 := f2lt ⟨x % 256, hr _⟩; have q1 := f2lt ⟨x / 256 % 256, hr _⟩; have q2 := f2lt ⟨x / 65536 % 256, hr _⟩; have q3 := f2lt ⟨x / 16777216 % 256, hr _⟩; have q4 := f2lt ⟨x / 4294967296 % 256, hr _⟩; have q5 := f2lt ⟨x / 1099511627776 % 256, hr _⟩; have q6 := f2lt ⟨x / 281474976710656 % 256, hr _⟩; have q7 := f2lt ⟨x / 72057594037927936 % 256, hr _⟩
  simp only at q0 q1 q2 q3 q4 q5 q6 q7
  have s2' : pop2 (pop1 x) = f2 (f1 (x % 256)) + 256 * (f2 (f1 (x / 256 % 256)) + 256 * (f2 (f1 (x / 65536 % 256)) + 256 * (f2 (f1 (x / 16777216 % 256)) + 256 * (f2 (f1 (x / 4294967296 % 256)) + 256 * (f2 (f1 (x / 1099511627776 % 256)) + 256 * (f2 (f1 (x / 281474976710656 % 256)) + 256 * (f2 (f1 (x / 72057594037927936 % 256))))))))) := by
    rw [s2]; simp [byb, Nat.div_div_eq_div_mul]
  rw [cnt64]
  generalize x % 256 = x0 at *; generalize x / 256 % 256 = x1 at *; generalize x / 65536 % 256 = x2 at *; generalize x / 16777216 % 256 = x3 at *; generalize x / 4294967296 % 256 = x4 at *; generalize x / 1099511627776 % 256 = x5 at *; generalize x / 281474976710656 % 256 = x6 at *; generalize x / 72057594037927936 % 256 = x7 at *
  clear s2 s1
  generalize pop2 (pop1 x) = y at *
  generalize pop1 x = z at *
  rw [← q0.2.2.1, ← q1.2.2.1, ← q2.2.2.1, ← q3.2.2.1, ← q4.2.2.1, ← q5.2.2.1, ← q6.2.2.1, ← q7.2.2.1]
  have hy := fold3 (f2 (f1 x0) % 16) (f2 (f1 x1) % 16) (f2 (f1 x2) % 16) (f2 (f1 x3) % 16) (f2 (f1 x4) % 16) (f2 (f1 x5) % 16) (f2 (f1 x6) % 16) (f2 (f1 x7) % 16) (f2 (f1 x0) / 16) (f2 (f1 x1) / 16) (f2 (f1 x2) / 16) (f2 (f1 x3) / 16) (f2 (f1 x4) / 16) (f2 (f1 x5) / 16) (f2 (f1 x6) / 16) (f2 (f1 x7) / 16)
    ⟨q0.1, q1.1, q2.1, q3.1, q4.1, q5.1, q6.1, q7.1⟩ ⟨q0.2.1, q1.2.1, q2.2.1, q3.2.1, q4.2.1, q5.2.1, q6.2.1, q7.2.1⟩ y (by rw [s2']; omega)
  have s3 : pop3 y = byb (fun r => r &&& 15) 8 (y / 16 + y) := by unfold pop3; rw [r3, and_rep 15 (by decide)]
  rw [← s3] at hy
  obtain ⟨p1, p2, p3, p4⟩ := pop_last _ _ _ _ _ _ _ _ ⟨by omega, by omega, by omega, by omega, by omega, by omega, by omega, by omega⟩ _ hy
  exact ⟨hb, by omega, p1, p2, p3, by rw [p4]⟩
end Peg
namespace Peg
open Go Go.RowKit
theorem u64_in {n : Int} (h0 : 0 ≤ n) (h : n < 18446744073709551616) : IntKind.u64.wrap n = n := by
  unfold IntKind.wrap
  simp [IntKind.signed, IntKind.bits]
  omega
theorem ofNat_u {a : Nat} (h : a < 18446744073709551616) : (BitVec.ofInt 64 (a : Int)).toNat = a := by
  rw [BitVec.toNat_ofInt]
  have e : ((2 ^ 64 : Nat) : Int) = 18446744073709551616 := by decide
  rw [e]
  omega
theorem bitsu {a b : Nat} (ha : a < 18446744073709551616) (hb : b < 18446744073709551616) : bits BinOp.and IntKind.u64 (a : Int) (b : Int) = ((a &&& b : Nat) : Int) := by
  show IntKind.u64.wrap (((BitVec.ofInt 64 (a : Int) &&& BitVec.ofInt 64 (b : Int)).toNat : Nat) : Int) = _
  rw [BitVec.toNat_and, ofNat_u ha, ofNat_u hb]
  have := @Nat.and_le_left a b
  exact u64_in (by omega) (by omega)
theorem sp1 {x : Nat} (h : x < 18446744073709551616) (h2 : pop1 x < 18446744073709551616) : IntKind.u64.wrap (bits BinOp.and IntKind.u64 ((x : Int) / 2) 6148914691236517205 + bits BinOp.and IntKind.u64 (x : Int) 6148914691236517205) = ((pop1 x : Nat) : Int) := by
  have e1 := bitsu (a := x / 2) (b := 6148914691236517205) (by omega) (by omega)
  have e2 := bitsu (a := x) (b := 6148914691236517205) h (by omega)
  simp only [Int.natCast_ediv, Int.cast_ofNat_Int] at e1 e2
  rw [e1, e2]
  exact u64_in (by omega) (by unfold pop1 at h2; omega)
theorem sp2 {x : Nat} (h : x < 18446744073709551616) (h2 : pop2 x < 18446744073709551616) : IntKind.u64.wrap (bits BinOp.and IntKind.u64 ((x : Int) / 4) 3689348814741910323 + bits BinOp.and IntKind.u64 (x : Int) 3689348814741910323) = ((pop2 x : Nat) : Int) := by
  have e1 := bitsu (a := x / 4) (b := 3689348814741910323) (by omega) (by omega)
  have e2 := bitsu (a := x) (b := 3689348814741910323) h (by omega)
  simp only [Int.natCast_ediv, Int.cast_ofNat_Int] at e1 e2
  rw [e1, e2]
  exact u64_in (by omega) (by unfold pop2 at h2; omega)
theorem sp3 {x : Nat} (h : x ≤ 4919131752989213764) : bits BinOp.and IntKind.u64 (IntKind.u64.wrap ((x : Int) / 16 + x)) 1085102592571150095 = ((pop3 x : Nat) : Int) := by
  rw [u64_in (by omega) (by omega)]
  have e1 := bitsu (a := x / 16 + x) (b := 1085102592571150095) (by omega) (by omega)
  simp only [Int.natCast_ediv, Int.natCast_add, Int.cast_ofNat_Int] at e1
  exact e1
theorem sp4 {x : Nat} (h : pop4 x ≤ 1157442765409226768) : IntKind.u64.wrap ((x : Int) + x / 256) = ((pop4 x : Nat) : Int) := by
  unfold pop4 at *
  rw [u64_in (by omega) (by omega)]; omega
theorem sp5 {x : Nat} (h : pop5 x ≤ 2314885530818453536) : IntKind.u64.wrap ((x : Int) + x / 65536) = ((pop5 x : Nat) : Int) := by
  unfold pop5 at *
  rw [u64_in (by omega) (by omega)]; omega
theorem sp6 {x : Nat} (h : pop6 x ≤ 4629771061636907072) : IntKind.u64.wrap ((x : Int) + x / 4294967296) = ((pop6 x : Nat) : Int) := by
  unfold pop6 at *
  rw [u64_in (by omega) (by omega)]; omega
theorem sp7 {x : Nat} (h : x ≤ 4629771061636907072) : bits BinOp.and IntKind.i64 (x : Int) 127 = ((x % 128 : Nat) : Int) := by
  rw [bits_and (by omega) (by omega) (by omega) (by omega)]
  unfold band
  rw [Int.toNat_natCast, show (127 : Int).toNat = 127 from rfl, Nat.and_two_pow_sub_one_eq_mod x 7]
theorem sp8 {x : Nat} (h : x ≤ 4629771061636907072) : wrap64 (x : Int) = x := IntWalk.wrap64_in _ (by omega)
theorem cnt_pegs {p : Int} (h0 : 0 ≤ p) (h : p < 562949953421312) : cnt p.toNat 64 = pegs p := by
  rw [pegs_eq]
  unfold cnt
  rw [show (64 : Nat) = 49 + 15 from rfl, List.range_add, List.countP_append]
  have : List.countP (fun i => p.toNat.testBit i) (List.map (49 + ·) (List.range 15)) = 0 := by
    rw [List.countP_eq_zero]
    intro i hi
    obtain ⟨j, _, rfl⟩ := List.mem_map.1 hi
    have e : p.toNat.testBit (49 + j) = false := by
      apply Nat.testBit_lt_two_pow
      have h1 : (2 : Nat) ^ 49 ≤ 2 ^ (49 + j) := Nat.pow_le_pow_right (by omega) (by omega)
      have h2 : (2 : Nat) ^ 49 = 562949953421312 := by decide
      omega
    simp [e]
  rw [this]
  rfl
end Peg
namespace Go.Proofs.YtfmplmlilmalpaaGreat
open Go.ChangeShapes Go.WideShapes Go.ChangeAt Go.RowKit Peg Go.Sort
set_option maxHeartbeats 1000000 in
set_option maxRecDepth 100000 in
theorem OnesCount64_any (x : Nat) (hx : x < 18446744073709551616) (w : World) :
    Calls Tryz.prog 93 #[.int .u64 x] w fun e w' => e = .returned (.int .i64 (cnt x 64 : Nat)) ∧ w = w' := by
  obtain ⟨h1, h2, h3, h4, h5, h6⟩ := pop_law hx
  have HP : Hid (cnt x 64 = pop6 (pop5 (pop4 (pop3 (pop2 (pop1 x))))) % 128) := h6.symm
  clear h6
  go_enter Tryz.func93, Tryz.ntmps93
  go_wp2_with fail
  go_ret
  refine ⟨?_, rfl⟩
  rw [HP.out]
  simp only [sp1 hx h1, sp2 h1 (Nat.lt_of_le_of_lt h2 (by decide)), sp3 h2, sp4 h3, sp5 h4, sp6 h5, sp8 h5, sp7 h5]
  rfl
theorem OnesCount_any (x : Nat) (hx : x < 18446744073709551616) (w : World) :
    Calls Tryz.prog 57 #[.int .u64 x] w fun e w' => e = .returned (.int .i64 (cnt x 64 : Nat)) ∧ w = w' := by
  have hu : IntKind.u64.wrap (x : Int) = x := u64_in (by omega) (by omega)
  have H := Lib.hid (OnesCount64_any x hx)
  go_enter Tryz.func57, Tryz.ntmps57
  go_wp2_with (go_at_call 93; (try rw [hu]); refine (H.out _).mono ?_; rintro e w' ⟨rfl, rfl⟩)
  go_ret
  exact ⟨rfl, rfl⟩
theorem pegsIn_any (p : Int) (h0 : 0 ≤ p) (h1 : p < 562949953421312) (w : World) :
    Calls Tryz.prog 22 #[.int .i64 p] w fun e w' => e = .returned (.int .i64 (pegs p : Nat)) ∧ w = w' := by
  obtain ⟨x, rfl⟩ := Int.eq_ofNat_of_zero_le h0
  have hu : IntKind.u64.wrap (x : Int) = x := u64_in (by omega) (by omega)
  have H := Lib.hid (OnesCount_any x (by omega))
  have HC : Hid (cnt x 64 = pegs (x : Int)) := cnt_pegs h0 h1
  go_enter Tryz.func22, Tryz.ntmps22
  go_wp2_with (go_at_call 57; (try rw [hu]); refine (H.out _).mono ?_; rintro e w' ⟨rfl, rfl⟩)
  go_ret
  exact ⟨by rw [HC.out]; rfl, rfl⟩
theorem sCountPegs_any (a b o p : Int) (hp : p ≤ 9223372036854775807) (w : World) :
    Calls Tryz.prog 31 #[.agg #[.int .i64 a, .int .i64 b, .int .i64 o], .int .i64 p] w fun e w' => e = .returned (.int .i64 (if posOk a b o p = true then (pegs p : Int) else -1)) ∧ Below w.heap.size w w' := by
  cases hpo : posOk a b o p
  · have H2 : Hid (∀ W, Calls Tryz.prog 40 #[.agg #[.int .i64 a, .int .i64 b, .int .i64 o], .int .i64 p] W fun e w' => e = .returned (.bool (posOk a b o p)) ∧ Below W.heap.size W w') := fun W => sPositionOk_any a b o p hp W
    rw [hpo] at H2
    clear hpo
    go_enter Tryz.func31, Tryz.ntmps31
    go_wp2_with (first | (go_at_call 40; refine (H2.out _).mono ?_; rintro e w' ⟨rfl, hb⟩; obtain ⟨hc, hf, hz, hy⟩ := bcell hb; clear hy; (try simp only [World.size_alloc, World.size_setCell, World.size_drew] at hz); (try have gQ0 : w.heap.size < w'.heap.size := by omega); (try have gQ1 : w.heap.size + 1 < w'.heap.size := by omega); (try have gQ2 : w.heap.size + 1 + 1 < w'.heap.size := by omega); (try have gQ3 : w.heap.size + 1 + 1 + 1 < w'.heap.size := by omega); (try have gQ4 : w.heap.size + 1 + 1 + 1 + 1 < w'.heap.size := by omega); (try have gQ5 : w.heap.size + 1 + 1 + 1 + 1 + 1 < w'.heap.size := by omega); (try have dQ0 : _ < w'.heap.size := Nat.lt_of_lt_of_le dQ0 (by omega)); (try have dQ1 : _ < w'.heap.size := Nat.lt_of_lt_of_le dQ1 (by omega)); (try have dQ2 : _ < w'.heap.size := Nat.lt_of_lt_of_le dQ2 (by omega)); (try have dQ3 : _ < w'.heap.size := Nat.lt_of_lt_of_le dQ3 (by omega)); (try have dQ4 : _ < w'.heap.size := Nat.lt_of_lt_of_le dQ4 (by omega)); (try have dQ5 : _ < w'.heap.size := Nat.lt_of_lt_of_le dQ5 (by omega)); (try (have hnQ := Nat.lt_of_succ_le hz; first | (have _x := dQ0; first | (have _x := dQ1; first | (have _x := dQ2; first | (have _x := dQ3; first | (have _x := dQ4; have dQ5 := hnQ) | have dQ4 := hnQ) | have dQ3 := hnQ) | have dQ2 := hnQ) | have dQ1 := hnQ) | have dQ0 := hnQ)); (try (have hmQ := Nat.lt_of_succ_lt (Nat.lt_of_succ_le hz); first | (have _x := dQ0; first | (have _x := dQ1; first | (have _x := dQ2; first | (have _x := dQ3; first | (have _x := dQ4; have dQ5 := hmQ) | have dQ4 := hmQ) | have dQ3 := hmQ) | have dQ2 := hmQ) | have dQ1 := hmQ) | have dQ0 := hmQ))) | ((with_reducible refine wp_region_qb ?_ ?_ (fun hq => ?_)); (focus kernel_rfl); (focus kernel_rfl); (repeat (go_big_quiet_step ((first | (go_at_call 40; exact Calls.regrown_of (H2.out _)))))); refine wpQuiet_nil ?_; intro wq hb; obtain ⟨hc, hf, hz, hy⟩ := bcell hb; clear hq hy; (try simp only [World.size_alloc, World.size_setCell, World.size_drew] at hz); (try have gQ0 : w.heap.size < wq.heap.size := by omega); (try have gQ1 : w.heap.size + 1 < wq.heap.size := by omega); (try have gQ2 : w.heap.size + 1 + 1 < wq.heap.size := by omega); (try have gQ3 : w.heap.size + 1 + 1 + 1 < wq.heap.size := by omega); (try have gQ4 : w.heap.size + 1 + 1 + 1 + 1 < wq.heap.size := by omega); (try have gQ5 : w.heap.size + 1 + 1 + 1 + 1 + 1 < wq.heap.size := by omega); (try have dQ0 : _ < wq.heap.size := Nat.lt_of_lt_of_le dQ0 (by omega)); (try have dQ1 : _ < wq.heap.size := Nat.lt_of_lt_of_le dQ1 (by omega)); (try have dQ2 : _ < wq.heap.size := Nat.lt_of_lt_of_le dQ2 (by omega)); (try have dQ3 : _ < wq.heap.size := Nat.lt_of_lt_of_le dQ3 (by omega)); (try have dQ4 : _ < wq.heap.size := Nat.lt_of_lt_of_le dQ4 (by omega)); (try have dQ5 : _ < wq.heap.size := Nat.lt_of_lt_of_le dQ5 (by omega)); (try (have hnQ := Nat.lt_of_succ_le hz; first | (have _x := dQ0; first | (have _x := dQ1; first | (have _x := dQ2; first | (have _x := dQ3; first | (have _x := dQ4; have dQ5 := hnQ) | have dQ4 := hnQ) | have dQ3 := hnQ) | have dQ2 := hnQ) | have dQ1 := hnQ) | have dQ0 := hnQ)); (try (have hmQ := Nat.lt_of_succ_lt (Nat.lt_of_succ_le hz); first | (have _x := dQ0; first | (have _x := dQ1; first | (have _x := dQ2; first | (have _x := dQ3; first | (have _x := dQ4; have dQ5 := hmQ) | have dQ4 := hmQ) | have dQ3 := hmQ) | have dQ2 := hmQ) | have dQ1 := hmQ) | have dQ0 := hmQ))))
    all_goals go_ret
    all_goals exact ⟨by simp, by (repeat' first | (with_reducible exact Below.refl _ _) | (with_reducible refine Below.alloc ?_ ?_ _) | (with_reducible refine Below.drew ?_) | (with_reducible refine Below.setCell ?_ ?_ _) | (with_reducible refine below_via (by assumption) ?_ ?_) | go_size)⟩
  · have H2 : Hid (∀ W, Calls Tryz.prog 40 #[.agg #[.int .i64 a, .int .i64 b, .int .i64 o], .int .i64 p] W fun e w' => e = .returned (.bool (posOk a b o p)) ∧ Below W.heap.size W w') := fun W => sPositionOk_any a b o p hp W
    rw [hpo] at H2
    have hpb := pos_lt hpo
    clear hpo
    go_enter Tryz.func31, Tryz.ntmps31
    go_wp2_with (go_at_call 40; refine (H2.out _).mono ?_; rintro e w' ⟨rfl, hb⟩; obtain ⟨hc, hf, hz, hy⟩ := bcell hb; clear hy; (try simp only [World.size_alloc, World.size_setCell, World.size_drew] at hz); (try have gQ0 : w.heap.size < w'.heap.size := by omega); (try have gQ1 : w.heap.size + 1 < w'.heap.size := by omega); (try have gQ2 : w.heap.size + 1 + 1 < w'.heap.size := by omega); (try have gQ3 : w.heap.size + 1 + 1 + 1 < w'.heap.size := by omega); (try have gQ4 : w.heap.size + 1 + 1 + 1 + 1 < w'.heap.size := by omega); (try have gQ5 : w.heap.size + 1 + 1 + 1 + 1 + 1 < w'.heap.size := by omega); (try have dQ0 : _ < w'.heap.size := Nat.lt_of_lt_of_le dQ0 (by omega)); (try have dQ1 : _ < w'.heap.size := Nat.lt_of_lt_of_le dQ1 (by omega)); (try have dQ2 : _ < w'.heap.size := Nat.lt_of_lt_of_le dQ2 (by omega)); (try have dQ3 : _ < w'.heap.size := Nat.lt_of_lt_of_le dQ3 (by omega)); (try have dQ4 : _ < w'.heap.size := Nat.lt_of_lt_of_le dQ4 (by omega)); (try have dQ5 : _ < w'.heap.size := Nat.lt_of_lt_of_le dQ5 (by omega)); (try (have hnQ := Nat.lt_of_succ_le hz; first | (have _x := dQ0; first | (have _x := dQ1; first | (have _x := dQ2; first | (have _x := dQ3; first | (have _x := dQ4; have dQ5 := hnQ) | have dQ4 := hnQ) | have dQ3 := hnQ) | have dQ2 := hnQ) | have dQ1 := hnQ) | have dQ0 := hnQ)); (try (have hmQ := Nat.lt_of_succ_lt (Nat.lt_of_succ_le hz); first | (have _x := dQ0; first | (have _x := dQ1; first | (have _x := dQ2; first | (have _x := dQ3; first | (have _x := dQ4; have dQ5 := hmQ) | have dQ4 := hmQ) | have dQ3 := hmQ) | have dQ2 := hmQ) | have dQ1 := hmQ) | have dQ0 := hmQ)))
    refine (l02List_any p hpb.1 (by omega) _).mono ?_
    rintro e w' ⟨v, rfl, ho, hb⟩
    obtain ⟨al, cl, rfl, _, _⟩ := ho.int
    have HL : Hid ((holesTo p 49).length = pegs p) := rfl
    have HB := Lib.hid (show Below w.heap.size w w' by (repeat' first | (with_reducible exact Below.refl _ _) | (with_reducible refine Below.alloc ?_ ?_ _) | (with_reducible refine Below.drew ?_) | (with_reducible refine Below.setCell ?_ ?_ _) | (with_reducible refine below_via (by assumption) ?_ ?_) | go_size))
    clear ho hb
    go_wp2_with fail
    go_ret
    exact ⟨by simp [HL.out], HB.out⟩
end Go.Proofs.YtfmplmlilmalpaaGreat
