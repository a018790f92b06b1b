/- Broken: contracts of BrokenLine, IsFalling, IsProof and the reference's. Conditions: numbers in range. -/
import Derived.Test.YtfpofhkggojaoaaWeights
import Derived.Test.YtfpofhkggojaoaaJump
import Derived.Test.YtfpofhkggojaoaaReach
set_option linter.unusedVariables false
set_option linter.unusedSimpArgs false
namespace Go.Proofs.Ytfpofhkggojaoaa
open Go.ChangeShapes Go.WideShapes Go.ChangeAt Go.RowKit Peg Go.Sort
def RetBroken (w : World) (r : Bool) (e : Ending) (w' : World) : Prop := (∃ x : Ln, e = .returned (.tuple #[.agg #[.int .i64 x.f, .int .i64 x.o, .int .i64 x.t], .bool r])) ∧ Below w.heap.size w w'
set_option maxHeartbeats 2000000 in
set_option maxRecDepth 100000 in
theorem BrokenLine_any (a b o : Int) (W : List Int) (v : Value) (w : World) {B : Nat} (hv : Own EInt w B v W) :
    Calls Try.prog 249 #[.agg #[.int .i64 a, .int .i64 b, .int .i64 o], v] w (RetBroken w (broken a b o W)) := by
  have HV := Lib.hid (fun w' (hb : Below w.heap.size w w') => hv.keep hb)
  obtain ⟨aW, capW, rfl, hmW, hgetW⟩ := hv.intG
  have HGW := Lib.hid hgetW
  clear hgetW hv
  have HW : Hid (∀ W', Own EInt W' B (.slice aW W.length capW) W → Calls Try.prog 250 #[.agg #[.int .i64 a, .int .i64 b, .int .i64 o], .slice aW W.length capW] W' fun e w' => e = .returned (.bool (weightsOk a b o W)) ∧ Below W'.heap.size W' w') := fun W' hW => WeightsOk_any a b o W _ W' hW
  have HF : Hid (broken a b o W = (weightsOk a b o W && (linesOf a b o).any (brokenAt W))) := rfl
  cases hwk : weightsOk a b o W
  · have HE : Hid (broken a b o W = false) := by show _ = _; rw [HF.out, hwk]; rfl
    rw [HE.out]
    rw [hwk] at HW
    clear hwk HE
    unfold RetBroken
    go_enter Try.func249, Try.ntmps249
    go_wp2_with (go_at_call 250; refine (HW.out _ (HV.out _ (by (repeat' first | (with_reducible exact Below.refl _ _) | (with_reducible refine Below.alloc ?_ ?_ _) | (with_reducible refine Below.drew ?_) | (with_reducible refine Below.setCell ?_ ?_ _) | (with_reducible refine below_via (by assumption) ?_ ?_) | go_size)))).mono ?_; rintro e w' ⟨rfl, hb⟩; obtain ⟨hc, hf, hz, hy⟩ := bcell hb; clear hy; (try simp only [World.size_alloc, World.size_setCell, World.size_drew] at hz); (try have gQ0 : w.heap.size < w'.heap.size := by omega); (try have gQ1 : w.heap.size + 1 < w'.heap.size := by omega); (try have gQ2 : w.heap.size + 1 + 1 < w'.heap.size := by omega); (try have gQ3 : w.heap.size + 1 + 1 + 1 < w'.heap.size := by omega); (try have gQ4 : w.heap.size + 1 + 1 + 1 + 1 < w'.heap.size := by omega); (try have gQ5 : w.heap.size + 1 + 1 + 1 + 1 + 1 < w'.heap.size := by omega); (try have dQ0 : _ < w'.heap.size := Nat.lt_of_lt_of_le dQ0 (by omega)); (try have dQ1 : _ < w'.heap.size := Nat.lt_of_lt_of_le dQ1 (by omega)); (try have dQ2 : _ < w'.heap.size := Nat.lt_of_lt_of_le dQ2 (by omega)); (try have dQ3 : _ < w'.heap.size := Nat.lt_of_lt_of_le dQ3 (by omega)); (try have dQ4 : _ < w'.heap.size := Nat.lt_of_lt_of_le dQ4 (by omega)); (try have dQ5 : _ < w'.heap.size := Nat.lt_of_lt_of_le dQ5 (by omega)); (try (have hnQ := Nat.lt_of_succ_le hz; first | (have _x := dQ0; first | (have _x := dQ1; first | (have _x := dQ2; first | (have _x := dQ3; first | (have _x := dQ4; have dQ5 := hnQ) | have dQ4 := hnQ) | have dQ3 := hnQ) | have dQ2 := hnQ) | have dQ1 := hnQ) | have dQ0 := hnQ)); (try (have hmQ := Nat.lt_of_succ_lt (Nat.lt_of_succ_le hz); first | (have _x := dQ0; first | (have _x := dQ1; first | (have _x := dQ2; first | (have _x := dQ3; first | (have _x := dQ4; have dQ5 := hmQ) | have dQ4 := hmQ) | have dQ3 := hmQ) | have dQ2 := hmQ) | have dQ1 := hmQ) | have dQ0 := hmQ)); (try have sQ00 : (w'.cell? ⟨w.heap.size, 0, none⟩).isSome = true := by simp [go_sem, *]); (try have sQ01 : (w'.cell? ⟨w.heap.size, 1, none⟩).isSome = true := by simp [go_sem, *]); (try have sQ02 : (w'.cell? ⟨w.heap.size, 2, none⟩).isSome = true := by simp [go_sem, *]); (try have sQ03 : (w'.cell? ⟨w.heap.size, 3, none⟩).isSome = true := by simp [go_sem, *]); (try have sQ04 : (w'.cell? ⟨w.heap.size, 4, none⟩).isSome = true := by simp [go_sem, *]); (try have sQ10 : (w'.cell? ⟨w.heap.size + 1, 0, none⟩).isSome = true := by simp [go_sem, *]); (try have sQ11 : (w'.cell? ⟨w.heap.size + 1, 1, none⟩).isSome = true := by simp [go_sem, *]); (try have sQ12 : (w'.cell? ⟨w.heap.size + 1, 2, none⟩).isSome = true := by simp [go_sem, *]); (try have sQ13 : (w'.cell? ⟨w.heap.size + 1, 3, none⟩).isSome = true := by simp [go_sem, *]); (try have sQ14 : (w'.cell? ⟨w.heap.size + 1, 4, none⟩).isSome = true := by simp [go_sem, *]); (try have sQ20 : (w'.cell? ⟨w.heap.size + 1 + 1, 0, none⟩).isSome = true := by simp [go_sem, *]); (try have sQ21 : (w'.cell? ⟨w.heap.size + 1 + 1, 1, none⟩).isSome = true := by simp [go_sem, *]); (try have sQ22 : (w'.cell? ⟨w.heap.size + 1 + 1, 2, none⟩).isSome = true := by simp [go_sem, *]); (try have sQ23 : (w'.cell? ⟨w.heap.size + 1 + 1, 3, none⟩).isSome = true := by simp [go_sem, *]); (try have sQ24 : (w'.cell? ⟨w.heap.size + 1 + 1, 4, none⟩).isSome = true := by simp [go_sem, *]); (try have fQ0 : ∀ j, w'.frozen? ⟨w.heap.size, j, none⟩ = false := by intro j; simp [go_sem, *]); (try have fQ1 : ∀ j, w'.frozen? ⟨w.heap.size + 1, j, none⟩ = false := by intro j; simp [go_sem, *]); (try have fQ2 : ∀ j, w'.frozen? ⟨w.heap.size + 1 + 1, j, none⟩ = false := by intro j; simp [go_sem, *]))
    all_goals ((try simp only [Exit.inBlock, Exit.then]); refine bodyPost_ret (v := .tuple #[.agg #[.int .i64 0, .int .i64 0, .int .i64 0], .bool false]) (by simp [results, Try.results249, go_sem, *]) rfl ⟨⟨Ln0, rfl⟩, by (repeat' first | (with_reducible exact Below.refl _ _) | (with_reducible refine Below.alloc ?_ ?_ _) | (with_reducible refine Below.drew ?_) | (with_reducible refine Below.setCell ?_ ?_ _) | (with_reducible refine below_via (by assumption) ?_ ?_) | go_size)⟩)
  obtain ⟨hb0, hWl, hW49, hWb⟩ := weightsOk_bd hwk
  have HE : Hid (broken a b o W = (linesOf a b o).any (brokenAt W)) := by show _ = _; rw [HF.out, hwk]; rfl
  have HWB := Lib.hid hWb
  have HLN : Hid (∀ k, k < (linesOf a b o).length → (0 ≤ (gD (linesOf a b o) Ln0 k).f ∧ (gD (linesOf a b o) Ln0 k).f < W.length) ∧ (0 ≤ (gD (linesOf a b o) Ln0 k).o ∧ (gD (linesOf a b o) Ln0 k).o < W.length) ∧ 0 ≤ (gD (linesOf a b o) Ln0 k).t ∧ (gD (linesOf a b o) Ln0 k).t < W.length) := fun k hk => by
    have h := linesOf_in (gD_mem _ Ln0 k hk)
    have h1 := h.1.1
    have h2 := h.1.2.1
    have h3 := h.1.2.2.1
    have h4 := h.2
    omega
  rw [hwk] at HW
  clear hwk hWb hWl hb0
  go_enter Try.func249, Try.ntmps249
  go_wp2_with (go_at_call 250; refine (HW.out _ (HV.out _ (by (repeat' first | (with_reducible exact Below.refl _ _) | (with_reducible refine Below.alloc ?_ ?_ _) | (with_reducible refine Below.drew ?_) | (with_reducible refine Below.setCell ?_ ?_ _) | (with_reducible refine below_via (by assumption) ?_ ?_) | go_size)))).mono ?_; rintro e w' ⟨rfl, hb⟩; obtain ⟨hc, hf, hz, hy⟩ := bcell hb; clear hy; (try simp only [World.size_alloc, World.size_setCell, World.size_drew] at hz); (try have gQ0 : w.heap.size < w'.heap.size := by omega); (try have gQ1 : w.heap.size + 1 < w'.heap.size := by omega); (try have gQ2 : w.heap.size + 1 + 1 < w'.heap.size := by omega); (try have gQ3 : w.heap.size + 1 + 1 + 1 < w'.heap.size := by omega); (try have gQ4 : w.heap.size + 1 + 1 + 1 + 1 < w'.heap.size := by omega); (try have gQ5 : w.heap.size + 1 + 1 + 1 + 1 + 1 < w'.heap.size := by omega); (try have dQ0 : _ < w'.heap.size := Nat.lt_of_lt_of_le dQ0 (by omega)); (try have dQ1 : _ < w'.heap.size := Nat.lt_of_lt_of_le dQ1 (by omega)); (try have dQ2 : _ < w'.heap.size := Nat.lt_of_lt_of_le dQ2 (by omega)); (try have dQ3 : _ < w'.heap.size := Nat.lt_of_lt_of_le dQ3 (by omega)); (try have dQ4 : _ < w'.heap.size := Nat.lt_of_lt_of_le dQ4 (by omega)); (try have dQ5 : _ < w'.heap.size := Nat.lt_of_lt_of_le dQ5 (by omega)); (try (have hnQ := Nat.lt_of_succ_le hz; first | (have _x := dQ0; first | (have _x := dQ1; first | (have _x := dQ2; first | (have _x := dQ3; first | (have _x := dQ4; have dQ5 := hnQ) | have dQ4 := hnQ) | have dQ3 := hnQ) | have dQ2 := hnQ) | have dQ1 := hnQ) | have dQ0 := hnQ)); (try (have hmQ := Nat.lt_of_succ_lt (Nat.lt_of_succ_le hz); first | (have _x := dQ0; first | (have _x := dQ1; first | (have _x := dQ2; first | (have _x := dQ3; first | (have _x := dQ4; have dQ5 := hmQ) | have dQ4 := hmQ) | have dQ3 := hmQ) | have dQ2 := hmQ) | have dQ1 := hmQ) | have dQ0 := hmQ)); (try have sQ00 : (w'.cell? ⟨w.heap.size, 0, none⟩).isSome = true := by simp [go_sem, *]); (try have sQ01 : (w'.cell? ⟨w.heap.size, 1, none⟩).isSome = true := by simp [go_sem, *]); (try have sQ02 : (w'.cell? ⟨w.heap.size, 2, none⟩).isSome = true := by simp [go_sem, *]); (try have sQ03 : (w'.cell? ⟨w.heap.size, 3, none⟩).isSome = true := by simp [go_sem, *]); (try have sQ04 : (w'.cell? ⟨w.heap.size, 4, none⟩).isSome = true := by simp [go_sem, *]); (try have sQ10 : (w'.cell? ⟨w.heap.size + 1, 0, none⟩).isSome = true := by simp [go_sem, *]); (try have sQ11 : (w'.cell? ⟨w.heap.size + 1, 1, none⟩).isSome = true := by simp [go_sem, *]); (try have sQ12 : (w'.cell? ⟨w.heap.size + 1, 2, none⟩).isSome = true := by simp [go_sem, *]); (try have sQ13 : (w'.cell? ⟨w.heap.size + 1, 3, none⟩).isSome = true := by simp [go_sem, *]); (try have sQ14 : (w'.cell? ⟨w.heap.size + 1, 4, none⟩).isSome = true := by simp [go_sem, *]); (try have sQ20 : (w'.cell? ⟨w.heap.size + 1 + 1, 0, none⟩).isSome = true := by simp [go_sem, *]); (try have sQ21 : (w'.cell? ⟨w.heap.size + 1 + 1, 1, none⟩).isSome = true := by simp [go_sem, *]); (try have sQ22 : (w'.cell? ⟨w.heap.size + 1 + 1, 2, none⟩).isSome = true := by simp [go_sem, *]); (try have sQ23 : (w'.cell? ⟨w.heap.size + 1 + 1, 3, none⟩).isSome = true := by simp [go_sem, *]); (try have sQ24 : (w'.cell? ⟨w.heap.size + 1 + 1, 4, none⟩).isSome = true := by simp [go_sem, *]); (try have fQ0 : ∀ j, w'.frozen? ⟨w.heap.size, j, none⟩ = false := by intro j; simp [go_sem, *]); (try have fQ1 : ∀ j, w'.frozen? ⟨w.heap.size + 1, j, none⟩ = false := by intro j; simp [go_sem, *]); (try have fQ2 : ∀ j, w'.frozen? ⟨w.heap.size + 1 + 1, j, none⟩ = false := by intro j; simp [go_sem, *]))
  refine (LinesOf_any _ _ _ _).mono ?_
  rintro e w' ⟨vL, rfl, hownL, hb⟩
  obtain ⟨hc, hf, hz, hy⟩ := bcell hb; clear hy; (try simp only [World.size_alloc, World.size_setCell, World.size_drew] at hz); (try have gQ0 : w.heap.size < w'.heap.size := by omega); (try have gQ1 : w.heap.size + 1 < w'.heap.size := by omega); (try have gQ2 : w.heap.size + 1 + 1 < w'.heap.size := by omega); (try have gQ3 : w.heap.size + 1 + 1 + 1 < w'.heap.size := by omega); (try have gQ4 : w.heap.size + 1 + 1 + 1 + 1 < w'.heap.size := by omega); (try have gQ5 : w.heap.size + 1 + 1 + 1 + 1 + 1 < w'.heap.size := by omega); (try have dQ0 : _ < w'.heap.size := Nat.lt_of_lt_of_le dQ0 (by omega)); (try have dQ1 : _ < w'.heap.size := Nat.lt_of_lt_of_le dQ1 (by omega)); (try have dQ2 : _ < w'.heap.size := Nat.lt_of_lt_of_le dQ2 (by omega)); (try have dQ3 : _ < w'.heap.size := Nat.lt_of_lt_of_le dQ3 (by omega)); (try have dQ4 : _ < w'.heap.size := Nat.lt_of_lt_of_le dQ4 (by omega)); (try have dQ5 : _ < w'.heap.size := Nat.lt_of_lt_of_le dQ5 (by omega)); (try (have hnQ := Nat.lt_of_succ_le hz; first | (have _x := dQ0; first | (have _x := dQ1; first | (have _x := dQ2; first | (have _x := dQ3; first | (have _x := dQ4; have dQ5 := hnQ) | have dQ4 := hnQ) | have dQ3 := hnQ) | have dQ2 := hnQ) | have dQ1 := hnQ) | have dQ0 := hnQ)); (try (have hmQ := Nat.lt_of_succ_lt (Nat.lt_of_succ_le hz); first | (have _x := dQ0; first | (have _x := dQ1; first | (have _x := dQ2; first | (have _x := dQ3; first | (have _x := dQ4; have dQ5 := hmQ) | have dQ4 := hmQ) | have dQ3 := hmQ) | have dQ2 := hmQ) | have dQ1 := hmQ) | have dQ0 := hmQ))
  generalize linesOf a b o = L at *
  obtain ⟨aL, capL, rfl, hmL, hgetL⟩ := hownL.lineG
  have HGL := Lib.hid hgetL
  obtain ⟨w3, rfl⟩ : ∃ w3 : World, w3 = w' := ⟨_, rfl⟩
  have HW3 : Hid (Below w.heap.size w w3) := by show Below _ _ _; (repeat' first | (with_reducible exact Below.refl _ _) | (with_reducible refine Below.alloc ?_ ?_ _) | (with_reducible refine Below.drew ?_) | (with_reducible refine Below.setCell ?_ ?_ _) | (with_reducible refine below_via (by assumption) ?_ ?_) | go_size)
  have hr0 : w3.cell? ⟨w.heap.size + 1, 0, none⟩ = some (.int .i64 0) := by simp [go_sem, *]
  have hr1 : w3.cell? ⟨w.heap.size + 1, 1, none⟩ = some (.int .i64 0) := by simp [go_sem, *]
  have hr2 : w3.cell? ⟨w.heap.size + 1, 2, none⟩ = some (.int .i64 0) := by simp [go_sem, *]
  have hrf : ∀ j, w3.frozen? ⟨w.heap.size + 1, j, none⟩ = false := by intro j; simp [go_sem, *]
  have hz3 : w.heap.size + 1 < w3.heap.size := by omega
  clear hc hf hgetL hownL
  go_wp2_with fail
  go_loopw [16] (fun i wr => ∃ k : Nat, k ≤ L.length ∧ i = .int .i64 k ∧ Hid ((L.take k).any (brokenAt W) = false) ∧ Below w3.heap.size w3 wr) (fun i _ => L.length - (intOf i).toNat)
  case atStart => exact ⟨0, by omega, rfl, by show _ = _; simp, Below.refl _ _⟩
  case round =>
    obtain ⟨k, hk, rfl, hno, hbw⟩ := hrel
    have hz := hbw.size
    have hr0' := (hbw.cell (p := ⟨w.heap.size + 1, 0, none⟩) hz3).trans hr0
    have hr1' := (hbw.cell (p := ⟨w.heap.size + 1, 1, none⟩) hz3).trans hr1
    have hr2' := (hbw.cell (p := ⟨w.heap.size + 1, 2, none⟩) hz3).trans hr2
    have hrf' : ∀ j, wr.frozen? ⟨w.heap.size + 1, j, none⟩ = false := fun j => (hbw.frozen (p := ⟨w.heap.size + 1, j, none⟩) hz3).trans (hrf j)
    have gR : w.heap.size + 1 < wr.heap.size := by omega
    by_cases hlt : k < L.length
    · obtain ⟨bL, rfl, _, hbL, hc0, hc1, hc2⟩ := HGL.out k hlt
      rw [← hbw.cell (by simpa using hbL)] at hc0 hc1 hc2
      have gL : bL < wr.heap.size := by omega
      have hln := HLN.out k hlt
      obtain ⟨bW, rfl, _, hbW, hw0⟩ := HGW.out (gD L Ln0 k).f.toNat (by omega)
      obtain ⟨bW', e1, _, _, hw1⟩ := HGW.out (gD L Ln0 k).o.toNat (by omega)
      obtain rfl : bW = bW' := by simpa using e1
      clear e1
      obtain ⟨bW', e1, _, _, hw2⟩ := HGW.out (gD L Ln0 k).t.toNat (by omega)
      obtain rfl : bW = bW' := by simpa using e1
      clear e1
      have g3 : bW < w3.heap.size := Nat.lt_of_lt_of_le hbW HW3.out.size
      rw [← HW3.out.cell (by simpa using hbW), ← hbw.cell (by simpa using g3)] at hw0 hw1 hw2
      have gW : bW < wr.heap.size := by omega
      have hx0 := HWB.out (gD L Ln0 k).f.toNat (by omega)
      have hx1 := HWB.out (gD L Ln0 k).o.toNat (by omega)
      have hx2 := HWB.out (gD L Ln0 k).t.toNat (by omega)
      have HBA : Hid (brokenAt W (gD L Ln0 k) = decide (gD W 0 (gD L Ln0 k).f.toNat + gD W 0 (gD L Ln0 k).o.toNat < gD W 0 (gD L Ln0 k).t.toNat)) := rfl
      have HY := Lib.hid (fun h => any_yes (P := brokenAt W) (l := L) (d := Ln0) hlt h)
      have HN := Lib.hid (fun h => any_no (P := brokenAt W) (l := L) (d := Ln0) hlt hno.out h)
      generalize brokenAt W (gD L Ln0 k) = q at *
      generalize gD W 0 (gD L Ln0 k).f.toNat = x0 at *
      generalize gD W 0 (gD L Ln0 k).o.toNat = x1 at *
      generalize gD W 0 (gD L Ln0 k).t.toNat = x2 at *
      generalize gD L Ln0 k = l at *
      by_cases hq : x0 + x1 < x2
      · have hqd : decide (x0 + x1 < x2) = true := by simpa using hq
        have HT : Hid (L.any (brokenAt W) = true) := HY.out (by rw [HBA.out, hqd])
        have HR : Hid (broken a b o W = true) := by show _ = _; rw [HE.out, HT.out]
        clear HY HN HBA HT HE
        go_wp2_with ((with_reducible refine wp_region_qb ?_ ?_ (fun hq => ?_)); (focus kernel_rfl); (focus kernel_rfl); (repeat (go_big_quiet_step (fail))); refine wpQuiet_nil ?_; intro wq hb; obtain ⟨hc, hf, hz, hy⟩ := bcell hb; clear hq hy; (try simp only [World.size_alloc, World.size_setCell, World.size_drew] at hz); (try have gQ0 : w.heap.size < wq.heap.size := by omega); (try have gQ1 : w.heap.size + 1 < wq.heap.size := by omega); (try have gQ2 : w.heap.size + 1 + 1 < wq.heap.size := by omega); (try have gQ3 : w.heap.size + 1 + 1 + 1 < wq.heap.size := by omega); (try have gQ4 : w.heap.size + 1 + 1 + 1 + 1 < wq.heap.size := by omega); (try have gQ5 : w.heap.size + 1 + 1 + 1 + 1 + 1 < wq.heap.size := by omega); (try have dQ0 : _ < wq.heap.size := Nat.lt_of_lt_of_le dQ0 (by omega)); (try have dQ1 : _ < wq.heap.size := Nat.lt_of_lt_of_le dQ1 (by omega)); (try have dQ2 : _ < wq.heap.size := Nat.lt_of_lt_of_le dQ2 (by omega)); (try have dQ3 : _ < wq.heap.size := Nat.lt_of_lt_of_le dQ3 (by omega)); (try have dQ4 : _ < wq.heap.size := Nat.lt_of_lt_of_le dQ4 (by omega)); (try have dQ5 : _ < wq.heap.size := Nat.lt_of_lt_of_le dQ5 (by omega)); (try (have hnQ := Nat.lt_of_succ_le hz; first | (have _x := dQ0; first | (have _x := dQ1; first | (have _x := dQ2; first | (have _x := dQ3; first | (have _x := dQ4; have dQ5 := hnQ) | have dQ4 := hnQ) | have dQ3 := hnQ) | have dQ2 := hnQ) | have dQ1 := hnQ) | have dQ0 := hnQ)); (try (have hmQ := Nat.lt_of_succ_lt (Nat.lt_of_succ_le hz); first | (have _x := dQ0; first | (have _x := dQ1; first | (have _x := dQ2; first | (have _x := dQ3; first | (have _x := dQ4; have dQ5 := hmQ) | have dQ4 := hmQ) | have dQ3 := hmQ) | have dQ2 := hmQ) | have dQ1 := hmQ) | have dQ0 := hmQ)); have hBQ : Below wr.heap.size wr wq := (((Below.refl _ _).alloc (Nat.le_refl _) _).trans (hb.mono (by simp))); have sQ0 := (hBQ.cell (p := ⟨w.heap.size + 1, 0, none⟩) gR).trans hr0'; have sQ1 := (hBQ.cell (p := ⟨w.heap.size + 1, 1, none⟩) gR).trans hr1'; have sQ2 := (hBQ.cell (p := ⟨w.heap.size + 1, 2, none⟩) gR).trans hr2'; have fQ : (∀ j, wq.frozen? ⟨w.heap.size + 1, j, none⟩ = false) := (fun j => (hBQ.frozen (p := ⟨w.heap.size + 1, j, none⟩) gR).trans (hrf' j)))
        all_goals ((try simp only [Exit.inBlock, Exit.then]); refine bodyPost_ret (v := .tuple #[.agg #[.int .i64 l.f, .int .i64 l.o, .int .i64 l.t], .bool true]) (by simp [results, Try.results249, go_sem, *]) rfl ⟨⟨l, by rw [HR.out]⟩, by have h1 := HW3.out.trans (hbw.mono (Nat.le_of_lt (Nat.lt_of_succ_lt hz3))); (repeat' first | (with_reducible exact Below.refl _ _) | (with_reducible refine Below.alloc ?_ ?_ _) | (with_reducible refine Below.drew ?_) | (with_reducible refine Below.setCell ?_ ?_ _) | (with_reducible refine below_via (by assumption) ?_ ?_) | go_size)⟩)
      · have hqd : decide (x0 + x1 < x2) = false := by simpa using hq
        have HN2 := Lib.hid (HN.out (by rw [HBA.out, hqd]))
        clear HY HN HBA HE
        go_wp2_with ((with_reducible refine wp_region_qb ?_ ?_ (fun hq => ?_)); (focus kernel_rfl); (focus kernel_rfl); (repeat (go_big_quiet_step (fail))); refine wpQuiet_nil ?_; intro wq hb; obtain ⟨hc, hf, hz, hy⟩ := bcell hb; clear hq hy; (try simp only [World.size_alloc, World.size_setCell, World.size_drew] at hz); (try have gQ0 : w.heap.size < wq.heap.size := by omega); (try have gQ1 : w.heap.size + 1 < wq.heap.size := by omega); (try have gQ2 : w.heap.size + 1 + 1 < wq.heap.size := by omega); (try have gQ3 : w.heap.size + 1 + 1 + 1 < wq.heap.size := by omega); (try have gQ4 : w.heap.size + 1 + 1 + 1 + 1 < wq.heap.size := by omega); (try have gQ5 : w.heap.size + 1 + 1 + 1 + 1 + 1 < wq.heap.size := by omega); (try have dQ0 : _ < wq.heap.size := Nat.lt_of_lt_of_le dQ0 (by omega)); (try have dQ1 : _ < wq.heap.size := Nat.lt_of_lt_of_le dQ1 (by omega)); (try have dQ2 : _ < wq.heap.size := Nat.lt_of_lt_of_le dQ2 (by omega)); (try have dQ3 : _ < wq.heap.size := Nat.lt_of_lt_of_le dQ3 (by omega)); (try have dQ4 : _ < wq.heap.size := Nat.lt_of_lt_of_le dQ4 (by omega)); (try have dQ5 : _ < wq.heap.size := Nat.lt_of_lt_of_le dQ5 (by omega)); (try (have hnQ := Nat.lt_of_succ_le hz; first | (have _x := dQ0; first | (have _x := dQ1; first | (have _x := dQ2; first | (have _x := dQ3; first | (have _x := dQ4; have dQ5 := hnQ) | have dQ4 := hnQ) | have dQ3 := hnQ) | have dQ2 := hnQ) | have dQ1 := hnQ) | have dQ0 := hnQ)); (try (have hmQ := Nat.lt_of_succ_lt (Nat.lt_of_succ_le hz); first | (have _x := dQ0; first | (have _x := dQ1; first | (have _x := dQ2; first | (have _x := dQ3; first | (have _x := dQ4; have dQ5 := hmQ) | have dQ4 := hmQ) | have dQ3 := hmQ) | have dQ2 := hmQ) | have dQ1 := hmQ) | have dQ0 := hmQ)))
        go_roundw
        case rel => exact ⟨k + 1, by omega, by go_num, HN2, by (repeat' first | (with_reducible exact Below.refl _ _) | (with_reducible refine Below.alloc ?_ ?_ _) | (with_reducible refine Below.drew ?_) | (with_reducible refine Below.setCell ?_ ?_ _) | (with_reducible refine below_via (by assumption) ?_ ?_) | go_size)⟩
        case measure => simp [intOf]; omega
    · obtain rfl : k = L.length := by omega
      have HR : Hid (broken a b o W = false) := by show _ = _; rw [HE.out]; have := hno.out; rwa [List.take_length] at this
      go_wp2_with fail
      all_goals ((try simp only [Exit.inBlock, Exit.then]); refine bodyPost_ret (v := .tuple #[.agg #[.int .i64 0, .int .i64 0, .int .i64 0], .bool false]) (by simp [results, Try.results249, go_sem, *]) rfl ⟨⟨Ln0, by rw [HR.out]; rfl⟩, by have h1 := HW3.out.trans (hbw.mono (Nat.le_of_lt (Nat.lt_of_succ_lt hz3))); (repeat' first | (with_reducible exact Below.refl _ _) | (with_reducible refine Below.alloc ?_ ?_ _) | (with_reducible refine Below.drew ?_) | (with_reducible refine Below.setCell ?_ ?_ _) | (with_reducible refine below_via (by assumption) ?_ ?_) | go_size)⟩)
set_option maxHeartbeats 2000000 in
set_option maxRecDepth 100000 in
theorem sBrokenLine_any (a b o : Int) (W : List Int) (v : Value) (w : World) {B : Nat} (hv : Own EInt w B v W) :
    Calls Try.prog 246 #[.agg #[.int .i64 a, .int .i64 b, .int .i64 o], v] w (RetBroken w (broken a b o W)) := by
  have HV := Lib.hid (fun w' (hb : Below w.heap.size w w') => hv.keep hb)
  obtain ⟨aW, capW, rfl, hmW, hgetW⟩ := hv.intG
  have HGW := Lib.hid hgetW
  clear hgetW hv
  have HW : Hid (∀ W', Own EInt W' B (.slice aW W.length capW) W → Calls Try.prog 247 #[.agg #[.int .i64 a, .int .i64 b, .int .i64 o], .slice aW W.length capW] W' fun e w' => e = .returned (.bool (weightsOk a b o W)) ∧ Below W'.heap.size W' w') := fun W' hW => sWeightsOk_any a b o W _ W' hW
  have HF : Hid (broken a b o W = (weightsOk a b o W && (linesOf a b o).any (brokenAt W))) := rfl
  have HBD : Hid (weightsOk a b o W = true → (W.length ≤ 49 ∧ (∀ k, k < W.length → -1000 ≤ gD W 0 k ∧ gD W 0 k ≤ 1000)) ∧ ∀ k, k < (linesOf a b o).length → (0 ≤ (gD (linesOf a b o) Ln0 k).f ∧ (gD (linesOf a b o) Ln0 k).f < W.length) ∧ (0 ≤ (gD (linesOf a b o) Ln0 k).o ∧ (gD (linesOf a b o) Ln0 k).o < W.length) ∧ 0 ≤ (gD (linesOf a b o) Ln0 k).t ∧ (gD (linesOf a b o) Ln0 k).t < W.length) := fun hwk => by
    obtain ⟨hb0, hWl, hW49, hWb⟩ := weightsOk_bd hwk
    refine ⟨⟨hW49, hWb⟩, fun k hk => ?_⟩
    have h := linesOf_in (gD_mem _ Ln0 k hk)
    have h1 := h.1.1
    have h2 := h.1.2.1
    have h3 := h.1.2.2.1
    have h4 := h.2
    omega
  go_enter Try.func246, Try.ntmps246
  go_wp2_with fail
  refine (sLinesOf_any _ _ _ _).mono ?_
  rintro e w' ⟨vL, rfl, hownL, hb⟩
  obtain ⟨hc, hf, hz, hy⟩ := bcell hb; clear hy; (try simp only [World.size_alloc, World.size_setCell, World.size_drew] at hz); (try have gQ0 : w.heap.size < w'.heap.size := by omega); (try have gQ1 : w.heap.size + 1 < w'.heap.size := by omega); (try have gQ2 : w.heap.size + 1 + 1 < w'.heap.size := by omega); (try have gQ3 : w.heap.size + 1 + 1 + 1 < w'.heap.size := by omega); (try have gQ4 : w.heap.size + 1 + 1 + 1 + 1 < w'.heap.size := by omega); (try have gQ5 : w.heap.size + 1 + 1 + 1 + 1 + 1 < w'.heap.size := by omega); (try have dQ0 : _ < w'.heap.size := Nat.lt_of_lt_of_le dQ0 (by omega)); (try have dQ1 : _ < w'.heap.size := Nat.lt_of_lt_of_le dQ1 (by omega)); (try have dQ2 : _ < w'.heap.size := Nat.lt_of_lt_of_le dQ2 (by omega)); (try have dQ3 : _ < w'.heap.size := Nat.lt_of_lt_of_le dQ3 (by omega)); (try have dQ4 : _ < w'.heap.size := Nat.lt_of_lt_of_le dQ4 (by omega)); (try have dQ5 : _ < w'.heap.size := Nat.lt_of_lt_of_le dQ5 (by omega)); (try (have hnQ := Nat.lt_of_succ_le hz; first | (have _x := dQ0; first | (have _x := dQ1; first | (have _x := dQ2; first | (have _x := dQ3; first | (have _x := dQ4; have dQ5 := hnQ) | have dQ4 := hnQ) | have dQ3 := hnQ) | have dQ2 := hnQ) | have dQ1 := hnQ) | have dQ0 := hnQ)); (try (have hmQ := Nat.lt_of_succ_lt (Nat.lt_of_succ_le hz); first | (have _x := dQ0; first | (have _x := dQ1; first | (have _x := dQ2; first | (have _x := dQ3; first | (have _x := dQ4; have dQ5 := hmQ) | have dQ4 := hmQ) | have dQ3 := hmQ) | have dQ2 := hmQ) | have dQ1 := hmQ) | have dQ0 := hmQ))
  generalize linesOf a b o = L at *
  obtain ⟨aL, capL, rfl, hmL, hgetL⟩ := hownL.lineG
  have HGL := Lib.hid hgetL
  obtain ⟨w3, rfl⟩ : ∃ w3 : World, w3 = w' := ⟨_, rfl⟩
  have HW3 : Hid (Below w.heap.size w w3) := by show Below _ _ _; (repeat' first | (with_reducible exact Below.refl _ _) | (with_reducible refine Below.alloc ?_ ?_ _) | (with_reducible refine Below.drew ?_) | (with_reducible refine Below.setCell ?_ ?_ _) | (with_reducible refine below_via (by assumption) ?_ ?_) | go_size)
  have hb0 : w3.cell? ⟨w.heap.size, 0, none⟩ = some (.int .i64 a) := by simp [go_sem, *]
  have hb1 : w3.cell? ⟨w.heap.size, 1, none⟩ = some (.int .i64 b) := by simp [go_sem, *]
  have hb2 : w3.cell? ⟨w.heap.size, 2, none⟩ = some (.int .i64 o) := by simp [go_sem, *]
  have hr0 : w3.cell? ⟨w.heap.size + 1, 0, none⟩ = some (.int .i64 0) := by simp [go_sem, *]
  have hr1 : w3.cell? ⟨w.heap.size + 1, 1, none⟩ = some (.int .i64 0) := by simp [go_sem, *]
  have hr2 : w3.cell? ⟨w.heap.size + 1, 2, none⟩ = some (.int .i64 0) := by simp [go_sem, *]
  have hrf : ∀ j, w3.frozen? ⟨w.heap.size + 1, j, none⟩ = false := by intro j; simp [go_sem, *]
  have hz3 : w.heap.size + 1 < w3.heap.size := by omega
  have hz4 : w.heap.size < w3.heap.size := by omega
  clear hc hf hgetL hownL
  go_wp2_with fail
  go_loopw [7] (fun i wr => ∃ k : Nat, k ≤ L.length ∧ i = .int .i64 k ∧ Hid ((L.take k).any (brokenAt W) = false) ∧ Below w3.heap.size w3 wr) (fun i _ => L.length - (intOf i).toNat)
  case atStart => exact ⟨0, by omega, rfl, by show _ = _; simp, Below.refl _ _⟩
  case round =>
    obtain ⟨k, hk, rfl, hno, hbw⟩ := hrel
    have hz := hbw.size
    have hb0' := (hbw.cell (p := ⟨w.heap.size, 0, none⟩) hz4).trans hb0
    have hb1' := (hbw.cell (p := ⟨w.heap.size, 1, none⟩) hz4).trans hb1
    have hb2' := (hbw.cell (p := ⟨w.heap.size, 2, none⟩) hz4).trans hb2
    have gB : w.heap.size < wr.heap.size := by omega
    have gR : w.heap.size + 1 < wr.heap.size := by omega
    have HWr : Hid (Below w.heap.size w wr) := HW3.out.trans (hbw.mono (Nat.le_of_lt hz4))
    by_cases hlt : k < L.length
    rotate_left
    · have hr0' := (hbw.cell (p := ⟨w.heap.size + 1, 0, none⟩) hz3).trans hr0
      have hr1' := (hbw.cell (p := ⟨w.heap.size + 1, 1, none⟩) hz3).trans hr1
      have hr2' := (hbw.cell (p := ⟨w.heap.size + 1, 2, none⟩) hz3).trans hr2
      have hrf' : ∀ j, wr.frozen? ⟨w.heap.size + 1, j, none⟩ = false := fun j => (hbw.frozen (p := ⟨w.heap.size + 1, j, none⟩) hz3).trans (hrf j)
      obtain rfl : k = L.length := by omega
      have HR : Hid (broken a b o W = false) := by show _ = _; rw [HF.out]; have := hno.out; rw [List.take_length] at this; rw [this]; simp
      go_wp2_with fail
      all_goals ((try simp only [Exit.inBlock, Exit.then]); refine bodyPost_ret (v := .tuple #[.agg #[.int .i64 0, .int .i64 0, .int .i64 0], .bool false]) (by simp [results, Try.results246, go_sem, *]) rfl ⟨⟨Ln0, by rw [HR.out]; rfl⟩, by have h1 := HWr.out; (repeat' first | (with_reducible exact Below.refl _ _) | (with_reducible refine Below.alloc ?_ ?_ _) | (with_reducible refine Below.drew ?_) | (with_reducible refine Below.setCell ?_ ?_ _) | (with_reducible refine below_via (by assumption) ?_ ?_) | go_size)⟩)
    cases hwk : weightsOk a b o W
    · have HR : Hid (broken a b o W = false) := by show _ = _; rw [HF.out, hwk]; rfl
      rw [hwk] at HW
      clear hwk HBD
      go_wp2_with (go_at_call 247; refine (HW.out _ (HV.out _ HWr.out)).mono ?_; rintro e w' ⟨rfl, hb⟩; have hr0' := (hb.cell (p := ⟨w.heap.size + 1, 0, none⟩) gR).trans ((hbw.cell (p := ⟨w.heap.size + 1, 0, none⟩) hz3).trans hr0); have hr1' := (hb.cell (p := ⟨w.heap.size + 1, 1, none⟩) gR).trans ((hbw.cell (p := ⟨w.heap.size + 1, 1, none⟩) hz3).trans hr1); have hr2' := (hb.cell (p := ⟨w.heap.size + 1, 2, none⟩) gR).trans ((hbw.cell (p := ⟨w.heap.size + 1, 2, none⟩) hz3).trans hr2); have hrf' : (∀ j, w'.frozen? ⟨w.heap.size + 1, j, none⟩ = false) := (fun j => (hb.frozen (p := ⟨w.heap.size + 1, j, none⟩) gR).trans ((hbw.frozen (p := ⟨w.heap.size + 1, j, none⟩) hz3).trans (hrf j))); have hBf := HWr.out.trans (hb.mono (Nat.le_of_lt gB)))
      all_goals ((try simp only [Exit.inBlock, Exit.then]); refine bodyPost_ret (v := .tuple #[.agg #[.int .i64 0, .int .i64 0, .int .i64 0], .bool false]) (by simp [results, Try.results246, go_sem, *]) rfl ⟨⟨Ln0, by rw [HR.out]; rfl⟩, by clear hb hbw; (repeat' first | (with_reducible exact Below.refl _ _) | (with_reducible refine Below.alloc ?_ ?_ _) | (with_reducible refine Below.drew ?_) | (with_reducible refine Below.setCell ?_ ?_ _) | (with_reducible refine below_via (by assumption) ?_ ?_) | go_size)⟩)
    obtain ⟨⟨hW49, hWb⟩, hLN⟩ := HBD.out hwk
    have HE : Hid (broken a b o W = L.any (brokenAt W)) := by show _ = _; rw [HF.out, hwk]; rfl
    rw [hwk] at HW
    obtain ⟨bL, rfl, _, hbL, hc0, hc1, hc2⟩ := HGL.out k hlt
    have hln := hLN k hlt
    obtain ⟨bW, rfl, _, hbW, hw0⟩ := HGW.out (gD L Ln0 k).f.toNat (by omega)
    obtain ⟨bW', e1, _, _, hw1⟩ := HGW.out (gD L Ln0 k).o.toNat (by omega)
    obtain rfl : bW = bW' := by simpa using e1
    clear e1
    obtain ⟨bW', e1, _, _, hw2⟩ := HGW.out (gD L Ln0 k).t.toNat (by omega)
    obtain rfl : bW = bW' := by simpa using e1
    clear e1
    have g3 : bW < w3.heap.size := Nat.lt_of_lt_of_le hbW HW3.out.size
    have hx0 := hWb (gD L Ln0 k).f.toNat (by omega)
    have hx1 := hWb (gD L Ln0 k).o.toNat (by omega)
    have hx2 := hWb (gD L Ln0 k).t.toNat (by omega)
    have HBA : Hid (brokenAt W (gD L Ln0 k) = decide (gD W 0 (gD L Ln0 k).f.toNat + gD W 0 (gD L Ln0 k).o.toNat < gD W 0 (gD L Ln0 k).t.toNat)) := rfl
    have HY := Lib.hid (fun h => any_yes (P := brokenAt W) (l := L) (d := Ln0) hlt h)
    have HN := Lib.hid (fun h => any_no (P := brokenAt W) (l := L) (d := Ln0) hlt hno.out h)
    have HC0 := Lib.hid hc0
    have HC1 := Lib.hid hc1
    have HC2 := Lib.hid hc2
    have HX0 := Lib.hid hw0
    have HX1 := Lib.hid hw1
    have HX2 := Lib.hid hw2
    clear hwk HBD hLN hWb hc0 hc1 hc2 hw0 hw1 hw2
    go_wp2_with (go_at_call 247; refine (HW.out _ (HV.out _ HWr.out)).mono ?_; rintro e w' ⟨rfl, hb⟩; have hBw := hbw.trans (hb.mono hz))
    obtain ⟨wo, rfl⟩ : ∃ wo : World, wo = w' := ⟨_, rfl⟩
    have hc0 := HC0.out
    have hc1 := HC1.out
    have hc2 := HC2.out
    have hw0 := HX0.out
    have hw1 := HX1.out
    have hw2 := HX2.out
    rw [← hBw.cell (by simpa using hbL)] at hc0 hc1 hc2
    rw [← HW3.out.cell (by simpa using hbW), ← hBw.cell (by simpa using g3)] at hw0 hw1 hw2
    have hzo := hBw.size
    have gL : bL < wo.heap.size := by omega
    have gW : bW < wo.heap.size := by omega
    have gRo : w.heap.size + 1 < wo.heap.size := by omega
    have hr0' := (hBw.cell (p := ⟨w.heap.size + 1, 0, none⟩) hz3).trans hr0
    have hr1' := (hBw.cell (p := ⟨w.heap.size + 1, 1, none⟩) hz3).trans hr1
    have hr2' := (hBw.cell (p := ⟨w.heap.size + 1, 2, none⟩) hz3).trans hr2
    have hrf' : ∀ j, wo.frozen? ⟨w.heap.size + 1, j, none⟩ = false := fun j => (hBw.frozen (p := ⟨w.heap.size + 1, j, none⟩) hz3).trans (hrf j)
    clear hb0' hb1' hb2' hb hbw
    generalize brokenAt W (gD L Ln0 k) = q at *
    generalize gD W 0 (gD L Ln0 k).f.toNat = x0 at *
    generalize gD W 0 (gD L Ln0 k).o.toNat = x1 at *
    generalize gD W 0 (gD L Ln0 k).t.toNat = x2 at *
    generalize gD L Ln0 k = l at *
    by_cases hq : x0 + x1 < x2
    · have hqd : decide (x0 + x1 < x2) = true := by simpa using hq
      have HT : Hid (L.any (brokenAt W) = true) := HY.out (by rw [HBA.out, hqd])
      have HR : Hid (broken a b o W = true) := by show _ = _; rw [HE.out, HT.out]
      clear HY HN HBA HT HE
      go_wp2_with ((with_reducible refine wp_region_qb ?_ ?_ (fun hq => ?_)); (focus kernel_rfl); (focus kernel_rfl); (repeat (go_big_quiet_step (fail))); refine wpQuiet_nil ?_; intro wq hBQ; have sQ0 := (hBQ.cell (p := ⟨w.heap.size + 1, 0, none⟩) gRo).trans hr0'; have sQ1 := (hBQ.cell (p := ⟨w.heap.size + 1, 1, none⟩) gRo).trans hr1'; have sQ2 := (hBQ.cell (p := ⟨w.heap.size + 1, 2, none⟩) gRo).trans hr2'; have fQ : (∀ j, wq.frozen? ⟨w.heap.size + 1, j, none⟩ = false) := (fun j => (hBQ.frozen (p := ⟨w.heap.size + 1, j, none⟩) gRo).trans (hrf' j)); have cQ0 := (hBQ.cell (p := ⟨bL, k * 3, none⟩) gL).trans hc0; have cQ1 := (hBQ.cell (p := ⟨bL, k * 3 + 1, none⟩) gL).trans hc1; have cQ2 := (hBQ.cell (p := ⟨bL, k * 3 + 2, none⟩) gL).trans hc2)
      all_goals ((try simp only [Exit.inBlock, Exit.then]); refine bodyPost_ret (v := .tuple #[.agg #[.int .i64 l.f, .int .i64 l.o, .int .i64 l.t], .bool true]) (by simp [results, Try.results246, go_sem, *]) rfl ⟨⟨l, by rw [HR.out]⟩, by have h1 := HW3.out.trans (hBw.mono (Nat.le_of_lt hz4)); have h2 := h1.trans (hBQ.mono h1.size); clear h1 hBw hBQ; (repeat' first | (with_reducible exact Below.refl _ _) | (with_reducible refine Below.alloc ?_ ?_ _) | (with_reducible refine Below.drew ?_) | (with_reducible refine Below.setCell ?_ ?_ _) | (with_reducible refine below_via (by assumption) ?_ ?_) | go_size)⟩)
    · have hqd : decide (x0 + x1 < x2) = false := by simpa using hq
      have HN2 := Lib.hid (HN.out (by rw [HBA.out, hqd]))
      clear HY HN HBA HE
      go_wp2_with ((with_reducible refine wp_region_qb ?_ ?_ (fun hq => ?_)); (focus kernel_rfl); (focus kernel_rfl); (repeat (go_big_quiet_step (fail))); refine wpQuiet_nil ?_; intro wq hBQ)
      go_roundw
      case rel => exact ⟨k + 1, by omega, by go_num, HN2, hBw.trans (hBQ.mono hzo)⟩
      case measure => simp [intOf]; omega
end Go.Proofs.Ytfpofhkggojaoaa
