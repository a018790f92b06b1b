/- SSpoils: contract of the reference's CountSpoils. Conditions: numbers in range. -/
import Derived.Test.YtikmacjeeaklmaaSpoils
set_option linter.unusedVariables false
set_option linter.unusedSimpArgs false
namespace Go.Proofs.Ytikmacjeeaklmaa
open Go.ChangeShapes Go.WideShapes Go.ChangeAt Go.RowKit Peg Go.Sort
set_option maxHeartbeats 1000000 in
set_option maxRecDepth 100000 in
theorem sCountSpoils_any (a b o s g : Int) (hs : s ≤ 9223372036854775807) (hg : g ≤ 9223372036854775807) (w : World) :
    Calls Try.prog 84 #[.agg #[.int .i64 a, .int .i64 b, .int .i64 o, .int .i64 s, .int .i64 g]] w fun e w' => e = .returned (.int .i64 (spoils a b o s g)) ∧ Below w.heap.size w w' := by
  by_cases hpz : puzzleOk a b o s g = true
  rotate_left
  · have HF : Hid (spoils a b o s g = 0) := by show _ = _; simp [spoils, hpz]
    go_enter Try.func84, Try.ntmps84
    go_wp2_with (first | (go_at_call 68; refine (sPuzzleOk_any _ _ _ _ _ hs hg _).mono ?_; rintro e w' ⟨rfl, hb⟩; obtain ⟨hc, hf, hz, hy⟩ := bcell hb; clear hy; (try simp only [World.size_alloc, World.size_setCell, World.size_drew] at hz); (try have gQ0 : w.heap.size < w'.heap.size := by omega); (try have gQ1 : w.heap.size + 1 < w'.heap.size := by omega); (try have gQ2 : w.heap.size + 1 + 1 < w'.heap.size := by omega); (try have gQ3 : w.heap.size + 1 + 1 + 1 < w'.heap.size := by omega); (try have gQ4 : w.heap.size + 1 + 1 + 1 + 1 < w'.heap.size := by omega); (try have gQ5 : w.heap.size + 1 + 1 + 1 + 1 + 1 < w'.heap.size := by omega); (try have dQ0 : _ < w'.heap.size := Nat.lt_of_lt_of_le dQ0 (by omega)); (try have dQ1 : _ < w'.heap.size := Nat.lt_of_lt_of_le dQ1 (by omega)); (try have dQ2 : _ < w'.heap.size := Nat.lt_of_lt_of_le dQ2 (by omega)); (try have dQ3 : _ < w'.heap.size := Nat.lt_of_lt_of_le dQ3 (by omega)); (try have dQ4 : _ < w'.heap.size := Nat.lt_of_lt_of_le dQ4 (by omega)); (try have dQ5 : _ < w'.heap.size := Nat.lt_of_lt_of_le dQ5 (by omega)); (try (have hnQ := Nat.lt_of_succ_le hz; first | (have _x := dQ0; first | (have _x := dQ1; first | (have _x := dQ2; first | (have _x := dQ3; first | (have _x := dQ4; have dQ5 := hnQ) | have dQ4 := hnQ) | have dQ3 := hnQ) | have dQ2 := hnQ) | have dQ1 := hnQ) | have dQ0 := hnQ)); (try (have hmQ := Nat.lt_of_succ_lt (Nat.lt_of_succ_le hz); first | (have _x := dQ0; first | (have _x := dQ1; first | (have _x := dQ2; first | (have _x := dQ3; first | (have _x := dQ4; have dQ5 := hmQ) | have dQ4 := hmQ) | have dQ3 := hmQ) | have dQ2 := hmQ) | have dQ1 := hmQ) | have dQ0 := hmQ))) | ((with_reducible refine wp_region_qb ?_ ?_ (fun hq => ?_)); (focus kernel_rfl); (focus kernel_rfl); (repeat (go_big_quiet_step ((first | (go_at_call 68; exact Calls.regrown_of (sPuzzleOk_any _ _ _ _ _ hs hg _)))))); refine wpQuiet_nil ?_; intro wq hb; obtain ⟨hc, hf, hz, hy⟩ := bcell hb; clear hq hy; (try simp only [World.size_alloc, World.size_setCell, World.size_drew] at hz); (try have gQ0 : w.heap.size < wq.heap.size := by omega); (try have gQ1 : w.heap.size + 1 < wq.heap.size := by omega); (try have gQ2 : w.heap.size + 1 + 1 < wq.heap.size := by omega); (try have gQ3 : w.heap.size + 1 + 1 + 1 < wq.heap.size := by omega); (try have gQ4 : w.heap.size + 1 + 1 + 1 + 1 < wq.heap.size := by omega); (try have gQ5 : w.heap.size + 1 + 1 + 1 + 1 + 1 < wq.heap.size := by omega); (try have dQ0 : _ < wq.heap.size := Nat.lt_of_lt_of_le dQ0 (by omega)); (try have dQ1 : _ < wq.heap.size := Nat.lt_of_lt_of_le dQ1 (by omega)); (try have dQ2 : _ < wq.heap.size := Nat.lt_of_lt_of_le dQ2 (by omega)); (try have dQ3 : _ < wq.heap.size := Nat.lt_of_lt_of_le dQ3 (by omega)); (try have dQ4 : _ < wq.heap.size := Nat.lt_of_lt_of_le dQ4 (by omega)); (try have dQ5 : _ < wq.heap.size := Nat.lt_of_lt_of_le dQ5 (by omega)); (try (have hnQ := Nat.lt_of_succ_le hz; first | (have _x := dQ0; first | (have _x := dQ1; first | (have _x := dQ2; first | (have _x := dQ3; first | (have _x := dQ4; have dQ5 := hnQ) | have dQ4 := hnQ) | have dQ3 := hnQ) | have dQ2 := hnQ) | have dQ1 := hnQ) | have dQ0 := hnQ)); (try (have hmQ := Nat.lt_of_succ_lt (Nat.lt_of_succ_le hz); first | (have _x := dQ0; first | (have _x := dQ1; first | (have _x := dQ2; first | (have _x := dQ3; first | (have _x := dQ4; have dQ5 := hmQ) | have dQ4 := hmQ) | have dQ3 := hmQ) | have dQ2 := hmQ) | have dQ1 := hmQ) | have dQ0 := hmQ))))
    go_ret
    exact ⟨by rw [HF.out]; rfl, by (repeat' first | (with_reducible exact Below.refl _ _) | (with_reducible refine Below.alloc ?_ ?_ _) | (with_reducible refine Below.drew ?_) | (with_reducible refine Below.setCell ?_ ?_ _) | (with_reducible refine below_via (by assumption) ?_ ?_) | go_size)⟩
  have hpz' := hpz
  simp only [puzzleOk, Bool.and_eq_true] at hpz'
  obtain ⟨⟨hsm, hso⟩, hgo⟩ := hpz'
  have HF : Hid (spoils a b o s g = (spoilsTo (linesOf a b o) (spreadOf a b o g true) (reachList a b o s) (reachList a b o s).length : Int)) := by show _ = _; simp [spoils, hpz]
  have HI : Hid (∀ l ∈ linesOf a b o, LnIn a b l) := fun l hl => linesOf_in hl
  have HLd : Hid (Leads (boardN a b) (linesOf a b o)) := leads_of (small_N hsm).1
  have hN := (small_N hsm).2.2.2.1
  have hBl : (spreadOf a b o g true).length = boardN a b := spreadOf_length hsm hgo
  have HR : Hid (∀ x ∈ reachList a b o s, 0 ≤ x ∧ x < boardN a b) := by
    intro x hx
    have h1 := listOf_mem hx
    rw [spreadOf_length hsm hso] at h1
    exact ⟨h1.1, h1.2.1⟩
  have hL196 := linesOf_le a b o
  have hRl : (reachList a b o s).length ≤ 65536 := Nat.le_trans (listTo_length _ _) (spreadOf_le a b o s false)
  go_enter Try.func84, Try.ntmps84
  go_wp2_with (first | (go_at_call 68; refine (sPuzzleOk_any _ _ _ _ _ hs hg _).mono ?_; rintro e w' ⟨rfl, hb⟩; obtain ⟨hc, hf, hz, hy⟩ := bcell hb; clear hy; (try simp only [World.size_alloc, World.size_setCell, World.size_drew] at hz); (try have gQ0 : w.heap.size < w'.heap.size := by omega); (try have gQ1 : w.heap.size + 1 < w'.heap.size := by omega); (try have gQ2 : w.heap.size + 1 + 1 < w'.heap.size := by omega); (try have gQ3 : w.heap.size + 1 + 1 + 1 < w'.heap.size := by omega); (try have gQ4 : w.heap.size + 1 + 1 + 1 + 1 < w'.heap.size := by omega); (try have gQ5 : w.heap.size + 1 + 1 + 1 + 1 + 1 < w'.heap.size := by omega); (try have dQ0 : _ < w'.heap.size := Nat.lt_of_lt_of_le dQ0 (by omega)); (try have dQ1 : _ < w'.heap.size := Nat.lt_of_lt_of_le dQ1 (by omega)); (try have dQ2 : _ < w'.heap.size := Nat.lt_of_lt_of_le dQ2 (by omega)); (try have dQ3 : _ < w'.heap.size := Nat.lt_of_lt_of_le dQ3 (by omega)); (try have dQ4 : _ < w'.heap.size := Nat.lt_of_lt_of_le dQ4 (by omega)); (try have dQ5 : _ < w'.heap.size := Nat.lt_of_lt_of_le dQ5 (by omega)); (try (have hnQ := Nat.lt_of_succ_le hz; first | (have _x := dQ0; first | (have _x := dQ1; first | (have _x := dQ2; first | (have _x := dQ3; first | (have _x := dQ4; have dQ5 := hnQ) | have dQ4 := hnQ) | have dQ3 := hnQ) | have dQ2 := hnQ) | have dQ1 := hnQ) | have dQ0 := hnQ)); (try (have hmQ := Nat.lt_of_succ_lt (Nat.lt_of_succ_le hz); first | (have _x := dQ0; first | (have _x := dQ1; first | (have _x := dQ2; first | (have _x := dQ3; first | (have _x := dQ4; have dQ5 := hmQ) | have dQ4 := hmQ) | have dQ3 := hmQ) | have dQ2 := hmQ) | have dQ1 := hmQ) | have dQ0 := hmQ))) | ((with_reducible refine wp_region_qb ?_ ?_ (fun hq => ?_)); (focus kernel_rfl); (focus kernel_rfl); (repeat (go_big_quiet_step ((first | (go_at_call 68; exact Calls.regrown_of (sPuzzleOk_any _ _ _ _ _ hs hg _)))))); refine wpQuiet_nil ?_; intro wq hb; obtain ⟨hc, hf, hz, hy⟩ := bcell hb; clear hq hy; (try simp only [World.size_alloc, World.size_setCell, World.size_drew] at hz); (try have gQ0 : w.heap.size < wq.heap.size := by omega); (try have gQ1 : w.heap.size + 1 < wq.heap.size := by omega); (try have gQ2 : w.heap.size + 1 + 1 < wq.heap.size := by omega); (try have gQ3 : w.heap.size + 1 + 1 + 1 < wq.heap.size := by omega); (try have gQ4 : w.heap.size + 1 + 1 + 1 + 1 < wq.heap.size := by omega); (try have gQ5 : w.heap.size + 1 + 1 + 1 + 1 + 1 < wq.heap.size := by omega); (try have dQ0 : _ < wq.heap.size := Nat.lt_of_lt_of_le dQ0 (by omega)); (try have dQ1 : _ < wq.heap.size := Nat.lt_of_lt_of_le dQ1 (by omega)); (try have dQ2 : _ < wq.heap.size := Nat.lt_of_lt_of_le dQ2 (by omega)); (try have dQ3 : _ < wq.heap.size := Nat.lt_of_lt_of_le dQ3 (by omega)); (try have dQ4 : _ < wq.heap.size := Nat.lt_of_lt_of_le dQ4 (by omega)); (try have dQ5 : _ < wq.heap.size := Nat.lt_of_lt_of_le dQ5 (by omega)); (try (have hnQ := Nat.lt_of_succ_le hz; first | (have _x := dQ0; first | (have _x := dQ1; first | (have _x := dQ2; first | (have _x := dQ3; first | (have _x := dQ4; have dQ5 := hnQ) | have dQ4 := hnQ) | have dQ3 := hnQ) | have dQ2 := hnQ) | have dQ1 := hnQ) | have dQ0 := hnQ)); (try (have hmQ := Nat.lt_of_succ_lt (Nat.lt_of_succ_le hz); first | (have _x := dQ0; first | (have _x := dQ1; first | (have _x := dQ2; first | (have _x := dQ3; first | (have _x := dQ4; have dQ5 := hmQ) | have dQ4 := hmQ) | have dQ3 := hmQ) | have dQ2 := hmQ) | have dQ1 := hmQ) | have dQ0 := hmQ))))
  refine (l15Back_any _ _ _ _ hg hsm hgo _).mono ?_
  rintro e w' ⟨vB, rfl, hownB, hb⟩
  obtain ⟨hc, hf, hz, hy⟩ := bcell hb; clear hy; (try simp only [World.size_alloc, World.size_setCell, World.size_drew] at hz); (try have gQ0 : w.heap.size < w'.heap.size := by omega); (try have gQ1 : w.heap.size + 1 < w'.heap.size := by omega); (try have gQ2 : w.heap.size + 1 + 1 < w'.heap.size := by omega); (try have gQ3 : w.heap.size + 1 + 1 + 1 < w'.heap.size := by omega); (try have gQ4 : w.heap.size + 1 + 1 + 1 + 1 < w'.heap.size := by omega); (try have gQ5 : w.heap.size + 1 + 1 + 1 + 1 + 1 < w'.heap.size := by omega); (try have dQ0 : _ < w'.heap.size := Nat.lt_of_lt_of_le dQ0 (by omega)); (try have dQ1 : _ < w'.heap.size := Nat.lt_of_lt_of_le dQ1 (by omega)); (try have dQ2 : _ < w'.heap.size := Nat.lt_of_lt_of_le dQ2 (by omega)); (try have dQ3 : _ < w'.heap.size := Nat.lt_of_lt_of_le dQ3 (by omega)); (try have dQ4 : _ < w'.heap.size := Nat.lt_of_lt_of_le dQ4 (by omega)); (try have dQ5 : _ < w'.heap.size := Nat.lt_of_lt_of_le dQ5 (by omega)); (try (have hnQ := Nat.lt_of_succ_le hz; first | (have _x := dQ0; first | (have _x := dQ1; first | (have _x := dQ2; first | (have _x := dQ3; first | (have _x := dQ4; have dQ5 := hnQ) | have dQ4 := hnQ) | have dQ3 := hnQ) | have dQ2 := hnQ) | have dQ1 := hnQ) | have dQ0 := hnQ)); (try (have hmQ := Nat.lt_of_succ_lt (Nat.lt_of_succ_le hz); first | (have _x := dQ0; first | (have _x := dQ1; first | (have _x := dQ2; first | (have _x := dQ3; first | (have _x := dQ4; have dQ5 := hmQ) | have dQ4 := hmQ) | have dQ3 := hmQ) | have dQ2 := hmQ) | have dQ1 := hmQ) | have dQ0 := hmQ))
  obtain ⟨w2, rfl⟩ : ∃ w2 : World, w2 = w' := ⟨_, rfl⟩
  have HW2 := Lib.hid (show Below w.heap.size w w2 by (repeat' first | (with_reducible exact Below.refl _ _) | (with_reducible refine Below.alloc ?_ ?_ _) | (with_reducible refine Below.drew ?_) | (with_reducible refine Below.setCell ?_ ?_ _) | (with_reducible refine below_via (by assumption) ?_ ?_) | go_size))
  go_wp2_with fail
  refine (sReachOf_any _ _ _ _ hs _).mono ?_
  rintro e w' ⟨vR, rfl, hownR, hb⟩
  have hownB3 := hownB.keep hb
  have HW3 := Lib.hid (below_via hb HW2.out (by omega))
  obtain ⟨hc, hf, hz, hy⟩ := bcell hb; clear hy; (try simp only [World.size_alloc, World.size_setCell, World.size_drew] at hz); (try have gQ0 : w.heap.size < w'.heap.size := by omega); (try have gQ1 : w.heap.size + 1 < w'.heap.size := by omega); (try have gQ2 : w.heap.size + 1 + 1 < w'.heap.size := by omega); (try have gQ3 : w.heap.size + 1 + 1 + 1 < w'.heap.size := by omega); (try have gQ4 : w.heap.size + 1 + 1 + 1 + 1 < w'.heap.size := by omega); (try have gQ5 : w.heap.size + 1 + 1 + 1 + 1 + 1 < w'.heap.size := by omega); (try have dQ0 : _ < w'.heap.size := Nat.lt_of_lt_of_le dQ0 (by omega)); (try have dQ1 : _ < w'.heap.size := Nat.lt_of_lt_of_le dQ1 (by omega)); (try have dQ2 : _ < w'.heap.size := Nat.lt_of_lt_of_le dQ2 (by omega)); (try have dQ3 : _ < w'.heap.size := Nat.lt_of_lt_of_le dQ3 (by omega)); (try have dQ4 : _ < w'.heap.size := Nat.lt_of_lt_of_le dQ4 (by omega)); (try have dQ5 : _ < w'.heap.size := Nat.lt_of_lt_of_le dQ5 (by omega)); (try (have hnQ := Nat.lt_of_succ_le hz; first | (have _x := dQ0; first | (have _x := dQ1; first | (have _x := dQ2; first | (have _x := dQ3; first | (have _x := dQ4; have dQ5 := hnQ) | have dQ4 := hnQ) | have dQ3 := hnQ) | have dQ2 := hnQ) | have dQ1 := hnQ) | have dQ0 := hnQ)); (try (have hmQ := Nat.lt_of_succ_lt (Nat.lt_of_succ_le hz); first | (have _x := dQ0; first | (have _x := dQ1; first | (have _x := dQ2; first | (have _x := dQ3; first | (have _x := dQ4; have dQ5 := hmQ) | have dQ4 := hmQ) | have dQ3 := hmQ) | have dQ2 := hmQ) | have dQ1 := hmQ) | have dQ0 := hmQ))
  obtain ⟨w3, rfl⟩ : ∃ w3 : World, w3 = w' := ⟨_, rfl⟩
  go_wp2_with fail
  refine (sLinesOf_any _ _ _ _).mono ?_
  rintro e w' ⟨vL, rfl, hownL, hb⟩
  have hownR4 := hownR.keep hb
  have hownB4 := hownB3.keep hb
  have HW4 := Lib.hid (below_via hb HW3.out (by omega))
  obtain ⟨hc, hf, hz, hy⟩ := bcell hb; clear hy; (try simp only [World.size_alloc, World.size_setCell, World.size_drew] at hz); (try have gQ0 : w.heap.size < w'.heap.size := by omega); (try have gQ1 : w.heap.size + 1 < w'.heap.size := by omega); (try have gQ2 : w.heap.size + 1 + 1 < w'.heap.size := by omega); (try have gQ3 : w.heap.size + 1 + 1 + 1 < w'.heap.size := by omega); (try have gQ4 : w.heap.size + 1 + 1 + 1 + 1 < w'.heap.size := by omega); (try have gQ5 : w.heap.size + 1 + 1 + 1 + 1 + 1 < w'.heap.size := by omega); (try have dQ0 : _ < w'.heap.size := Nat.lt_of_lt_of_le dQ0 (by omega)); (try have dQ1 : _ < w'.heap.size := Nat.lt_of_lt_of_le dQ1 (by omega)); (try have dQ2 : _ < w'.heap.size := Nat.lt_of_lt_of_le dQ2 (by omega)); (try have dQ3 : _ < w'.heap.size := Nat.lt_of_lt_of_le dQ3 (by omega)); (try have dQ4 : _ < w'.heap.size := Nat.lt_of_lt_of_le dQ4 (by omega)); (try have dQ5 : _ < w'.heap.size := Nat.lt_of_lt_of_le dQ5 (by omega)); (try (have hnQ := Nat.lt_of_succ_le hz; first | (have _x := dQ0; first | (have _x := dQ1; first | (have _x := dQ2; first | (have _x := dQ3; first | (have _x := dQ4; have dQ5 := hnQ) | have dQ4 := hnQ) | have dQ3 := hnQ) | have dQ2 := hnQ) | have dQ1 := hnQ) | have dQ0 := hnQ)); (try (have hmQ := Nat.lt_of_succ_lt (Nat.lt_of_succ_le hz); first | (have _x := dQ0; first | (have _x := dQ1; first | (have _x := dQ2; first | (have _x := dQ3; first | (have _x := dQ4; have dQ5 := hmQ) | have dQ4 := hmQ) | have dQ3 := hmQ) | have dQ2 := hmQ) | have dQ1 := hmQ) | have dQ0 := hmQ))
  obtain ⟨w4, rfl⟩ : ∃ w4 : World, w4 = w' := ⟨_, rfl⟩
  generalize linesOf a b o = L at *
  generalize spreadOf a b o g true = B at *
  generalize reachList a b o s = R at *
  generalize boardN a b = N at *
  obtain ⟨aL, capL, rfl, hnL, hgetL⟩ := hownL.line
  obtain ⟨aR, capR, rfl, hnR, hgetR⟩ := hownR4.int
  obtain ⟨aB, capB, rfl, hnB, hgetB⟩ := hownB4.bool
  have HGL := Lib.hid hgetL
  have HGR := Lib.hid hgetR
  have HGB := Lib.hid hgetB
  clear hgetL hgetR hgetB hownL hownR hownR4 hownB hownB3 hownB4
  go_wp2_with fail
  have hLR : R.length * L.length ≤ 65536 * 196 := Nat.mul_le_mul hRl hL196
  go_loopw [6, 7] (fun c i wr => ∃ k : Nat, k ≤ R.length ∧ i = .int .i64 k ∧ c = .int .i64 (spoilsTo L B R k : Nat) ∧ Below w4.heap.size w4 wr) (fun _ i _ => R.length - (intOf i).toNat)
  case atStart => exact ⟨0, by omega, rfl, rfl, Below.refl _ _⟩
  case round =>
    obtain ⟨k, hk, rfl, rfl, hbw⟩ := hrel
    obtain ⟨wo, rfl⟩ : ∃ wo : World, wo = wr := ⟨_, rfl⟩
    have hz4 := hbw.size
    have hcl := spoilsTo_le L B R k
    have hcl2 : k * L.length ≤ R.length * L.length := Nat.mul_le_mul_right _ hk
    by_cases hlt : k < R.length
    · obtain ⟨bR, rfl, hbR1, hbR2, hcR⟩ := HGR.out k hlt
      have hcRw : wo.cell? ⟨bR, k, none⟩ = some (.int .i64 (R.getD k 0)) := (hbw.cell (p := ⟨bR, k, none⟩) hbR2).trans hcR
      clear hcR
      obtain ⟨hp0, hp1⟩ := HR.out _ (getD_mem R k 0 hlt)
      have HS := Lib.hid (spoilsTo_succ L B R k hlt)
      generalize R.getD k 0 = pk at *
      generalize hC : spoilsTo L B R k = C at *
      clear hC
      have HB : Hid (spoilsAt L B pk = if hasB B pk = true then L.countP (spoilsBy B pk) else 0) := rfl
      have hhp : hasB B pk = B.getD pk.toNat false := by simp [hasB, hp0, hBl, hp1]
      obtain ⟨bB, rfl, hbB1, hbB2, hcB⟩ := HGB.out pk.toNat (by omega)
      rw [← hhp] at hcB
      go_wp2_with fail
      go_loopw [6, 9] (fun c i wr => ∃ j : Nat, j ≤ L.length ∧ i = .int .i64 j ∧ c = .int .i64 ((C + (if hasB B pk = true then (L.take j).countP (spoilsBy B pk) else 0) : Nat) : Int) ∧ Below w4.heap.size w4 wr) (fun _ i _ => L.length - (intOf i).toNat)
      case atStart => exact ⟨0, by omega, rfl, by simp, hbw⟩
      case round =>
        obtain ⟨j, hj, rfl, rfl, hbw2⟩ := hrel
        have hz5 := hbw2.size
        have hcp : (L.take j).countP (spoilsBy B pk) ≤ L.length := Nat.le_trans List.countP_le_length (by simp; omega)
        have hcB2 : wr.cell? ⟨bB, pk.toNat, none⟩ = some (.bool (hasB B pk)) := (hbw2.cell (p := ⟨bB, pk.toNat, none⟩) hbB2).trans hcB
        by_cases hjt : j < L.length
        · cases hh : hasB B pk
          · rw [hh] at hcB2
            simp only [Bool.false_eq_true, if_false]
            clear hhp hcB
            go_wp2_with fail
            go_roundw
            case rel => exact ⟨k + 1, by omega, by go_num, by rw [HS.out, HB.out, hh]; simp, hbw2⟩
            case measure => simp [intOf]; omega
          · rw [hh] at hcB2
            simp only [if_true]
            clear hhp hcB
            obtain ⟨bL, rfl, hbL1, hbL2, hl1, hl2, hl3⟩ := HGL.out j hjt
            have hin := HI.out _ (getD_mem L j Ln0 hjt)
            have hqN := HLd.out _ (getD_mem L j Ln0 hjt) pk hp0 hp1
            have hm1 : wr.cell? ⟨bL, j * 3, none⟩ = some (.int .i64 (L.getD j Ln0).f) := (hbw2.cell (p := ⟨bL, j * 3, none⟩) hbL2).trans hl1
            have hm2 : wr.cell? ⟨bL, j * 3 + 1, none⟩ = some (.int .i64 (L.getD j Ln0).o) := (hbw2.cell (p := ⟨bL, j * 3 + 1, none⟩) hbL2).trans hl2
            have hm3 : wr.cell? ⟨bL, j * 3 + 2, none⟩ = some (.int .i64 (L.getD j Ln0).t) := (hbw2.cell (p := ⟨bL, j * 3 + 2, none⟩) hbL2).trans hl3
            clear hl1 hl2 hl3
            have HC := Lib.hid (countP_take (spoilsBy B pk) L Ln0 j hjt)
            have HBy : Hid (spoilsBy B pk (L.getD j Ln0) = (canJ pk (L.getD j Ln0) && !hasB B (Peg.flip pk (L.getD j Ln0)))) := rfl
            generalize L.getD j Ln0 = l at *
            generalize (L.take j).countP (spoilsBy B pk) = D at *
            have hq0 := flip_nonneg pk l
            have hhq : hasB B (Peg.flip pk l) = B.getD (Peg.flip pk l).toNat false := by simp [hasB, hq0, hBl, hqN]
            obtain ⟨bB2, hbe, hbB3, hbB4, hcq⟩ := HGB.out (Peg.flip pk l).toNat (by omega)
            simp only [Option.some.injEq, Addr.mk.injEq, and_true] at hbe
            subst hbe
            rw [← hhq] at hcq
            have hcq2 : wr.cell? ⟨bB, (Peg.flip pk l).toNat, none⟩ = some (.bool (hasB B (Peg.flip pk l))) := (hbw2.cell (p := ⟨bB, (Peg.flip pk l).toNat, none⟩) hbB2).trans hcq
            clear hcq hhq
            have dQ0 : bB < wr.heap.size := by omega
            have dQ1 : bR < wr.heap.size := by omega
            have dQ2 : bL < wr.heap.size := by omega
            have HCL : Hid (∀ W, Calls Try.prog 80 #[.agg #[.int .i64 l.f, .int .i64 l.o, .int .i64 l.t]] W fun e w' => e = .returned (.int .i64 (lbits l)) ∧ Below W.heap.size W w') := fun W => l05Bits_any l.f l.o l.t hin.1 W
            have hwf := pw_wrap (n := l.f) hin.1.1.1 (by have := hin.1.1.2; omega)
            have hwo := pw_wrap (n := l.o) hin.1.2.1.1 (by have := hin.1.2.1.2; omega)
            have pf0 := pw_pos l.f
            have po0 := pw_pos l.o
            have pf2 : pw l.f < 9223372036854775808 := Int.lt_trans (pw_lt (k := 49) hin.1.1.1 (by have := hin.1.1.2; omega)) (by rw [pw49]; decide)
            have po2 : pw l.o < 9223372036854775808 := Int.lt_trans (pw_lt (k := 49) hin.1.2.1.1 (by have := hin.1.2.1.2; omega)) (by rw [pw49]; decide)
            have pb2 : lbits l < 9223372036854775808 := Int.lt_trans (lbits_lt (k := 49) hin.1 (by have := hin.1.1.2; omega) (by have := hin.1.2.1.2; omega) (by have := hin.1.2.2.1.2; omega)) (by rw [pw49]; decide)
            have pb0 := lbits_nonneg l
            have hor := bits_or (a := pw l.f) (b := pw l.o) (by omega) pf2 (by omega) po2
            have hand := bits_and (a := pk) (b := lbits l) hp0 (by omega) pb0 pb2
            have hxor := bits_xor (a := pk) (b := lbits l) hp0 (by omega) pb0 pb2
            rw [show bxor pk (lbits l) = Peg.flip pk l from rfl] at hxor
            have hfo := hin.1.1
            have hoo := hin.1.2.1
            have hci := canJ_iff (p := pk) hin.1
            generalize canJ pk l = cj at *
            clear pf0 po0 pf2 po2 pb2 pb0
            generalize lbits l = LB at *
            generalize Peg.flip pk l = q at *
            generalize hA : band pk LB = A at *
            generalize hFO : bor (pw l.f) (pw l.o) = FO at *
            generalize pw l.f = F at *
            generalize pw l.o = O at *
            clear hA hFO
            generalize hasB B q = hq9 at *
            cases cj
            · go_wp2_with ((with_reducible refine wp_region_qb ?_ ?_ (fun hq => ?_)); (focus kernel_rfl); (focus kernel_rfl); (repeat (go_big_quiet_step ((go_at_call 80; exact Calls.regrown_of (HCL.out _))))); refine wpQuiet_nil ?_; intro wq hb; obtain ⟨hc, hf, hz, hy⟩ := bcell hb; clear hq hy; (try simp only [World.size_alloc, World.size_setCell, World.size_drew] at hz); (try have gQ0 : w.heap.size < wq.heap.size := by omega); (try have gQ1 : w.heap.size + 1 < wq.heap.size := by omega); (try have gQ2 : w.heap.size + 1 + 1 < wq.heap.size := by omega); (try have gQ3 : w.heap.size + 1 + 1 + 1 < wq.heap.size := by omega); (try have gQ4 : w.heap.size + 1 + 1 + 1 + 1 < wq.heap.size := by omega); (try have gQ5 : w.heap.size + 1 + 1 + 1 + 1 + 1 < wq.heap.size := by omega); (try have dQ0 : _ < wq.heap.size := Nat.lt_of_lt_of_le dQ0 (by omega)); (try have dQ1 : _ < wq.heap.size := Nat.lt_of_lt_of_le dQ1 (by omega)); (try have dQ2 : _ < wq.heap.size := Nat.lt_of_lt_of_le dQ2 (by omega)); (try have dQ3 : _ < wq.heap.size := Nat.lt_of_lt_of_le dQ3 (by omega)); (try have dQ4 : _ < wq.heap.size := Nat.lt_of_lt_of_le dQ4 (by omega)); (try have dQ5 : _ < wq.heap.size := Nat.lt_of_lt_of_le dQ5 (by omega)); (try (have hnQ := Nat.lt_of_succ_le hz; first | (have _x := dQ0; first | (have _x := dQ1; first | (have _x := dQ2; first | (have _x := dQ3; first | (have _x := dQ4; have dQ5 := hnQ) | have dQ4 := hnQ) | have dQ3 := hnQ) | have dQ2 := hnQ) | have dQ1 := hnQ) | have dQ0 := hnQ)); (try (have hmQ := Nat.lt_of_succ_lt (Nat.lt_of_succ_le hz); first | (have _x := dQ0; first | (have _x := dQ1; first | (have _x := dQ2; first | (have _x := dQ3; first | (have _x := dQ4; have dQ5 := hmQ) | have dQ4 := hmQ) | have dQ3 := hmQ) | have dQ2 := hmQ) | have dQ1 := hmQ) | have dQ0 := hmQ)); have hB6 := below_via hb hbw2 (by omega))
              go_roundw
              case rel => exact ⟨j + 1, by omega, by go_num, by rw [HC.out, HBy.out]; simp, hB6⟩
              case measure => simp [intOf]; omega
            · cases hq9
              · go_wp2_with ((with_reducible refine wp_region_qb ?_ ?_ (fun hq => ?_)); (focus kernel_rfl); (focus kernel_rfl); (repeat (go_big_quiet_step ((go_at_call 80; exact Calls.regrown_of (HCL.out _))))); refine wpQuiet_nil ?_; intro wq hb; obtain ⟨hc, hf, hz, hy⟩ := bcell hb; clear hq hy; (try simp only [World.size_alloc, World.size_setCell, World.size_drew] at hz); (try have gQ0 : w.heap.size < wq.heap.size := by omega); (try have gQ1 : w.heap.size + 1 < wq.heap.size := by omega); (try have gQ2 : w.heap.size + 1 + 1 < wq.heap.size := by omega); (try have gQ3 : w.heap.size + 1 + 1 + 1 < wq.heap.size := by omega); (try have gQ4 : w.heap.size + 1 + 1 + 1 + 1 < wq.heap.size := by omega); (try have gQ5 : w.heap.size + 1 + 1 + 1 + 1 + 1 < wq.heap.size := by omega); (try have dQ0 : _ < wq.heap.size := Nat.lt_of_lt_of_le dQ0 (by omega)); (try have dQ1 : _ < wq.heap.size := Nat.lt_of_lt_of_le dQ1 (by omega)); (try have dQ2 : _ < wq.heap.size := Nat.lt_of_lt_of_le dQ2 (by omega)); (try have dQ3 : _ < wq.heap.size := Nat.lt_of_lt_of_le dQ3 (by omega)); (try have dQ4 : _ < wq.heap.size := Nat.lt_of_lt_of_le dQ4 (by omega)); (try have dQ5 : _ < wq.heap.size := Nat.lt_of_lt_of_le dQ5 (by omega)); (try (have hnQ := Nat.lt_of_succ_le hz; first | (have _x := dQ0; first | (have _x := dQ1; first | (have _x := dQ2; first | (have _x := dQ3; first | (have _x := dQ4; have dQ5 := hnQ) | have dQ4 := hnQ) | have dQ3 := hnQ) | have dQ2 := hnQ) | have dQ1 := hnQ) | have dQ0 := hnQ)); (try (have hmQ := Nat.lt_of_succ_lt (Nat.lt_of_succ_le hz); first | (have _x := dQ0; first | (have _x := dQ1; first | (have _x := dQ2; first | (have _x := dQ3; first | (have _x := dQ4; have dQ5 := hmQ) | have dQ4 := hmQ) | have dQ3 := hmQ) | have dQ2 := hmQ) | have dQ1 := hmQ) | have dQ0 := hmQ)); have hB6 := below_via hb hbw2 (by omega))
                go_roundw
                case rel => exact ⟨j + 1, by omega, by go_num, by rw [HC.out, HBy.out]; simp; omega, hB6⟩
                case measure => simp [intOf]; omega
              · go_wp2_with ((with_reducible refine wp_region_qb ?_ ?_ (fun hq => ?_)); (focus kernel_rfl); (focus kernel_rfl); (repeat (go_big_quiet_step ((go_at_call 80; exact Calls.regrown_of (HCL.out _))))); refine wpQuiet_nil ?_; intro wq hb; obtain ⟨hc, hf, hz, hy⟩ := bcell hb; clear hq hy; (try simp only [World.size_alloc, World.size_setCell, World.size_drew] at hz); (try have gQ0 : w.heap.size < wq.heap.size := by omega); (try have gQ1 : w.heap.size + 1 < wq.heap.size := by omega); (try have gQ2 : w.heap.size + 1 + 1 < wq.heap.size := by omega); (try have gQ3 : w.heap.size + 1 + 1 + 1 < wq.heap.size := by omega); (try have gQ4 : w.heap.size + 1 + 1 + 1 + 1 < wq.heap.size := by omega); (try have gQ5 : w.heap.size + 1 + 1 + 1 + 1 + 1 < wq.heap.size := by omega); (try have dQ0 : _ < wq.heap.size := Nat.lt_of_lt_of_le dQ0 (by omega)); (try have dQ1 : _ < wq.heap.size := Nat.lt_of_lt_of_le dQ1 (by omega)); (try have dQ2 : _ < wq.heap.size := Nat.lt_of_lt_of_le dQ2 (by omega)); (try have dQ3 : _ < wq.heap.size := Nat.lt_of_lt_of_le dQ3 (by omega)); (try have dQ4 : _ < wq.heap.size := Nat.lt_of_lt_of_le dQ4 (by omega)); (try have dQ5 : _ < wq.heap.size := Nat.lt_of_lt_of_le dQ5 (by omega)); (try (have hnQ := Nat.lt_of_succ_le hz; first | (have _x := dQ0; first | (have _x := dQ1; first | (have _x := dQ2; first | (have _x := dQ3; first | (have _x := dQ4; have dQ5 := hnQ) | have dQ4 := hnQ) | have dQ3 := hnQ) | have dQ2 := hnQ) | have dQ1 := hnQ) | have dQ0 := hnQ)); (try (have hmQ := Nat.lt_of_succ_lt (Nat.lt_of_succ_le hz); first | (have _x := dQ0; first | (have _x := dQ1; first | (have _x := dQ2; first | (have _x := dQ3; first | (have _x := dQ4; have dQ5 := hmQ) | have dQ4 := hmQ) | have dQ3 := hmQ) | have dQ2 := hmQ) | have dQ1 := hmQ) | have dQ0 := hmQ)); have hB6 := below_via hb hbw2 (by omega))
                go_roundw
                case rel => exact ⟨j + 1, by omega, by go_num, by rw [HC.out, HBy.out]; simp, hB6⟩
                case measure => simp [intOf]; omega
        · obtain rfl : j = L.length := by omega
          rw [List.take_length]
          go_wp2_with fail
          go_roundw
          case rel => exact ⟨k + 1, by omega, by go_num, by rw [HS.out, HB.out], hbw2⟩
          case measure => simp [intOf]; omega
    · obtain rfl : k = R.length := by omega
      go_wp2_with fail
      go_ret
      exact ⟨by rw [HF.out]; rfl, HW4.out.trans (hbw.mono (by omega))⟩
end Go.Proofs.Ytikmacjeeaklmaa
