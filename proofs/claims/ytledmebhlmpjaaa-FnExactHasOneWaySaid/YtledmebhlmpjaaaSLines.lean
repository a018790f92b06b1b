/- SLines: contracts of the reference's l02List, HolesOf, LinesOf. Conditions: numbers in range. -/
import Derived.Test.YtledmebhlmpjaaaPzC
set_option linter.unusedVariables false
set_option linter.unusedSimpArgs false
namespace Peg
theorem tb_high {p k : Int} (h0 : 0 ≤ p) (hk : 0 ≤ k) (h : p < pw k) (j : Int) (hj : k ≤ j) : tb p j = false := by
  unfold tb
  apply Nat.testBit_lt_two_pow
  have h1 : p.toNat < 2 ^ k.toNat := by
    have : ((p.toNat : Nat) : Int) < ((2 ^ k.toNat : Nat) : Int) := by
      rw [Int.toNat_of_nonneg h0]
      unfold pw at h
      have e : ((2 ^ k.toNat : Nat) : Int) = 2 ^ k.toNat := by simp
      rw [e]; exact h
    exact_mod_cast this
  exact Nat.lt_of_lt_of_le h1 (Nat.pow_le_pow_right (by omega) (by omega))
theorem holesTo_more {p : Int} {k : Nat} (h0 : 0 ≤ p) (h : p < pw k) : ∀ d, holesTo p (k + d) = holesTo p k := by
  intro d
  induction d with
  | zero => rfl
  | succ d ih =>
    rw [← Nat.add_assoc, holesTo_succ_no _ _ (tb_high h0 (by omega) h _ (by omega))]
    exact ih
theorem holesOf_49 {a b o : Int} (h : boardOk a b o = true) : holesOf a b o = holesTo o 49 := by
  have h1 := area (boardOk_sides h).1 (boardOk_sides h).2
  have h2 := boardOk_holes h
  have e : holesOf a b o = holesTo o (a * b).toNat := by simp [holesOf, h]
  have h3 := holesTo_more (p := o) (k := (a * b).toNat) (by omega) (by rw [Int.toNat_of_nonneg (by omega)]; omega) (49 - (a * b).toNat)
  rw [e, ← h3]
  congr 1
  omega
end Peg
namespace Go.Proofs.Ytledmebhlmpjaaa
open Go.ChangeShapes Go.WideShapes Go.ChangeAt Go.RowKit Peg Go.Sort
theorem l02List_any (p : Int) (hp : 0 ≤ p) (hp2 : p ≤ 9223372036854775807) (w : World) :
    Calls Try.prog 96 #[.int .i64 p] w (RetInts w (holesTo p 49)) := by
  go_enter Try.func96, Try.ntmps96
  go_wp2_with fail
  go_loopw [3, 4] (fun v i wr => ∃ k : Nat, k ≤ 49 ∧ i = .int .i64 k ∧ Own EInt wr w.heap.size v (holesTo p k) ∧ Below w.heap.size w wr) (fun _ i _ => 49 - (intOf i).toNat)
  case atStart => exact ⟨0, by omega, rfl, Own.emptyAny EInt _ _ _, by (repeat' first | (with_reducible exact Below.refl _ _) | (with_reducible refine Below.alloc ?_ ?_ _) | (with_reducible refine Below.drew ?_) | (with_reducible refine Below.setCell ?_ ?_ _) | (with_reducible refine below_via (by assumption) ?_ ?_) | go_size)⟩
  case round =>
    obtain ⟨k, hk, rfl, hown, hbw⟩ := hrel
    have hzw := hbw.size
    have hlen := holesTo_length p k
    by_cases hlt : k < 49
    · cases hbit : tb p k
      · have hl : Hid (holesTo p (k + 1) = holesTo p k) := holesTo_succ_no p k hbit
        have hbt : (bits BinOp.and IntKind.i64 (p / 2 ^ k) 1 == 1) = false := by rw [← hbit]; exact bit_test0 k hp hp2
        clear hbit
        go_wp2_with fail
        go_roundw
        case rel => exact ⟨k + 1, by omega, by go_num, by rw [hl.out]; exact hown, hbw⟩
        case measure => simp [intOf]; omega
      · have hl : Hid (holesTo p (k + 1) = holesTo p k ++ [(k : Int)]) := holesTo_succ_yes p k hbit
        have hbt : (bits BinOp.and IntKind.i64 (p / 2 ^ k) 1 == 1) = true := by rw [← hbit]; exact bit_test0 k hp hp2
        clear hbit
        go_wp2_with (at_builtin; (refine append1 (E := EInt) (v := u3) (l := holesTo p k) rfl rfl _ _ 61 rfl Try.underlying61 rfl hown (k : Int) rfl (by omega) (by omega) ?_); intro v' w2 hown2 hb2 hg2)
        go_roundw
        case rel => exact ⟨k + 1, by omega, by go_num, by rw [hl.out]; exact hown2, hbw.trans hb2⟩
        case measure => simp [intOf]; omega
    · obtain rfl : k = 49 := by omega
      go_wp2_with fail
      go_ret
      exact ⟨_, rfl, hown, hbw⟩
theorem sHolesOf_any (a b o : Int) (w : World) :
    Calls Try.prog 84 #[.agg #[.int .i64 a, .int .i64 b, .int .i64 o]] w (RetInts w (holesOf a b o)) := by
  by_cases h : boardOk a b o = true
  · obtain ⟨ho1, ho2⟩ := holes_lt h
    have HF : Hid (holesOf a b o = holesTo o 49) := holesOf_49 h
    go_enter Try.func84, Try.ntmps84
    go_wp2_with (go_at_call 83; refine (sBoardOk_any _ _ _ _).mono ?_; rintro e w' ⟨rfl, hb⟩; obtain ⟨hc, hf, hz, hy⟩ := bcell hb; clear hy; (try simp only [World.size_alloc, World.size_setCell, World.size_drew] at hz); (try have gQ0 : w.heap.size < w'.heap.size := by omega); (try have gQ1 : w.heap.size + 1 < w'.heap.size := by omega); (try have gQ2 : w.heap.size + 1 + 1 < w'.heap.size := by omega); (try have gQ3 : w.heap.size + 1 + 1 + 1 < w'.heap.size := by omega); (try have gQ4 : w.heap.size + 1 + 1 + 1 + 1 < w'.heap.size := by omega); (try have gQ5 : w.heap.size + 1 + 1 + 1 + 1 + 1 < w'.heap.size := by omega); (try have dQ0 : _ < w'.heap.size := Nat.lt_of_lt_of_le dQ0 (by omega)); (try have dQ1 : _ < w'.heap.size := Nat.lt_of_lt_of_le dQ1 (by omega)); (try have dQ2 : _ < w'.heap.size := Nat.lt_of_lt_of_le dQ2 (by omega)); (try have dQ3 : _ < w'.heap.size := Nat.lt_of_lt_of_le dQ3 (by omega)); (try have dQ4 : _ < w'.heap.size := Nat.lt_of_lt_of_le dQ4 (by omega)); (try have dQ5 : _ < w'.heap.size := Nat.lt_of_lt_of_le dQ5 (by omega)); (try (have hnQ := Nat.lt_of_succ_le hz; first | (have _x := dQ0; first | (have _x := dQ1; first | (have _x := dQ2; first | (have _x := dQ3; first | (have _x := dQ4; have dQ5 := hnQ) | have dQ4 := hnQ) | have dQ3 := hnQ) | have dQ2 := hnQ) | have dQ1 := hnQ) | have dQ0 := hnQ)); (try (have hmQ := Nat.lt_of_succ_lt (Nat.lt_of_succ_le hz); first | (have _x := dQ0; first | (have _x := dQ1; first | (have _x := dQ2; first | (have _x := dQ3; first | (have _x := dQ4; have dQ5 := hmQ) | have dQ4 := hmQ) | have dQ3 := hmQ) | have dQ2 := hmQ) | have dQ1 := hmQ) | have dQ0 := hmQ)))
    refine (l02List_any _ (by omega) (by omega) _).mono ?_
    rintro e w2 ⟨v, rfl, hown, hb2⟩
    go_wp2_with fail
    go_ret
    exact ⟨_, rfl, by rw [HF.out]; exact hown.mono (by omega), by (repeat' first | (with_reducible exact Below.refl _ _) | (with_reducible refine Below.alloc ?_ ?_ _) | (with_reducible refine Below.drew ?_) | (with_reducible refine Below.setCell ?_ ?_ _) | (with_reducible refine below_via (by assumption) ?_ ?_) | go_size)⟩
  · have HF : Hid (holesOf a b o = []) := by show _ = _; simp [holesOf, h]
    go_enter Try.func84, Try.ntmps84
    go_wp2_with (go_at_call 83; refine (sBoardOk_any _ _ _ _).mono ?_; rintro e w' ⟨rfl, hb⟩; obtain ⟨hc, hf, hz, hy⟩ := bcell hb; clear hy; (try simp only [World.size_alloc, World.size_setCell, World.size_drew] at hz); (try have gQ0 : w.heap.size < w'.heap.size := by omega); (try have gQ1 : w.heap.size + 1 < w'.heap.size := by omega); (try have gQ2 : w.heap.size + 1 + 1 < w'.heap.size := by omega); (try have gQ3 : w.heap.size + 1 + 1 + 1 < w'.heap.size := by omega); (try have gQ4 : w.heap.size + 1 + 1 + 1 + 1 < w'.heap.size := by omega); (try have gQ5 : w.heap.size + 1 + 1 + 1 + 1 + 1 < w'.heap.size := by omega); (try have dQ0 : _ < w'.heap.size := Nat.lt_of_lt_of_le dQ0 (by omega)); (try have dQ1 : _ < w'.heap.size := Nat.lt_of_lt_of_le dQ1 (by omega)); (try have dQ2 : _ < w'.heap.size := Nat.lt_of_lt_of_le dQ2 (by omega)); (try have dQ3 : _ < w'.heap.size := Nat.lt_of_lt_of_le dQ3 (by omega)); (try have dQ4 : _ < w'.heap.size := Nat.lt_of_lt_of_le dQ4 (by omega)); (try have dQ5 : _ < w'.heap.size := Nat.lt_of_lt_of_le dQ5 (by omega)); (try (have hnQ := Nat.lt_of_succ_le hz; first | (have _x := dQ0; first | (have _x := dQ1; first | (have _x := dQ2; first | (have _x := dQ3; first | (have _x := dQ4; have dQ5 := hnQ) | have dQ4 := hnQ) | have dQ3 := hnQ) | have dQ2 := hnQ) | have dQ1 := hnQ) | have dQ0 := hnQ)); (try (have hmQ := Nat.lt_of_succ_lt (Nat.lt_of_succ_le hz); first | (have _x := dQ0; first | (have _x := dQ1; first | (have _x := dQ2; first | (have _x := dQ3; first | (have _x := dQ4; have dQ5 := hmQ) | have dQ4 := hmQ) | have dQ3 := hmQ) | have dQ2 := hmQ) | have dQ1 := hmQ) | have dQ0 := hmQ)))
    go_ret
    exact ⟨_, rfl, by rw [HF.out]; exact Own.emptyAny _ _ _ _, by (repeat' first | (with_reducible exact Below.refl _ _) | (with_reducible refine Below.alloc ?_ ?_ _) | (with_reducible refine Below.drew ?_) | (with_reducible refine Below.setCell ?_ ?_ _) | (with_reducible refine below_via (by assumption) ?_ ?_) | go_size)⟩
theorem l03Step_r (a b o k way : Int) (hw : 0 ≤ way ∧ way ≤ 3) (hb0 : boardOk a b o = true) (k0 : 0 ≤ k) (k1 : k ≤ a * b - 1) (w : World) {r : Int} (h : stepTo a b o k way = r) :
    Calls Try.prog 85 #[.agg #[.int .i64 a, .int .i64 b, .int .i64 o], .int .i64 k, .int .i64 way] w fun e w' => e = .returned (.int .i64 r) ∧ Below w.heap.size w w' := by
  rw [← h]; exact l03Step_any a b o k way hw hb0 k0 k1 w
set_option maxHeartbeats 400000 in
set_option maxRecDepth 100000 in
theorem sLinesOf_any (a b o : Int) (w : World) :
    Calls Try.prog 55 #[.agg #[.int .i64 a, .int .i64 b, .int .i64 o]] w (RetLines w (linesOf a b o)) := by
  obtain ⟨H, hH⟩ : ∃ H, H = holesOf a b o := ⟨_, rfl⟩
  have hl49 : H.length ≤ 49 := by rw [hH]; exact holesOf_length a b o
  have HM : Hid (∀ x ∈ H, hasHole a b o x = true ∧ boardOk a b o = true) := by intro x hx; rw [hH] at hx; exact holesOf_mem hx
  have HL : Hid (linesOf a b o = H.flatMap (linesFrom a b o)) := by show _ = _; rw [hH]; rfl
  have HH := Lib.hid hH
  clear hH
  go_enter Try.func55, Try.ntmps55
  go_wp2_with fail
  refine (sHolesOf_any _ _ _ _).mono ?_
  rintro e w' ⟨hv, rfl, hownH, hb⟩
  rw [← HH.out] at hownH
  obtain ⟨aH, capH, rfl, hnH, hgetH⟩ := hownH.int
  have HG := Lib.hid hgetH
  clear hgetH
  obtain ⟨hc, hf, hz, hy⟩ := bcell hb; clear hy; (try simp only [World.size_alloc, World.size_setCell, World.size_drew] at hz); (try have gQ0 : w.heap.size < w'.heap.size := by omega); (try have gQ1 : w.heap.size + 1 < w'.heap.size := by omega); (try have gQ2 : w.heap.size + 1 + 1 < w'.heap.size := by omega); (try have gQ3 : w.heap.size + 1 + 1 + 1 < w'.heap.size := by omega); (try have gQ4 : w.heap.size + 1 + 1 + 1 + 1 < w'.heap.size := by omega); (try have gQ5 : w.heap.size + 1 + 1 + 1 + 1 + 1 < w'.heap.size := by omega); (try have dQ0 : _ < w'.heap.size := Nat.lt_of_lt_of_le dQ0 (by omega)); (try have dQ1 : _ < w'.heap.size := Nat.lt_of_lt_of_le dQ1 (by omega)); (try have dQ2 : _ < w'.heap.size := Nat.lt_of_lt_of_le dQ2 (by omega)); (try have dQ3 : _ < w'.heap.size := Nat.lt_of_lt_of_le dQ3 (by omega)); (try have dQ4 : _ < w'.heap.size := Nat.lt_of_lt_of_le dQ4 (by omega)); (try have dQ5 : _ < w'.heap.size := Nat.lt_of_lt_of_le dQ5 (by omega)); (try (have hnQ := Nat.lt_of_succ_le hz; first | (have _x := dQ0; first | (have _x := dQ1; first | (have _x := dQ2; first | (have _x := dQ3; first | (have _x := dQ4; have dQ5 := hnQ) | have dQ4 := hnQ) | have dQ3 := hnQ) | have dQ2 := hnQ) | have dQ1 := hnQ) | have dQ0 := hnQ)); (try (have hmQ := Nat.lt_of_succ_lt (Nat.lt_of_succ_le hz); first | (have _x := dQ0; first | (have _x := dQ1; first | (have _x := dQ2; first | (have _x := dQ3; first | (have _x := dQ4; have dQ5 := hmQ) | have dQ4 := hmQ) | have dQ3 := hmQ) | have dQ2 := hmQ) | have dQ1 := hmQ) | have dQ0 := hmQ))
  obtain ⟨w1, rfl⟩ : ∃ w1 : World, w1 = w' := ⟨_, rfl⟩
  have hbox1 : ∀ j, w1.cell? ⟨w.heap.size, j, none⟩ = #[Value.int .i64 a, .int .i64 b, .int .i64 o][j]? := fun j => by rw [hc _ _ (by simp; omega)]; simp
  go_wp2_with fail
  go_loopw [3, 5] (fun v i wr => ∃ j : Nat, j ≤ H.length ∧ i = .int .i64 j ∧ Own ELine wr w1.heap.size v ((H.take j).flatMap (linesFrom a b o)) ∧ Below w1.heap.size w1 wr) (fun _ i _ => H.length - (intOf i).toNat)
  case atStart => exact ⟨0, by omega, rfl, Own.emptyAny _ _ _ _, Below.refl _ _⟩
  case round =>
    obtain ⟨j, hj, rfl, hown, hbw⟩ := hrel
    obtain ⟨wo, rfl⟩ : ∃ wo : World, wo = wr := ⟨_, rfl⟩
    by_cases hlt : j < H.length
    · obtain ⟨bH, rfl, hb1, hb2, hcell⟩ := HG.out j hlt
      obtain ⟨hk1, hk2⟩ := HM.out _ (getD_mem H j 0 hlt)
      have hk2h : Hid (boardOk a b o = true) := hk2
      have HE : Hid ((H.take (j + 1)).flatMap (linesFrom a b o) = (H.take j).flatMap (linesFrom a b o) ++ linesFrom a b o (H.getD j 0)) := flatMap_take_succ _ _ _ _ hlt
      have hcw : wo.cell? ⟨bH, j, none⟩ = some (.int .i64 (H.getD j 0)) := (hbw.cell (p := ⟨bH, j, none⟩) hb2).trans hcell
      have hbox : ∀ j, wo.cell? ⟨w.heap.size, j, none⟩ = #[Value.int .i64 a, .int .i64 b, .int .i64 o][j]? := fun j => (hbw.cell (by simp; omega)).trans (hbox1 j)
      have hzo := hbw.size
      have hlo : ((H.take j).flatMap (linesFrom a b o)).length ≤ 4 * 49 := by
        have := linesFrom_le a b o (H.take j)
        have : (H.take j).length ≤ 49 := by simp; omega
        omega
      generalize H.getD j 0 = kk at *
      generalize (H.take j).flatMap (linesFrom a b o) = L at *
      go_wp2_with fail
      go_loopw [3, 6] (fun v i wr => ∃ q : Nat, q ≤ 4 ∧ i = .int .i64 q ∧ Own ELine wr w1.heap.size v (L ++ linesPart a b o kk q) ∧ Below w1.heap.size w1 wr) (fun _ i _ => 4 - (intOf i).toNat)
      case atStart => exact ⟨0, by omega, rfl, by simpa [linesPart] using hown, hbw⟩
      case round =>
        obtain ⟨q, hq, rfl, hown2, hbw2⟩ := hrel
        have hbox2 : ∀ j, wr.cell? ⟨w.heap.size, j, none⟩ = #[Value.int .i64 a, .int .i64 b, .int .i64 o][j]? := fun j => (hbw2.cell (by simp; omega)).trans (hbox1 j)
        have hz2 := hbw2.size
        have gR0 : w.heap.size < wr.heap.size := by omega
        have hcw2 : wr.cell? ⟨bH, j, none⟩ = some (.int .i64 kk) := (hbw2.cell (p := ⟨bH, j, none⟩) hb2).trans hcell
        have dQ0 : bH < wr.heap.size := by omega
        have hlp := linesPart_length a b o kk q
        by_cases hq4 : q < 4
        · obtain ⟨ov, hov⟩ : ∃ ov, ov = stepTo a b o kk q := ⟨_, rfl⟩
          obtain ⟨tt, htt⟩ : ∃ tt, tt = stepTo a b o ov q := ⟨_, rfl⟩
          have hsd := stepTo_bd (o := o) (k := kk) (way := q) (boardOk_sides hk2).1 (boardOk_sides hk2).2
          rw [← hov] at hsd
          obtain ⟨sd1, sd2, sd3⟩ := hsd
          have hB1 : Hid (stepTo a b o kk q = ov) := hov.symm
          have hkb := hasHole_bd hk1
          have hk2c := area (boardOk_sides hk2).1 (boardOk_sides hk2).2
          by_cases h1 : 0 ≤ ov
          · have hh : hasHole a b o ov = true := by
              simp only [hasHole, hk2, sd3 h1, Bool.true_and, Bool.and_true]
              exact inR_iff.2 ⟨h1, by omega⟩
            have hB2 : Hid (stepTo a b o ov q = tt) := htt.symm
            have hT := (stepTo_bd (o := o) (k := ov) (way := q) (boardOk_sides hk2).1 (boardOk_sides hk2).2).1
            rw [← htt] at hT
            by_cases h2 : 0 ≤ tt
            · have HP : Hid (linesPart a b o kk (q + 1) = linesPart a b o kk q ++ [⟨kk, ov, tt⟩]) := by
                show _ = _; rw [linesPart_succ]; simp [lineTo, ← hov, ← htt, h1, h2]
              obtain ⟨hkb1, hkb2, hkb3, _⟩ := hkb
              clear hov htt hk1 hk2 sd3 hh
              go_wp2_with ((with_reducible refine wp_region_qb ?_ ?_ (fun hq => ?_)); (focus kernel_rfl); (focus kernel_rfl); (repeat (go_big_quiet_step ((go_at_call 85; exact Calls.regrown_of (l03Step_r _ _ _ _ _ (by omega) hk2h.out (by omega) (by omega) _ hB1.out))))); refine wpQuiet_nil ?_; intro wq hb; obtain ⟨hc, hf, hz, hy⟩ := bcell hb; clear hq hy; (try simp only [World.size_alloc, World.size_setCell, World.size_drew] at hz); (try have gQ0 : w.heap.size < wq.heap.size := by omega); (try have gQ1 : w.heap.size + 1 < wq.heap.size := by omega); (try have gQ2 : w.heap.size + 1 + 1 < wq.heap.size := by omega); (try have gQ3 : w.heap.size + 1 + 1 + 1 < wq.heap.size := by omega); (try have gQ4 : w.heap.size + 1 + 1 + 1 + 1 < wq.heap.size := by omega); (try have gQ5 : w.heap.size + 1 + 1 + 1 + 1 + 1 < wq.heap.size := by omega); (try have dQ0 : _ < wq.heap.size := Nat.lt_of_lt_of_le dQ0 (by omega)); (try have dQ1 : _ < wq.heap.size := Nat.lt_of_lt_of_le dQ1 (by omega)); (try have dQ2 : _ < wq.heap.size := Nat.lt_of_lt_of_le dQ2 (by omega)); (try have dQ3 : _ < wq.heap.size := Nat.lt_of_lt_of_le dQ3 (by omega)); (try have dQ4 : _ < wq.heap.size := Nat.lt_of_lt_of_le dQ4 (by omega)); (try have dQ5 : _ < wq.heap.size := Nat.lt_of_lt_of_le dQ5 (by omega)); (try (have hnQ := Nat.lt_of_succ_le hz; first | (have _x := dQ0; first | (have _x := dQ1; first | (have _x := dQ2; first | (have _x := dQ3; first | (have _x := dQ4; have dQ5 := hnQ) | have dQ4 := hnQ) | have dQ3 := hnQ) | have dQ2 := hnQ) | have dQ1 := hnQ) | have dQ0 := hnQ)); (try (have hmQ := Nat.lt_of_succ_lt (Nat.lt_of_succ_le hz); first | (have _x := dQ0; first | (have _x := dQ1; first | (have _x := dQ2; first | (have _x := dQ3; first | (have _x := dQ4; have dQ5 := hmQ) | have dQ4 := hmQ) | have dQ3 := hmQ) | have dQ2 := hmQ) | have dQ1 := hmQ) | have dQ0 := hmQ)))
              go_wp2_with fail
              refine (l03Step_r _ _ _ _ _ (by omega) hk2h.out (by omega) (by omega) _ hB2.out).mono ?_
              rintro e w' ⟨rfl, hb⟩; obtain ⟨hc, hf, hz, hy⟩ := bcell hb; clear hy; (try simp only [World.size_alloc, World.size_setCell, World.size_drew] at hz); (try have gQ0 : w.heap.size < w'.heap.size := by omega); (try have gQ1 : w.heap.size + 1 < w'.heap.size := by omega); (try have gQ2 : w.heap.size + 1 + 1 < w'.heap.size := by omega); (try have gQ3 : w.heap.size + 1 + 1 + 1 < w'.heap.size := by omega); (try have gQ4 : w.heap.size + 1 + 1 + 1 + 1 < w'.heap.size := by omega); (try have gQ5 : w.heap.size + 1 + 1 + 1 + 1 + 1 < w'.heap.size := by omega); (try have dQ0 : _ < w'.heap.size := Nat.lt_of_lt_of_le dQ0 (by omega)); (try have dQ1 : _ < w'.heap.size := Nat.lt_of_lt_of_le dQ1 (by omega)); (try have dQ2 : _ < w'.heap.size := Nat.lt_of_lt_of_le dQ2 (by omega)); (try have dQ3 : _ < w'.heap.size := Nat.lt_of_lt_of_le dQ3 (by omega)); (try have dQ4 : _ < w'.heap.size := Nat.lt_of_lt_of_le dQ4 (by omega)); (try have dQ5 : _ < w'.heap.size := Nat.lt_of_lt_of_le dQ5 (by omega)); (try (have hnQ := Nat.lt_of_succ_le hz; first | (have _x := dQ0; first | (have _x := dQ1; first | (have _x := dQ2; first | (have _x := dQ3; first | (have _x := dQ4; have dQ5 := hnQ) | have dQ4 := hnQ) | have dQ3 := hnQ) | have dQ2 := hnQ) | have dQ1 := hnQ) | have dQ0 := hnQ)); (try (have hmQ := Nat.lt_of_succ_lt (Nat.lt_of_succ_le hz); first | (have _x := dQ0; first | (have _x := dQ1; first | (have _x := dQ2; first | (have _x := dQ3; first | (have _x := dQ4; have dQ5 := hmQ) | have dQ4 := hmQ) | have dQ3 := hmQ) | have dQ2 := hmQ) | have dQ1 := hmQ) | have dQ0 := hmQ))
              have hown3 : Own ELine w' _ _ _ := (hown2.keep (by assumption)).keep (by assumption)
              have hlen3 : (L ++ linesPart a b o kk q).length ≤ 1099511627776 := by simp; omega
              go_wp2_with (at_builtin; (refine append1 (E := ELine) (v := u3) (l := L ++ linesPart a b o kk q) rfl rfl _ _ 36 rfl Try.underlying36 rfl hown3 ⟨kk, ov, tt⟩ rfl hlen3 (by omega) ?_); intro v' w2 hown4 hb4 hg4)
              go_roundw
              case rel => exact ⟨q + 1, by omega, by go_num, by rw [HP.out, ← List.append_assoc]; exact hown4, ((hbw2.trans (Below.mono (by assumption) (by omega))).trans (Below.mono (by assumption) (by omega))).trans hb4⟩
              case measure => simp [intOf]; omega
            · have HP : Hid (linesPart a b o kk (q + 1) = linesPart a b o kk q) := by
                show _ = _; rw [linesPart_succ]; simp [lineTo, ← hov, ← htt, h1, h2]
              have h2' : tt < 0 := by omega
              obtain ⟨hkb1, hkb2, hkb3, _⟩ := hkb
              clear hov htt hk1 hk2 sd3 hh h2
              go_wp2_with ((with_reducible refine wp_region_qb ?_ ?_ (fun hq => ?_)); (focus kernel_rfl); (focus kernel_rfl); (repeat (go_big_quiet_step ((go_at_call 85; exact Calls.regrown_of (l03Step_r _ _ _ _ _ (by omega) hk2h.out (by omega) (by omega) _ hB1.out))))); refine wpQuiet_nil ?_; intro wq hb; obtain ⟨hc, hf, hz, hy⟩ := bcell hb; clear hq hy; (try simp only [World.size_alloc, World.size_setCell, World.size_drew] at hz); (try have gQ0 : w.heap.size < wq.heap.size := by omega); (try have gQ1 : w.heap.size + 1 < wq.heap.size := by omega); (try have gQ2 : w.heap.size + 1 + 1 < wq.heap.size := by omega); (try have gQ3 : w.heap.size + 1 + 1 + 1 < wq.heap.size := by omega); (try have gQ4 : w.heap.size + 1 + 1 + 1 + 1 < wq.heap.size := by omega); (try have gQ5 : w.heap.size + 1 + 1 + 1 + 1 + 1 < wq.heap.size := by omega); (try have dQ0 : _ < wq.heap.size := Nat.lt_of_lt_of_le dQ0 (by omega)); (try have dQ1 : _ < wq.heap.size := Nat.lt_of_lt_of_le dQ1 (by omega)); (try have dQ2 : _ < wq.heap.size := Nat.lt_of_lt_of_le dQ2 (by omega)); (try have dQ3 : _ < wq.heap.size := Nat.lt_of_lt_of_le dQ3 (by omega)); (try have dQ4 : _ < wq.heap.size := Nat.lt_of_lt_of_le dQ4 (by omega)); (try have dQ5 : _ < wq.heap.size := Nat.lt_of_lt_of_le dQ5 (by omega)); (try (have hnQ := Nat.lt_of_succ_le hz; first | (have _x := dQ0; first | (have _x := dQ1; first | (have _x := dQ2; first | (have _x := dQ3; first | (have _x := dQ4; have dQ5 := hnQ) | have dQ4 := hnQ) | have dQ3 := hnQ) | have dQ2 := hnQ) | have dQ1 := hnQ) | have dQ0 := hnQ)); (try (have hmQ := Nat.lt_of_succ_lt (Nat.lt_of_succ_le hz); first | (have _x := dQ0; first | (have _x := dQ1; first | (have _x := dQ2; first | (have _x := dQ3; first | (have _x := dQ4; have dQ5 := hmQ) | have dQ4 := hmQ) | have dQ3 := hmQ) | have dQ2 := hmQ) | have dQ1 := hmQ) | have dQ0 := hmQ)))
              go_wp2_with fail
              refine (l03Step_r _ _ _ _ _ (by omega) hk2h.out (by omega) (by omega) _ hB2.out).mono ?_
              rintro e w' ⟨rfl, hb⟩; obtain ⟨hc, hf, hz, hy⟩ := bcell hb; clear hy; (try simp only [World.size_alloc, World.size_setCell, World.size_drew] at hz); (try have gQ0 : w.heap.size < w'.heap.size := by omega); (try have gQ1 : w.heap.size + 1 < w'.heap.size := by omega); (try have gQ2 : w.heap.size + 1 + 1 < w'.heap.size := by omega); (try have gQ3 : w.heap.size + 1 + 1 + 1 < w'.heap.size := by omega); (try have gQ4 : w.heap.size + 1 + 1 + 1 + 1 < w'.heap.size := by omega); (try have gQ5 : w.heap.size + 1 + 1 + 1 + 1 + 1 < w'.heap.size := by omega); (try have dQ0 : _ < w'.heap.size := Nat.lt_of_lt_of_le dQ0 (by omega)); (try have dQ1 : _ < w'.heap.size := Nat.lt_of_lt_of_le dQ1 (by omega)); (try have dQ2 : _ < w'.heap.size := Nat.lt_of_lt_of_le dQ2 (by omega)); (try have dQ3 : _ < w'.heap.size := Nat.lt_of_lt_of_le dQ3 (by omega)); (try have dQ4 : _ < w'.heap.size := Nat.lt_of_lt_of_le dQ4 (by omega)); (try have dQ5 : _ < w'.heap.size := Nat.lt_of_lt_of_le dQ5 (by omega)); (try (have hnQ := Nat.lt_of_succ_le hz; first | (have _x := dQ0; first | (have _x := dQ1; first | (have _x := dQ2; first | (have _x := dQ3; first | (have _x := dQ4; have dQ5 := hnQ) | have dQ4 := hnQ) | have dQ3 := hnQ) | have dQ2 := hnQ) | have dQ1 := hnQ) | have dQ0 := hnQ)); (try (have hmQ := Nat.lt_of_succ_lt (Nat.lt_of_succ_le hz); first | (have _x := dQ0; first | (have _x := dQ1; first | (have _x := dQ2; first | (have _x := dQ3; first | (have _x := dQ4; have dQ5 := hmQ) | have dQ4 := hmQ) | have dQ3 := hmQ) | have dQ2 := hmQ) | have dQ1 := hmQ) | have dQ0 := hmQ))
              have hown3 : Own ELine w' _ _ _ := (hown2.keep (by assumption)).keep (by assumption)
              go_wp2_with fail
              go_roundw
              case rel => exact ⟨q + 1, by omega, by go_num, by rw [HP.out]; exact hown3, (hbw2.trans (Below.mono (by assumption) (by omega))).trans (Below.mono (by assumption) (by omega))⟩
              case measure => simp [intOf]; omega
          · have HP : Hid (linesPart a b o kk (q + 1) = linesPart a b o kk q) := by
              show _ = _; rw [linesPart_succ]; simp [lineTo, ← hov, h1]
            have h1' : ov < 0 := by omega
            obtain ⟨hkb1, hkb2, hkb3, _⟩ := hkb
            clear hov htt hk1 hk2 sd3 h1
            go_wp2_with ((with_reducible refine wp_region_qb ?_ ?_ (fun hq => ?_)); (focus kernel_rfl); (focus kernel_rfl); (repeat (go_big_quiet_step ((go_at_call 85; exact Calls.regrown_of (l03Step_r _ _ _ _ _ (by omega) hk2h.out (by omega) (by omega) _ hB1.out))))); refine wpQuiet_nil ?_; intro wq hb; obtain ⟨hc, hf, hz, hy⟩ := bcell hb; clear hq hy; (try simp only [World.size_alloc, World.size_setCell, World.size_drew] at hz); (try have gQ0 : w.heap.size < wq.heap.size := by omega); (try have gQ1 : w.heap.size + 1 < wq.heap.size := by omega); (try have gQ2 : w.heap.size + 1 + 1 < wq.heap.size := by omega); (try have gQ3 : w.heap.size + 1 + 1 + 1 < wq.heap.size := by omega); (try have gQ4 : w.heap.size + 1 + 1 + 1 + 1 < wq.heap.size := by omega); (try have gQ5 : w.heap.size + 1 + 1 + 1 + 1 + 1 < wq.heap.size := by omega); (try have dQ0 : _ < wq.heap.size := Nat.lt_of_lt_of_le dQ0 (by omega)); (try have dQ1 : _ < wq.heap.size := Nat.lt_of_lt_of_le dQ1 (by omega)); (try have dQ2 : _ < wq.heap.size := Nat.lt_of_lt_of_le dQ2 (by omega)); (try have dQ3 : _ < wq.heap.size := Nat.lt_of_lt_of_le dQ3 (by omega)); (try have dQ4 : _ < wq.heap.size := Nat.lt_of_lt_of_le dQ4 (by omega)); (try have dQ5 : _ < wq.heap.size := Nat.lt_of_lt_of_le dQ5 (by omega)); (try (have hnQ := Nat.lt_of_succ_le hz; first | (have _x := dQ0; first | (have _x := dQ1; first | (have _x := dQ2; first | (have _x := dQ3; first | (have _x := dQ4; have dQ5 := hnQ) | have dQ4 := hnQ) | have dQ3 := hnQ) | have dQ2 := hnQ) | have dQ1 := hnQ) | have dQ0 := hnQ)); (try (have hmQ := Nat.lt_of_succ_lt (Nat.lt_of_succ_le hz); first | (have _x := dQ0; first | (have _x := dQ1; first | (have _x := dQ2; first | (have _x := dQ3; first | (have _x := dQ4; have dQ5 := hmQ) | have dQ4 := hmQ) | have dQ3 := hmQ) | have dQ2 := hmQ) | have dQ1 := hmQ) | have dQ0 := hmQ)))
            have hown3 : Own ELine wq _ _ _ := hown2.keep (by assumption)
            go_wp2_with fail
            go_roundw
            case rel => exact ⟨q + 1, by omega, by go_num, by rw [HP.out]; exact hown3, hbw2.trans (Below.mono (by assumption) (by omega))⟩
            case measure => simp [intOf]; omega
        · have e4 : q = 4 := by omega
          have HE2 : Hid (L ++ linesFrom a b o kk = L ++ linesPart a b o kk q) := by show _ = _; rw [e4]; rfl
          clear e4
          go_wp2_with fail
          go_roundw
          case rel => exact ⟨j + 1, by omega, by go_num, by rw [HE.out, HE2.out]; exact hown2, hbw2⟩
          case measure => simp [intOf]; omega
    · have ej : H.take j = H := List.take_of_length_le (by omega)
      have HF : Hid (linesOf a b o = (H.take j).flatMap (linesFrom a b o)) := by show _ = _; rw [HL.out, ej]
      have hzo := hbw.size
      clear ej
      go_wp2_with fail
      go_ret
      exact ⟨_, rfl, by rw [HF.out]; exact hown.mono (by omega), by (repeat' first | (with_reducible exact Below.refl _ _) | (with_reducible refine Below.alloc ?_ ?_ _) | (with_reducible refine Below.drew ?_) | (with_reducible refine Below.setCell ?_ ?_ _) | (with_reducible refine below_via (by assumption) ?_ ?_) | go_size)⟩
end Go.Proofs.Ytledmebhlmpjaaa
