/- Post1: contract of the reference's PositionText. Conditions: a number in range. -/
import Derived.Test.YtkaojpcpfbbicaaPost0
set_option linter.unusedVariables false
set_option linter.unusedSimpArgs false
namespace Peg
theorem pos_sub {a b o p : Int} (h : posOk a b o p = true) (k : Nat) (hk : tb p (k : Int) = true) : tb o (k : Int) = true := by
  have h2 := (posOk_bd h).2.2
  have h3 : (band p o).toNat.testBit k = (p.toNat.testBit k && o.toNat.testBit k) := by simp [band, Nat.testBit_and]
  rw [h2] at h3
  have e1 : tb p (k : Int) = p.toNat.testBit k := by simp [tb]
  have e2 : tb o (k : Int) = o.toNat.testBit k := by simp [tb]
  rw [e1] at hk
  rw [e2]
  rw [hk] at h3
  simpa using h3.symm
theorem bcat1 (R : List UInt8) (c : UInt8) : ((⟨R.toArray⟩ : ByteArray) ++ ⟨#[c]⟩) = ⟨(R ++ [c]).toArray⟩ := by
  ext1
  simp
theorem bsize (R : List UInt8) : (⟨R.toArray⟩ : ByteArray).size = R.length := by simp [ByteArray.size]
end Peg
namespace Go.Proofs.Ytkaojpcpfbbicaa
open Go.ChangeShapes Go.WideShapes Go.ChangeAt Go.RowKit Peg Go.Sort
set_option maxHeartbeats 2000000 in
set_option maxRecDepth 100000 in
theorem sPositionText_any (a b o p : Int) (hp : p ≤ 9223372036854775807) (w : World) :
    Calls Try.prog 26 #[.agg #[.int .i64 a, .int .i64 b, .int .i64 o], .int .i64 p] w (RetStrs w (posText a b o p)) := by
  cases h : posOk a b o p
  · have HP : Hid (∀ W, Calls Try.prog 39 #[.agg #[.int .i64 a, .int .i64 b, .int .i64 o], .int .i64 p] W fun e w' => e = .returned (.bool false) ∧ Below W.heap.size W w') := fun W => by rw [← h]; exact sPositionOk_any a b o p hp W
    have HR : Hid (posText a b o p = []) := by show _ = _; simp [posText, h]
    clear h
    by_cases hb0 : 0 < b
    · have hd : decide ((0 : Int) < b) = true := decide_eq_true hb0
      go_enter Try.func26, Try.ntmps26
      go_wp2_with fail
      refine wp_loop_once ?_
      go_wp2_with (first | (go_at_call 39; refine (HP.out _).mono ?_; rintro e w' ⟨rfl, hb⟩; obtain ⟨hc, hf, hz, hy⟩ := bcell hb; clear hy; (try simp only [World.size_alloc, World.size_setCell, World.size_drew] at hz); (try have gQ0 : w.heap.size < w'.heap.size := by omega); (try have gQ1 : w.heap.size + 1 < w'.heap.size := by omega); (try have gQ2 : w.heap.size + 1 + 1 < w'.heap.size := by omega); (try have gQ3 : w.heap.size + 1 + 1 + 1 < w'.heap.size := by omega); (try have gQ4 : w.heap.size + 1 + 1 + 1 + 1 < w'.heap.size := by omega); (try have gQ5 : w.heap.size + 1 + 1 + 1 + 1 + 1 < w'.heap.size := by omega); (try have dQ0 : _ < w'.heap.size := Nat.lt_of_lt_of_le dQ0 (by omega)); (try have dQ1 : _ < w'.heap.size := Nat.lt_of_lt_of_le dQ1 (by omega)); (try have dQ2 : _ < w'.heap.size := Nat.lt_of_lt_of_le dQ2 (by omega)); (try have dQ3 : _ < w'.heap.size := Nat.lt_of_lt_of_le dQ3 (by omega)); (try have dQ4 : _ < w'.heap.size := Nat.lt_of_lt_of_le dQ4 (by omega)); (try have dQ5 : _ < w'.heap.size := Nat.lt_of_lt_of_le dQ5 (by omega)); (try (have hnQ := Nat.lt_of_succ_le hz; first | (have _x := dQ0; first | (have _x := dQ1; first | (have _x := dQ2; first | (have _x := dQ3; first | (have _x := dQ4; have dQ5 := hnQ) | have dQ4 := hnQ) | have dQ3 := hnQ) | have dQ2 := hnQ) | have dQ1 := hnQ) | have dQ0 := hnQ)); (try (have hmQ := Nat.lt_of_succ_lt (Nat.lt_of_succ_le hz); first | (have _x := dQ0; first | (have _x := dQ1; first | (have _x := dQ2; first | (have _x := dQ3; first | (have _x := dQ4; have dQ5 := hmQ) | have dQ4 := hmQ) | have dQ3 := hmQ) | have dQ2 := hmQ) | have dQ1 := hmQ) | have dQ0 := hmQ)); (try have sQ00 : (w'.cell? ⟨w.heap.size, 0, none⟩).isSome = true := by simp [go_sem, *]); (try have sQ01 : (w'.cell? ⟨w.heap.size, 1, none⟩).isSome = true := by simp [go_sem, *]); (try have sQ02 : (w'.cell? ⟨w.heap.size, 2, none⟩).isSome = true := by simp [go_sem, *]); (try have sQ03 : (w'.cell? ⟨w.heap.size, 3, none⟩).isSome = true := by simp [go_sem, *]); (try have sQ04 : (w'.cell? ⟨w.heap.size, 4, none⟩).isSome = true := by simp [go_sem, *]); (try have sQ10 : (w'.cell? ⟨w.heap.size + 1, 0, none⟩).isSome = true := by simp [go_sem, *]); (try have sQ11 : (w'.cell? ⟨w.heap.size + 1, 1, none⟩).isSome = true := by simp [go_sem, *]); (try have sQ12 : (w'.cell? ⟨w.heap.size + 1, 2, none⟩).isSome = true := by simp [go_sem, *]); (try have sQ13 : (w'.cell? ⟨w.heap.size + 1, 3, none⟩).isSome = true := by simp [go_sem, *]); (try have sQ14 : (w'.cell? ⟨w.heap.size + 1, 4, none⟩).isSome = true := by simp [go_sem, *]); (try have sQ20 : (w'.cell? ⟨w.heap.size + 1 + 1, 0, none⟩).isSome = true := by simp [go_sem, *]); (try have sQ21 : (w'.cell? ⟨w.heap.size + 1 + 1, 1, none⟩).isSome = true := by simp [go_sem, *]); (try have sQ22 : (w'.cell? ⟨w.heap.size + 1 + 1, 2, none⟩).isSome = true := by simp [go_sem, *]); (try have sQ23 : (w'.cell? ⟨w.heap.size + 1 + 1, 3, none⟩).isSome = true := by simp [go_sem, *]); (try have sQ24 : (w'.cell? ⟨w.heap.size + 1 + 1, 4, none⟩).isSome = true := by simp [go_sem, *]); (try have fQ0 : ∀ j, w'.frozen? ⟨w.heap.size, j, none⟩ = false := by intro j; simp [go_sem, *]); (try have fQ1 : ∀ j, w'.frozen? ⟨w.heap.size + 1, j, none⟩ = false := by intro j; simp [go_sem, *]); (try have fQ2 : ∀ j, w'.frozen? ⟨w.heap.size + 1 + 1, j, none⟩ = false := by intro j; simp [go_sem, *])) | ((with_reducible refine wp_region_qb ?_ ?_ (fun hq => ?_)); (focus kernel_rfl); (focus kernel_rfl); (repeat (go_big_quiet_step ((first | (go_at_call 39; exact Calls.regrown_of (HP.out _)))))); refine wpQuiet_nil ?_; intro wq hb; obtain ⟨hc, hf, hz, hy⟩ := bcell hb; clear hq hy; (try simp only [World.size_alloc, World.size_setCell, World.size_drew] at hz); (try have gQ0 : w.heap.size < wq.heap.size := by omega); (try have gQ1 : w.heap.size + 1 < wq.heap.size := by omega); (try have gQ2 : w.heap.size + 1 + 1 < wq.heap.size := by omega); (try have gQ3 : w.heap.size + 1 + 1 + 1 < wq.heap.size := by omega); (try have gQ4 : w.heap.size + 1 + 1 + 1 + 1 < wq.heap.size := by omega); (try have gQ5 : w.heap.size + 1 + 1 + 1 + 1 + 1 < wq.heap.size := by omega); (try have dQ0 : _ < wq.heap.size := Nat.lt_of_lt_of_le dQ0 (by omega)); (try have dQ1 : _ < wq.heap.size := Nat.lt_of_lt_of_le dQ1 (by omega)); (try have dQ2 : _ < wq.heap.size := Nat.lt_of_lt_of_le dQ2 (by omega)); (try have dQ3 : _ < wq.heap.size := Nat.lt_of_lt_of_le dQ3 (by omega)); (try have dQ4 : _ < wq.heap.size := Nat.lt_of_lt_of_le dQ4 (by omega)); (try have dQ5 : _ < wq.heap.size := Nat.lt_of_lt_of_le dQ5 (by omega)); (try (have hnQ := Nat.lt_of_succ_le hz; first | (have _x := dQ0; first | (have _x := dQ1; first | (have _x := dQ2; first | (have _x := dQ3; first | (have _x := dQ4; have dQ5 := hnQ) | have dQ4 := hnQ) | have dQ3 := hnQ) | have dQ2 := hnQ) | have dQ1 := hnQ) | have dQ0 := hnQ)); (try (have hmQ := Nat.lt_of_succ_lt (Nat.lt_of_succ_le hz); first | (have _x := dQ0; first | (have _x := dQ1; first | (have _x := dQ2; first | (have _x := dQ3; first | (have _x := dQ4; have dQ5 := hmQ) | have dQ4 := hmQ) | have dQ3 := hmQ) | have dQ2 := hmQ) | have dQ1 := hmQ) | have dQ0 := hmQ))))
      all_goals go_ret
      all_goals exact ⟨_, rfl, by rw [HR.out]; exact Own.emptyAny _ _ _ _, by (repeat' first | (with_reducible exact Below.refl _ _) | (with_reducible refine Below.alloc ?_ ?_ _) | (with_reducible refine Below.drew ?_) | (with_reducible refine Below.setCell ?_ ?_ _) | (with_reducible refine below_via (by assumption) ?_ ?_) | go_size)⟩
    · have hd : decide ((0 : Int) < b) = false := decide_eq_false hb0
      go_enter Try.func26, Try.ntmps26
      go_wp2_with fail
      refine wp_loop_once ?_
      go_wp2_with (first | (go_at_call 39; refine (HP.out _).mono ?_; rintro e w' ⟨rfl, hb⟩; obtain ⟨hc, hf, hz, hy⟩ := bcell hb; clear hy; (try simp only [World.size_alloc, World.size_setCell, World.size_drew] at hz); (try have gQ0 : w.heap.size < w'.heap.size := by omega); (try have gQ1 : w.heap.size + 1 < w'.heap.size := by omega); (try have gQ2 : w.heap.size + 1 + 1 < w'.heap.size := by omega); (try have gQ3 : w.heap.size + 1 + 1 + 1 < w'.heap.size := by omega); (try have gQ4 : w.heap.size + 1 + 1 + 1 + 1 < w'.heap.size := by omega); (try have gQ5 : w.heap.size + 1 + 1 + 1 + 1 + 1 < w'.heap.size := by omega); (try have dQ0 : _ < w'.heap.size := Nat.lt_of_lt_of_le dQ0 (by omega)); (try have dQ1 : _ < w'.heap.size := Nat.lt_of_lt_of_le dQ1 (by omega)); (try have dQ2 : _ < w'.heap.size := Nat.lt_of_lt_of_le dQ2 (by omega)); (try have dQ3 : _ < w'.heap.size := Nat.lt_of_lt_of_le dQ3 (by omega)); (try have dQ4 : _ < w'.heap.size := Nat.lt_of_lt_of_le dQ4 (by omega)); (try have dQ5 : _ < w'.heap.size := Nat.lt_of_lt_of_le dQ5 (by omega)); (try (have hnQ := Nat.lt_of_succ_le hz; first | (have _x := dQ0; first | (have _x := dQ1; first | (have _x := dQ2; first | (have _x := dQ3; first | (have _x := dQ4; have dQ5 := hnQ) | have dQ4 := hnQ) | have dQ3 := hnQ) | have dQ2 := hnQ) | have dQ1 := hnQ) | have dQ0 := hnQ)); (try (have hmQ := Nat.lt_of_succ_lt (Nat.lt_of_succ_le hz); first | (have _x := dQ0; first | (have _x := dQ1; first | (have _x := dQ2; first | (have _x := dQ3; first | (have _x := dQ4; have dQ5 := hmQ) | have dQ4 := hmQ) | have dQ3 := hmQ) | have dQ2 := hmQ) | have dQ1 := hmQ) | have dQ0 := hmQ)); (try have sQ00 : (w'.cell? ⟨w.heap.size, 0, none⟩).isSome = true := by simp [go_sem, *]); (try have sQ01 : (w'.cell? ⟨w.heap.size, 1, none⟩).isSome = true := by simp [go_sem, *]); (try have sQ02 : (w'.cell? ⟨w.heap.size, 2, none⟩).isSome = true := by simp [go_sem, *]); (try have sQ03 : (w'.cell? ⟨w.heap.size, 3, none⟩).isSome = true := by simp [go_sem, *]); (try have sQ04 : (w'.cell? ⟨w.heap.size, 4, none⟩).isSome = true := by simp [go_sem, *]); (try have sQ10 : (w'.cell? ⟨w.heap.size + 1, 0, none⟩).isSome = true := by simp [go_sem, *]); (try have sQ11 : (w'.cell? ⟨w.heap.size + 1, 1, none⟩).isSome = true := by simp [go_sem, *]); (try have sQ12 : (w'.cell? ⟨w.heap.size + 1, 2, none⟩).isSome = true := by simp [go_sem, *]); (try have sQ13 : (w'.cell? ⟨w.heap.size + 1, 3, none⟩).isSome = true := by simp [go_sem, *]); (try have sQ14 : (w'.cell? ⟨w.heap.size + 1, 4, none⟩).isSome = true := by simp [go_sem, *]); (try have sQ20 : (w'.cell? ⟨w.heap.size + 1 + 1, 0, none⟩).isSome = true := by simp [go_sem, *]); (try have sQ21 : (w'.cell? ⟨w.heap.size + 1 + 1, 1, none⟩).isSome = true := by simp [go_sem, *]); (try have sQ22 : (w'.cell? ⟨w.heap.size + 1 + 1, 2, none⟩).isSome = true := by simp [go_sem, *]); (try have sQ23 : (w'.cell? ⟨w.heap.size + 1 + 1, 3, none⟩).isSome = true := by simp [go_sem, *]); (try have sQ24 : (w'.cell? ⟨w.heap.size + 1 + 1, 4, none⟩).isSome = true := by simp [go_sem, *]); (try have fQ0 : ∀ j, w'.frozen? ⟨w.heap.size, j, none⟩ = false := by intro j; simp [go_sem, *]); (try have fQ1 : ∀ j, w'.frozen? ⟨w.heap.size + 1, j, none⟩ = false := by intro j; simp [go_sem, *]); (try have fQ2 : ∀ j, w'.frozen? ⟨w.heap.size + 1 + 1, j, none⟩ = false := by intro j; simp [go_sem, *])) | ((with_reducible refine wp_region_qb ?_ ?_ (fun hq => ?_)); (focus kernel_rfl); (focus kernel_rfl); (repeat (go_big_quiet_step ((first | (go_at_call 39; exact Calls.regrown_of (HP.out _)))))); refine wpQuiet_nil ?_; intro wq hb; obtain ⟨hc, hf, hz, hy⟩ := bcell hb; clear hq hy; (try simp only [World.size_alloc, World.size_setCell, World.size_drew] at hz); (try have gQ0 : w.heap.size < wq.heap.size := by omega); (try have gQ1 : w.heap.size + 1 < wq.heap.size := by omega); (try have gQ2 : w.heap.size + 1 + 1 < wq.heap.size := by omega); (try have gQ3 : w.heap.size + 1 + 1 + 1 < wq.heap.size := by omega); (try have gQ4 : w.heap.size + 1 + 1 + 1 + 1 < wq.heap.size := by omega); (try have gQ5 : w.heap.size + 1 + 1 + 1 + 1 + 1 < wq.heap.size := by omega); (try have dQ0 : _ < wq.heap.size := Nat.lt_of_lt_of_le dQ0 (by omega)); (try have dQ1 : _ < wq.heap.size := Nat.lt_of_lt_of_le dQ1 (by omega)); (try have dQ2 : _ < wq.heap.size := Nat.lt_of_lt_of_le dQ2 (by omega)); (try have dQ3 : _ < wq.heap.size := Nat.lt_of_lt_of_le dQ3 (by omega)); (try have dQ4 : _ < wq.heap.size := Nat.lt_of_lt_of_le dQ4 (by omega)); (try have dQ5 : _ < wq.heap.size := Nat.lt_of_lt_of_le dQ5 (by omega)); (try (have hnQ := Nat.lt_of_succ_le hz; first | (have _x := dQ0; first | (have _x := dQ1; first | (have _x := dQ2; first | (have _x := dQ3; first | (have _x := dQ4; have dQ5 := hnQ) | have dQ4 := hnQ) | have dQ3 := hnQ) | have dQ2 := hnQ) | have dQ1 := hnQ) | have dQ0 := hnQ)); (try (have hmQ := Nat.lt_of_succ_lt (Nat.lt_of_succ_le hz); first | (have _x := dQ0; first | (have _x := dQ1; first | (have _x := dQ2; first | (have _x := dQ3; first | (have _x := dQ4; have dQ5 := hmQ) | have dQ4 := hmQ) | have dQ3 := hmQ) | have dQ2 := hmQ) | have dQ1 := hmQ) | have dQ0 := hmQ))))
      all_goals go_ret
      all_goals exact ⟨_, rfl, by rw [HR.out]; exact Own.emptyAny _ _ _ _, by (repeat' first | (with_reducible exact Below.refl _ _) | (with_reducible refine Below.alloc ?_ ?_ _) | (with_reducible refine Below.drew ?_) | (with_reducible refine Below.setCell ?_ ?_ _) | (with_reducible refine below_via (by assumption) ?_ ?_) | go_size)⟩
  have HP : Hid (∀ W, Calls Try.prog 39 #[.agg #[.int .i64 a, .int .i64 b, .int .i64 o], .int .i64 p] W fun e w' => e = .returned (.bool true) ∧ Below W.heap.size W w') := fun W => by rw [← h]; exact sPositionOk_any a b o p hp W
  obtain ⟨hb1, hp0, _⟩ := posOk_bd h
  obtain ⟨ha1, ha2⟩ := inR_iff.1 (boardOk_sides hb1).1
  obtain ⟨hb2, hb3⟩ := inR_iff.1 (boardOk_sides hb1).2
  obtain ⟨ho1, ho2⟩ := holes_lt hb1
  have HR : Hid (posText a b o p = rowsB p o a.toNat b.toNat) := by show _ = _; simp [posText, h]
  have HSub := Lib.hid (pos_sub h)
  clear h hb1
  obtain ⟨A, rfl⟩ : ∃ A : Nat, a = A := ⟨a.toNat, by omega⟩
  obtain ⟨B, rfl⟩ : ∃ B : Nat, b = B := ⟨b.toNat, by omega⟩
  rw [Int.toNat_natCast, Int.toNat_natCast] at HR
  go_enter Try.func26, Try.ntmps26
  go_wp2_with fail
  go_loopw [5, 6] (fun t5 t6 wz => ∃ y : Nat, y ≤ B ∧ t6 = .int .i64 y ∧ Own EStr wz (w.heap.size + 1) t5 (rowsB p o A y) ∧ Below (w.heap.size + 1) (w.alloc (.cells #[.int .i64 (A : Int), .int .i64 (B : Int), .int .i64 o] 30)) wz) (fun _ t _ => B - (intOf t).toNat)
  case atStart => exact ⟨0, by omega, rfl, Own.emptyAny _ _ _ _, by (repeat' first | (with_reducible exact Below.refl _ _) | (with_reducible refine Below.alloc ?_ ?_ _) | (with_reducible refine Below.drew ?_) | (with_reducible refine Below.setCell ?_ ?_ _) | (with_reducible refine below_via (by assumption) ?_ ?_) | go_size)⟩
  case round =>
    obtain ⟨y, hy, rfl, hown, hbw⟩ := hrel
    have hz := hbw.size
    simp only [World.size_alloc] at hz
    have gW0 : w.heap.size < wr.heap.size := by omega
    have hbA : Below w.heap.size w wr := ((Below.refl _ _).alloc (Nat.le_refl _) _).trans (hbw.mono (by omega))
    have hbox : ∀ j, wr.cell? ⟨w.heap.size, j, none⟩ = #[Value.int .i64 (A : Int), .int .i64 (B : Int), .int .i64 o][j]? := fun j => (hbw.cell (by simp)).trans (by simp)
    by_cases hlt : y < B
    · have HRS := Lib.hid (rowsB_succ p o A y)
      have HRL := Lib.hid (rowsB_length p o A y)
      have HRB : Hid (rowB p o A y = ⟨(rowTo p o (y * A) A).toArray⟩) := rfl
      obtain ⟨M, hM⟩ : ∃ M : Nat, y * A = M := ⟨_, rfl⟩
      have hM7 : M ≤ 42 := by rw [← hM]; exact Nat.mul_le_mul (show y ≤ 6 by omega) (show A ≤ 7 by omega)
      have hMz : (y : Int) * (A : Int) = (M : Int) := by rw [← hM]; simp
      rw [hM] at HRB
      clear hM
      have hyd : decide ((y : Int) < (B : Int)) = true := decide_eq_true (by omega)
      generalize rowsB p o A y = D at *
      clear hbA
      go_wp2_with (go_at_call 39; refine (HP.out _).mono ?_; rintro e w4 ⟨rfl, hb4⟩; have hz4 := hb4.size; have hown4 := hown.keep hb4; have hbw4 := hbw.trans (hb4.mono (by omega)); have gW4 : w.heap.size < w4.heap.size := (by omega); have hbox4 : ∀ j, w4.cell? ⟨w.heap.size, j, none⟩ = #[Value.int .i64 (A : Int), .int .i64 (B : Int), .int .i64 o][j]? := (fun j => (hb4.cell gW0).trans (hbox j)))
      clear hbox hown hbw hb4
      go_loopw [7, 8] (fun t7 t8 wz => ∃ x : Nat, x ≤ A ∧ t8 = .int .i64 x ∧ t7 = .string ⟨(rowTo p o M x).toArray⟩ ∧ wz = w4) (fun _ t _ => A - (intOf t).toNat)
      case atStart => exact ⟨0, by omega, rfl, rfl, rfl⟩
      case round =>
        obtain ⟨x, hx, rfl, rfl, rfl⟩ := hrel
        by_cases hxa : x < A
        · have HSS := Lib.hid (rowTo_succ p o M x)
          have hl := rowTo_length p o M x
          have hsz := bsize (rowTo p o M x)
          have HCC := Lib.hid (bcat1 (rowTo p o M x))
          have hq0 : (M : Int) + (x : Int) = ((M + x : Nat) : Int) := by omega
          have HS2 := Lib.hid (HSub.out (M + x))
          have HCH : Hid (chr p o (M + x) = if tb p ((M + x : Nat) : Int) = true then 111 else if tb o ((M + x : Nat) : Int) = true then 46 else 32) := rfl
          have hq1 : (0 : Int) ≤ ((M + x : Nat) : Int) := by omega
          have hq2 : ((M + x : Nat) : Int) ≤ 48 := by omega
          have hbp := bit_test' (p := p) (k := ((M + x : Nat) : Int)) hp0 hp
          have hbo := bit_zero' (p := o) (k := ((M + x : Nat) : Int)) (by omega) (by omega)
          generalize rowTo p o M x = R at *
          generalize hQ : ((M + x : Nat) : Int) = Q at *
          generalize tb p Q = bp at *
          generalize tb o Q = bo at *
          have hR49 : R.length ≤ 7 := by omega
          cases bo
          · cases bp
            · have HV : Hid (chr p o (M + x) = 32) := by show _ = _; rw [HCH.out]; rfl
              clear HCH HS2
              go_wp2_with fail
              go_roundw
              case rel => exact ⟨x + 1, by omega, by go_num, by rw [HSS.out, HV.out, ← HCC.out], by first | rfl | trivial⟩
              case measure => simp [intOf]; omega
            · exact absurd (HS2.out rfl) (by simp)
          · cases bp
            · have HV : Hid (chr p o (M + x) = 46) := by show _ = _; rw [HCH.out]; rfl
              clear HCH HS2
              go_wp2_with fail
              go_roundw
              case rel => exact ⟨x + 1, by omega, by go_num, by rw [HSS.out, HV.out, ← HCC.out], by first | rfl | trivial⟩
              case measure => simp [intOf]; omega
            · have HV : Hid (chr p o (M + x) = 111) := by show _ = _; rw [HCH.out]; rfl
              clear HCH HS2
              go_wp2_with fail
              go_roundw
              case rel => exact ⟨x + 1, by omega, by go_num, by rw [HSS.out, HV.out, ← HCC.out], by first | rfl | trivial⟩
              case measure => simp [intOf]; omega
        · obtain rfl : x = A := by omega
          have hlen : D.length ≤ 1048576 := by rw [HRL.out]; omega
          have hs : (⟨(rowTo p o M x).toArray⟩ : ByteArray) = rowB p o x y := HRB.out.symm
          rw [hs]
          generalize rowB p o x y = S at *
          clear hs HRB
          go_wp2_with (at_builtin; (refine append1 (E := EStr) (l := D) rfl rfl _ _ 26 rfl Try.underlying26 rfl hown4 S rfl (by omega) (by omega) ?_); intro v' w2 hown3 hb3 hg3)
          go_roundw
          case rel => exact ⟨y + 1, by omega, by go_num, by rw [HRS.out]; exact hown3, hbw4.trans hb3⟩
          case measure => simp [intOf]; omega
    · obtain rfl : y = B := by omega
      have hyd : decide ((y : Int) < (y : Int)) = false := by simp
      go_wp2_with fail
      all_goals go_ret
      all_goals exact ⟨_, rfl, by rw [HR.out]; exact hown.mono (by omega), hbA⟩
end Go.Proofs.Ytkaojpcpfbbicaa
