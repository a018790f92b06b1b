/- Post3: contract of ReadPosition. Conditions: the slice's form, the strings' lengths in range. -/
import Derived.Test.YtkaojpcpfbbicaaPost2
set_option linter.unusedVariables false
set_option linter.unusedSimpArgs false
namespace Go.Proofs.Ytkaojpcpfbbicaa
open Go.ChangeShapes Go.WideShapes Go.ChangeAt Go.RowKit Peg Go.Sort
set_option maxHeartbeats 2000000 in
set_option maxRecDepth 100000 in
theorem ReadPosition_any (a b o : Int) (L : List ByteArray) (v : Value) (hS : ∀ y, y < L.length → (gD L B0 y).size ≤ 1048576) (w : World) {B' : Nat} (hv : Own EStr w B' v L) :
    Calls Try.prog 14 #[.agg #[.int .i64 a, .int .i64 b, .int .i64 o], v] w fun e w' => e = .returned (optP (readPos a b o L)) ∧ Below w.heap.size w w' := by
  obtain ⟨aL, capL, rfl, hnL, hgetL⟩ := hv.strG
  have HGL := Lib.hid hgetL
  have HSz := Lib.hid hS
  clear hgetL hv hS
  cases hbo : boardOk a b o
  · have HB : Hid (∀ W, Calls Try.prog 27 #[.agg #[.int .i64 a, .int .i64 b, .int .i64 o]] W fun e w' => e = .returned (.bool false) ∧ Below W.heap.size W w') := fun W => by rw [← hbo]; exact BoardOk_any a b o W
    have HR : Hid (readPos a b o L = none) := by show _ = _; simp [readPos, hbo]
    clear hbo
    go_enter Try.func14, Try.ntmps14
    go_wp2_with (first | (go_at_call 27; refine (HB.out _).mono ?_; rintro e w' ⟨rfl, hb⟩; obtain ⟨hc, hf, hz, hy⟩ := bcell hb; clear hy; (try simp only [World.size_alloc, World.size_setCell, World.size_drew] at hz); (try have gQ0 : w.heap.size < w'.heap.size := by omega); (try have gQ1 : w.heap.size + 1 < w'.heap.size := by omega); (try have gQ2 : w.heap.size + 1 + 1 < w'.heap.size := by omega); (try have gQ3 : w.heap.size + 1 + 1 + 1 < w'.heap.size := by omega); (try have gQ4 : w.heap.size + 1 + 1 + 1 + 1 < w'.heap.size := by omega); (try have gQ5 : w.heap.size + 1 + 1 + 1 + 1 + 1 < w'.heap.size := by omega); (try have dQ0 : _ < w'.heap.size := Nat.lt_of_lt_of_le dQ0 (by omega)); (try have dQ1 : _ < w'.heap.size := Nat.lt_of_lt_of_le dQ1 (by omega)); (try have dQ2 : _ < w'.heap.size := Nat.lt_of_lt_of_le dQ2 (by omega)); (try have dQ3 : _ < w'.heap.size := Nat.lt_of_lt_of_le dQ3 (by omega)); (try have dQ4 : _ < w'.heap.size := Nat.lt_of_lt_of_le dQ4 (by omega)); (try have dQ5 : _ < w'.heap.size := Nat.lt_of_lt_of_le dQ5 (by omega)); (try (have hnQ := Nat.lt_of_succ_le hz; first | (have _x := dQ0; first | (have _x := dQ1; first | (have _x := dQ2; first | (have _x := dQ3; first | (have _x := dQ4; have dQ5 := hnQ) | have dQ4 := hnQ) | have dQ3 := hnQ) | have dQ2 := hnQ) | have dQ1 := hnQ) | have dQ0 := hnQ)); (try (have hmQ := Nat.lt_of_succ_lt (Nat.lt_of_succ_le hz); first | (have _x := dQ0; first | (have _x := dQ1; first | (have _x := dQ2; first | (have _x := dQ3; first | (have _x := dQ4; have dQ5 := hmQ) | have dQ4 := hmQ) | have dQ3 := hmQ) | have dQ2 := hmQ) | have dQ1 := hmQ) | have dQ0 := hmQ)); (try have sQ00 : (w'.cell? ⟨w.heap.size, 0, none⟩).isSome = true := by simp [go_sem, *]); (try have sQ01 : (w'.cell? ⟨w.heap.size, 1, none⟩).isSome = true := by simp [go_sem, *]); (try have sQ02 : (w'.cell? ⟨w.heap.size, 2, none⟩).isSome = true := by simp [go_sem, *]); (try have sQ03 : (w'.cell? ⟨w.heap.size, 3, none⟩).isSome = true := by simp [go_sem, *]); (try have sQ04 : (w'.cell? ⟨w.heap.size, 4, none⟩).isSome = true := by simp [go_sem, *]); (try have sQ10 : (w'.cell? ⟨w.heap.size + 1, 0, none⟩).isSome = true := by simp [go_sem, *]); (try have sQ11 : (w'.cell? ⟨w.heap.size + 1, 1, none⟩).isSome = true := by simp [go_sem, *]); (try have sQ12 : (w'.cell? ⟨w.heap.size + 1, 2, none⟩).isSome = true := by simp [go_sem, *]); (try have sQ13 : (w'.cell? ⟨w.heap.size + 1, 3, none⟩).isSome = true := by simp [go_sem, *]); (try have sQ14 : (w'.cell? ⟨w.heap.size + 1, 4, none⟩).isSome = true := by simp [go_sem, *]); (try have sQ20 : (w'.cell? ⟨w.heap.size + 1 + 1, 0, none⟩).isSome = true := by simp [go_sem, *]); (try have sQ21 : (w'.cell? ⟨w.heap.size + 1 + 1, 1, none⟩).isSome = true := by simp [go_sem, *]); (try have sQ22 : (w'.cell? ⟨w.heap.size + 1 + 1, 2, none⟩).isSome = true := by simp [go_sem, *]); (try have sQ23 : (w'.cell? ⟨w.heap.size + 1 + 1, 3, none⟩).isSome = true := by simp [go_sem, *]); (try have sQ24 : (w'.cell? ⟨w.heap.size + 1 + 1, 4, none⟩).isSome = true := by simp [go_sem, *]); (try have fQ0 : ∀ j, w'.frozen? ⟨w.heap.size, j, none⟩ = false := by intro j; simp [go_sem, *]); (try have fQ1 : ∀ j, w'.frozen? ⟨w.heap.size + 1, j, none⟩ = false := by intro j; simp [go_sem, *]); (try have fQ2 : ∀ j, w'.frozen? ⟨w.heap.size + 1 + 1, j, none⟩ = false := by intro j; simp [go_sem, *])) | ((with_reducible refine wp_region_qb ?_ ?_ (fun hq => ?_)); (focus kernel_rfl); (focus kernel_rfl); (repeat (go_big_quiet_step ((first | (go_at_call 27; exact Calls.regrown_of (HB.out _)))))); refine wpQuiet_nil ?_; intro wq hb; obtain ⟨hc, hf, hz, hy⟩ := bcell hb; clear hq hy; (try simp only [World.size_alloc, World.size_setCell, World.size_drew] at hz); (try have gQ0 : w.heap.size < wq.heap.size := by omega); (try have gQ1 : w.heap.size + 1 < wq.heap.size := by omega); (try have gQ2 : w.heap.size + 1 + 1 < wq.heap.size := by omega); (try have gQ3 : w.heap.size + 1 + 1 + 1 < wq.heap.size := by omega); (try have gQ4 : w.heap.size + 1 + 1 + 1 + 1 < wq.heap.size := by omega); (try have gQ5 : w.heap.size + 1 + 1 + 1 + 1 + 1 < wq.heap.size := by omega); (try have dQ0 : _ < wq.heap.size := Nat.lt_of_lt_of_le dQ0 (by omega)); (try have dQ1 : _ < wq.heap.size := Nat.lt_of_lt_of_le dQ1 (by omega)); (try have dQ2 : _ < wq.heap.size := Nat.lt_of_lt_of_le dQ2 (by omega)); (try have dQ3 : _ < wq.heap.size := Nat.lt_of_lt_of_le dQ3 (by omega)); (try have dQ4 : _ < wq.heap.size := Nat.lt_of_lt_of_le dQ4 (by omega)); (try have dQ5 : _ < wq.heap.size := Nat.lt_of_lt_of_le dQ5 (by omega)); (try (have hnQ := Nat.lt_of_succ_le hz; first | (have _x := dQ0; first | (have _x := dQ1; first | (have _x := dQ2; first | (have _x := dQ3; first | (have _x := dQ4; have dQ5 := hnQ) | have dQ4 := hnQ) | have dQ3 := hnQ) | have dQ2 := hnQ) | have dQ1 := hnQ) | have dQ0 := hnQ)); (try (have hmQ := Nat.lt_of_succ_lt (Nat.lt_of_succ_le hz); first | (have _x := dQ0; first | (have _x := dQ1; first | (have _x := dQ2; first | (have _x := dQ3; first | (have _x := dQ4; have dQ5 := hmQ) | have dQ4 := hmQ) | have dQ3 := hmQ) | have dQ2 := hmQ) | have dQ1 := hmQ) | have dQ0 := hmQ))))
    all_goals go_ret2
    all_goals exact ⟨by rw [HR.out]; rfl, by (repeat' first | (with_reducible exact Below.refl _ _) | (with_reducible refine Below.alloc ?_ ?_ _) | (with_reducible refine Below.drew ?_) | (with_reducible refine Below.setCell ?_ ?_ _) | (with_reducible refine below_via (by assumption) ?_ ?_) | go_size)⟩
  have HB : Hid (∀ W, Calls Try.prog 27 #[.agg #[.int .i64 a, .int .i64 b, .int .i64 o]] W fun e w' => e = .returned (.bool true) ∧ Below W.heap.size W w') := fun W => by rw [← hbo]; exact BoardOk_any a b o W
  obtain ⟨ha1, ha2⟩ := inR_iff.1 (boardOk_sides hbo).1
  obtain ⟨hb1, hb2⟩ := inR_iff.1 (boardOk_sides hbo).2
  by_cases hlen : (L.length : Int) = b
  rotate_left
  · have HR : Hid (readPos a b o L = none) := by
      show _ = _
      rw [readPos, if_neg]
      rintro ⟨_, h, _⟩
      omega
    have hld : ((L.length : Int) != b) = true := by simpa using hlen
    clear hbo hlen
    go_enter Try.func14, Try.ntmps14
    go_wp2_with (first | (go_at_call 27; refine (HB.out _).mono ?_; rintro e w' ⟨rfl, hb⟩; obtain ⟨hc, hf, hz, hy⟩ := bcell hb; clear hy; (try simp only [World.size_alloc, World.size_setCell, World.size_drew] at hz); (try have gQ0 : w.heap.size < w'.heap.size := by omega); (try have gQ1 : w.heap.size + 1 < w'.heap.size := by omega); (try have gQ2 : w.heap.size + 1 + 1 < w'.heap.size := by omega); (try have gQ3 : w.heap.size + 1 + 1 + 1 < w'.heap.size := by omega); (try have gQ4 : w.heap.size + 1 + 1 + 1 + 1 < w'.heap.size := by omega); (try have gQ5 : w.heap.size + 1 + 1 + 1 + 1 + 1 < w'.heap.size := by omega); (try have dQ0 : _ < w'.heap.size := Nat.lt_of_lt_of_le dQ0 (by omega)); (try have dQ1 : _ < w'.heap.size := Nat.lt_of_lt_of_le dQ1 (by omega)); (try have dQ2 : _ < w'.heap.size := Nat.lt_of_lt_of_le dQ2 (by omega)); (try have dQ3 : _ < w'.heap.size := Nat.lt_of_lt_of_le dQ3 (by omega)); (try have dQ4 : _ < w'.heap.size := Nat.lt_of_lt_of_le dQ4 (by omega)); (try have dQ5 : _ < w'.heap.size := Nat.lt_of_lt_of_le dQ5 (by omega)); (try (have hnQ := Nat.lt_of_succ_le hz; first | (have _x := dQ0; first | (have _x := dQ1; first | (have _x := dQ2; first | (have _x := dQ3; first | (have _x := dQ4; have dQ5 := hnQ) | have dQ4 := hnQ) | have dQ3 := hnQ) | have dQ2 := hnQ) | have dQ1 := hnQ) | have dQ0 := hnQ)); (try (have hmQ := Nat.lt_of_succ_lt (Nat.lt_of_succ_le hz); first | (have _x := dQ0; first | (have _x := dQ1; first | (have _x := dQ2; first | (have _x := dQ3; first | (have _x := dQ4; have dQ5 := hmQ) | have dQ4 := hmQ) | have dQ3 := hmQ) | have dQ2 := hmQ) | have dQ1 := hmQ) | have dQ0 := hmQ)); (try have sQ00 : (w'.cell? ⟨w.heap.size, 0, none⟩).isSome = true := by simp [go_sem, *]); (try have sQ01 : (w'.cell? ⟨w.heap.size, 1, none⟩).isSome = true := by simp [go_sem, *]); (try have sQ02 : (w'.cell? ⟨w.heap.size, 2, none⟩).isSome = true := by simp [go_sem, *]); (try have sQ03 : (w'.cell? ⟨w.heap.size, 3, none⟩).isSome = true := by simp [go_sem, *]); (try have sQ04 : (w'.cell? ⟨w.heap.size, 4, none⟩).isSome = true := by simp [go_sem, *]); (try have sQ10 : (w'.cell? ⟨w.heap.size + 1, 0, none⟩).isSome = true := by simp [go_sem, *]); (try have sQ11 : (w'.cell? ⟨w.heap.size + 1, 1, none⟩).isSome = true := by simp [go_sem, *]); (try have sQ12 : (w'.cell? ⟨w.heap.size + 1, 2, none⟩).isSome = true := by simp [go_sem, *]); (try have sQ13 : (w'.cell? ⟨w.heap.size + 1, 3, none⟩).isSome = true := by simp [go_sem, *]); (try have sQ14 : (w'.cell? ⟨w.heap.size + 1, 4, none⟩).isSome = true := by simp [go_sem, *]); (try have sQ20 : (w'.cell? ⟨w.heap.size + 1 + 1, 0, none⟩).isSome = true := by simp [go_sem, *]); (try have sQ21 : (w'.cell? ⟨w.heap.size + 1 + 1, 1, none⟩).isSome = true := by simp [go_sem, *]); (try have sQ22 : (w'.cell? ⟨w.heap.size + 1 + 1, 2, none⟩).isSome = true := by simp [go_sem, *]); (try have sQ23 : (w'.cell? ⟨w.heap.size + 1 + 1, 3, none⟩).isSome = true := by simp [go_sem, *]); (try have sQ24 : (w'.cell? ⟨w.heap.size + 1 + 1, 4, none⟩).isSome = true := by simp [go_sem, *]); (try have fQ0 : ∀ j, w'.frozen? ⟨w.heap.size, j, none⟩ = false := by intro j; simp [go_sem, *]); (try have fQ1 : ∀ j, w'.frozen? ⟨w.heap.size + 1, j, none⟩ = false := by intro j; simp [go_sem, *]); (try have fQ2 : ∀ j, w'.frozen? ⟨w.heap.size + 1 + 1, j, none⟩ = false := by intro j; simp [go_sem, *])) | ((with_reducible refine wp_region_qb ?_ ?_ (fun hq => ?_)); (focus kernel_rfl); (focus kernel_rfl); (repeat (go_big_quiet_step ((first | (go_at_call 27; exact Calls.regrown_of (HB.out _)))))); refine wpQuiet_nil ?_; intro wq hb; obtain ⟨hc, hf, hz, hy⟩ := bcell hb; clear hq hy; (try simp only [World.size_alloc, World.size_setCell, World.size_drew] at hz); (try have gQ0 : w.heap.size < wq.heap.size := by omega); (try have gQ1 : w.heap.size + 1 < wq.heap.size := by omega); (try have gQ2 : w.heap.size + 1 + 1 < wq.heap.size := by omega); (try have gQ3 : w.heap.size + 1 + 1 + 1 < wq.heap.size := by omega); (try have gQ4 : w.heap.size + 1 + 1 + 1 + 1 < wq.heap.size := by omega); (try have gQ5 : w.heap.size + 1 + 1 + 1 + 1 + 1 < wq.heap.size := by omega); (try have dQ0 : _ < wq.heap.size := Nat.lt_of_lt_of_le dQ0 (by omega)); (try have dQ1 : _ < wq.heap.size := Nat.lt_of_lt_of_le dQ1 (by omega)); (try have dQ2 : _ < wq.heap.size := Nat.lt_of_lt_of_le dQ2 (by omega)); (try have dQ3 : _ < wq.heap.size := Nat.lt_of_lt_of_le dQ3 (by omega)); (try have dQ4 : _ < wq.heap.size := Nat.lt_of_lt_of_le dQ4 (by omega)); (try have dQ5 : _ < wq.heap.size := Nat.lt_of_lt_of_le dQ5 (by omega)); (try (have hnQ := Nat.lt_of_succ_le hz; first | (have _x := dQ0; first | (have _x := dQ1; first | (have _x := dQ2; first | (have _x := dQ3; first | (have _x := dQ4; have dQ5 := hnQ) | have dQ4 := hnQ) | have dQ3 := hnQ) | have dQ2 := hnQ) | have dQ1 := hnQ) | have dQ0 := hnQ)); (try (have hmQ := Nat.lt_of_succ_lt (Nat.lt_of_succ_le hz); first | (have _x := dQ0; first | (have _x := dQ1; first | (have _x := dQ2; first | (have _x := dQ3; first | (have _x := dQ4; have dQ5 := hmQ) | have dQ4 := hmQ) | have dQ3 := hmQ) | have dQ2 := hmQ) | have dQ1 := hmQ) | have dQ0 := hmQ))))
    all_goals go_ret2
    all_goals exact ⟨by rw [HR.out]; rfl, by (repeat' first | (with_reducible exact Below.refl _ _) | (with_reducible refine Below.alloc ?_ ?_ _) | (with_reducible refine Below.drew ?_) | (with_reducible refine Below.setCell ?_ ?_ _) | (with_reducible refine below_via (by assumption) ?_ ?_) | go_size)⟩
  obtain ⟨A, rfl⟩ : ∃ A : Nat, a = A := ⟨a.toNat, by omega⟩
  obtain ⟨Bn, rfl⟩ : ∃ B : Nat, b = B := ⟨b.toNat, by omega⟩
  have hlb : L.length = Bn := by omega
  have hld : ((L.length : Int) != (Bn : Int)) = false := by simpa using hlen
  have HBD := Lib.hid (fun y hy => accTo_bd (A := A) (L := L) (by omega) y hy)
  have HRP : Hid (readPos A Bn o L = if boardOk A Bn o = true ∧ L.length = Bn ∧ (∀ y, y < L.length → (gD L B0 y).size = A) ∧ posOk A Bn o (accTo A L Bn) = true ∧ posText A Bn o (accTo A L Bn) = L then some (accTo A L Bn) else none) := by show _ = _; simp only [readPos, Int.toNat_natCast]
  have HBO := Lib.hid hbo
  clear hbo hlen
  go_enter Try.func14, Try.ntmps14
  go_wp2_with fail
  refine (HB.out _).mono ?_
  rintro e w3 ⟨rfl, hb⟩
  have hz3 := hb.size
  simp only [World.size_alloc] at hz3
  have hbox : ∀ j, w3.cell? ⟨w.heap.size, j, none⟩ = #[Value.int .i64 (A : Int), .int .i64 (Bn : Int), .int .i64 o][j]? := fun j => (hb.cell (by simp)).trans (by simp)
  have hWB : Below w.heap.size w w3 := ((Below.refl _ _).alloc (Nat.le_refl _) _).trans (hb.mono (by simp))
  have HW3 := Lib.hid hWB
  have gW0 : w.heap.size < w3.heap.size := by omega
  clear hb HB
  go_wp2_with fail
  go_loopw [6, 24] (fun t6 t24 wz => ∃ y : Nat, y ≤ L.length ∧ t24 = .int .i64 y ∧ t6 = .int .i64 (accTo A L y) ∧ Hid (∀ j, j < y → (gD L B0 j).size = A) ∧ wz = w3) (fun _ t _ => L.length - (intOf t).toNat)
  case atStart => exact ⟨0, by omega, rfl, rfl, fun j hj => by omega, rfl⟩
  case round =>
    obtain ⟨y, hy, rfl, rfl, hall, rfl⟩ := hrel
    by_cases hlt : y < L.length
    · obtain ⟨bL, rfl, _, hbL, hc0⟩ := HGL.out y hlt
      rw [← HW3.out.cell (by simpa using hbL)] at hc0
      have hsz := HSz.out y hlt
      have gW1 : bL < wr.heap.size := by omega
      by_cases hA : (gD L B0 y).size = A
      rotate_left
      · have HN : Hid (readPos A Bn o L = none) := by
          show _ = _
          rw [HRP.out, if_neg]
          rintro ⟨_, _, h, _⟩
          exact hA (h y hlt)
        generalize gD L B0 y = s at *
        have hne : ((s.size : Int) != (A : Int)) = true := by simp; omega
        go_wp2_with fail
        all_goals go_ret2
        all_goals exact ⟨by rw [HN.out]; rfl, HW3.out⟩
      have HAcc : Hid (accTo A L (y + 1) = accRow (gD L B0 y) (y * A) (accTo A L y) A) := rfl
      obtain ⟨p0, p1⟩ := HBD.out y (by omega)
      have hall2 : Hid (∀ j, j < y + 1 → (gD L B0 j).size = A) := fun j hj => by
        rcases Nat.lt_or_ge j y with h | h
        · exact hall.out j h
        · obtain rfl : j = y := by omega
          exact hA
      obtain ⟨M, hM⟩ : ∃ M : Nat, y * A = M := ⟨_, rfl⟩
      have hM7 : M ≤ 42 := by rw [← hM]; exact Nat.mul_le_mul (show y ≤ 6 by omega) (show A ≤ 7 by omega)
      have hMz : (y : Int) * (A : Int) = (M : Int) := by rw [← hM]; simp
      rw [hM] at HAcc
      clear hM
      generalize gD L B0 y = s at *
      generalize accTo A L y = p at *
      have hne : ((s.size : Int) != (A : Int)) = false := by simp; omega
      have HAR := Lib.hid (fun x hx => accRow_bd (line := s) (s := M) p0 p1 x hx)
      go_wp2_with fail
      go_loopw [6, 9] (fun t6 t9 wz => ∃ x : Nat, x ≤ A ∧ t9 = .int .i64 x ∧ t6 = .int .i64 (accRow s M p x) ∧ wz = wr) (fun _ t _ => A - (intOf t).toNat)
      case atStart => exact ⟨0, by omega, rfl, rfl, rfl⟩
      case round =>
        obtain ⟨x, hx, rfl, rfl, rfl⟩ := hrel
        by_cases hxa : x < A
        · have hxs : x < s.size := by omega
          obtain ⟨q0, q1⟩ := HAR.out x (by omega)
          have HY := Lib.hid (fun h => accRow_yes (s := M) (p := p) hxs h)
          have HN := Lib.hid (fun h => accRow_no (s := M) (p := p) hxs h)
          rw [pw49] at q1
          have hq0 : (M : Int) + (x : Int) = ((M + x : Nat) : Int) := by omega
          have hpw := pw_wrap (n := ((M + x : Nat) : Int)) (by omega) (by omega)
          have hp62 := pw_62 (n := ((M + x : Nat) : Int)) (by omega) (by omega)
          have hpp := pw_pos ((M + x : Nat) : Int)
          have hor := bits_or (a := accRow s M p x) (b := pw ((M + x : Nat) : Int)) q0 (by omega) (by omega) (by omega)
          generalize accRow s M p x = q at *
          generalize hQ : ((M + x : Nat) : Int) = Q at *
          have hQ0 : 0 ≤ Q := by omega
          have hQ1 : Q ≤ 62 := by omega
          by_cases h111 : s[x] = 111
          · have HV := Lib.hid (HY.out h111)
            have hch : ((s[x].toNat : Int) == 111) = true := by rw [h111]; rfl
            clear HY HN h111
            go_wp2_with fail
            go_roundw
            case rel => exact ⟨x + 1, by omega, by go_num, by rw [HV.out], by first | rfl | trivial⟩
            case measure => simp [intOf]; omega
          · have HV := Lib.hid (HN.out h111)
            have hch : ((s[x].toNat : Int) == 111) = false := by
              rw [beq_eq_false_iff_ne]
              intro e
              apply h111
              apply UInt8.toNat_inj.1
              have : s[x].toNat = 111 := by omega
              rw [this]; rfl
            clear HY HN h111
            go_wp2_with fail
            go_roundw
            case rel => exact ⟨x + 1, by omega, by go_num, by rw [HV.out], by first | rfl | trivial⟩
            case measure => simp [intOf]; omega
        · obtain rfl : x = A := by omega
          go_wp2_with fail
          go_roundw
          case rel => exact ⟨y + 1, by omega, by go_num, by rw [HAcc.out], hall2, by first | rfl | trivial⟩
          case measure => simp [intOf]; omega
    · obtain rfl : y = L.length := by omega
      subst hlb
      have hp := HBD.out L.length (by omega)
      rw [pw49] at hp
      have HPT := Lib.hid (fun W => PositionText_any A L.length o (accTo A L L.length) (by omega) W)
      have HTL := posText_le A L.length o (accTo A L L.length)
      have HPO := Lib.hid (fun W => PositionOk_any A L.length o (accTo A L L.length) (by omega) W)
      have HTE := Lib.hid (fun h => posText_length (a := A) (b := L.length) (o := o) (p := accTo A L L.length) h)
      rw [Int.toNat_natCast] at HTL
      rw [Int.toNat_natCast] at HTE
      generalize accTo A L L.length = P at *
      generalize posText A L.length o P = T at *
      obtain ⟨w4, rfl⟩ : ∃ w4 : World, w4 = wr := ⟨_, rfl⟩
      go_wp2_with fail
      refine (HPT.out _).mono ?_
      rintro e w5 ⟨vT, rfl, hownT, hb5⟩
      obtain ⟨aT, capT, rfl, hnT, hgetT⟩ := hownT.strG
      have HGT := Lib.hid hgetT
      have hz5 := hb5.size
      have hbox5 : ∀ j, w5.cell? ⟨w.heap.size, j, none⟩ = #[Value.int .i64 (A : Int), .int .i64 (L.length : Int), .int .i64 o][j]? := fun j => (hb5.cell gW0).trans (hbox j)
      have hW5 : Below w.heap.size w w5 := HW3.out.trans (hb5.mono (by omega))
      have HW5 := Lib.hid hW5
      have gW5 : w.heap.size < w5.heap.size := by omega
      clear hgetT hownT hb5 hbox HPT hWB hW5
      go_wp2_with fail
      go_loopw [58] (fun t58 wz => ∃ k : Nat, k ≤ T.length ∧ t58 = .int .i64 k ∧ Hid (∀ j, j < k → gD T B0 j = gD L B0 j) ∧ wz = w5) (fun t _ => T.length - (intOf t).toNat)
      case atStart => exact ⟨0, by omega, rfl, fun j hj => by omega, rfl⟩
      case round =>
        obtain ⟨k, hk, rfl, heq, rfl⟩ := hrel
        by_cases hkt : k < T.length
        · obtain ⟨bT, rfl, _, hbT, hd0⟩ := HGT.out k hkt
          obtain ⟨bL, rfl, _, hbL, hc0⟩ := HGL.out k (by omega)
          rw [← HW5.out.cell (by simpa using hbL)] at hc0
          by_cases hst : gD T B0 k = gD L B0 k
          · have heq2 : Hid (∀ j, j < k + 1 → gD T B0 j = gD L B0 j) := fun j hj => by
              rcases Nat.lt_or_ge j k with h | h
              · exact heq.out j h
              · obtain rfl : j = k := by omega
                exact hst
            rw [hst] at hd0
            generalize gD L B0 k = s at *
            clear hst
            go_wp2_with fail
            go_roundw
            case rel => exact ⟨k + 1, by omega, by go_num, heq2, by first | rfl | trivial⟩
            case measure => simp [intOf]; omega
          · have HN : Hid (readPos A L.length o L = none) := by
              show _ = _
              rw [HRP.out, if_neg]
              rintro ⟨_, _, _, _, h⟩
              exact hst (by rw [h])
            have hne := str_neP hst
            have hne2 : ((gD T B0 k).toList != (gD L B0 k).toList) = true := by simp only [bne, hne]; rfl
            generalize gD L B0 k = s at *
            generalize gD T B0 k = t at *
            clear hst
            go_wp2_with fail
            all_goals go_ret2
            all_goals exact ⟨by rw [HN.out]; rfl, HW5.out⟩
        · obtain rfl : k = T.length := by omega
          cases hpo : posOk A L.length o P
          · have HN : Hid (readPos A L.length o L = none) := by
              show _ = _
              rw [HRP.out, if_neg]
              rintro ⟨_, _, _, h, _⟩
              rw [hpo] at h
              cases h
            rw [hpo] at HPO
            clear hpo
            have HW6 := HW5.out
            go_wp2_with (go_at_call 29; refine (HPO.out _).mono ?_; rintro e w' ⟨rfl, hb⟩; obtain ⟨hc, hf, hz, hy⟩ := bcell hb; clear hy; (try simp only [World.size_alloc, World.size_setCell, World.size_drew] at hz); (try have gQ0 : w.heap.size < w'.heap.size := by omega); (try have gQ1 : w.heap.size + 1 < w'.heap.size := by omega); (try have gQ2 : w.heap.size + 1 + 1 < w'.heap.size := by omega); (try have gQ3 : w.heap.size + 1 + 1 + 1 < w'.heap.size := by omega); (try have gQ4 : w.heap.size + 1 + 1 + 1 + 1 < w'.heap.size := by omega); (try have gQ5 : w.heap.size + 1 + 1 + 1 + 1 + 1 < w'.heap.size := by omega); (try have dQ0 : _ < w'.heap.size := Nat.lt_of_lt_of_le dQ0 (by omega)); (try have dQ1 : _ < w'.heap.size := Nat.lt_of_lt_of_le dQ1 (by omega)); (try have dQ2 : _ < w'.heap.size := Nat.lt_of_lt_of_le dQ2 (by omega)); (try have dQ3 : _ < w'.heap.size := Nat.lt_of_lt_of_le dQ3 (by omega)); (try have dQ4 : _ < w'.heap.size := Nat.lt_of_lt_of_le dQ4 (by omega)); (try have dQ5 : _ < w'.heap.size := Nat.lt_of_lt_of_le dQ5 (by omega)); (try (have hnQ := Nat.lt_of_succ_le hz; first | (have _x := dQ0; first | (have _x := dQ1; first | (have _x := dQ2; first | (have _x := dQ3; first | (have _x := dQ4; have dQ5 := hnQ) | have dQ4 := hnQ) | have dQ3 := hnQ) | have dQ2 := hnQ) | have dQ1 := hnQ) | have dQ0 := hnQ)); (try (have hmQ := Nat.lt_of_succ_lt (Nat.lt_of_succ_le hz); first | (have _x := dQ0; first | (have _x := dQ1; first | (have _x := dQ2; first | (have _x := dQ3; first | (have _x := dQ4; have dQ5 := hmQ) | have dQ4 := hmQ) | have dQ3 := hmQ) | have dQ2 := hmQ) | have dQ1 := hmQ) | have dQ0 := hmQ)))
            all_goals go_ret2
            all_goals exact ⟨by rw [HN.out]; rfl, by (repeat' first | (with_reducible exact Below.refl _ _) | (with_reducible refine Below.alloc ?_ ?_ _) | (with_reducible refine Below.drew ?_) | (with_reducible refine Below.setCell ?_ ?_ _) | (with_reducible refine below_via (by assumption) ?_ ?_) | go_size)⟩
          · have HN : Hid (readPos A L.length o L = some P) := by
              show _ = _
              have hTl := HTE.out hpo
              rw [HRP.out, if_pos ⟨HBO.out, by first | rfl | trivial, hall.out, hpo, list_gD hTl (fun j hj => heq.out j (by omega))⟩]
            rw [hpo] at HPO
            clear hpo
            have HW6 := HW5.out
            go_wp2_with (go_at_call 29; refine (HPO.out _).mono ?_; rintro e w' ⟨rfl, hb⟩; obtain ⟨hc, hf, hz, hy⟩ := bcell hb; clear hy; (try simp only [World.size_alloc, World.size_setCell, World.size_drew] at hz); (try have gQ0 : w.heap.size < w'.heap.size := by omega); (try have gQ1 : w.heap.size + 1 < w'.heap.size := by omega); (try have gQ2 : w.heap.size + 1 + 1 < w'.heap.size := by omega); (try have gQ3 : w.heap.size + 1 + 1 + 1 < w'.heap.size := by omega); (try have gQ4 : w.heap.size + 1 + 1 + 1 + 1 < w'.heap.size := by omega); (try have gQ5 : w.heap.size + 1 + 1 + 1 + 1 + 1 < w'.heap.size := by omega); (try have dQ0 : _ < w'.heap.size := Nat.lt_of_lt_of_le dQ0 (by omega)); (try have dQ1 : _ < w'.heap.size := Nat.lt_of_lt_of_le dQ1 (by omega)); (try have dQ2 : _ < w'.heap.size := Nat.lt_of_lt_of_le dQ2 (by omega)); (try have dQ3 : _ < w'.heap.size := Nat.lt_of_lt_of_le dQ3 (by omega)); (try have dQ4 : _ < w'.heap.size := Nat.lt_of_lt_of_le dQ4 (by omega)); (try have dQ5 : _ < w'.heap.size := Nat.lt_of_lt_of_le dQ5 (by omega)); (try (have hnQ := Nat.lt_of_succ_le hz; first | (have _x := dQ0; first | (have _x := dQ1; first | (have _x := dQ2; first | (have _x := dQ3; first | (have _x := dQ4; have dQ5 := hnQ) | have dQ4 := hnQ) | have dQ3 := hnQ) | have dQ2 := hnQ) | have dQ1 := hnQ) | have dQ0 := hnQ)); (try (have hmQ := Nat.lt_of_succ_lt (Nat.lt_of_succ_le hz); first | (have _x := dQ0; first | (have _x := dQ1; first | (have _x := dQ2; first | (have _x := dQ3; first | (have _x := dQ4; have dQ5 := hmQ) | have dQ4 := hmQ) | have dQ3 := hmQ) | have dQ2 := hmQ) | have dQ1 := hmQ) | have dQ0 := hmQ)))
            all_goals go_ret2
            all_goals exact ⟨by rw [HN.out]; rfl, by (repeat' first | (with_reducible exact Below.refl _ _) | (with_reducible refine Below.alloc ?_ ?_ _) | (with_reducible refine Below.drew ?_) | (with_reducible refine Below.setCell ?_ ?_ _) | (with_reducible refine below_via (by assumption) ?_ ?_) | go_size)⟩
end Go.Proofs.Ytkaojpcpfbbicaa
