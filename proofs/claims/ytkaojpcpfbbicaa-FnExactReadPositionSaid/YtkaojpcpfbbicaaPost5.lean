/- Post5: contract of the reference's ReadPosition. Conditions: the slice's form, the strings' lengths in range. -/
import Derived.Test.YtkaojpcpfbbicaaPost4
set_option linter.unusedVariables false
set_option linter.unusedSimpArgs false
namespace Peg
theorem ch_no {c : UInt8} (h : ¬ c = 111) : ((c.toNat : Int) == 111) = false := by
  rw [beq_eq_false_iff_ne]
  intro e
  apply h
  apply UInt8.toNat_inj.1
  have : c.toNat = 111 := by omega
  rw [this]; rfl
end Peg
namespace Go.Proofs.Ytkaojpcpfbbicaa
open Go.ChangeShapes Go.WideShapes Go.ChangeAt Go.RowKit Peg Go.Sort
set_option maxHeartbeats 4000000 in
set_option maxRecDepth 100000 in
theorem sReadPosition_no (a b o : Int) (L : List ByteArray) (v : Value) (hS : ∀ y, y < L.length → (gD L B0 y).size ≤ 1048576) (hbo : boardOk a b o = false) (w : World) {B' : Nat} (hv : Own EStr w B' v L) :
    Calls Try.prog 11 #[.agg #[.int .i64 a, .int .i64 b, .int .i64 o], v] w fun e w' => e = .returned (optP (readPos a b o L)) ∧ Below w.heap.size w w' := by
  obtain ⟨aL, capL, rfl, hnL, hgetL⟩ := hv.strG
  have HGL := Lib.hid hgetL
  have HSz := Lib.hid hS
  clear hgetL hv hS
  have HB : Hid (∀ W, Calls Try.prog 25 #[.agg #[.int .i64 a, .int .i64 b, .int .i64 o]] W fun e w' => e = .returned (.bool false) ∧ Below W.heap.size W w') := fun W => by rw [← hbo]; exact sBoardOk_any a b o W
  have HR : Hid (readPos a b o L = none) := by show _ = _; simp [readPos, hbo]
  have HPT : Hid (∀ W, Calls Try.prog 26 #[.agg #[.int .i64 a, .int .i64 b, .int .i64 o], .int .i64 0] W (RetStrs W [])) := fun W => by
    have h := sPositionText_any a b o 0 (by omega) W
    rwa [show posText a b o 0 = [] by simp [posText, posOk, hbo]] at h
  clear hbo
  go_enter Try.func11, Try.ntmps11
  go_wp2_with fail
  go_loopw [6, 7] (fun t6 t7 wz => ∃ y : Nat, y ≤ L.length ∧ y ≤ 7 ∧ t7 = .int .i64 y ∧ t6 = .int .i64 0 ∧ Below (w.heap.size + 1) (w.alloc (.cells #[.int .i64 a, .int .i64 b, .int .i64 o] 30)) wz) (fun _ t _ => 7 - (intOf t).toNat)
  case atStart => exact ⟨0, by omega, by omega, rfl, rfl, by (repeat' first | (with_reducible exact Below.refl _ _) | (with_reducible refine Below.alloc ?_ ?_ _) | (with_reducible refine Below.drew ?_) | (with_reducible refine Below.setCell ?_ ?_ _) | (with_reducible refine below_via (by assumption) ?_ ?_) | go_size)⟩
  case round =>
    obtain ⟨y, hy, hy7, rfl, rfl, hbw⟩ := hrel
    have gW0 : w.heap.size < wr.heap.size := by have := hbw.size; simp only [World.size_alloc] at this; omega
    have hbA : Below w.heap.size w wr := ((Below.refl _ _).alloc (Nat.le_refl _) _).trans (hbw.mono (by omega))
    have hbox : ∀ j, wr.cell? ⟨w.heap.size, j, none⟩ = #[Value.int .i64 a, .int .i64 b, .int .i64 o][j]? := fun j => (hbw.cell (by simp)).trans (by simp)
    by_cases hlt : y < L.length ∧ y < 7
    · obtain ⟨hl1, hl2⟩ := hlt
      have hd1 : decide ((y : Int) < (L.length : Int)) = true := decide_eq_true (by omega)
      have hd2 : decide ((y : Int) < 7) = true := decide_eq_true (by omega)
      obtain ⟨bL, rfl, _, hbL, hcw⟩ := HGL.out y hl1
      have hsz := HSz.out y hl1
      generalize gD L B0 y = s at *
      clear hbox hbA
      go_wp2_with fail
      go_loopw [6, 8] (fun t6 t8 wz => ∃ x : Nat, x ≤ s.size ∧ x ≤ 7 ∧ t8 = .int .i64 x ∧ t6 = .int .i64 0 ∧ Below (w.heap.size + 1) (w.alloc (.cells #[.int .i64 a, .int .i64 b, .int .i64 o] 30)) wz) (fun _ t _ => 7 - (intOf t).toNat)
      case atStart => exact ⟨0, by omega, by omega, rfl, rfl, by first | exact hbw | (repeat' first | (with_reducible exact Below.refl _ _) | (with_reducible refine Below.alloc ?_ ?_ _) | (with_reducible refine Below.drew ?_) | (with_reducible refine Below.setCell ?_ ?_ _) | (with_reducible refine below_via (by assumption) ?_ ?_) | go_size)⟩
      case round =>
        clear hbw gW0
        obtain ⟨x, hx, hx7, rfl, rfl, hbw⟩ := hrel
        have gW0 : w.heap.size < wr.heap.size := by have := hbw.size; simp only [World.size_alloc] at this; omega
        have hbA : Below w.heap.size w wr := ((Below.refl _ _).alloc (Nat.le_refl _) _).trans (hbw.mono (by omega))
        have hbox : ∀ j, wr.cell? ⟨w.heap.size, j, none⟩ = #[Value.int .i64 a, .int .i64 b, .int .i64 o][j]? := fun j => (hbw.cell (by simp)).trans (by simp)
        have hc0 := (hbA.cell (p := ⟨bL, y, none⟩) hbL).trans hcw
        have gWb : bL < wr.heap.size := by omega
        by_cases hlx : x < s.size ∧ x < 7
        · obtain ⟨hx1, hx2⟩ := hlx
          have hd3 : decide ((x : Int) < (s.size : Int)) = true := decide_eq_true (by omega)
          have hd4 : decide ((x : Int) < 7) = true := decide_eq_true (by omega)
          by_cases h1 : s[x] = 111
          · have hch : ((s[x].toNat : Int) == 111) = true := by rw [h1]; rfl
            by_cases h2 : (x : Int) < a
            · have hd5 : decide ((x : Int) < a) = true := decide_eq_true h2
              by_cases h3 : (y : Int) < b
              · have hd6 : decide ((y : Int) < b) = true := decide_eq_true h3
                go_wp2_with (first | (go_at_call 25; refine (HB.out _).mono ?_; rintro e w' ⟨rfl, hb⟩; obtain ⟨hc, hf, hz, hy⟩ := bcell hb; clear hy; (try simp only [World.size_alloc, World.size_setCell, World.size_drew] at hz); (try have gQ0 : w.heap.size < w'.heap.size := by omega); (try have gQ1 : w.heap.size + 1 < w'.heap.size := by omega); (try have gQ2 : w.heap.size + 1 + 1 < w'.heap.size := by omega); (try have gQ3 : w.heap.size + 1 + 1 + 1 < w'.heap.size := by omega); (try have gQ4 : w.heap.size + 1 + 1 + 1 + 1 < w'.heap.size := by omega); (try have gQ5 : w.heap.size + 1 + 1 + 1 + 1 + 1 < w'.heap.size := by omega); (try have dQ0 : _ < w'.heap.size := Nat.lt_of_lt_of_le dQ0 (by omega)); (try have dQ1 : _ < w'.heap.size := Nat.lt_of_lt_of_le dQ1 (by omega)); (try have dQ2 : _ < w'.heap.size := Nat.lt_of_lt_of_le dQ2 (by omega)); (try have dQ3 : _ < w'.heap.size := Nat.lt_of_lt_of_le dQ3 (by omega)); (try have dQ4 : _ < w'.heap.size := Nat.lt_of_lt_of_le dQ4 (by omega)); (try have dQ5 : _ < w'.heap.size := Nat.lt_of_lt_of_le dQ5 (by omega)); (try (have hnQ := Nat.lt_of_succ_le hz; first | (have _x := dQ0; first | (have _x := dQ1; first | (have _x := dQ2; first | (have _x := dQ3; first | (have _x := dQ4; have dQ5 := hnQ) | have dQ4 := hnQ) | have dQ3 := hnQ) | have dQ2 := hnQ) | have dQ1 := hnQ) | have dQ0 := hnQ)); (try (have hmQ := Nat.lt_of_succ_lt (Nat.lt_of_succ_le hz); first | (have _x := dQ0; first | (have _x := dQ1; first | (have _x := dQ2; first | (have _x := dQ3; first | (have _x := dQ4; have dQ5 := hmQ) | have dQ4 := hmQ) | have dQ3 := hmQ) | have dQ2 := hmQ) | have dQ1 := hmQ) | have dQ0 := hmQ))) | ((with_reducible refine wp_region_qb ?_ ?_ (fun hq => ?_)); (focus kernel_rfl); (focus kernel_rfl); (repeat (go_big_quiet_step ((first | (go_at_call 25; exact Calls.regrown_of (HB.out _)))))); refine wpQuiet_nil ?_; intro wq hb; obtain ⟨hc, hf, hz, hy⟩ := bcell hb; clear hq hy; (try simp only [World.size_alloc, World.size_setCell, World.size_drew] at hz); (try have gQ0 : w.heap.size < wq.heap.size := by omega); (try have gQ1 : w.heap.size + 1 < wq.heap.size := by omega); (try have gQ2 : w.heap.size + 1 + 1 < wq.heap.size := by omega); (try have gQ3 : w.heap.size + 1 + 1 + 1 < wq.heap.size := by omega); (try have gQ4 : w.heap.size + 1 + 1 + 1 + 1 < wq.heap.size := by omega); (try have gQ5 : w.heap.size + 1 + 1 + 1 + 1 + 1 < wq.heap.size := by omega); (try have dQ0 : _ < wq.heap.size := Nat.lt_of_lt_of_le dQ0 (by omega)); (try have dQ1 : _ < wq.heap.size := Nat.lt_of_lt_of_le dQ1 (by omega)); (try have dQ2 : _ < wq.heap.size := Nat.lt_of_lt_of_le dQ2 (by omega)); (try have dQ3 : _ < wq.heap.size := Nat.lt_of_lt_of_le dQ3 (by omega)); (try have dQ4 : _ < wq.heap.size := Nat.lt_of_lt_of_le dQ4 (by omega)); (try have dQ5 : _ < wq.heap.size := Nat.lt_of_lt_of_le dQ5 (by omega)); (try (have hnQ := Nat.lt_of_succ_le hz; first | (have _x := dQ0; first | (have _x := dQ1; first | (have _x := dQ2; first | (have _x := dQ3; first | (have _x := dQ4; have dQ5 := hnQ) | have dQ4 := hnQ) | have dQ3 := hnQ) | have dQ2 := hnQ) | have dQ1 := hnQ) | have dQ0 := hnQ)); (try (have hmQ := Nat.lt_of_succ_lt (Nat.lt_of_succ_le hz); first | (have _x := dQ0; first | (have _x := dQ1; first | (have _x := dQ2; first | (have _x := dQ3; first | (have _x := dQ4; have dQ5 := hmQ) | have dQ4 := hmQ) | have dQ3 := hmQ) | have dQ2 := hmQ) | have dQ1 := hmQ) | have dQ0 := hmQ))))
                all_goals go_roundw
                case rel => exact ⟨x + 1, by omega, by omega, by go_num, rfl, below_via (W := wr) (by clear hbA hbw; (repeat' first | (with_reducible exact Below.refl _ _) | (with_reducible refine Below.alloc ?_ ?_ _) | (with_reducible refine Below.drew ?_) | (with_reducible refine Below.setCell ?_ ?_ _) | (with_reducible refine below_via (by assumption) ?_ ?_) | go_size)) hbw (by omega)⟩
                case measure => simp [intOf]; omega
              · have hd6 : decide ((y : Int) < b) = false := decide_eq_false h3
                go_wp2_with fail
                all_goals go_roundw
                case rel => exact ⟨x + 1, by omega, by omega, by go_num, rfl, by first | exact hbw | (repeat' first | (with_reducible exact Below.refl _ _) | (with_reducible refine Below.alloc ?_ ?_ _) | (with_reducible refine Below.drew ?_) | (with_reducible refine Below.setCell ?_ ?_ _) | (with_reducible refine below_via (by assumption) ?_ ?_) | go_size)⟩
                case measure => simp [intOf]; omega
            · have hd5 : decide ((x : Int) < a) = false := decide_eq_false h2
              go_wp2_with fail
              all_goals go_roundw
              case rel => exact ⟨x + 1, by omega, by omega, by go_num, rfl, by first | exact hbw | (repeat' first | (with_reducible exact Below.refl _ _) | (with_reducible refine Below.alloc ?_ ?_ _) | (with_reducible refine Below.drew ?_) | (with_reducible refine Below.setCell ?_ ?_ _) | (with_reducible refine below_via (by assumption) ?_ ?_) | go_size)⟩
              case measure => simp [intOf]; omega
          · have hch : ((s[x].toNat : Int) == 111) = false := ch_no h1
            go_wp2_with fail
            all_goals go_roundw
            case rel => exact ⟨x + 1, by omega, by omega, by go_num, rfl, by first | exact hbw | (repeat' first | (with_reducible exact Below.refl _ _) | (with_reducible refine Below.alloc ?_ ?_ _) | (with_reducible refine Below.drew ?_) | (with_reducible refine Below.setCell ?_ ?_ _) | (with_reducible refine below_via (by assumption) ?_ ?_) | go_size)⟩
            case measure => simp [intOf]; omega
        · have hmn : Hid (x = min s.size 7) := (by show _ = _; omega)
          by_cases hh : x < s.size
          · have hd3 : decide ((x : Int) < (s.size : Int)) = true := decide_eq_true (by omega)
            have hd4 : decide ((x : Int) < 7) = false := decide_eq_false (by omega)
            have hd5 : ¬ x < 7 := by omega
            go_wp2_with fail
            go_roundw
            case rel => exact ⟨y + 1, by omega, by omega, by go_num, rfl, by first | exact hbw | (repeat' first | (with_reducible exact Below.refl _ _) | (with_reducible refine Below.alloc ?_ ?_ _) | (with_reducible refine Below.drew ?_) | (with_reducible refine Below.setCell ?_ ?_ _) | (with_reducible refine below_via (by assumption) ?_ ?_) | go_size)⟩
            case measure => simp [intOf]; omega
          · have hd3 : decide ((x : Int) < (s.size : Int)) = false := decide_eq_false (by omega)
            go_wp2_with fail
            go_roundw
            case rel => exact ⟨y + 1, by omega, by omega, by go_num, rfl, by first | exact hbw | (repeat' first | (with_reducible exact Below.refl _ _) | (with_reducible refine Below.alloc ?_ ?_ _) | (with_reducible refine Below.drew ?_) | (with_reducible refine Below.setCell ?_ ?_ _) | (with_reducible refine below_via (by assumption) ?_ ?_) | go_size)⟩
            case measure => simp [intOf]; omega
    · have hmn : Hid (y = min L.length 7) := (by show _ = _; omega)
      by_cases hh : y < L.length
      · have hd1 : decide ((y : Int) < (L.length : Int)) = true := decide_eq_true (by omega)
        have hd2 : decide ((y : Int) < 7) = false := decide_eq_false (by omega)
        have hd3 : ¬ y < 7 := by omega
        go_wp2_with fail
        refine (HPT.out _).mono ?_
        rintro e w5 ⟨vT, rfl, hownT, hb5⟩
        obtain ⟨aT, capT, rfl, _, _⟩ := hownT.strG
        have hb6 : Below w.heap.size w w5 := hbA.trans (hb5.mono (by omega))
        clear hownT hb5
        simp only [List.length_nil]
        go_wp2_with fail
        all_goals go_ret2
        all_goals exact ⟨by rw [HR.out]; rfl, hb6⟩
      · have hd1 : decide ((y : Int) < (L.length : Int)) = false := decide_eq_false (by omega)
        go_wp2_with fail
        refine (HPT.out _).mono ?_
        rintro e w5 ⟨vT, rfl, hownT, hb5⟩
        obtain ⟨aT, capT, rfl, _, _⟩ := hownT.strG
        have hb6 : Below w.heap.size w w5 := hbA.trans (hb5.mono (by omega))
        clear hownT hb5
        simp only [List.length_nil]
        go_wp2_with fail
        all_goals go_ret2
        all_goals exact ⟨by rw [HR.out]; rfl, hb6⟩
set_option maxHeartbeats 4000000 in
set_option maxRecDepth 100000 in
theorem sReadPosition_ok (A B : Nat) (o : Int) (L : List ByteArray) (v : Value) (hS : ∀ y, y < L.length → (gD L B0 y).size ≤ 1048576) (hbo : boardOk (A : Int) (B : Int) o = true) (w : World) {B' : Nat} (hv : Own EStr w B' v L) :
    Calls Try.prog 11 #[.agg #[.int .i64 (A : Int), .int .i64 (B : Int), .int .i64 o], v] w fun e w' => e = .returned (optP (readPos A B o L)) ∧ Below w.heap.size w w' := by
  obtain ⟨aL, capL, rfl, hnL, hgetL⟩ := hv.strG
  have HGL := Lib.hid hgetL
  have HSz := Lib.hid hS
  clear hgetL hv hS
  have HB : Hid (∀ W, Calls Try.prog 25 #[.agg #[.int .i64 (A : Int), .int .i64 (B : Int), .int .i64 o]] W fun e w' => e = .returned (.bool true) ∧ Below W.heap.size W w') := fun W => by rw [← hbo]; exact sBoardOk_any (A : Int) (B : Int) o W
  obtain ⟨ha1, ha2⟩ := inR_iff.1 (boardOk_sides hbo).1
  obtain ⟨hb1, hb2⟩ := inR_iff.1 (boardOk_sides hbo).2
  have HBD := Lib.hid (fun y => accToS_bd (A := A) (B := B) (L := L) (by omega) (by omega) y)
  have HBO := Lib.hid hbo
  clear hbo
  go_enter Try.func11, Try.ntmps11
  go_wp2_with fail
  go_loopw [6, 7] (fun t6 t7 wz => ∃ y : Nat, y ≤ L.length ∧ y ≤ 7 ∧ t7 = .int .i64 y ∧ t6 = .int .i64 (accToS A B L y) ∧ Below (w.heap.size + 1) (w.alloc (.cells #[.int .i64 (A : Int), .int .i64 (B : Int), .int .i64 o] 30)) wz) (fun _ t _ => 7 - (intOf t).toNat)
  case atStart => exact ⟨0, by omega, by omega, rfl, rfl, by (repeat' first | (with_reducible exact Below.refl _ _) | (with_reducible refine Below.alloc ?_ ?_ _) | (with_reducible refine Below.drew ?_) | (with_reducible refine Below.setCell ?_ ?_ _) | (with_reducible refine below_via (by assumption) ?_ ?_) | go_size)⟩
  case round =>
    obtain ⟨y, hy, hy7, rfl, rfl, hbw⟩ := hrel
    have gW0 : w.heap.size < wr.heap.size := by have := hbw.size; simp only [World.size_alloc] at this; omega
    have hbA : Below w.heap.size w wr := ((Below.refl _ _).alloc (Nat.le_refl _) _).trans (hbw.mono (by omega))
    have hbox : ∀ j, wr.cell? ⟨w.heap.size, j, none⟩ = #[Value.int .i64 (A : Int), .int .i64 (B : Int), .int .i64 o][j]? := fun j => (hbw.cell (by simp)).trans (by simp)
    by_cases hlt : y < L.length ∧ y < 7
    · obtain ⟨hl1, hl2⟩ := hlt
      have hd1 : decide ((y : Int) < (L.length : Int)) = true := decide_eq_true (by omega)
      have hd2 : decide ((y : Int) < 7) = true := decide_eq_true (by omega)
      obtain ⟨bL, rfl, _, hbL, hcw⟩ := HGL.out y hl1
      have hsz := HSz.out y hl1
      have HAcc : Hid (accToS A B L (y + 1) = accRowS A (decide (y < B)) (gD L B0 y) (y * A) (accToS A B L y) (min (gD L B0 y).size 7)) := rfl
      obtain ⟨p0, p1⟩ := HBD.out y
      generalize accToS A B L y = p at *
      have HAR := Lib.hid (fun x => accRowS_bd (A := A) (g := decide (y < B)) (line := gD L B0 y) (s := y * A) (p := p) (by omega) (fun h => by have h2 : y < B := (by simpa using h); exact Nat.mul_le_mul (show y ≤ 6 by omega) (show A ≤ 7 by omega)) p0 p1 x)
      obtain ⟨g, hg⟩ : ∃ g, decide (y < B) = g := ⟨_, rfl⟩
      rw [hg] at HAcc HAR
      generalize gD L B0 y = s at *
      clear hbox hbA
      go_wp2_with fail
      go_loopw [6, 8] (fun t6 t8 wz => ∃ x : Nat, x ≤ s.size ∧ x ≤ 7 ∧ t8 = .int .i64 x ∧ t6 = .int .i64 (accRowS A g s (y * A) p x) ∧ Below (w.heap.size + 1) (w.alloc (.cells #[.int .i64 (A : Int), .int .i64 (B : Int), .int .i64 o] 30)) wz) (fun _ t _ => 7 - (intOf t).toNat)
      case atStart => exact ⟨0, by omega, by omega, rfl, rfl, by first | exact hbw | (repeat' first | (with_reducible exact Below.refl _ _) | (with_reducible refine Below.alloc ?_ ?_ _) | (with_reducible refine Below.drew ?_) | (with_reducible refine Below.setCell ?_ ?_ _) | (with_reducible refine below_via (by assumption) ?_ ?_) | go_size)⟩
      case round =>
        clear hbw gW0
        obtain ⟨x, hx, hx7, rfl, rfl, hbw⟩ := hrel
        have gW0 : w.heap.size < wr.heap.size := by have := hbw.size; simp only [World.size_alloc] at this; omega
        have hbA : Below w.heap.size w wr := ((Below.refl _ _).alloc (Nat.le_refl _) _).trans (hbw.mono (by omega))
        have hbox : ∀ j, wr.cell? ⟨w.heap.size, j, none⟩ = #[Value.int .i64 (A : Int), .int .i64 (B : Int), .int .i64 o][j]? := fun j => (hbw.cell (by simp)).trans (by simp)
        have hc0 := (hbA.cell (p := ⟨bL, y, none⟩) hbL).trans hcw
        have gWb : bL < wr.heap.size := by omega
        by_cases hlx : x < s.size ∧ x < 7
        · obtain ⟨hx1, hx2⟩ := hlx
          have hd3 : decide ((x : Int) < (s.size : Int)) = true := decide_eq_true (by omega)
          have hd4 : decide ((x : Int) < 7) = true := decide_eq_true (by omega)
          by_cases h1 : s[x] = 111
          · have hch : ((s[x].toNat : Int) == 111) = true := by rw [h1]; rfl
            by_cases h2 : x < A
            · have hd5 : decide ((x : Int) < (A : Int)) = true := decide_eq_true (by omega)
              by_cases h3 : y < B
              · have hd6 : decide ((y : Int) < (B : Int)) = true := decide_eq_true (by omega)
                obtain rfl : g = true := by rw [← hg]; exact decide_eq_true h3
                have HV := Lib.hid (accRowS_yes (A := A) (g := true) (s := y * A) (p := p) hx1 h1 h2 rfl)
                obtain ⟨M, hM⟩ : ∃ M : Nat, y * A = M := ⟨_, rfl⟩
                have hM7 : M ≤ 42 := by rw [← hM]; exact Nat.mul_le_mul (show y ≤ 6 by omega) (show A ≤ 7 by omega)
                have hMz : (y : Int) * (A : Int) = (M : Int) := by rw [← hM]; simp
                obtain ⟨q0, q1⟩ := HAR.out x
                rw [pw49] at q1
                rw [hM] at HV q0 q1 ⊢
                clear hM
                have hq0 : (M : Int) + (x : Int) = ((M + x : Nat) : Int) := by omega
                have hpw := pw_wrap (n := ((M + x : Nat) : Int)) (by omega) (by omega)
                have hp62 := pw_62 (n := ((M + x : Nat) : Int)) (by omega) (by omega)
                have hpp := pw_pos ((M + x : Nat) : Int)
                have hor := bits_or (a := accRowS A true s M p x) (b := pw ((M + x : Nat) : Int)) q0 (by omega) (by omega) (by omega)
                generalize accRowS A true s M p x = q at *
                generalize hQ : ((M + x : Nat) : Int) = Q at *
                have hQ0 : 0 ≤ Q := by omega
                have hQ1 : Q ≤ 62 := by omega
                clear h1
                go_wp2_with (first | (go_at_call 25; refine (HB.out _).mono ?_; rintro e w' ⟨rfl, hb⟩; obtain ⟨hc, hf, hz, hy⟩ := bcell hb; clear hy; (try simp only [World.size_alloc, World.size_setCell, World.size_drew] at hz); (try have gQ0 : w.heap.size < w'.heap.size := by omega); (try have gQ1 : w.heap.size + 1 < w'.heap.size := by omega); (try have gQ2 : w.heap.size + 1 + 1 < w'.heap.size := by omega); (try have gQ3 : w.heap.size + 1 + 1 + 1 < w'.heap.size := by omega); (try have gQ4 : w.heap.size + 1 + 1 + 1 + 1 < w'.heap.size := by omega); (try have gQ5 : w.heap.size + 1 + 1 + 1 + 1 + 1 < w'.heap.size := by omega); (try have dQ0 : _ < w'.heap.size := Nat.lt_of_lt_of_le dQ0 (by omega)); (try have dQ1 : _ < w'.heap.size := Nat.lt_of_lt_of_le dQ1 (by omega)); (try have dQ2 : _ < w'.heap.size := Nat.lt_of_lt_of_le dQ2 (by omega)); (try have dQ3 : _ < w'.heap.size := Nat.lt_of_lt_of_le dQ3 (by omega)); (try have dQ4 : _ < w'.heap.size := Nat.lt_of_lt_of_le dQ4 (by omega)); (try have dQ5 : _ < w'.heap.size := Nat.lt_of_lt_of_le dQ5 (by omega)); (try (have hnQ := Nat.lt_of_succ_le hz; first | (have _x := dQ0; first | (have _x := dQ1; first | (have _x := dQ2; first | (have _x := dQ3; first | (have _x := dQ4; have dQ5 := hnQ) | have dQ4 := hnQ) | have dQ3 := hnQ) | have dQ2 := hnQ) | have dQ1 := hnQ) | have dQ0 := hnQ)); (try (have hmQ := Nat.lt_of_succ_lt (Nat.lt_of_succ_le hz); first | (have _x := dQ0; first | (have _x := dQ1; first | (have _x := dQ2; first | (have _x := dQ3; first | (have _x := dQ4; have dQ5 := hmQ) | have dQ4 := hmQ) | have dQ3 := hmQ) | have dQ2 := hmQ) | have dQ1 := hmQ) | have dQ0 := hmQ))) | ((with_reducible refine wp_region_qb ?_ ?_ (fun hq => ?_)); (focus kernel_rfl); (focus kernel_rfl); (repeat (go_big_quiet_step ((first | (go_at_call 25; exact Calls.regrown_of (HB.out _)))))); refine wpQuiet_nil ?_; intro wq hb; obtain ⟨hc, hf, hz, hy⟩ := bcell hb; clear hq hy; (try simp only [World.size_alloc, World.size_setCell, World.size_drew] at hz); (try have gQ0 : w.heap.size < wq.heap.size := by omega); (try have gQ1 : w.heap.size + 1 < wq.heap.size := by omega); (try have gQ2 : w.heap.size + 1 + 1 < wq.heap.size := by omega); (try have gQ3 : w.heap.size + 1 + 1 + 1 < wq.heap.size := by omega); (try have gQ4 : w.heap.size + 1 + 1 + 1 + 1 < wq.heap.size := by omega); (try have gQ5 : w.heap.size + 1 + 1 + 1 + 1 + 1 < wq.heap.size := by omega); (try have dQ0 : _ < wq.heap.size := Nat.lt_of_lt_of_le dQ0 (by omega)); (try have dQ1 : _ < wq.heap.size := Nat.lt_of_lt_of_le dQ1 (by omega)); (try have dQ2 : _ < wq.heap.size := Nat.lt_of_lt_of_le dQ2 (by omega)); (try have dQ3 : _ < wq.heap.size := Nat.lt_of_lt_of_le dQ3 (by omega)); (try have dQ4 : _ < wq.heap.size := Nat.lt_of_lt_of_le dQ4 (by omega)); (try have dQ5 : _ < wq.heap.size := Nat.lt_of_lt_of_le dQ5 (by omega)); (try (have hnQ := Nat.lt_of_succ_le hz; first | (have _x := dQ0; first | (have _x := dQ1; first | (have _x := dQ2; first | (have _x := dQ3; first | (have _x := dQ4; have dQ5 := hnQ) | have dQ4 := hnQ) | have dQ3 := hnQ) | have dQ2 := hnQ) | have dQ1 := hnQ) | have dQ0 := hnQ)); (try (have hmQ := Nat.lt_of_succ_lt (Nat.lt_of_succ_le hz); first | (have _x := dQ0; first | (have _x := dQ1; first | (have _x := dQ2; first | (have _x := dQ3; first | (have _x := dQ4; have dQ5 := hmQ) | have dQ4 := hmQ) | have dQ3 := hmQ) | have dQ2 := hmQ) | have dQ1 := hmQ) | have dQ0 := hmQ))))
                all_goals go_roundw
                case rel => exact ⟨x + 1, by omega, by omega, by go_num, by rw [HV.out], below_via (W := wr) (by clear hbA hbw; (repeat' first | (with_reducible exact Below.refl _ _) | (with_reducible refine Below.alloc ?_ ?_ _) | (with_reducible refine Below.drew ?_) | (with_reducible refine Below.setCell ?_ ?_ _) | (with_reducible refine below_via (by assumption) ?_ ?_) | go_size)) hbw (by omega)⟩
                case measure => simp [intOf]; omega
              · have hd6 : decide ((y : Int) < (B : Int)) = false := decide_eq_false (by omega)
                have HV := Lib.hid (accRowS_no (A := A) (g := g) (s := y * A) (p := p) hx1 (fun h => h3 (by have := h.2.2; rw [← hg] at this; simpa using this)))
                generalize accRowS A g s (y * A) p x = q at *
                go_wp2_with fail
                all_goals go_roundw
                case rel => exact ⟨x + 1, by omega, by omega, by go_num, by rw [HV.out], by first | exact hbw | (repeat' first | (with_reducible exact Below.refl _ _) | (with_reducible refine Below.alloc ?_ ?_ _) | (with_reducible refine Below.drew ?_) | (with_reducible refine Below.setCell ?_ ?_ _) | (with_reducible refine below_via (by assumption) ?_ ?_) | go_size)⟩
                case measure => simp [intOf]; omega
            · have hd5 : decide ((x : Int) < (A : Int)) = false := decide_eq_false (by omega)
              have HV := Lib.hid (accRowS_no (A := A) (g := g) (s := y * A) (p := p) hx1 (fun h => h2 h.2.1))
              generalize accRowS A g s (y * A) p x = q at *
              go_wp2_with fail
              all_goals go_roundw
              case rel => exact ⟨x + 1, by omega, by omega, by go_num, by rw [HV.out], by first | exact hbw | (repeat' first | (with_reducible exact Below.refl _ _) | (with_reducible refine Below.alloc ?_ ?_ _) | (with_reducible refine Below.drew ?_) | (with_reducible refine Below.setCell ?_ ?_ _) | (with_reducible refine below_via (by assumption) ?_ ?_) | go_size)⟩
              case measure => simp [intOf]; omega
          · have hch : ((s[x].toNat : Int) == 111) = false := ch_no h1
            have HV := Lib.hid (accRowS_no (A := A) (g := g) (s := y * A) (p := p) hx1 (fun h => h1 h.1))
            generalize accRowS A g s (y * A) p x = q at *
            go_wp2_with fail
            all_goals go_roundw
            case rel => exact ⟨x + 1, by omega, by omega, by go_num, by rw [HV.out], by first | exact hbw | (repeat' first | (with_reducible exact Below.refl _ _) | (with_reducible refine Below.alloc ?_ ?_ _) | (with_reducible refine Below.drew ?_) | (with_reducible refine Below.setCell ?_ ?_ _) | (with_reducible refine below_via (by assumption) ?_ ?_) | go_size)⟩
            case measure => simp [intOf]; omega
        · have hmn : Hid (x = min s.size 7) := (by show _ = _; omega)
          by_cases hh : x < s.size
          · have hd3 : decide ((x : Int) < (s.size : Int)) = true := decide_eq_true (by omega)
            have hd4 : decide ((x : Int) < 7) = false := decide_eq_false (by omega)
            have hd5 : ¬ x < 7 := by omega
            go_wp2_with fail
            go_roundw
            case rel => exact ⟨y + 1, by omega, by omega, by go_num, by rw [HAcc.out, ← hmn.out], by first | exact hbw | (repeat' first | (with_reducible exact Below.refl _ _) | (with_reducible refine Below.alloc ?_ ?_ _) | (with_reducible refine Below.drew ?_) | (with_reducible refine Below.setCell ?_ ?_ _) | (with_reducible refine below_via (by assumption) ?_ ?_) | go_size)⟩
            case measure => simp [intOf]; omega
          · have hd3 : decide ((x : Int) < (s.size : Int)) = false := decide_eq_false (by omega)
            go_wp2_with fail
            go_roundw
            case rel => exact ⟨y + 1, by omega, by omega, by go_num, by rw [HAcc.out, ← hmn.out], by first | exact hbw | (repeat' first | (with_reducible exact Below.refl _ _) | (with_reducible refine Below.alloc ?_ ?_ _) | (with_reducible refine Below.drew ?_) | (with_reducible refine Below.setCell ?_ ?_ _) | (with_reducible refine below_via (by assumption) ?_ ?_) | go_size)⟩
            case measure => simp [intOf]; omega
    · have hmn : Hid (y = min L.length 7) := (by show _ = _; omega)
      have hp := HBD.out y
      rw [pw49] at hp
      have HPT := Lib.hid (fun W => sPositionText_any (A : Int) (B : Int) o (accToS A B L y) (by omega) W)
      have HYes := Lib.hid (fun h1 h2 => readPos_of (A := A) (B := B) (o := o) (L := L) HBO.out h1 h2)
      have HNot := Lib.hid (fun h => readPos_not (A := A) (B := B) (o := o) (L := L) HBO.out h)
      rw [← hmn.out] at HYes HNot
      generalize accToS A B L y = P at *
      generalize posText (A : Int) (B : Int) o P = T at *
      by_cases hh : y < L.length
      · have hd1 : decide ((y : Int) < (L.length : Int)) = true := decide_eq_true (by omega)
        have hd2 : decide ((y : Int) < 7) = false := decide_eq_false (by have := hmn.out; omega)
        have hd3 : ¬ y < 7 := by have := hmn.out; omega
        clear hmn
        go_wp2_with fail
        refine (HPT.out _).mono ?_
        rintro e w5 ⟨vT, rfl, hownT, hb5⟩
        obtain ⟨aT, capT, rfl, hnT, hgetT⟩ := hownT.strG
        have HGT := Lib.hid hgetT
        have hb6 : Below w.heap.size w w5 := hbA.trans (hb5.mono (by omega))
        have HW5 := Lib.hid hb6
        clear hownT hb5 hgetT HPT hbox hbA hbw
        obtain ⟨nT, HnT⟩ : ∃ n : Nat, Hid (T.length = n) := ⟨_, rfl⟩
        rw [HnT.out] at HGT hnT ⊢
        by_cases hT0 : nT = 0
        · have HR : Hid (readPos A B o L = none) := by
            show _ = _
            by_cases hL : L = []
            · rw [readPos, if_neg]
              rintro ⟨_, h, _⟩
              rw [hL] at h
              simp at h
              omega
            · exact HNot.out (fun e => hL (by rw [← e]; exact List.length_eq_zero_iff.1 (HnT.out.trans hT0)))
          have hd7 : ((nT : Int) == 0) = true := by rw [hT0]; rfl
          go_wp2_with fail
          all_goals go_ret2
          all_goals exact ⟨by rw [HR.out]; rfl, HW5.out⟩
        have hd7 : ((nT : Int) == 0) = false := by rw [beq_eq_false_iff_ne]; omega
        by_cases hTL : ¬ nT = L.length
        · have HR : Hid (readPos A B o L = none) := HNot.out (fun e => hTL (by rw [← HnT.out, e]))
          have hd8 : ((nT : Int) != (L.length : Int)) = true := by simp; omega
          go_wp2_with fail
          all_goals go_ret2
          all_goals exact ⟨by rw [HR.out]; rfl, HW5.out⟩
        have HTL := Lib.hid (Decidable.not_not.1 hTL)
        clear hTL
        have hd8 : ((nT : Int) != (L.length : Int)) = false := by rw [HTL.out]; simp
        go_wp2_with fail
        go_loopw [10] (fun t10 wz => ∃ k : Nat, k ≤ nT ∧ t10 = .int .i64 k ∧ Hid (∀ j, j < k → gD T B0 j = gD L B0 j) ∧ Below w5.heap.size w5 wz) (fun t _ => nT - (intOf t).toNat)
        case atStart => exact ⟨0, by omega, rfl, fun j hj => by omega, Below.refl _ _⟩
        case round =>
          obtain ⟨k, hk, rfl, heq, hbk⟩ := hrel
          by_cases hkt : k < nT
          · obtain ⟨bT, rfl, _, hbT, hd0⟩ := HGT.out k hkt
            obtain ⟨bL, rfl, _, hbL, hc0⟩ := HGL.out k (by have := HTL.out; omega)
            have hd0 := (hbk.cell (p := ⟨bT, k, none⟩) hbT).trans hd0
            have hc0 := ((HW5.out.trans (hbk.mono HW5.out.size)).cell (p := ⟨bL, k, none⟩) hbL).trans hc0
            have hkL : k < L.length := by have := HTL.out; omega
            have g1 : bT < wr.heap.size := Nat.lt_of_lt_of_le hbT hbk.size
            have g2 : bL < wr.heap.size := Nat.lt_of_lt_of_le hbL (Nat.le_trans HW5.out.size hbk.size)
            by_cases hst : gD T B0 k = gD L B0 k
            · have heq2 : Hid (∀ j, j < k + 1 → gD T B0 j = gD L B0 j) := fun j hj => by
                rcases Nat.lt_or_ge j k with h | h
                · exact heq.out j h
                · obtain rfl : j = k := by omega
                  exact hst
              rw [hst] at hd0
              generalize gD L B0 k = s at *
              clear hst
              go_wp2_with ((with_reducible refine wp_region_qb ?_ ?_ (fun hq => ?_)); (focus kernel_rfl); (focus kernel_rfl); (repeat (go_big_quiet_step (fail))); refine wpQuiet_nil ?_; intro w7 hb7; clear hq)
              go_roundw
              case rel => exact ⟨k + 1, by omega, by go_num, heq2, hbk.trans (hb7.mono hbk.size)⟩
              case measure => simp [intOf]; omega
            · have HN : Hid (readPos A B o L = none) := HNot.out (fun e => hst (by rw [e]))
              have hne := str_neP hst
              have hne2 : ((gD T B0 k).toList != (gD L B0 k).toList) = true := by simp only [bne, hne]; rfl
              generalize gD L B0 k = s at *
              generalize gD T B0 k = t at *
              clear hst
              go_wp2_with ((with_reducible refine wp_region_qb ?_ ?_ (fun hq => ?_)); (focus kernel_rfl); (focus kernel_rfl); (repeat (go_big_quiet_step (fail))); refine wpQuiet_nil ?_; intro w7 hb7; clear hq)
              all_goals go_ret2
              all_goals exact ⟨by rw [HN.out]; rfl, HW5.out.trans ((hbk.trans (hb7.mono hbk.size)).mono HW5.out.size)⟩
          · obtain rfl : k = nT := by omega
            have HN : Hid (readPos A B o L = some P) := HYes.out (list_gD (HnT.out.trans HTL.out) (fun j hj => heq.out j (by have := HTL.out; omega))) (fun e => hT0 (by rw [HTL.out, e]; rfl))
            go_wp2_with fail
            all_goals go_ret2
            all_goals exact ⟨by rw [HN.out]; rfl, HW5.out.trans (hbk.mono HW5.out.size)⟩
      · have hd1 : decide ((y : Int) < (L.length : Int)) = false := decide_eq_false (by omega)
        clear hmn
        go_wp2_with fail
        refine (HPT.out _).mono ?_
        rintro e w5 ⟨vT, rfl, hownT, hb5⟩
        obtain ⟨aT, capT, rfl, hnT, hgetT⟩ := hownT.strG
        have HGT := Lib.hid hgetT
        have hb6 : Below w.heap.size w w5 := hbA.trans (hb5.mono (by omega))
        have HW5 := Lib.hid hb6
        clear hownT hb5 hgetT HPT hbox hbA hbw
        obtain ⟨nT, HnT⟩ : ∃ n : Nat, Hid (T.length = n) := ⟨_, rfl⟩
        rw [HnT.out] at HGT hnT ⊢
        by_cases hT0 : nT = 0
        · have HR : Hid (readPos A B o L = none) := by
            show _ = _
            by_cases hL : L = []
            · rw [readPos, if_neg]
              rintro ⟨_, h, _⟩
              rw [hL] at h
              simp at h
              omega
            · exact HNot.out (fun e => hL (by rw [← e]; exact List.length_eq_zero_iff.1 (HnT.out.trans hT0)))
          have hd7 : ((nT : Int) == 0) = true := by rw [hT0]; rfl
          go_wp2_with fail
          all_goals go_ret2
          all_goals exact ⟨by rw [HR.out]; rfl, HW5.out⟩
        have hd7 : ((nT : Int) == 0) = false := by rw [beq_eq_false_iff_ne]; omega
        by_cases hTL : ¬ nT = L.length
        · have HR : Hid (readPos A B o L = none) := HNot.out (fun e => hTL (by rw [← HnT.out, e]))
          have hd8 : ((nT : Int) != (L.length : Int)) = true := by simp; omega
          go_wp2_with fail
          all_goals go_ret2
          all_goals exact ⟨by rw [HR.out]; rfl, HW5.out⟩
        have HTL := Lib.hid (Decidable.not_not.1 hTL)
        clear hTL
        have hd8 : ((nT : Int) != (L.length : Int)) = false := by rw [HTL.out]; simp
        go_wp2_with fail
        go_loopw [10] (fun t10 wz => ∃ k : Nat, k ≤ nT ∧ t10 = .int .i64 k ∧ Hid (∀ j, j < k → gD T B0 j = gD L B0 j) ∧ Below w5.heap.size w5 wz) (fun t _ => nT - (intOf t).toNat)
        case atStart => exact ⟨0, by omega, rfl, fun j hj => by omega, Below.refl _ _⟩
        case round =>
          obtain ⟨k, hk, rfl, heq, hbk⟩ := hrel
          by_cases hkt : k < nT
          · obtain ⟨bT, rfl, _, hbT, hd0⟩ := HGT.out k hkt
            obtain ⟨bL, rfl, _, hbL, hc0⟩ := HGL.out k (by have := HTL.out; omega)
            have hd0 := (hbk.cell (p := ⟨bT, k, none⟩) hbT).trans hd0
            have hc0 := ((HW5.out.trans (hbk.mono HW5.out.size)).cell (p := ⟨bL, k, none⟩) hbL).trans hc0
            have hkL : k < L.length := by have := HTL.out; omega
            have g1 : bT < wr.heap.size := Nat.lt_of_lt_of_le hbT hbk.size
            have g2 : bL < wr.heap.size := Nat.lt_of_lt_of_le hbL (Nat.le_trans HW5.out.size hbk.size)
            by_cases hst : gD T B0 k = gD L B0 k
            · have heq2 : Hid (∀ j, j < k + 1 → gD T B0 j = gD L B0 j) := fun j hj => by
                rcases Nat.lt_or_ge j k with h | h
                · exact heq.out j h
                · obtain rfl : j = k := by omega
                  exact hst
              rw [hst] at hd0
              generalize gD L B0 k = s at *
              clear hst
              go_wp2_with ((with_reducible refine wp_region_qb ?_ ?_ (fun hq => ?_)); (focus kernel_rfl); (focus kernel_rfl); (repeat (go_big_quiet_step (fail))); refine wpQuiet_nil ?_; intro w7 hb7; clear hq)
              go_roundw
              case rel => exact ⟨k + 1, by omega, by go_num, heq2, hbk.trans (hb7.mono hbk.size)⟩
              case measure => simp [intOf]; omega
            · have HN : Hid (readPos A B o L = none) := HNot.out (fun e => hst (by rw [e]))
              have hne := str_neP hst
              have hne2 : ((gD T B0 k).toList != (gD L B0 k).toList) = true := by simp only [bne, hne]; rfl
              generalize gD L B0 k = s at *
              generalize gD T B0 k = t at *
              clear hst
              go_wp2_with ((with_reducible refine wp_region_qb ?_ ?_ (fun hq => ?_)); (focus kernel_rfl); (focus kernel_rfl); (repeat (go_big_quiet_step (fail))); refine wpQuiet_nil ?_; intro w7 hb7; clear hq)
              all_goals go_ret2
              all_goals exact ⟨by rw [HN.out]; rfl, HW5.out.trans ((hbk.trans (hb7.mono hbk.size)).mono HW5.out.size)⟩
          · obtain rfl : k = nT := by omega
            have HN : Hid (readPos A B o L = some P) := HYes.out (list_gD (HnT.out.trans HTL.out) (fun j hj => heq.out j (by have := HTL.out; omega))) (fun e => hT0 (by rw [HTL.out, e]; rfl))
            go_wp2_with fail
            all_goals go_ret2
            all_goals exact ⟨by rw [HN.out]; rfl, HW5.out.trans (hbk.mono HW5.out.size)⟩
end Go.Proofs.Ytkaojpcpfbbicaa
