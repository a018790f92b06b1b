/- Read2: contracts of holeNamed and of ReadJump (both). Conditions: the text's length in range. -/
import Derived.Test.YtkaojpcpfbbicaaDoorRead1
import Derived.Deep.RegionWith
import Derived.Deep.DeepCutAuto
import Derived.Deep.RegionHeld3
set_option linter.unusedVariables false
set_option linter.unusedSimpArgs false
namespace Peg
theorem str_ne {x y : ByteArray} (h : x ≠ y) : (x.toList == y.toList) = false := by
  rw [beq_eq_false_iff_ne]
  intro e
  rw [Go.Lib.toList_data, Go.Lib.toList_data] at e
  exact h (ba_ext e)
end Peg
namespace Go.Proofs.YtkaojpcpfbbicaaDoor
open Go.ChangeShapes Go.WideShapes Go.ChangeAt Go.RowKit Peg Go.Sort
set_option maxHeartbeats 1000000 in
set_option maxRecDepth 100000 in
theorem holeNamed_any (a b o : Int) (n : ByteArray) (w : World) :
    Calls Tryd.prog 52 #[.agg #[.int .i64 a, .int .i64 b, .int .i64 o], .string n] w fun e w' => e = .returned (.int .i64 (named a b o n)) ∧ Below w.heap.size w w' := by
  have HHO := Lib.hid (HolesOf_any a b o)
  have HHN : Hid (∀ k W, Calls Tryd.prog 48 #[.agg #[.int .i64 a, .int .i64 b, .int .i64 o], .int .i64 k] W fun e w' => e = .returned (.string (holeName a b o k)) ∧ Below W.heap.size W w') := fun k W => HoleName_any a b o k W
  have HF : Hid (named a b o n = ((holesOf a b o).find? fun k => decide (holeName a b o k = n)).getD (-1)) := rfl
  have hl49 := holesOf_length a b o
  generalize holeName a b o = nm at *
  generalize holesOf a b o = L at *
  go_enter Tryd.func52, Tryd.ntmps52
  go_wp2_with fail
  refine (HHO.out _).mono ?_
  rintro e w' ⟨vL, rfl, hownL, hb⟩
  obtain ⟨hc, hf, hz, hy⟩ := bcell hb; clear hy; (try simp only [World.size_alloc, World.size_setCell, World.size_drew] at hz); (try have gQ0 : w.heap.size < w'.heap.size := by omega); (try have gQ1 : w.heap.size + 1 < w'.heap.size := by omega); (try have gQ2 : w.heap.size + 1 + 1 < w'.heap.size := by omega); (try have gQ3 : w.heap.size + 1 + 1 + 1 < w'.heap.size := by omega); (try have gQ4 : w.heap.size + 1 + 1 + 1 + 1 < w'.heap.size := by omega); (try have gQ5 : w.heap.size + 1 + 1 + 1 + 1 + 1 < w'.heap.size := by omega); (try have dQ0 : _ < w'.heap.size := Nat.lt_of_lt_of_le dQ0 (by omega)); (try have dQ1 : _ < w'.heap.size := Nat.lt_of_lt_of_le dQ1 (by omega)); (try have dQ2 : _ < w'.heap.size := Nat.lt_of_lt_of_le dQ2 (by omega)); (try have dQ3 : _ < w'.heap.size := Nat.lt_of_lt_of_le dQ3 (by omega)); (try have dQ4 : _ < w'.heap.size := Nat.lt_of_lt_of_le dQ4 (by omega)); (try have dQ5 : _ < w'.heap.size := Nat.lt_of_lt_of_le dQ5 (by omega)); (try (have hnQ := Nat.lt_of_succ_le hz; first | (have _x := dQ0; first | (have _x := dQ1; first | (have _x := dQ2; first | (have _x := dQ3; first | (have _x := dQ4; have dQ5 := hnQ) | have dQ4 := hnQ) | have dQ3 := hnQ) | have dQ2 := hnQ) | have dQ1 := hnQ) | have dQ0 := hnQ)); (try (have hmQ := Nat.lt_of_succ_lt (Nat.lt_of_succ_le hz); first | (have _x := dQ0; first | (have _x := dQ1; first | (have _x := dQ2; first | (have _x := dQ3; first | (have _x := dQ4; have dQ5 := hmQ) | have dQ4 := hmQ) | have dQ3 := hmQ) | have dQ2 := hmQ) | have dQ1 := hmQ) | have dQ0 := hmQ))
  obtain ⟨w3, rfl⟩ : ∃ w3 : World, w3 = w' := ⟨_, rfl⟩
  have HW3 := Lib.hid (show Below w.heap.size w w3 by (repeat' first | (with_reducible exact Below.refl _ _) | (with_reducible refine Below.alloc ?_ ?_ _) | (with_reducible refine Below.drew ?_) | (with_reducible refine Below.setCell ?_ ?_ _) | (with_reducible refine below_via (by assumption) ?_ ?_) | go_size))
  have hbox0 : ∀ j, w3.cell? ⟨w.heap.size, j, none⟩ = #[Value.int .i64 a, .int .i64 b, .int .i64 o][j]? := fun j => by rw [hc _ _ (by simp)]; simp
  obtain ⟨aL, capL, rfl, hnL, hgetL⟩ := hownL.intG
  have HGL := Lib.hid hgetL
  clear hgetL hownL hc hf
  go_wp2_with fail
  go_loopw [10] (fun i wr => ∃ k : Nat, k ≤ L.length ∧ i = .int .i64 k ∧ Hid ((L.take k).find? (fun k => decide (nm k = n)) = none) ∧ Below w3.heap.size w3 wr) (fun i _ => L.length - (intOf i).toNat)
  case atStart => exact ⟨0, by omega, rfl, by show _ = _; simp, Below.refl _ _⟩
  case round =>
    obtain ⟨k, hk, rfl, hno, hbw⟩ := hrel
    have hz5 := hbw.size
    have hbox : ∀ j, wr.cell? ⟨w.heap.size, j, none⟩ = #[Value.int .i64 a, .int .i64 b, .int .i64 o][j]? := fun j => (hbw.cell (by simp; omega)).trans (hbox0 j)
    have gW0 : w.heap.size < wr.heap.size := by omega
    by_cases hlt : k < L.length
    · obtain ⟨bL, rfl, _, hbL, hc0⟩ := HGL.out k hlt
      rw [← hbw.cell (by simpa using hbL)] at hc0
      have HY := Lib.hid (find_take_yes (fun k => decide (nm k = n)) L 0 k hlt hno.out)
      have HN := Lib.hid (find_take_no (fun k => decide (nm k = n)) L 0 k hlt hno.out)
      have HC := Lib.hid (HHN.out (gD L 0 k))
      generalize gD L 0 k = q at *
      have gW1 : bL < wr.heap.size := by omega
      by_cases hq : nm q = n
      · have HR : Hid (named a b o n = q) := by show _ = _; rw [HF.out, HY.out (by simpa using hq)]; rfl
        rw [hq] at HC
        clear HY HN
        go_wp2_with (go_at_call 48; refine (HC.out _).mono ?_; rintro e w' ⟨rfl, hb⟩; obtain ⟨hc, hf, hz, hy⟩ := bcell hb; clear hy; (try simp only [World.size_alloc, World.size_setCell, World.size_drew] at hz); (try have gQ0 : w.heap.size < w'.heap.size := by omega); (try have gQ1 : w.heap.size + 1 < w'.heap.size := by omega); (try have gQ2 : w.heap.size + 1 + 1 < w'.heap.size := by omega); (try have gQ3 : w.heap.size + 1 + 1 + 1 < w'.heap.size := by omega); (try have gQ4 : w.heap.size + 1 + 1 + 1 + 1 < w'.heap.size := by omega); (try have gQ5 : w.heap.size + 1 + 1 + 1 + 1 + 1 < w'.heap.size := by omega); (try have dQ0 : _ < w'.heap.size := Nat.lt_of_lt_of_le dQ0 (by omega)); (try have dQ1 : _ < w'.heap.size := Nat.lt_of_lt_of_le dQ1 (by omega)); (try have dQ2 : _ < w'.heap.size := Nat.lt_of_lt_of_le dQ2 (by omega)); (try have dQ3 : _ < w'.heap.size := Nat.lt_of_lt_of_le dQ3 (by omega)); (try have dQ4 : _ < w'.heap.size := Nat.lt_of_lt_of_le dQ4 (by omega)); (try have dQ5 : _ < w'.heap.size := Nat.lt_of_lt_of_le dQ5 (by omega)); (try (have hnQ := Nat.lt_of_succ_le hz; first | (have _x := dQ0; first | (have _x := dQ1; first | (have _x := dQ2; first | (have _x := dQ3; first | (have _x := dQ4; have dQ5 := hnQ) | have dQ4 := hnQ) | have dQ3 := hnQ) | have dQ2 := hnQ) | have dQ1 := hnQ) | have dQ0 := hnQ)); (try (have hmQ := Nat.lt_of_succ_lt (Nat.lt_of_succ_le hz); first | (have _x := dQ0; first | (have _x := dQ1; first | (have _x := dQ2; first | (have _x := dQ3; first | (have _x := dQ4; have dQ5 := hmQ) | have dQ4 := hmQ) | have dQ3 := hmQ) | have dQ2 := hmQ) | have dQ1 := hmQ) | have dQ0 := hmQ)))
        all_goals go_ret
        all_goals exact ⟨by rw [HR.out]; rfl, by have := HW3.out; (repeat' first | (with_reducible exact Below.refl _ _) | (with_reducible refine Below.alloc ?_ ?_ _) | (with_reducible refine Below.drew ?_) | (with_reducible refine Below.setCell ?_ ?_ _) | (with_reducible refine below_via (by assumption) ?_ ?_) | go_size)⟩
      · have HR := Lib.hid (HN.out (by simpa using hq))
        have hne := str_ne hq
        clear HY HN
        go_wp2_with (go_at_call 48; refine (HC.out _).mono ?_; rintro e w' ⟨rfl, hb⟩; obtain ⟨hc, hf, hz, hy⟩ := bcell hb; clear hy; (try simp only [World.size_alloc, World.size_setCell, World.size_drew] at hz); (try have gQ0 : w.heap.size < w'.heap.size := by omega); (try have gQ1 : w.heap.size + 1 < w'.heap.size := by omega); (try have gQ2 : w.heap.size + 1 + 1 < w'.heap.size := by omega); (try have gQ3 : w.heap.size + 1 + 1 + 1 < w'.heap.size := by omega); (try have gQ4 : w.heap.size + 1 + 1 + 1 + 1 < w'.heap.size := by omega); (try have gQ5 : w.heap.size + 1 + 1 + 1 + 1 + 1 < w'.heap.size := by omega); (try have dQ0 : _ < w'.heap.size := Nat.lt_of_lt_of_le dQ0 (by omega)); (try have dQ1 : _ < w'.heap.size := Nat.lt_of_lt_of_le dQ1 (by omega)); (try have dQ2 : _ < w'.heap.size := Nat.lt_of_lt_of_le dQ2 (by omega)); (try have dQ3 : _ < w'.heap.size := Nat.lt_of_lt_of_le dQ3 (by omega)); (try have dQ4 : _ < w'.heap.size := Nat.lt_of_lt_of_le dQ4 (by omega)); (try have dQ5 : _ < w'.heap.size := Nat.lt_of_lt_of_le dQ5 (by omega)); (try (have hnQ := Nat.lt_of_succ_le hz; first | (have _x := dQ0; first | (have _x := dQ1; first | (have _x := dQ2; first | (have _x := dQ3; first | (have _x := dQ4; have dQ5 := hnQ) | have dQ4 := hnQ) | have dQ3 := hnQ) | have dQ2 := hnQ) | have dQ1 := hnQ) | have dQ0 := hnQ)); (try (have hmQ := Nat.lt_of_succ_lt (Nat.lt_of_succ_le hz); first | (have _x := dQ0; first | (have _x := dQ1; first | (have _x := dQ2; first | (have _x := dQ3; first | (have _x := dQ4; have dQ5 := hmQ) | have dQ4 := hmQ) | have dQ3 := hmQ) | have dQ2 := hmQ) | have dQ1 := hmQ) | have dQ0 := hmQ)))
        all_goals go_roundw
        case rel => exact ⟨k + 1, by omega, by go_num, HR, by (repeat' first | (with_reducible exact Below.refl _ _) | (with_reducible refine Below.alloc ?_ ?_ _) | (with_reducible refine Below.drew ?_) | (with_reducible refine Below.setCell ?_ ?_ _) | (with_reducible refine below_via (by assumption) ?_ ?_) | go_size)⟩
        case measure => simp [intOf]; omega
    · obtain rfl : k = L.length := by omega
      have HR : Hid (named a b o n = -1) := by
        show _ = _
        rw [HF.out]
        have := hno.out
        rw [List.take_length] at this
        rw [this]; rfl
      go_wp2_with fail
      all_goals go_ret
      all_goals exact ⟨by rw [HR.out]; rfl, by have := HW3.out; (repeat' first | (with_reducible exact Below.refl _ _) | (with_reducible refine Below.alloc ?_ ?_ _) | (with_reducible refine Below.drew ?_) | (with_reducible refine Below.setCell ?_ ?_ _) | (with_reducible refine below_via (by assumption) ?_ ?_) | go_size)⟩
set_option maxHeartbeats 2000000 in
set_option maxRecDepth 100000 in
theorem ReadJump_any (a b o : Int) (s : ByteArray) (hs : s.size ≤ 1048576) (w : World) :
    Calls Tryd.prog 22 #[.agg #[.int .i64 a, .int .i64 b, .int .i64 o], .string s] w fun e w' => e = .returned (optLn (readJump a b o s)) ∧ Below w.heap.size w w' := by
  by_cases hm : Lib.indexByte s.data.toList 45 = -1
  · have HR : Hid (readJump a b o s = none) := by show _ = _; exact readJump_miss hm
    have HC := Lib.hid (cut_miss s hs hm)
    clear hm
    go_enter Tryd.func22, Tryd.ntmps22
    go_wp2_with (go_at_call 50; refine (HC.out _).mono ?_; rintro e w' ⟨rfl, hb⟩; obtain ⟨hc, hf, hz, hy⟩ := bcell hb; clear hy; (try simp only [World.size_alloc, World.size_setCell, World.size_drew] at hz); (try have gQ0 : w.heap.size < w'.heap.size := by omega); (try have gQ1 : w.heap.size + 1 < w'.heap.size := by omega); (try have gQ2 : w.heap.size + 1 + 1 < w'.heap.size := by omega); (try have gQ3 : w.heap.size + 1 + 1 + 1 < w'.heap.size := by omega); (try have gQ4 : w.heap.size + 1 + 1 + 1 + 1 < w'.heap.size := by omega); (try have gQ5 : w.heap.size + 1 + 1 + 1 + 1 + 1 < w'.heap.size := by omega); (try have dQ0 : _ < w'.heap.size := Nat.lt_of_lt_of_le dQ0 (by omega)); (try have dQ1 : _ < w'.heap.size := Nat.lt_of_lt_of_le dQ1 (by omega)); (try have dQ2 : _ < w'.heap.size := Nat.lt_of_lt_of_le dQ2 (by omega)); (try have dQ3 : _ < w'.heap.size := Nat.lt_of_lt_of_le dQ3 (by omega)); (try have dQ4 : _ < w'.heap.size := Nat.lt_of_lt_of_le dQ4 (by omega)); (try have dQ5 : _ < w'.heap.size := Nat.lt_of_lt_of_le dQ5 (by omega)); (try (have hnQ := Nat.lt_of_succ_le hz; first | (have _x := dQ0; first | (have _x := dQ1; first | (have _x := dQ2; first | (have _x := dQ3; first | (have _x := dQ4; have dQ5 := hnQ) | have dQ4 := hnQ) | have dQ3 := hnQ) | have dQ2 := hnQ) | have dQ1 := hnQ) | have dQ0 := hnQ)); (try (have hmQ := Nat.lt_of_succ_lt (Nat.lt_of_succ_le hz); first | (have _x := dQ0; first | (have _x := dQ1; first | (have _x := dQ2; first | (have _x := dQ3; first | (have _x := dQ4; have dQ5 := hmQ) | have dQ4 := hmQ) | have dQ3 := hmQ) | have dQ2 := hmQ) | have dQ1 := hmQ) | have dQ0 := hmQ)); (try have sQ00 : (w'.cell? ⟨w.heap.size, 0, none⟩).isSome = true := by simp [go_sem, *]); (try have sQ01 : (w'.cell? ⟨w.heap.size, 1, none⟩).isSome = true := by simp [go_sem, *]); (try have sQ02 : (w'.cell? ⟨w.heap.size, 2, none⟩).isSome = true := by simp [go_sem, *]); (try have sQ03 : (w'.cell? ⟨w.heap.size, 3, none⟩).isSome = true := by simp [go_sem, *]); (try have sQ04 : (w'.cell? ⟨w.heap.size, 4, none⟩).isSome = true := by simp [go_sem, *]); (try have sQ10 : (w'.cell? ⟨w.heap.size + 1, 0, none⟩).isSome = true := by simp [go_sem, *]); (try have sQ11 : (w'.cell? ⟨w.heap.size + 1, 1, none⟩).isSome = true := by simp [go_sem, *]); (try have sQ12 : (w'.cell? ⟨w.heap.size + 1, 2, none⟩).isSome = true := by simp [go_sem, *]); (try have sQ13 : (w'.cell? ⟨w.heap.size + 1, 3, none⟩).isSome = true := by simp [go_sem, *]); (try have sQ14 : (w'.cell? ⟨w.heap.size + 1, 4, none⟩).isSome = true := by simp [go_sem, *]); (try have sQ20 : (w'.cell? ⟨w.heap.size + 1 + 1, 0, none⟩).isSome = true := by simp [go_sem, *]); (try have sQ21 : (w'.cell? ⟨w.heap.size + 1 + 1, 1, none⟩).isSome = true := by simp [go_sem, *]); (try have sQ22 : (w'.cell? ⟨w.heap.size + 1 + 1, 2, none⟩).isSome = true := by simp [go_sem, *]); (try have sQ23 : (w'.cell? ⟨w.heap.size + 1 + 1, 3, none⟩).isSome = true := by simp [go_sem, *]); (try have sQ24 : (w'.cell? ⟨w.heap.size + 1 + 1, 4, none⟩).isSome = true := by simp [go_sem, *]); (try have fQ0 : ∀ j, w'.frozen? ⟨w.heap.size, j, none⟩ = false := by intro j; simp [go_sem, *]); (try have fQ1 : ∀ j, w'.frozen? ⟨w.heap.size + 1, j, none⟩ = false := by intro j; simp [go_sem, *]); (try have fQ2 : ∀ j, w'.frozen? ⟨w.heap.size + 1 + 1, j, none⟩ = false := by intro j; simp [go_sem, *]))
    all_goals ((try simp only [Exit.inBlock, Exit.then]); refine bodyPost_ret (v := .tuple #[.agg #[.int .i64 0, .int .i64 0, .int .i64 0], .bool false]) (by simp [results, Tryd.results22, go_sem, *]) rfl ⟨by rw [HR.out]; rfl, by (repeat' first | (with_reducible exact Below.refl _ _) | (with_reducible refine Below.alloc ?_ ?_ _) | (with_reducible refine Below.drew ?_) | (with_reducible refine Below.setCell ?_ ?_ _) | (with_reducible refine below_via (by assumption) ?_ ?_) | go_size)⟩)
  obtain ⟨i, hi⟩ : ∃ i : Nat, Lib.indexByte s.data.toList 45 = i := ⟨(Lib.indexByte s.data.toList 45).toNat, by have := Lib.indexByte_ge s.data.toList 45; omega⟩
  have hlt : i < s.size := by
    obtain ⟨h, _⟩ := List.getElem?_eq_some_iff.1 (Lib.indexByte_some hi).1
    rw [Array.length_toList] at h
    exact h
  have HR : Hid (readJump a b o s = lineBetween a b o (named a b o (s.extract 0 i)) (named a b o (s.extract (i + 1) s.size))) := by
    show _ = _
    exact readJump_hit hi (by simp [ByteArray.data_extract]) (by
      rw [ByteArray.data_extract, Array.toList_extract]
      show ((s.data.toList.drop (i + 1)).take (s.size - (i + 1))) = _
      exact List.take_of_length_le (by rw [List.length_drop, Array.length_toList]; exact Nat.le_refl _))
  have HC := Lib.hid (cut_hit s hs i hi hlt)
  clear hm hi
  have HN : Hid (∀ n W, Calls Tryd.prog 52 #[.agg #[.int .i64 a, .int .i64 b, .int .i64 o], .string n] W fun e w' => e = .returned (.int .i64 (named a b o n)) ∧ Below W.heap.size W w') := fun n W => holeNamed_any a b o n W
  have HL : Hid (∀ f t W, Calls Tryd.prog 51 #[.agg #[.int .i64 a, .int .i64 b, .int .i64 o], .int .i64 f, .int .i64 t] W fun e w' => e = .returned (optLn (lineBetween a b o f t)) ∧ Below W.heap.size W w') := fun f t W => LineBetween_any a b o f t W
  generalize s.extract 0 i = fr at *
  generalize s.extract (i + 1) s.size = tx at *
  generalize named a b o = nm at *
  generalize lineBetween a b o = lb at *
  have HRV : Hid (optLn (readJump a b o s) = .tuple #[.agg #[.int .i64 ((lb (nm fr) (nm tx)).getD Ln0).f, .int .i64 ((lb (nm fr) (nm tx)).getD Ln0).o, .int .i64 ((lb (nm fr) (nm tx)).getD Ln0).t], .bool (lb (nm fr) (nm tx)).isSome]) := by show _ = _; rw [HR.out]; rfl
  simp only [optLn] at HL
  go_enter Tryd.func22, Tryd.ntmps22
  go_wp2_with (go_at_call 50; refine (HC.out _).mono ?_; rintro e w5 ⟨rfl, hb⟩)
  have hz5 := hb.size
  simp only [World.size_alloc] at hz5
  have g0 : w.heap.size < w5.heap.size := by omega
  have g1 : w.heap.size + 1 < w5.heap.size := by omega
  have hbA : Below w.heap.size w w5 := (((Below.refl _ _).alloc (Nat.le_refl _) _).alloc (by simp) _).trans (hb.mono (by simp; omega))
  have hbx : ∀ j, w5.cell? ⟨w.heap.size, j, none⟩ = #[Value.int .i64 a, .int .i64 b, .int .i64 o][j]? := fun j => (hb.cell (by simp; omega)).trans (by simp [go_sem])
  have hrx : ∀ j, w5.cell? ⟨w.heap.size + 1, j, none⟩ = #[Value.int .i64 0, .int .i64 0, .int .i64 0][j]? := fun j => (hb.cell (by simp)).trans (by simp [go_sem])
  have hrf : ∀ j, w5.frozen? ⟨w.heap.size + 1, j, none⟩ = false := fun j => (hb.frozen (by simp)).trans (by simp [go_sem])
  have gg := g1
  have p0 := hbx 0
  have p1 := hbx 1
  have p2 := hbx 2
  have z0 := hrx 0
  have z1 := hrx 1
  have z2 := hrx 2
  have f0 := hrf 0
  have f1 := hrf 1
  have f2 := hrf 2
  simp only [List.getElem?_toArray, List.getElem?_cons_zero, List.getElem?_cons_succ] at p0 p1 p2 z0 z1 z2
  clear hb HR HC hbx hrx hrf
  go_wp2_with fail
  go_cut [5] (fun u wx => u = .bool (lb (nm fr) (nm tx)).isSome ∧ w.heap.size + 1 < wx.heap.size ∧ wx.cell? ⟨w.heap.size + 1, 0, none⟩ = some (.int .i64 ((lb (nm fr) (nm tx)).getD Ln0).f) ∧ wx.cell? ⟨w.heap.size + 1, 1, none⟩ = some (.int .i64 ((lb (nm fr) (nm tx)).getD Ln0).o) ∧ wx.cell? ⟨w.heap.size + 1, 2, none⟩ = some (.int .i64 ((lb (nm fr) (nm tx)).getD Ln0).t) ∧ Below w.heap.size w wx)
  case first =>
    go_region_with (first | (go_at_call 52; refine (HN.out _ _).mono ?_; rintro e' w' ⟨rfl, hb⟩; (have gg' := gg); (have g0' := g0); (have gg := Nat.lt_of_lt_of_le gg hb.size); (have g0 := Nat.lt_of_lt_of_le g0 hb.size); (have p0 := (hb.cell (p := ⟨w.heap.size, 0, none⟩) g0').trans p0); (have p1 := (hb.cell (p := ⟨w.heap.size, 1, none⟩) g0').trans p1); (have p2 := (hb.cell (p := ⟨w.heap.size, 2, none⟩) g0').trans p2); (have z0 := (hb.cell (p := ⟨w.heap.size + 1, 0, none⟩) gg').trans z0); (have z1 := (hb.cell (p := ⟨w.heap.size + 1, 1, none⟩) gg').trans z1); (have z2 := (hb.cell (p := ⟨w.heap.size + 1, 2, none⟩) gg').trans z2); (have f0 := (hb.frozen (p := ⟨w.heap.size + 1, 0, none⟩) gg').trans f0); (have f1 := (hb.frozen (p := ⟨w.heap.size + 1, 1, none⟩) gg').trans f1); (have f2 := (hb.frozen (p := ⟨w.heap.size + 1, 2, none⟩) gg').trans f2)) | (go_at_call 51; refine (HL.out _ _ _).mono ?_; rintro e' w' ⟨rfl, hb⟩; (have gg' := gg); (have g0' := g0); (have gg := Nat.lt_of_lt_of_le gg hb.size); (have g0 := Nat.lt_of_lt_of_le g0 hb.size); (have p0 := (hb.cell (p := ⟨w.heap.size, 0, none⟩) g0').trans p0); (have p1 := (hb.cell (p := ⟨w.heap.size, 1, none⟩) g0').trans p1); (have p2 := (hb.cell (p := ⟨w.heap.size, 2, none⟩) g0').trans p2); (have z0 := (hb.cell (p := ⟨w.heap.size + 1, 0, none⟩) gg').trans z0); (have z1 := (hb.cell (p := ⟨w.heap.size + 1, 1, none⟩) gg').trans z1); (have z2 := (hb.cell (p := ⟨w.heap.size + 1, 2, none⟩) gg').trans z2); (have f0 := (hb.frozen (p := ⟨w.heap.size + 1, 0, none⟩) gg').trans f0); (have f1 := (hb.frozen (p := ⟨w.heap.size + 1, 1, none⟩) gg').trans f1); (have f2 := (hb.frozen (p := ⟨w.heap.size + 1, 2, none⟩) gg').trans f2)))
    all_goals (go_wp2_with fail; go_meet; case rel => exact ⟨rfl, by (try simp only [World.size_alloc, World.size_setCell, World.size_drew] at *); omega, by simp (maxDischargeDepth := 7) [go_sem, *], by simp (maxDischargeDepth := 7) [go_sem, *], by simp (maxDischargeDepth := 7) [go_sem, *], by (go_split_ands; (repeat' first | (with_reducible exact Below.refl _ _) | (with_reducible refine Below.alloc ?_ ?_ _) | (with_reducible refine Below.drew ?_) | (with_reducible refine Below.setCell ?_ ?_ _) | (with_reducible refine below_via (by assumption) ?_ ?_) | (with_reducible assumption) | ((try simp only [World.size_alloc, World.size_setCell, World.size_drew] at *); omega) | go_size))⟩)
  obtain ⟨rfl, hg, r0, r1, r2, hb4⟩ := hcut
  go_wp2_with fail
  all_goals ((try simp only [Exit.inBlock, Exit.then]); refine bodyPost_ret (v := .tuple #[.agg #[.int .i64 ((lb (nm fr) (nm tx)).getD Ln0).f, .int .i64 ((lb (nm fr) (nm tx)).getD Ln0).o, .int .i64 ((lb (nm fr) (nm tx)).getD Ln0).t], .bool (lb (nm fr) (nm tx)).isSome]) (by simp [results, Tryd.results22, go_sem, *]) rfl ⟨by rw [HRV.out], by (repeat' first | (with_reducible exact Below.refl _ _) | (with_reducible refine Below.alloc ?_ ?_ _) | (with_reducible refine Below.drew ?_) | (with_reducible refine Below.setCell ?_ ?_ _) | (with_reducible refine below_via (by assumption) ?_ ?_) | go_size)⟩)
end Go.Proofs.YtkaojpcpfbbicaaDoor
