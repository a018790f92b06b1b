/- Play: contracts of LineBetween, isLine, DoJump and their likes, and the reference's. Conditions: numbers in range. -/
import Derived.Test.YtkaojpcpfbbicaaDoorPlay0
set_option linter.unusedVariables false
set_option linter.unusedSimpArgs false
namespace Go.Proofs.YtkaojpcpfbbicaaDoor
open Go.ChangeShapes Go.WideShapes Go.ChangeAt Go.RowKit Peg Go.Sort
def optLn (r : Option Ln) : Value := .tuple #[.agg #[.int .i64 (r.getD Ln0).f, .int .i64 (r.getD Ln0).o, .int .i64 (r.getD Ln0).t], .bool r.isSome]
set_option maxHeartbeats 1000000 in
set_option maxRecDepth 100000 in
theorem LineBetween_any (a b o f t : Int) (w : World) :
    Calls Tryd.prog 51 #[.agg #[.int .i64 a, .int .i64 b, .int .i64 o], .int .i64 f, .int .i64 t] w fun e w' => e = .returned (optLn (lineBetween a b o f t)) ∧ Below w.heap.size w w' := by
  obtain ⟨L, hL⟩ : ∃ L, L = linesOf a b o := ⟨_, rfl⟩
  have HL := Lib.hid hL
  have HF : Hid (lineBetween a b o f t = L.find? (isBetween f t)) := by show _ = _; rw [hL]; rfl
  have hl196 : L.length ≤ 196 := by rw [hL]; exact linesOf_le a b o
  clear hL
  go_enter Tryd.func51, Tryd.ntmps51
  go_wp2_with fail
  refine (LinesOf_any _ _ _ _).mono ?_
  rintro e w' ⟨vL, rfl, hownL, hb⟩
  rw [← HL.out] at hownL
  obtain ⟨hc, hf, hz, hy⟩ := bcell hb; clear hy; (try simp only [World.size_alloc, World.size_setCell, World.size_drew] at hz); (try have gQ0 : w.heap.size < w'.heap.size := by omega); (try have gQ1 : w.heap.size + 1 < w'.heap.size := by omega); (try have gQ2 : w.heap.size + 1 + 1 < w'.heap.size := by omega); (try have gQ3 : w.heap.size + 1 + 1 + 1 < w'.heap.size := by omega); (try have gQ4 : w.heap.size + 1 + 1 + 1 + 1 < w'.heap.size := by omega); (try have gQ5 : w.heap.size + 1 + 1 + 1 + 1 + 1 < w'.heap.size := by omega); (try have dQ0 : _ < w'.heap.size := Nat.lt_of_lt_of_le dQ0 (by omega)); (try have dQ1 : _ < w'.heap.size := Nat.lt_of_lt_of_le dQ1 (by omega)); (try have dQ2 : _ < w'.heap.size := Nat.lt_of_lt_of_le dQ2 (by omega)); (try have dQ3 : _ < w'.heap.size := Nat.lt_of_lt_of_le dQ3 (by omega)); (try have dQ4 : _ < w'.heap.size := Nat.lt_of_lt_of_le dQ4 (by omega)); (try have dQ5 : _ < w'.heap.size := Nat.lt_of_lt_of_le dQ5 (by omega)); (try (have hnQ := Nat.lt_of_succ_le hz; first | (have _x := dQ0; first | (have _x := dQ1; first | (have _x := dQ2; first | (have _x := dQ3; first | (have _x := dQ4; have dQ5 := hnQ) | have dQ4 := hnQ) | have dQ3 := hnQ) | have dQ2 := hnQ) | have dQ1 := hnQ) | have dQ0 := hnQ)); (try (have hmQ := Nat.lt_of_succ_lt (Nat.lt_of_succ_le hz); first | (have _x := dQ0; first | (have _x := dQ1; first | (have _x := dQ2; first | (have _x := dQ3; first | (have _x := dQ4; have dQ5 := hmQ) | have dQ4 := hmQ) | have dQ3 := hmQ) | have dQ2 := hmQ) | have dQ1 := hmQ) | have dQ0 := hmQ))
  obtain ⟨w3, rfl⟩ : ∃ w3 : World, w3 = w' := ⟨_, rfl⟩
  have HW3 := Lib.hid (show Below w.heap.size w w3 by (repeat' first | (with_reducible exact Below.refl _ _) | (with_reducible refine Below.alloc ?_ ?_ _) | (with_reducible refine Below.drew ?_) | (with_reducible refine Below.setCell ?_ ?_ _) | (with_reducible refine below_via (by assumption) ?_ ?_) | go_size))
  have hbox0 : ∀ j, w3.cell? ⟨w.heap.size + 1, j, none⟩ = #[Value.int .i64 0, .int .i64 0, .int .i64 0][j]? := fun j => by rw [hc _ _ (by simp)]; simp
  have hfz0 : ∀ j, w3.frozen? ⟨w.heap.size + 1, j, none⟩ = false := fun j => by rw [hf _ _ (by simp)]; simp
  obtain ⟨aL, capL, rfl, hnL, hgetL⟩ := hownL.lineG
  have HGL := Lib.hid hgetL
  clear hgetL hownL hc hf
  go_wp2_with fail
  go_loopw [13] (fun i wr => ∃ k : Nat, k ≤ L.length ∧ i = .int .i64 k ∧ Hid ((L.take k).find? (isBetween f t) = none) ∧ Below w3.heap.size w3 wr) (fun i _ => L.length - (intOf i).toNat)
  case atStart => exact ⟨0, by omega, rfl, by show _ = _; simp, Below.refl _ _⟩
  case round =>
    obtain ⟨k, hk, rfl, hno, hbw⟩ := hrel
    have hz5 := hbw.size
    have hbox : ∀ j, wr.cell? ⟨w.heap.size + 1, j, none⟩ = #[Value.int .i64 0, .int .i64 0, .int .i64 0][j]? := fun j => (hbw.cell (by simp; omega)).trans (hbox0 j)
    have hfz : ∀ j, wr.frozen? ⟨w.heap.size + 1, j, none⟩ = false := fun j => (hbw.frozen (by simp; omega)).trans (hfz0 j)
    have gW0 : w.heap.size + 1 < wr.heap.size := by omega
    by_cases hlt : k < L.length
    · obtain ⟨bL, rfl, _, hbL, hc0, hc1, hc2⟩ := HGL.out k hlt
      rw [← hbw.cell (by simpa using hbL)] at hc0 hc1 hc2
      have HY := Lib.hid (find_take_yes (isBetween f t) L Ln0 k hlt hno.out)
      have HN := Lib.hid (find_take_no (isBetween f t) L Ln0 k hlt hno.out)
      generalize gD L Ln0 k = l at *
      have gW1 : bL < wr.heap.size := by omega
      by_cases hft : (l.f == f) = true
      · by_cases htt : (l.t == t) = true
        · have HR : Hid (lineBetween a b o f t = some l) := by show _ = _; rw [HF.out]; exact HY.out (by simp only [isBetween, hft, htt]; rfl)
          go_wp2_with fail
          all_goals ((try simp only [Exit.inBlock, Exit.then]); refine bodyPost_ret (v := .tuple #[.agg #[.int .i64 l.f, .int .i64 l.o, .int .i64 l.t], .bool true]) (by simp [results, Tryd.results51, go_sem, *]) rfl ⟨by rw [HR.out]; rfl, by (repeat' first | (with_reducible exact Below.refl _ _) | (with_reducible refine Below.alloc ?_ ?_ _) | (with_reducible refine Below.drew ?_) | (with_reducible refine Below.setCell ?_ ?_ _) | (with_reducible refine below_via (by assumption) ?_ ?_) | go_size)⟩)
        · have htt' : (l.t == t) = false := by simpa using htt
          clear htt
          have HR := Lib.hid (HN.out (by simp only [isBetween, hft, htt']; rfl))
          go_wp2_with fail
          go_roundw
          case rel => exact ⟨k + 1, by omega, by go_num, HR, by (repeat' first | (with_reducible exact Below.refl _ _) | (with_reducible refine Below.alloc ?_ ?_ _) | (with_reducible refine Below.drew ?_) | (with_reducible refine Below.setCell ?_ ?_ _) | (with_reducible refine below_via (by assumption) ?_ ?_) | go_size)⟩
          case measure => simp [intOf]; omega
      · have hft' : (l.f == f) = false := by simpa using hft
        clear hft
        have HR := Lib.hid (HN.out (by simp only [isBetween, hft']; rfl))
        go_wp2_with fail
        go_roundw
        case rel => exact ⟨k + 1, by omega, by go_num, HR, by (repeat' first | (with_reducible exact Below.refl _ _) | (with_reducible refine Below.alloc ?_ ?_ _) | (with_reducible refine Below.drew ?_) | (with_reducible refine Below.setCell ?_ ?_ _) | (with_reducible refine below_via (by assumption) ?_ ?_) | go_size)⟩
        case measure => simp [intOf]; omega
    · obtain rfl : k = L.length := by omega
      have HR : Hid (lineBetween a b o f t = none) := by show _ = _; rw [HF.out]; have := hno.out; rwa [List.take_length] at this
      go_wp2_with fail
      all_goals ((try simp only [Exit.inBlock, Exit.then]); refine bodyPost_ret (v := .tuple #[.agg #[.int .i64 0, .int .i64 0, .int .i64 0], .bool false]) (by simp [results, Tryd.results51, go_sem, *]) rfl ⟨by rw [HR.out]; rfl, by (repeat' first | (with_reducible exact Below.refl _ _) | (with_reducible refine Below.alloc ?_ ?_ _) | (with_reducible refine Below.drew ?_) | (with_reducible refine Below.setCell ?_ ?_ _) | (with_reducible refine below_via (by assumption) ?_ ?_) | go_size)⟩)
set_option maxHeartbeats 1000000 in
set_option maxRecDepth 100000 in
theorem sLineBetween_any (a b o f t : Int) (w : World) :
    Calls Tryd.prog 66 #[.agg #[.int .i64 a, .int .i64 b, .int .i64 o], .int .i64 f, .int .i64 t] w fun e w' => e = .returned (optLn (lineBetween a b o f t)) ∧ Below w.heap.size w w' := by
  obtain ⟨L, hL⟩ : ∃ L, L = linesOf a b o := ⟨_, rfl⟩
  have HL := Lib.hid hL
  have HF : Hid (lineBetween a b o f t = L.find? (isBetween f t)) := by show _ = _; rw [hL]; rfl
  have hl196 : L.length ≤ 196 := by rw [hL]; exact linesOf_le a b o
  clear hL
  go_enter Tryd.func66, Tryd.ntmps66
  go_wp2_with fail
  refine (sLinesOf_any _ _ _ _).mono ?_
  rintro e w' ⟨vL, rfl, hownL, hb⟩
  rw [← HL.out] at hownL
  obtain ⟨hc, hf, hz, hy⟩ := bcell hb; clear hy; (try simp only [World.size_alloc, World.size_setCell, World.size_drew] at hz); (try have gQ0 : w.heap.size < w'.heap.size := by omega); (try have gQ1 : w.heap.size + 1 < w'.heap.size := by omega); (try have gQ2 : w.heap.size + 1 + 1 < w'.heap.size := by omega); (try have gQ3 : w.heap.size + 1 + 1 + 1 < w'.heap.size := by omega); (try have gQ4 : w.heap.size + 1 + 1 + 1 + 1 < w'.heap.size := by omega); (try have gQ5 : w.heap.size + 1 + 1 + 1 + 1 + 1 < w'.heap.size := by omega); (try have dQ0 : _ < w'.heap.size := Nat.lt_of_lt_of_le dQ0 (by omega)); (try have dQ1 : _ < w'.heap.size := Nat.lt_of_lt_of_le dQ1 (by omega)); (try have dQ2 : _ < w'.heap.size := Nat.lt_of_lt_of_le dQ2 (by omega)); (try have dQ3 : _ < w'.heap.size := Nat.lt_of_lt_of_le dQ3 (by omega)); (try have dQ4 : _ < w'.heap.size := Nat.lt_of_lt_of_le dQ4 (by omega)); (try have dQ5 : _ < w'.heap.size := Nat.lt_of_lt_of_le dQ5 (by omega)); (try (have hnQ := Nat.lt_of_succ_le hz; first | (have _x := dQ0; first | (have _x := dQ1; first | (have _x := dQ2; first | (have _x := dQ3; first | (have _x := dQ4; have dQ5 := hnQ) | have dQ4 := hnQ) | have dQ3 := hnQ) | have dQ2 := hnQ) | have dQ1 := hnQ) | have dQ0 := hnQ)); (try (have hmQ := Nat.lt_of_succ_lt (Nat.lt_of_succ_le hz); first | (have _x := dQ0; first | (have _x := dQ1; first | (have _x := dQ2; first | (have _x := dQ3; first | (have _x := dQ4; have dQ5 := hmQ) | have dQ4 := hmQ) | have dQ3 := hmQ) | have dQ2 := hmQ) | have dQ1 := hmQ) | have dQ0 := hmQ))
  obtain ⟨w3, rfl⟩ : ∃ w3 : World, w3 = w' := ⟨_, rfl⟩
  have HW3 := Lib.hid (show Below w.heap.size w w3 by (repeat' first | (with_reducible exact Below.refl _ _) | (with_reducible refine Below.alloc ?_ ?_ _) | (with_reducible refine Below.drew ?_) | (with_reducible refine Below.setCell ?_ ?_ _) | (with_reducible refine below_via (by assumption) ?_ ?_) | go_size))
  have hbox0 : ∀ j, w3.cell? ⟨w.heap.size + 1, j, none⟩ = #[Value.int .i64 0, .int .i64 0, .int .i64 0][j]? := fun j => by rw [hc _ _ (by simp)]; simp
  have hfz0 : ∀ j, w3.frozen? ⟨w.heap.size + 1, j, none⟩ = false := fun j => by rw [hf _ _ (by simp)]; simp
  obtain ⟨aL, capL, rfl, hnL, hgetL⟩ := hownL.lineG
  have HGL := Lib.hid hgetL
  clear hgetL hownL hc hf
  go_wp2_with fail
  go_loopw [9] (fun i wr => ∃ k : Nat, k ≤ L.length ∧ i = .int .i64 k ∧ Hid ((L.take k).find? (isBetween f t) = none) ∧ Below w3.heap.size w3 wr) (fun i _ => L.length - (intOf i).toNat)
  case atStart => exact ⟨0, by omega, rfl, by show _ = _; simp, Below.refl _ _⟩
  case round =>
    obtain ⟨k, hk, rfl, hno, hbw⟩ := hrel
    have hz5 := hbw.size
    have hbox : ∀ j, wr.cell? ⟨w.heap.size + 1, j, none⟩ = #[Value.int .i64 0, .int .i64 0, .int .i64 0][j]? := fun j => (hbw.cell (by simp; omega)).trans (hbox0 j)
    have hfz : ∀ j, wr.frozen? ⟨w.heap.size + 1, j, none⟩ = false := fun j => (hbw.frozen (by simp; omega)).trans (hfz0 j)
    have gW0 : w.heap.size + 1 < wr.heap.size := by omega
    by_cases hlt : k < L.length
    · obtain ⟨bL, rfl, _, hbL, hc0, hc1, hc2⟩ := HGL.out k hlt
      rw [← hbw.cell (by simpa using hbL)] at hc0 hc1 hc2
      have HY := Lib.hid (find_take_yes (isBetween f t) L Ln0 k hlt hno.out)
      have HN := Lib.hid (find_take_no (isBetween f t) L Ln0 k hlt hno.out)
      generalize gD L Ln0 k = l at *
      have gW1 : bL < wr.heap.size := by omega
      by_cases hft : (l.f == f) = true
      · by_cases htt : (l.t == t) = true
        · have HR : Hid (lineBetween a b o f t = some l) := by show _ = _; rw [HF.out]; exact HY.out (by simp only [isBetween, hft, htt]; rfl)
          go_wp2_with fail
          all_goals ((try simp only [Exit.inBlock, Exit.then]); refine bodyPost_ret (v := .tuple #[.agg #[.int .i64 l.f, .int .i64 l.o, .int .i64 l.t], .bool true]) (by simp [results, Tryd.results66, go_sem, *]) rfl ⟨by rw [HR.out]; rfl, by (repeat' first | (with_reducible exact Below.refl _ _) | (with_reducible refine Below.alloc ?_ ?_ _) | (with_reducible refine Below.drew ?_) | (with_reducible refine Below.setCell ?_ ?_ _) | (with_reducible refine below_via (by assumption) ?_ ?_) | go_size)⟩)
        · have htt' : (l.t == t) = false := by simpa using htt
          clear htt
          have HR := Lib.hid (HN.out (by simp only [isBetween, hft, htt']; rfl))
          go_wp2_with fail
          go_roundw
          case rel => exact ⟨k + 1, by omega, by go_num, HR, by (repeat' first | (with_reducible exact Below.refl _ _) | (with_reducible refine Below.alloc ?_ ?_ _) | (with_reducible refine Below.drew ?_) | (with_reducible refine Below.setCell ?_ ?_ _) | (with_reducible refine below_via (by assumption) ?_ ?_) | go_size)⟩
          case measure => simp [intOf]; omega
      · have hft' : (l.f == f) = false := by simpa using hft
        clear hft
        have HR := Lib.hid (HN.out (by simp only [isBetween, hft']; rfl))
        go_wp2_with fail
        go_roundw
        case rel => exact ⟨k + 1, by omega, by go_num, HR, by (repeat' first | (with_reducible exact Below.refl _ _) | (with_reducible refine Below.alloc ?_ ?_ _) | (with_reducible refine Below.drew ?_) | (with_reducible refine Below.setCell ?_ ?_ _) | (with_reducible refine below_via (by assumption) ?_ ?_) | go_size)⟩
        case measure => simp [intOf]; omega
    · obtain rfl : k = L.length := by omega
      have HR : Hid (lineBetween a b o f t = none) := by show _ = _; rw [HF.out]; have := hno.out; rwa [List.take_length] at this
      go_wp2_with fail
      all_goals ((try simp only [Exit.inBlock, Exit.then]); refine bodyPost_ret (v := .tuple #[.agg #[.int .i64 0, .int .i64 0, .int .i64 0], .bool false]) (by simp [results, Tryd.results66, go_sem, *]) rfl ⟨by rw [HR.out]; rfl, by (repeat' first | (with_reducible exact Below.refl _ _) | (with_reducible refine Below.alloc ?_ ?_ _) | (with_reducible refine Below.drew ?_) | (with_reducible refine Below.setCell ?_ ?_ _) | (with_reducible refine below_via (by assumption) ?_ ?_) | go_size)⟩)
set_option maxRecDepth 100000 in
theorem isLine_any (a b o : Int) (l : Ln) (w : World) :
    Calls Tryd.prog 47 #[.agg #[.int .i64 a, .int .i64 b, .int .i64 o], .agg #[.int .i64 l.f, .int .i64 l.o, .int .i64 l.t]] w fun e w' => e = .returned (.bool (isLn a b o l)) ∧ Below w.heap.size w w' := by
  have HR : Hid (isLn a b o l = (lineBetween a b o l.f l.t == some l)) := rfl
  have HB : Hid (∀ W, Calls Tryd.prog 51 #[.agg #[.int .i64 a, .int .i64 b, .int .i64 o], .int .i64 l.f, .int .i64 l.t] W fun e w' => e = .returned (optLn (lineBetween a b o l.f l.t)) ∧ Below W.heap.size W w') := fun W => LineBetween_any a b o l.f l.t W
  generalize lineBetween a b o l.f l.t = r at *
  cases r with
  | none =>
    simp only [optLn, Option.getD_none, Option.isSome_none, Ln0] at HB
    go_enter Tryd.func47, Tryd.ntmps47
    go_wp2_with (go_at_call 51; refine (HB.out _).mono ?_; rintro e w' ⟨rfl, hb⟩; obtain ⟨hc, hf, hz, hy⟩ := bcell hb; clear hy; (try simp only [World.size_alloc, World.size_setCell, World.size_drew] at hz); (try have gQ0 : w.heap.size < w'.heap.size := by omega); (try have gQ1 : w.heap.size + 1 < w'.heap.size := by omega); (try have gQ2 : w.heap.size + 1 + 1 < w'.heap.size := by omega); (try have gQ3 : w.heap.size + 1 + 1 + 1 < w'.heap.size := by omega); (try have gQ4 : w.heap.size + 1 + 1 + 1 + 1 < w'.heap.size := by omega); (try have gQ5 : w.heap.size + 1 + 1 + 1 + 1 + 1 < w'.heap.size := by omega); (try have dQ0 : _ < w'.heap.size := Nat.lt_of_lt_of_le dQ0 (by omega)); (try have dQ1 : _ < w'.heap.size := Nat.lt_of_lt_of_le dQ1 (by omega)); (try have dQ2 : _ < w'.heap.size := Nat.lt_of_lt_of_le dQ2 (by omega)); (try have dQ3 : _ < w'.heap.size := Nat.lt_of_lt_of_le dQ3 (by omega)); (try have dQ4 : _ < w'.heap.size := Nat.lt_of_lt_of_le dQ4 (by omega)); (try have dQ5 : _ < w'.heap.size := Nat.lt_of_lt_of_le dQ5 (by omega)); (try (have hnQ := Nat.lt_of_succ_le hz; first | (have _x := dQ0; first | (have _x := dQ1; first | (have _x := dQ2; first | (have _x := dQ3; first | (have _x := dQ4; have dQ5 := hnQ) | have dQ4 := hnQ) | have dQ3 := hnQ) | have dQ2 := hnQ) | have dQ1 := hnQ) | have dQ0 := hnQ)); (try (have hmQ := Nat.lt_of_succ_lt (Nat.lt_of_succ_le hz); first | (have _x := dQ0; first | (have _x := dQ1; first | (have _x := dQ2; first | (have _x := dQ3; first | (have _x := dQ4; have dQ5 := hmQ) | have dQ4 := hmQ) | have dQ3 := hmQ) | have dQ2 := hmQ) | have dQ1 := hmQ) | have dQ0 := hmQ)); (try have sQ00 : (w'.cell? ⟨w.heap.size, 0, none⟩).isSome = true := by simp [go_sem, *]); (try have sQ01 : (w'.cell? ⟨w.heap.size, 1, none⟩).isSome = true := by simp [go_sem, *]); (try have sQ02 : (w'.cell? ⟨w.heap.size, 2, none⟩).isSome = true := by simp [go_sem, *]); (try have sQ03 : (w'.cell? ⟨w.heap.size, 3, none⟩).isSome = true := by simp [go_sem, *]); (try have sQ04 : (w'.cell? ⟨w.heap.size, 4, none⟩).isSome = true := by simp [go_sem, *]); (try have sQ10 : (w'.cell? ⟨w.heap.size + 1, 0, none⟩).isSome = true := by simp [go_sem, *]); (try have sQ11 : (w'.cell? ⟨w.heap.size + 1, 1, none⟩).isSome = true := by simp [go_sem, *]); (try have sQ12 : (w'.cell? ⟨w.heap.size + 1, 2, none⟩).isSome = true := by simp [go_sem, *]); (try have sQ13 : (w'.cell? ⟨w.heap.size + 1, 3, none⟩).isSome = true := by simp [go_sem, *]); (try have sQ14 : (w'.cell? ⟨w.heap.size + 1, 4, none⟩).isSome = true := by simp [go_sem, *]); (try have sQ20 : (w'.cell? ⟨w.heap.size + 1 + 1, 0, none⟩).isSome = true := by simp [go_sem, *]); (try have sQ21 : (w'.cell? ⟨w.heap.size + 1 + 1, 1, none⟩).isSome = true := by simp [go_sem, *]); (try have sQ22 : (w'.cell? ⟨w.heap.size + 1 + 1, 2, none⟩).isSome = true := by simp [go_sem, *]); (try have sQ23 : (w'.cell? ⟨w.heap.size + 1 + 1, 3, none⟩).isSome = true := by simp [go_sem, *]); (try have sQ24 : (w'.cell? ⟨w.heap.size + 1 + 1, 4, none⟩).isSome = true := by simp [go_sem, *]); (try have fQ0 : ∀ j, w'.frozen? ⟨w.heap.size, j, none⟩ = false := by intro j; simp [go_sem, *]); (try have fQ1 : ∀ j, w'.frozen? ⟨w.heap.size + 1, j, none⟩ = false := by intro j; simp [go_sem, *]); (try have fQ2 : ∀ j, w'.frozen? ⟨w.heap.size + 1 + 1, j, none⟩ = false := by intro j; simp [go_sem, *]))
    all_goals go_ret
    all_goals exact ⟨by rw [HR.out]; rfl, by (repeat' first | (with_reducible exact Below.refl _ _) | (with_reducible refine Below.alloc ?_ ?_ _) | (with_reducible refine Below.drew ?_) | (with_reducible refine Below.setCell ?_ ?_ _) | (with_reducible refine below_via (by assumption) ?_ ?_) | go_size)⟩
  | some m =>
    simp only [optLn, Option.getD_some, Option.isSome_some] at HB
    go_enter Tryd.func47, Tryd.ntmps47
    go_wp2_with (go_at_call 51; refine (HB.out _).mono ?_; rintro e w' ⟨rfl, hb⟩; obtain ⟨hc, hf, hz, hy⟩ := bcell hb; clear hy; (try simp only [World.size_alloc, World.size_setCell, World.size_drew] at hz); (try have gQ0 : w.heap.size < w'.heap.size := by omega); (try have gQ1 : w.heap.size + 1 < w'.heap.size := by omega); (try have gQ2 : w.heap.size + 1 + 1 < w'.heap.size := by omega); (try have gQ3 : w.heap.size + 1 + 1 + 1 < w'.heap.size := by omega); (try have gQ4 : w.heap.size + 1 + 1 + 1 + 1 < w'.heap.size := by omega); (try have gQ5 : w.heap.size + 1 + 1 + 1 + 1 + 1 < w'.heap.size := by omega); (try have dQ0 : _ < w'.heap.size := Nat.lt_of_lt_of_le dQ0 (by omega)); (try have dQ1 : _ < w'.heap.size := Nat.lt_of_lt_of_le dQ1 (by omega)); (try have dQ2 : _ < w'.heap.size := Nat.lt_of_lt_of_le dQ2 (by omega)); (try have dQ3 : _ < w'.heap.size := Nat.lt_of_lt_of_le dQ3 (by omega)); (try have dQ4 : _ < w'.heap.size := Nat.lt_of_lt_of_le dQ4 (by omega)); (try have dQ5 : _ < w'.heap.size := Nat.lt_of_lt_of_le dQ5 (by omega)); (try (have hnQ := Nat.lt_of_succ_le hz; first | (have _x := dQ0; first | (have _x := dQ1; first | (have _x := dQ2; first | (have _x := dQ3; first | (have _x := dQ4; have dQ5 := hnQ) | have dQ4 := hnQ) | have dQ3 := hnQ) | have dQ2 := hnQ) | have dQ1 := hnQ) | have dQ0 := hnQ)); (try (have hmQ := Nat.lt_of_succ_lt (Nat.lt_of_succ_le hz); first | (have _x := dQ0; first | (have _x := dQ1; first | (have _x := dQ2; first | (have _x := dQ3; first | (have _x := dQ4; have dQ5 := hmQ) | have dQ4 := hmQ) | have dQ3 := hmQ) | have dQ2 := hmQ) | have dQ1 := hmQ) | have dQ0 := hmQ)); (try have sQ00 : (w'.cell? ⟨w.heap.size, 0, none⟩).isSome = true := by simp [go_sem, *]); (try have sQ01 : (w'.cell? ⟨w.heap.size, 1, none⟩).isSome = true := by simp [go_sem, *]); (try have sQ02 : (w'.cell? ⟨w.heap.size, 2, none⟩).isSome = true := by simp [go_sem, *]); (try have sQ03 : (w'.cell? ⟨w.heap.size, 3, none⟩).isSome = true := by simp [go_sem, *]); (try have sQ04 : (w'.cell? ⟨w.heap.size, 4, none⟩).isSome = true := by simp [go_sem, *]); (try have sQ10 : (w'.cell? ⟨w.heap.size + 1, 0, none⟩).isSome = true := by simp [go_sem, *]); (try have sQ11 : (w'.cell? ⟨w.heap.size + 1, 1, none⟩).isSome = true := by simp [go_sem, *]); (try have sQ12 : (w'.cell? ⟨w.heap.size + 1, 2, none⟩).isSome = true := by simp [go_sem, *]); (try have sQ13 : (w'.cell? ⟨w.heap.size + 1, 3, none⟩).isSome = true := by simp [go_sem, *]); (try have sQ14 : (w'.cell? ⟨w.heap.size + 1, 4, none⟩).isSome = true := by simp [go_sem, *]); (try have sQ20 : (w'.cell? ⟨w.heap.size + 1 + 1, 0, none⟩).isSome = true := by simp [go_sem, *]); (try have sQ21 : (w'.cell? ⟨w.heap.size + 1 + 1, 1, none⟩).isSome = true := by simp [go_sem, *]); (try have sQ22 : (w'.cell? ⟨w.heap.size + 1 + 1, 2, none⟩).isSome = true := by simp [go_sem, *]); (try have sQ23 : (w'.cell? ⟨w.heap.size + 1 + 1, 3, none⟩).isSome = true := by simp [go_sem, *]); (try have sQ24 : (w'.cell? ⟨w.heap.size + 1 + 1, 4, none⟩).isSome = true := by simp [go_sem, *]); (try have fQ0 : ∀ j, w'.frozen? ⟨w.heap.size, j, none⟩ = false := by intro j; simp [go_sem, *]); (try have fQ1 : ∀ j, w'.frozen? ⟨w.heap.size + 1, j, none⟩ = false := by intro j; simp [go_sem, *]); (try have fQ2 : ∀ j, w'.frozen? ⟨w.heap.size + 1 + 1, j, none⟩ = false := by intro j; simp [go_sem, *]))
    all_goals go_ret
    all_goals exact ⟨by rw [HR.out, ln_eq]; simp [*], by (repeat' first | (with_reducible exact Below.refl _ _) | (with_reducible refine Below.alloc ?_ ?_ _) | (with_reducible refine Below.drew ?_) | (with_reducible refine Below.setCell ?_ ?_ _) | (with_reducible refine below_via (by assumption) ?_ ?_) | go_size)⟩
set_option maxRecDepth 100000 in
theorem l05Is_any (a b o : Int) (l : Ln) (w : World) :
    Calls Tryd.prog 45 #[.agg #[.int .i64 a, .int .i64 b, .int .i64 o], .agg #[.int .i64 l.f, .int .i64 l.o, .int .i64 l.t]] w fun e w' => e = .returned (.bool (isLn a b o l)) ∧ Below w.heap.size w w' := by
  have HR : Hid (isLn a b o l = (lineBetween a b o l.f l.t == some l)) := rfl
  have HB : Hid (∀ W, Calls Tryd.prog 66 #[.agg #[.int .i64 a, .int .i64 b, .int .i64 o], .int .i64 l.f, .int .i64 l.t] W fun e w' => e = .returned (optLn (lineBetween a b o l.f l.t)) ∧ Below W.heap.size W w') := fun W => sLineBetween_any a b o l.f l.t W
  generalize lineBetween a b o l.f l.t = r at *
  cases r with
  | none =>
    simp only [optLn, Option.getD_none, Option.isSome_none, Ln0] at HB
    go_enter Tryd.func45, Tryd.ntmps45
    go_wp2_with (go_at_call 66; refine (HB.out _).mono ?_; rintro e w' ⟨rfl, hb⟩; obtain ⟨hc, hf, hz, hy⟩ := bcell hb; clear hy; (try simp only [World.size_alloc, World.size_setCell, World.size_drew] at hz); (try have gQ0 : w.heap.size < w'.heap.size := by omega); (try have gQ1 : w.heap.size + 1 < w'.heap.size := by omega); (try have gQ2 : w.heap.size + 1 + 1 < w'.heap.size := by omega); (try have gQ3 : w.heap.size + 1 + 1 + 1 < w'.heap.size := by omega); (try have gQ4 : w.heap.size + 1 + 1 + 1 + 1 < w'.heap.size := by omega); (try have gQ5 : w.heap.size + 1 + 1 + 1 + 1 + 1 < w'.heap.size := by omega); (try have dQ0 : _ < w'.heap.size := Nat.lt_of_lt_of_le dQ0 (by omega)); (try have dQ1 : _ < w'.heap.size := Nat.lt_of_lt_of_le dQ1 (by omega)); (try have dQ2 : _ < w'.heap.size := Nat.lt_of_lt_of_le dQ2 (by omega)); (try have dQ3 : _ < w'.heap.size := Nat.lt_of_lt_of_le dQ3 (by omega)); (try have dQ4 : _ < w'.heap.size := Nat.lt_of_lt_of_le dQ4 (by omega)); (try have dQ5 : _ < w'.heap.size := Nat.lt_of_lt_of_le dQ5 (by omega)); (try (have hnQ := Nat.lt_of_succ_le hz; first | (have _x := dQ0; first | (have _x := dQ1; first | (have _x := dQ2; first | (have _x := dQ3; first | (have _x := dQ4; have dQ5 := hnQ) | have dQ4 := hnQ) | have dQ3 := hnQ) | have dQ2 := hnQ) | have dQ1 := hnQ) | have dQ0 := hnQ)); (try (have hmQ := Nat.lt_of_succ_lt (Nat.lt_of_succ_le hz); first | (have _x := dQ0; first | (have _x := dQ1; first | (have _x := dQ2; first | (have _x := dQ3; first | (have _x := dQ4; have dQ5 := hmQ) | have dQ4 := hmQ) | have dQ3 := hmQ) | have dQ2 := hmQ) | have dQ1 := hmQ) | have dQ0 := hmQ)); (try have sQ00 : (w'.cell? ⟨w.heap.size, 0, none⟩).isSome = true := by simp [go_sem, *]); (try have sQ01 : (w'.cell? ⟨w.heap.size, 1, none⟩).isSome = true := by simp [go_sem, *]); (try have sQ02 : (w'.cell? ⟨w.heap.size, 2, none⟩).isSome = true := by simp [go_sem, *]); (try have sQ03 : (w'.cell? ⟨w.heap.size, 3, none⟩).isSome = true := by simp [go_sem, *]); (try have sQ04 : (w'.cell? ⟨w.heap.size, 4, none⟩).isSome = true := by simp [go_sem, *]); (try have sQ10 : (w'.cell? ⟨w.heap.size + 1, 0, none⟩).isSome = true := by simp [go_sem, *]); (try have sQ11 : (w'.cell? ⟨w.heap.size + 1, 1, none⟩).isSome = true := by simp [go_sem, *]); (try have sQ12 : (w'.cell? ⟨w.heap.size + 1, 2, none⟩).isSome = true := by simp [go_sem, *]); (try have sQ13 : (w'.cell? ⟨w.heap.size + 1, 3, none⟩).isSome = true := by simp [go_sem, *]); (try have sQ14 : (w'.cell? ⟨w.heap.size + 1, 4, none⟩).isSome = true := by simp [go_sem, *]); (try have sQ20 : (w'.cell? ⟨w.heap.size + 1 + 1, 0, none⟩).isSome = true := by simp [go_sem, *]); (try have sQ21 : (w'.cell? ⟨w.heap.size + 1 + 1, 1, none⟩).isSome = true := by simp [go_sem, *]); (try have sQ22 : (w'.cell? ⟨w.heap.size + 1 + 1, 2, none⟩).isSome = true := by simp [go_sem, *]); (try have sQ23 : (w'.cell? ⟨w.heap.size + 1 + 1, 3, none⟩).isSome = true := by simp [go_sem, *]); (try have sQ24 : (w'.cell? ⟨w.heap.size + 1 + 1, 4, none⟩).isSome = true := by simp [go_sem, *]); (try have fQ0 : ∀ j, w'.frozen? ⟨w.heap.size, j, none⟩ = false := by intro j; simp [go_sem, *]); (try have fQ1 : ∀ j, w'.frozen? ⟨w.heap.size + 1, j, none⟩ = false := by intro j; simp [go_sem, *]); (try have fQ2 : ∀ j, w'.frozen? ⟨w.heap.size + 1 + 1, j, none⟩ = false := by intro j; simp [go_sem, *]))
    all_goals go_ret
    all_goals exact ⟨by rw [HR.out]; rfl, by (repeat' first | (with_reducible exact Below.refl _ _) | (with_reducible refine Below.alloc ?_ ?_ _) | (with_reducible refine Below.drew ?_) | (with_reducible refine Below.setCell ?_ ?_ _) | (with_reducible refine below_via (by assumption) ?_ ?_) | go_size)⟩
  | some m =>
    simp only [optLn, Option.getD_some, Option.isSome_some] at HB
    go_enter Tryd.func45, Tryd.ntmps45
    go_wp2_with (go_at_call 66; refine (HB.out _).mono ?_; rintro e w' ⟨rfl, hb⟩; obtain ⟨hc, hf, hz, hy⟩ := bcell hb; clear hy; (try simp only [World.size_alloc, World.size_setCell, World.size_drew] at hz); (try have gQ0 : w.heap.size < w'.heap.size := by omega); (try have gQ1 : w.heap.size + 1 < w'.heap.size := by omega); (try have gQ2 : w.heap.size + 1 + 1 < w'.heap.size := by omega); (try have gQ3 : w.heap.size + 1 + 1 + 1 < w'.heap.size := by omega); (try have gQ4 : w.heap.size + 1 + 1 + 1 + 1 < w'.heap.size := by omega); (try have gQ5 : w.heap.size + 1 + 1 + 1 + 1 + 1 < w'.heap.size := by omega); (try have dQ0 : _ < w'.heap.size := Nat.lt_of_lt_of_le dQ0 (by omega)); (try have dQ1 : _ < w'.heap.size := Nat.lt_of_lt_of_le dQ1 (by omega)); (try have dQ2 : _ < w'.heap.size := Nat.lt_of_lt_of_le dQ2 (by omega)); (try have dQ3 : _ < w'.heap.size := Nat.lt_of_lt_of_le dQ3 (by omega)); (try have dQ4 : _ < w'.heap.size := Nat.lt_of_lt_of_le dQ4 (by omega)); (try have dQ5 : _ < w'.heap.size := Nat.lt_of_lt_of_le dQ5 (by omega)); (try (have hnQ := Nat.lt_of_succ_le hz; first | (have _x := dQ0; first | (have _x := dQ1; first | (have _x := dQ2; first | (have _x := dQ3; first | (have _x := dQ4; have dQ5 := hnQ) | have dQ4 := hnQ) | have dQ3 := hnQ) | have dQ2 := hnQ) | have dQ1 := hnQ) | have dQ0 := hnQ)); (try (have hmQ := Nat.lt_of_succ_lt (Nat.lt_of_succ_le hz); first | (have _x := dQ0; first | (have _x := dQ1; first | (have _x := dQ2; first | (have _x := dQ3; first | (have _x := dQ4; have dQ5 := hmQ) | have dQ4 := hmQ) | have dQ3 := hmQ) | have dQ2 := hmQ) | have dQ1 := hmQ) | have dQ0 := hmQ)); (try have sQ00 : (w'.cell? ⟨w.heap.size, 0, none⟩).isSome = true := by simp [go_sem, *]); (try have sQ01 : (w'.cell? ⟨w.heap.size, 1, none⟩).isSome = true := by simp [go_sem, *]); (try have sQ02 : (w'.cell? ⟨w.heap.size, 2, none⟩).isSome = true := by simp [go_sem, *]); (try have sQ03 : (w'.cell? ⟨w.heap.size, 3, none⟩).isSome = true := by simp [go_sem, *]); (try have sQ04 : (w'.cell? ⟨w.heap.size, 4, none⟩).isSome = true := by simp [go_sem, *]); (try have sQ10 : (w'.cell? ⟨w.heap.size + 1, 0, none⟩).isSome = true := by simp [go_sem, *]); (try have sQ11 : (w'.cell? ⟨w.heap.size + 1, 1, none⟩).isSome = true := by simp [go_sem, *]); (try have sQ12 : (w'.cell? ⟨w.heap.size + 1, 2, none⟩).isSome = true := by simp [go_sem, *]); (try have sQ13 : (w'.cell? ⟨w.heap.size + 1, 3, none⟩).isSome = true := by simp [go_sem, *]); (try have sQ14 : (w'.cell? ⟨w.heap.size + 1, 4, none⟩).isSome = true := by simp [go_sem, *]); (try have sQ20 : (w'.cell? ⟨w.heap.size + 1 + 1, 0, none⟩).isSome = true := by simp [go_sem, *]); (try have sQ21 : (w'.cell? ⟨w.heap.size + 1 + 1, 1, none⟩).isSome = true := by simp [go_sem, *]); (try have sQ22 : (w'.cell? ⟨w.heap.size + 1 + 1, 2, none⟩).isSome = true := by simp [go_sem, *]); (try have sQ23 : (w'.cell? ⟨w.heap.size + 1 + 1, 3, none⟩).isSome = true := by simp [go_sem, *]); (try have sQ24 : (w'.cell? ⟨w.heap.size + 1 + 1, 4, none⟩).isSome = true := by simp [go_sem, *]); (try have fQ0 : ∀ j, w'.frozen? ⟨w.heap.size, j, none⟩ = false := by intro j; simp [go_sem, *]); (try have fQ1 : ∀ j, w'.frozen? ⟨w.heap.size + 1, j, none⟩ = false := by intro j; simp [go_sem, *]); (try have fQ2 : ∀ j, w'.frozen? ⟨w.heap.size + 1 + 1, j, none⟩ = false := by intro j; simp [go_sem, *]))
    all_goals go_ret
    all_goals exact ⟨by rw [HR.out, ln_eq]; simp [*], by (repeat' first | (with_reducible exact Below.refl _ _) | (with_reducible refine Below.alloc ?_ ?_ _) | (with_reducible refine Below.drew ?_) | (with_reducible refine Below.setCell ?_ ?_ _) | (with_reducible refine below_via (by assumption) ?_ ?_) | go_size)⟩
set_option maxHeartbeats 1000000 in
set_option maxRecDepth 100000 in
theorem sCanJump_any (a b o p : Int) (l : Ln) (hp : p ≤ 9223372036854775807) (w : World) :
    Calls Tryd.prog 93 #[.agg #[.int .i64 a, .int .i64 b, .int .i64 o], .int .i64 p, .agg #[.int .i64 l.f, .int .i64 l.o, .int .i64 l.t]] w fun e w' => e = .returned (.bool (doOk false a b o p l)) ∧ Below w.heap.size w w' := by
  have HI : Hid (∀ W, Calls Tryd.prog 45 #[.agg #[.int .i64 a, .int .i64 b, .int .i64 o], .agg #[.int .i64 l.f, .int .i64 l.o, .int .i64 l.t]] W fun e w' => e = .returned (.bool (isLn a b o l)) ∧ Below W.heap.size W w') := fun W => l05Is_any a b o l W
  have HP : Hid (∀ W, Calls Tryd.prog 64 #[.agg #[.int .i64 a, .int .i64 b, .int .i64 o], .int .i64 p] W fun e w' => e = .returned (.bool (posOk a b o p)) ∧ Below W.heap.size W w') := fun W => sPositionOk_any a b o p hp W
  by_cases hpo : posOk a b o p = true
  rotate_left
  · have hpo : posOk a b o p = false := by simpa using hpo
    have h1 : doOk false a b o p l = false := by simp [doOk, hpo]
    rw [h1]
    rw [hpo] at HP
    clear hpo h1
    go_enter Tryd.func93, Tryd.ntmps93
    go_wp2_with ((with_reducible refine wp_region_qb ?_ ?_ (fun hq => ?_)); (focus kernel_rfl); (focus kernel_rfl); (repeat (go_big_quiet_step ((go_at_call 64; exact Calls.regrown_of (HP.out _))))); refine wpQuiet_nil ?_; intro wq hb; obtain ⟨hc, hf, hz, hy⟩ := bcell hb; clear hq hy; (try simp only [World.size_alloc, World.size_setCell, World.size_drew] at hz); (try have gQ0 : w.heap.size < wq.heap.size := by omega); (try have gQ1 : w.heap.size + 1 < wq.heap.size := by omega); (try have gQ2 : w.heap.size + 1 + 1 < wq.heap.size := by omega); (try have gQ3 : w.heap.size + 1 + 1 + 1 < wq.heap.size := by omega); (try have gQ4 : w.heap.size + 1 + 1 + 1 + 1 < wq.heap.size := by omega); (try have gQ5 : w.heap.size + 1 + 1 + 1 + 1 + 1 < wq.heap.size := by omega); (try have dQ0 : _ < wq.heap.size := Nat.lt_of_lt_of_le dQ0 (by omega)); (try have dQ1 : _ < wq.heap.size := Nat.lt_of_lt_of_le dQ1 (by omega)); (try have dQ2 : _ < wq.heap.size := Nat.lt_of_lt_of_le dQ2 (by omega)); (try have dQ3 : _ < wq.heap.size := Nat.lt_of_lt_of_le dQ3 (by omega)); (try have dQ4 : _ < wq.heap.size := Nat.lt_of_lt_of_le dQ4 (by omega)); (try have dQ5 : _ < wq.heap.size := Nat.lt_of_lt_of_le dQ5 (by omega)); (try (have hnQ := Nat.lt_of_succ_le hz; first | (have _x := dQ0; first | (have _x := dQ1; first | (have _x := dQ2; first | (have _x := dQ3; first | (have _x := dQ4; have dQ5 := hnQ) | have dQ4 := hnQ) | have dQ3 := hnQ) | have dQ2 := hnQ) | have dQ1 := hnQ) | have dQ0 := hnQ)); (try (have hmQ := Nat.lt_of_succ_lt (Nat.lt_of_succ_le hz); first | (have _x := dQ0; first | (have _x := dQ1; first | (have _x := dQ2; first | (have _x := dQ3; first | (have _x := dQ4; have dQ5 := hmQ) | have dQ4 := hmQ) | have dQ3 := hmQ) | have dQ2 := hmQ) | have dQ1 := hmQ) | have dQ0 := hmQ)))
    all_goals go_ret
    all_goals exact ⟨by simp, by (repeat' first | (with_reducible exact Below.refl _ _) | (with_reducible refine Below.alloc ?_ ?_ _) | (with_reducible refine Below.drew ?_) | (with_reducible refine Below.setCell ?_ ?_ _) | (with_reducible refine below_via (by assumption) ?_ ?_) | go_size)⟩
  have hpb := pos_lt hpo
  rw [hpo] at HP
  by_cases hil : isLn a b o l = true
  rotate_left
  · have hil : isLn a b o l = false := by simpa using hil
    have h1 : doOk false a b o p l = false := by simp [doOk, hil]
    rw [h1]
    rw [hil] at HI
    clear hil hpo h1
    go_enter Tryd.func93, Tryd.ntmps93
    go_wp2_with ((with_reducible refine wp_region_qb ?_ ?_ (fun hq => ?_)); (focus kernel_rfl); (focus kernel_rfl); (repeat (go_big_quiet_step ((first | (go_at_call 64; exact Calls.regrown_of (HP.out _)) | (go_at_call 45; exact Calls.regrown_of (HI.out _)))))); refine wpQuiet_nil ?_; intro wq hb; obtain ⟨hc, hf, hz, hy⟩ := bcell hb; clear hq hy; (try simp only [World.size_alloc, World.size_setCell, World.size_drew] at hz); (try have gQ0 : w.heap.size < wq.heap.size := by omega); (try have gQ1 : w.heap.size + 1 < wq.heap.size := by omega); (try have gQ2 : w.heap.size + 1 + 1 < wq.heap.size := by omega); (try have gQ3 : w.heap.size + 1 + 1 + 1 < wq.heap.size := by omega); (try have gQ4 : w.heap.size + 1 + 1 + 1 + 1 < wq.heap.size := by omega); (try have gQ5 : w.heap.size + 1 + 1 + 1 + 1 + 1 < wq.heap.size := by omega); (try have dQ0 : _ < wq.heap.size := Nat.lt_of_lt_of_le dQ0 (by omega)); (try have dQ1 : _ < wq.heap.size := Nat.lt_of_lt_of_le dQ1 (by omega)); (try have dQ2 : _ < wq.heap.size := Nat.lt_of_lt_of_le dQ2 (by omega)); (try have dQ3 : _ < wq.heap.size := Nat.lt_of_lt_of_le dQ3 (by omega)); (try have dQ4 : _ < wq.heap.size := Nat.lt_of_lt_of_le dQ4 (by omega)); (try have dQ5 : _ < wq.heap.size := Nat.lt_of_lt_of_le dQ5 (by omega)); (try (have hnQ := Nat.lt_of_succ_le hz; first | (have _x := dQ0; first | (have _x := dQ1; first | (have _x := dQ2; first | (have _x := dQ3; first | (have _x := dQ4; have dQ5 := hnQ) | have dQ4 := hnQ) | have dQ3 := hnQ) | have dQ2 := hnQ) | have dQ1 := hnQ) | have dQ0 := hnQ)); (try (have hmQ := Nat.lt_of_succ_lt (Nat.lt_of_succ_le hz); first | (have _x := dQ0; first | (have _x := dQ1; first | (have _x := dQ2; first | (have _x := dQ3; first | (have _x := dQ4; have dQ5 := hmQ) | have dQ4 := hmQ) | have dQ3 := hmQ) | have dQ2 := hmQ) | have dQ1 := hmQ) | have dQ0 := hmQ)))
    all_goals go_ret
    all_goals exact ⟨by simp, by (repeat' first | (with_reducible exact Below.refl _ _) | (with_reducible refine Below.alloc ?_ ?_ _) | (with_reducible refine Below.drew ?_) | (with_reducible refine Below.setCell ?_ ?_ _) | (with_reducible refine below_via (by assumption) ?_ ?_) | go_size)⟩
  have hin := (linesOf_in (isLn_mem hil)).1
  have h1 : doOk false a b o p l = canJ p l := by simp [doOk, hil, hpo, can]
  rw [h1]
  rw [hil] at HI
  have HB : Hid (∀ W, Calls Tryd.prog 92 #[.agg #[.int .i64 l.f, .int .i64 l.o, .int .i64 l.t]] W fun e w' => e = .returned (.int .i64 (lbits l)) ∧ Below W.heap.size W w') := fun W => l05Bits_any l.f l.o l.t hin W
  have hwf := pw_wrap (n := l.f) hin.1.1 (by have := hin.1.2; omega)
  have hwo := pw_wrap (n := l.o) hin.2.1.1 (by have := hin.2.1.2; omega)
  have pf0 := pw_pos l.f
  have po0 := pw_pos l.o
  have pf2 : pw l.f < 9223372036854775808 := Int.lt_trans (pw_lt (k := 49) hin.1.1 (by have := hin.1.2; omega)) (by rw [pw49]; decide)
  have po2 : pw l.o < 9223372036854775808 := Int.lt_trans (pw_lt (k := 49) hin.2.1.1 (by have := hin.2.1.2; omega)) (by rw [pw49]; decide)
  have pb2 : lbits l < 9223372036854775808 := Int.lt_trans (lbits_lt (k := 49) hin (by have := hin.1.2; omega) (by have := hin.2.1.2; omega) (by have := hin.2.2.1.2; omega)) (by rw [pw49]; decide)
  have pb0 := lbits_nonneg l
  have hor := bits_or (a := pw l.f) (b := pw l.o) (by omega) pf2 (by omega) po2
  have hand := bits_and (a := p) (b := lbits l) hpb.1 (by omega) pb0 pb2
  have hfo := hin.1
  have hoo := hin.2.1
  have hci := canJ_iff (p := p) hin
  clear h1 hil hpo hin
  generalize canJ p l = cj at *
  clear pf0 po0 pf2 po2 pb2 pb0
  generalize lbits l = LB at *
  generalize hA : band p LB = A at *
  generalize hFO : bor (pw l.f) (pw l.o) = FO at *
  generalize pw l.f = F at *
  generalize pw l.o = O at *
  clear hA hFO
  go_enter Tryd.func93, Tryd.ntmps93
  go_wp2_with ((with_reducible refine wp_region_qb ?_ ?_ (fun hq => ?_)); (focus kernel_rfl); (focus kernel_rfl); (repeat (go_big_quiet_step ((first | (go_at_call 64; exact Calls.regrown_of (HP.out _)) | (go_at_call 45; exact Calls.regrown_of (HI.out _)) | (go_at_call 92; exact Calls.regrown_of (HB.out _)))))); refine wpQuiet_nil ?_; intro wq hb; obtain ⟨hc, hf, hz, hy⟩ := bcell hb; clear hq hy; (try simp only [World.size_alloc, World.size_setCell, World.size_drew] at hz); (try have gQ0 : w.heap.size < wq.heap.size := by omega); (try have gQ1 : w.heap.size + 1 < wq.heap.size := by omega); (try have gQ2 : w.heap.size + 1 + 1 < wq.heap.size := by omega); (try have gQ3 : w.heap.size + 1 + 1 + 1 < wq.heap.size := by omega); (try have gQ4 : w.heap.size + 1 + 1 + 1 + 1 < wq.heap.size := by omega); (try have gQ5 : w.heap.size + 1 + 1 + 1 + 1 + 1 < wq.heap.size := by omega); (try have dQ0 : _ < wq.heap.size := Nat.lt_of_lt_of_le dQ0 (by omega)); (try have dQ1 : _ < wq.heap.size := Nat.lt_of_lt_of_le dQ1 (by omega)); (try have dQ2 : _ < wq.heap.size := Nat.lt_of_lt_of_le dQ2 (by omega)); (try have dQ3 : _ < wq.heap.size := Nat.lt_of_lt_of_le dQ3 (by omega)); (try have dQ4 : _ < wq.heap.size := Nat.lt_of_lt_of_le dQ4 (by omega)); (try have dQ5 : _ < wq.heap.size := Nat.lt_of_lt_of_le dQ5 (by omega)); (try (have hnQ := Nat.lt_of_succ_le hz; first | (have _x := dQ0; first | (have _x := dQ1; first | (have _x := dQ2; first | (have _x := dQ3; first | (have _x := dQ4; have dQ5 := hnQ) | have dQ4 := hnQ) | have dQ3 := hnQ) | have dQ2 := hnQ) | have dQ1 := hnQ) | have dQ0 := hnQ)); (try (have hmQ := Nat.lt_of_succ_lt (Nat.lt_of_succ_le hz); first | (have _x := dQ0; first | (have _x := dQ1; first | (have _x := dQ2; first | (have _x := dQ3; first | (have _x := dQ4; have dQ5 := hmQ) | have dQ4 := hmQ) | have dQ3 := hmQ) | have dQ2 := hmQ) | have dQ1 := hmQ) | have dQ0 := hmQ)))
  all_goals go_ret
  all_goals exact ⟨by simp, by (repeat' first | (with_reducible exact Below.refl _ _) | (with_reducible refine Below.alloc ?_ ?_ _) | (with_reducible refine Below.drew ?_) | (with_reducible refine Below.setCell ?_ ?_ _) | (with_reducible refine below_via (by assumption) ?_ ?_) | go_size)⟩
set_option maxHeartbeats 1000000 in
set_option maxRecDepth 100000 in
theorem sDoJump_any (a b o p : Int) (l : Ln) (hp : p ≤ 9223372036854775807) (w : World) :
    Calls Tryd.prog 81 #[.agg #[.int .i64 a, .int .i64 b, .int .i64 o], .int .i64 p, .agg #[.int .i64 l.f, .int .i64 l.o, .int .i64 l.t]] w fun e w' => e = .returned (.tuple #[.int .i64 (doTo false a b o p l), .bool (doOk false a b o p l)]) ∧ Below w.heap.size w w' := by
  have HC : Hid (∀ W, Calls Tryd.prog 93 #[.agg #[.int .i64 a, .int .i64 b, .int .i64 o], .int .i64 p, .agg #[.int .i64 l.f, .int .i64 l.o, .int .i64 l.t]] W fun e w' => e = .returned (.bool (doOk false a b o p l)) ∧ Below W.heap.size W w') := fun W => sCanJump_any a b o p l hp W
  cases hd : doOk false a b o p l
  · have h2 : doTo false a b o p l = p := by simp [doTo, hd]
    rw [h2]
    rw [hd] at HC
    clear hd h2
    go_enter Tryd.func81, Tryd.ntmps81
    go_wp2_with (first | (go_at_call 93; refine (HC.out _).mono ?_; rintro e w' ⟨rfl, hb⟩; obtain ⟨hc, hf, hz, hy⟩ := bcell hb; clear hy; (try simp only [World.size_alloc, World.size_setCell, World.size_drew] at hz); (try have gQ0 : w.heap.size < w'.heap.size := by omega); (try have gQ1 : w.heap.size + 1 < w'.heap.size := by omega); (try have gQ2 : w.heap.size + 1 + 1 < w'.heap.size := by omega); (try have gQ3 : w.heap.size + 1 + 1 + 1 < w'.heap.size := by omega); (try have gQ4 : w.heap.size + 1 + 1 + 1 + 1 < w'.heap.size := by omega); (try have gQ5 : w.heap.size + 1 + 1 + 1 + 1 + 1 < w'.heap.size := by omega); (try have dQ0 : _ < w'.heap.size := Nat.lt_of_lt_of_le dQ0 (by omega)); (try have dQ1 : _ < w'.heap.size := Nat.lt_of_lt_of_le dQ1 (by omega)); (try have dQ2 : _ < w'.heap.size := Nat.lt_of_lt_of_le dQ2 (by omega)); (try have dQ3 : _ < w'.heap.size := Nat.lt_of_lt_of_le dQ3 (by omega)); (try have dQ4 : _ < w'.heap.size := Nat.lt_of_lt_of_le dQ4 (by omega)); (try have dQ5 : _ < w'.heap.size := Nat.lt_of_lt_of_le dQ5 (by omega)); (try (have hnQ := Nat.lt_of_succ_le hz; first | (have _x := dQ0; first | (have _x := dQ1; first | (have _x := dQ2; first | (have _x := dQ3; first | (have _x := dQ4; have dQ5 := hnQ) | have dQ4 := hnQ) | have dQ3 := hnQ) | have dQ2 := hnQ) | have dQ1 := hnQ) | have dQ0 := hnQ)); (try (have hmQ := Nat.lt_of_succ_lt (Nat.lt_of_succ_le hz); first | (have _x := dQ0; first | (have _x := dQ1; first | (have _x := dQ2; first | (have _x := dQ3; first | (have _x := dQ4; have dQ5 := hmQ) | have dQ4 := hmQ) | have dQ3 := hmQ) | have dQ2 := hmQ) | have dQ1 := hmQ) | have dQ0 := hmQ))))
    all_goals go_ret2
    all_goals exact ⟨by simp, by (repeat' first | (with_reducible exact Below.refl _ _) | (with_reducible refine Below.alloc ?_ ?_ _) | (with_reducible refine Below.drew ?_) | (with_reducible refine Below.setCell ?_ ?_ _) | (with_reducible refine below_via (by assumption) ?_ ?_) | go_size)⟩
  · have h2 : doTo false a b o p l = flip p l := by simp [doTo, hd]
    rw [h2]
    rw [hd] at HC
    have hin := (linesOf_in (isLn_mem (doOk_pos hd).2.1)).1
    have hpb := pos_lt (doOk_pos hd).1
    have HB : Hid (∀ W, Calls Tryd.prog 92 #[.agg #[.int .i64 l.f, .int .i64 l.o, .int .i64 l.t]] W fun e w' => e = .returned (.int .i64 (lbits l)) ∧ Below W.heap.size W w') := fun W => l05Bits_any l.f l.o l.t hin W
    have pb2 : lbits l < 9223372036854775808 := Int.lt_trans (lbits_lt (k := 49) hin (by have := hin.1.2; omega) (by have := hin.2.1.2; omega) (by have := hin.2.2.1.2; omega)) (by rw [pw49]; decide)
    have hxor : bits BinOp.xor IntKind.i64 p (lbits l) = flip p l := bits_xor (a := p) (b := lbits l) hpb.1 (by omega) (lbits_nonneg l) pb2
    clear hd h2 pb2 hin
    generalize flip p l = q at *
    generalize lbits l = LB at *
    go_enter Tryd.func81, Tryd.ntmps81
    go_wp2_with (first | (go_at_call 93; refine (HC.out _).mono ?_; rintro e w' ⟨rfl, hb⟩; obtain ⟨hc, hf, hz, hy⟩ := bcell hb; clear hy; (try simp only [World.size_alloc, World.size_setCell, World.size_drew] at hz); (try have gQ0 : w.heap.size < w'.heap.size := by omega); (try have gQ1 : w.heap.size + 1 < w'.heap.size := by omega); (try have gQ2 : w.heap.size + 1 + 1 < w'.heap.size := by omega); (try have gQ3 : w.heap.size + 1 + 1 + 1 < w'.heap.size := by omega); (try have gQ4 : w.heap.size + 1 + 1 + 1 + 1 < w'.heap.size := by omega); (try have gQ5 : w.heap.size + 1 + 1 + 1 + 1 + 1 < w'.heap.size := by omega); (try have dQ0 : _ < w'.heap.size := Nat.lt_of_lt_of_le dQ0 (by omega)); (try have dQ1 : _ < w'.heap.size := Nat.lt_of_lt_of_le dQ1 (by omega)); (try have dQ2 : _ < w'.heap.size := Nat.lt_of_lt_of_le dQ2 (by omega)); (try have dQ3 : _ < w'.heap.size := Nat.lt_of_lt_of_le dQ3 (by omega)); (try have dQ4 : _ < w'.heap.size := Nat.lt_of_lt_of_le dQ4 (by omega)); (try have dQ5 : _ < w'.heap.size := Nat.lt_of_lt_of_le dQ5 (by omega)); (try (have hnQ := Nat.lt_of_succ_le hz; first | (have _x := dQ0; first | (have _x := dQ1; first | (have _x := dQ2; first | (have _x := dQ3; first | (have _x := dQ4; have dQ5 := hnQ) | have dQ4 := hnQ) | have dQ3 := hnQ) | have dQ2 := hnQ) | have dQ1 := hnQ) | have dQ0 := hnQ)); (try (have hmQ := Nat.lt_of_succ_lt (Nat.lt_of_succ_le hz); first | (have _x := dQ0; first | (have _x := dQ1; first | (have _x := dQ2; first | (have _x := dQ3; first | (have _x := dQ4; have dQ5 := hmQ) | have dQ4 := hmQ) | have dQ3 := hmQ) | have dQ2 := hmQ) | have dQ1 := hmQ) | have dQ0 := hmQ))) | (go_at_call 92; refine (HB.out _).mono ?_; rintro e w' ⟨rfl, hb⟩; obtain ⟨hc, hf, hz, hy⟩ := bcell hb; clear hy; (try simp only [World.size_alloc, World.size_setCell, World.size_drew] at hz); (try have gQ0 : w.heap.size < w'.heap.size := by omega); (try have gQ1 : w.heap.size + 1 < w'.heap.size := by omega); (try have gQ2 : w.heap.size + 1 + 1 < w'.heap.size := by omega); (try have gQ3 : w.heap.size + 1 + 1 + 1 < w'.heap.size := by omega); (try have gQ4 : w.heap.size + 1 + 1 + 1 + 1 < w'.heap.size := by omega); (try have gQ5 : w.heap.size + 1 + 1 + 1 + 1 + 1 < w'.heap.size := by omega); (try have dQ0 : _ < w'.heap.size := Nat.lt_of_lt_of_le dQ0 (by omega)); (try have dQ1 : _ < w'.heap.size := Nat.lt_of_lt_of_le dQ1 (by omega)); (try have dQ2 : _ < w'.heap.size := Nat.lt_of_lt_of_le dQ2 (by omega)); (try have dQ3 : _ < w'.heap.size := Nat.lt_of_lt_of_le dQ3 (by omega)); (try have dQ4 : _ < w'.heap.size := Nat.lt_of_lt_of_le dQ4 (by omega)); (try have dQ5 : _ < w'.heap.size := Nat.lt_of_lt_of_le dQ5 (by omega)); (try (have hnQ := Nat.lt_of_succ_le hz; first | (have _x := dQ0; first | (have _x := dQ1; first | (have _x := dQ2; first | (have _x := dQ3; first | (have _x := dQ4; have dQ5 := hnQ) | have dQ4 := hnQ) | have dQ3 := hnQ) | have dQ2 := hnQ) | have dQ1 := hnQ) | have dQ0 := hnQ)); (try (have hmQ := Nat.lt_of_succ_lt (Nat.lt_of_succ_le hz); first | (have _x := dQ0; first | (have _x := dQ1; first | (have _x := dQ2; first | (have _x := dQ3; first | (have _x := dQ4; have dQ5 := hmQ) | have dQ4 := hmQ) | have dQ3 := hmQ) | have dQ2 := hmQ) | have dQ1 := hmQ) | have dQ0 := hmQ))))
    all_goals go_ret2
    all_goals exact ⟨by simp, by (repeat' first | (with_reducible exact Below.refl _ _) | (with_reducible refine Below.alloc ?_ ?_ _) | (with_reducible refine Below.drew ?_) | (with_reducible refine Below.setCell ?_ ?_ _) | (with_reducible refine below_via (by assumption) ?_ ?_) | go_size)⟩
end Go.Proofs.YtkaojpcpfbbicaaDoor
