/- DrawS: contracts of the reference's drawn results, and of its HasPeg. Conditions: the code's form. -/
import Derived.Test.YtfpofhkggojaoaaDrawG
import Derived.Test.YtfpofhkggojaoaaMakeP
import Derived.Test.YtfpofhkggojaoaaEnt0
import Derived.Deep.DeepCutAuto
set_option linter.unusedVariables false
set_option linter.unusedSimpArgs false
namespace Go.Proofs.Ytfpofhkggojaoaa
open Go.ChangeShapes Go.WideShapes Go.ChangeAt Go.RowKit Peg Go.Sort
def ResIs (r : Rs) : Prop := (1 ≤ r.l ∧ r.l ≤ 6) ∧ (0 ≤ r.s ∧ r.s ≤ 3) ∧ (0 ≤ r.t ∧ r.t ≤ 200)
theorem ResIs.ok {r : Rs} (h : ResIs r) : okR r = true := by
  obtain ⟨h1, h2, h3⟩ := h
  simp only [okR, resultOk, Bool.and_eq_true]
  exact ⟨⟨inR_iff.2 (by omega), inR_iff.2 (by omega)⟩, inR_iff.2 (by omega)⟩
set_option maxHeartbeats 4000000 in
set_option maxRecDepth 100000 in
theorem l31Result_any (c : Nat) (v : Value) (l : List Int) (w0 w : World) (hv : Rd EBy w0 v l) (hok : ∀ y ∈ l, ByOk y) (h0 : w0.heap.size ≤ c) (hbel : Below w0.heap.size w0 w) (hcur : CurAt w c v l.length) :
    Calls Try.prog 113 #[.pointer (some ⟨c, 0, none⟩)] w fun e w' => (∃ r : Rs, e = .returned (.agg #[.int .i64 r.l, .bool r.c, .int .i64 r.s, .int .i64 r.t]) ∧ ResIs r) ∧ CurAt w' c v l.length ∧ w.grownBy w' (some c) := by
  have HV := Lib.hid hv
  have HO := Lib.hid hok
  have HL := Lib.hid hbel
  have hcw := hcur.1
  have HC := Lib.hid hcur
  clear hv hok hbel hcur
  go_enter Try.func113, Try.ntmps113
  have hf0 : ∀ j, (w.alloc (.cells #[.int .i64 0, .bool false, .int .i64 0, .int .i64 0] 56)).frozen? ⟨w.heap.size, j, none⟩ = false := fun j => by simp [go_sem]
  have hk0 : ∀ j, (w.alloc (.cells #[.int .i64 0, .bool false, .int .i64 0, .int .i64 0] 56)).cell? ⟨w.heap.size, j, none⟩ = #[Value.int .i64 0, .bool false, .int .i64 0, .int .i64 0][j]? := fun j => by simp
  have hb0 : Below w.heap.size w (w.alloc (.cells #[.int .i64 0, .bool false, .int .i64 0, .int .i64 0] 56)) := (Below.refl _ _).alloc (Nat.le_refl _) _
  go_wp2_with fail
  refine (l01Below_any c v l 6 (by omega) (by omega) w0 _ HV.out HO.out h0 (HL.out.trans (hb0.mono (by omega))) (HC.out.keep hb0)).mono ?_
  rintro e w1 ⟨⟨x, rfl, x0, x1⟩, hcu1, hg1⟩
  have hz1 := hg1.size
  simp only [World.size_alloc] at hz1
  have HG1 := Lib.hid (only_trans (only_old hb0) hg1)
  have HG1a := Lib.hid hg1
  have HC1 := Lib.hid hcu1
  have HL1 := Lib.hid (HL.out.trans ((only_below (Nat.le_of_lt hcw) HG1.out).mono h0))
  clear hcu1 hg1 hb0
  go_wp2_with fail
  refine (l01Once_any c v l 2 (by omega) (by omega) w0 _ HV.out HO.out h0 HL1.out HC1.out).mono ?_
  rintro e w2 ⟨⟨y, rfl⟩, hcu2, hg2⟩
  have HG2 := Lib.hid (only_trans HG1.out hg2)
  have HG2a := Lib.hid (only_trans HG1a.out hg2)
  have HC2 := Lib.hid hcu2
  have HL2 := Lib.hid (HL.out.trans ((only_below (Nat.le_of_lt hcw) HG2.out).mono h0))
  clear hcu2 hg2
  go_wp2_with fail
  refine (l01Below_any c v l 4 (by omega) (by omega) w0 _ HV.out HO.out h0 HL2.out HC2.out).mono ?_
  rintro e w3 ⟨⟨z, rfl, z0, z1⟩, hcu3, hg3⟩
  have HG3 := Lib.hid (only_trans HG2.out hg3)
  have HG3a := Lib.hid (only_trans HG2a.out hg3)
  have HC3 := Lib.hid hcu3
  have HL3 := Lib.hid (HL.out.trans ((only_below (Nat.le_of_lt hcw) HG3.out).mono h0))
  clear hcu3 hg3
  go_wp2_with fail
  refine (l01Below_any c v l 3 (by omega) (by omega) w0 _ HV.out HO.out h0 HL3.out HC3.out).mono ?_
  rintro e w4 ⟨⟨t, rfl, t0, t1⟩, hcu4, hg4⟩
  have HG4 := Lib.hid (only_trans HG3.out hg4)
  have hg4a := only_trans HG3a.out hg4
  have HC4 := Lib.hid hcu4
  have hz4 := hg4a.size
  simp only [World.size_alloc] at hz4
  have hk4 : ∀ j, w4.cell? ⟨w.heap.size, j, none⟩ = #[Value.int .i64 0, .bool false, .int .i64 0, .int .i64 0][j]? := fun j => (only_cell hg4a (by simp) (by omega)).trans (hk0 j)
  have hf4 : ∀ j, w4.frozen? ⟨w.heap.size, j, none⟩ = false := fun j => (only_frozen hg4a (by simp) (by omega)).trans (hf0 j)
  have hcc : c < w4.heap.size := by omega
  clear hcu4 hg4 hg4a hk0 hf0
  go_wp2_with fail
  refine bodyPost_ret (v := .agg #[.int .i64 (1 + x), .bool y, .int .i64 z, .int .i64 (100 * t)]) (by simp [results, Try.results113, go_sem, *]) rfl ⟨⟨⟨1 + x, y, z, 100 * t⟩, rfl, ⟨by show 1 ≤ 1 + x; omega, by show 1 + x ≤ 6; omega⟩, ⟨z0, by show z ≤ 3; omega⟩, ⟨by show 0 ≤ 100 * t; omega, by show 100 * t ≤ 200; omega⟩⟩, ?_, ?_⟩
  · exact HC4.out.keepB (B := w.heap.size) hcw (by simp) (by (repeat' first | (with_reducible exact Below.refl _ _) | (with_reducible refine Below.alloc ?_ ?_ _) | (with_reducible refine Below.drew ?_) | (with_reducible refine Below.setCell ?_ ?_ _) | (with_reducible refine below_via (by assumption) ?_ ?_) | go_size))
  · exact only_viaB (B := w.heap.size) (by (repeat' first | (with_reducible exact Below.refl _ _) | (with_reducible refine Below.alloc ?_ ?_ _) | (with_reducible refine Below.drew ?_) | (with_reducible refine Below.setCell ?_ ?_ _) | (with_reducible refine below_via (by assumption) ?_ ?_) | go_size)) (Nat.le_refl _) HG4.out
theorem sHasPeg_any (a b o p k : Int) (hp : p ≤ 9223372036854775807) (hpo : posOk a b o p = true) (hk : hasHole a b o k = true) (w : World) :
    Calls Try.prog 40 #[.agg #[.int .i64 a, .int .i64 b, .int .i64 o], .int .i64 p, .int .i64 k] w fun e w' => e = .returned (.bool (tb p k)) ∧ Below w.heap.size w w' := by
  have HP : Hid (∀ W, Calls Try.prog 106 #[.agg #[.int .i64 a, .int .i64 b, .int .i64 o], .int .i64 p] W fun e w' => e = .returned (.bool true) ∧ Below W.heap.size W w') := fun W => by rw [← hpo]; exact sPositionOk_any a b o p hp W
  have HH : Hid (∀ W, Calls Try.prog 126 #[.agg #[.int .i64 a, .int .i64 b, .int .i64 o], .int .i64 k] W fun e w' => e = .returned (.bool true) ∧ Below W.heap.size W w') := fun W => by rw [← hk]; exact sHasHole_any a b o k W
  obtain ⟨hb, k0, k1, _⟩ := hasHole_bd hk
  have ⟨h8, h9⟩ := area (boardOk_sides hb).1 (boardOk_sides hb).2
  have hpl := pos_lt hpo
  have hk48 : k ≤ 48 := by omega
  have hbt := bit_test (p := p) (k := k) (by omega) (by omega)
  have hbt2 := bit_test' (p := p) (k := k) (by omega) (by omega)
  clear hk hb k1 h8 h9 hpo
  generalize tb p k = t at *
  go_enter Try.func40, Try.ntmps40
  go_wp2_with (first | (go_at_call 106; refine (HP.out _).mono ?_; rintro e w' ⟨rfl, hb⟩; obtain ⟨hc, hf, hz, hy⟩ := bcell hb; clear hy; (try simp only [World.size_alloc, World.size_setCell, World.size_drew] at hz); (try have gQ0 : w.heap.size < w'.heap.size := by omega); (try have gQ1 : w.heap.size + 1 < w'.heap.size := by omega); (try have gQ2 : w.heap.size + 1 + 1 < w'.heap.size := by omega); (try have gQ3 : w.heap.size + 1 + 1 + 1 < w'.heap.size := by omega); (try have gQ4 : w.heap.size + 1 + 1 + 1 + 1 < w'.heap.size := by omega); (try have gQ5 : w.heap.size + 1 + 1 + 1 + 1 + 1 < w'.heap.size := by omega); (try have dQ0 : _ < w'.heap.size := Nat.lt_of_lt_of_le dQ0 (by omega)); (try have dQ1 : _ < w'.heap.size := Nat.lt_of_lt_of_le dQ1 (by omega)); (try have dQ2 : _ < w'.heap.size := Nat.lt_of_lt_of_le dQ2 (by omega)); (try have dQ3 : _ < w'.heap.size := Nat.lt_of_lt_of_le dQ3 (by omega)); (try have dQ4 : _ < w'.heap.size := Nat.lt_of_lt_of_le dQ4 (by omega)); (try have dQ5 : _ < w'.heap.size := Nat.lt_of_lt_of_le dQ5 (by omega)); (try (have hnQ := Nat.lt_of_succ_le hz; first | (have _x := dQ0; first | (have _x := dQ1; first | (have _x := dQ2; first | (have _x := dQ3; first | (have _x := dQ4; have dQ5 := hnQ) | have dQ4 := hnQ) | have dQ3 := hnQ) | have dQ2 := hnQ) | have dQ1 := hnQ) | have dQ0 := hnQ)); (try (have hmQ := Nat.lt_of_succ_lt (Nat.lt_of_succ_le hz); first | (have _x := dQ0; first | (have _x := dQ1; first | (have _x := dQ2; first | (have _x := dQ3; first | (have _x := dQ4; have dQ5 := hmQ) | have dQ4 := hmQ) | have dQ3 := hmQ) | have dQ2 := hmQ) | have dQ1 := hmQ) | have dQ0 := hmQ))) | (go_at_call 126; refine (HH.out _).mono ?_; rintro e w' ⟨rfl, hb⟩; obtain ⟨hc, hf, hz, hy⟩ := bcell hb; clear hy; (try simp only [World.size_alloc, World.size_setCell, World.size_drew] at hz); (try have gQ0 : w.heap.size < w'.heap.size := by omega); (try have gQ1 : w.heap.size + 1 < w'.heap.size := by omega); (try have gQ2 : w.heap.size + 1 + 1 < w'.heap.size := by omega); (try have gQ3 : w.heap.size + 1 + 1 + 1 < w'.heap.size := by omega); (try have gQ4 : w.heap.size + 1 + 1 + 1 + 1 < w'.heap.size := by omega); (try have gQ5 : w.heap.size + 1 + 1 + 1 + 1 + 1 < w'.heap.size := by omega); (try have dQ0 : _ < w'.heap.size := Nat.lt_of_lt_of_le dQ0 (by omega)); (try have dQ1 : _ < w'.heap.size := Nat.lt_of_lt_of_le dQ1 (by omega)); (try have dQ2 : _ < w'.heap.size := Nat.lt_of_lt_of_le dQ2 (by omega)); (try have dQ3 : _ < w'.heap.size := Nat.lt_of_lt_of_le dQ3 (by omega)); (try have dQ4 : _ < w'.heap.size := Nat.lt_of_lt_of_le dQ4 (by omega)); (try have dQ5 : _ < w'.heap.size := Nat.lt_of_lt_of_le dQ5 (by omega)); (try (have hnQ := Nat.lt_of_succ_le hz; first | (have _x := dQ0; first | (have _x := dQ1; first | (have _x := dQ2; first | (have _x := dQ3; first | (have _x := dQ4; have dQ5 := hnQ) | have dQ4 := hnQ) | have dQ3 := hnQ) | have dQ2 := hnQ) | have dQ1 := hnQ) | have dQ0 := hnQ)); (try (have hmQ := Nat.lt_of_succ_lt (Nat.lt_of_succ_le hz); first | (have _x := dQ0; first | (have _x := dQ1; first | (have _x := dQ2; first | (have _x := dQ3; first | (have _x := dQ4; have dQ5 := hmQ) | have dQ4 := hmQ) | have dQ3 := hmQ) | have dQ2 := hmQ) | have dQ1 := hmQ) | have dQ0 := hmQ))))
  all_goals go_ret
  all_goals exact ⟨by simp [*], by (repeat' first | (with_reducible exact Below.refl _ _) | (with_reducible refine Below.alloc ?_ ?_ _) | (with_reducible refine Below.drew ?_) | (with_reducible refine Below.setCell ?_ ?_ _) | (with_reducible refine below_via (by assumption) ?_ ?_) | go_size)⟩
def ResultsAre (w : World) (e : Ending) (w' : World) : Prop := ∃ r1 r2 r3 : Rs, e = .returned (.tuple #[.agg #[.int .i64 r1.l, .bool r1.c, .int .i64 r1.s, .int .i64 r1.t], .agg #[.int .i64 r2.l, .bool r2.c, .int .i64 r2.s, .int .i64 r2.t], .agg #[.int .i64 r3.l, .bool r3.c, .int .i64 r3.s, .int .i64 r3.t]]) ∧ ResIs r1 ∧ ResIs r2 ∧ ResIs r3 ∧ Below w.heap.size w w'
set_option maxHeartbeats 8000000 in
set_option maxRecDepth 100000 in
theorem DrawResults_any (v : Value) (l : List Int) (w : World) (hv : Rd EBy w v l) (hok : ∀ y ∈ l, ByOk y) (hl : l.length ≤ 1048576) :
    Calls Try.prog 29 #[v] w (ResultsAre w) := by
  have HV := Lib.hid hv
  have HO := Lib.hid hok
  clear hv hok
  go_enter Try.func29, Try.ntmps29
  obtain ⟨wA, hwA⟩ : ∃ wA : World, wA = ((w.alloc (.cells #[.int .i64 0, .bool false, .int .i64 0, .int .i64 0] 56)).alloc (.cells #[.int .i64 0, .bool false, .int .i64 0, .int .i64 0] 56)).alloc (.cells #[.int .i64 0, .bool false, .int .i64 0, .int .i64 0] 56) := ⟨_, rfl⟩
  have hzA : wA.heap.size = w.heap.size + 3 := by rw [hwA]; simp
  have hbA : Below w.heap.size w wA := by rw [hwA]; (repeat' first | (with_reducible exact Below.refl _ _) | (with_reducible refine Below.alloc ?_ ?_ _) | (with_reducible refine Below.drew ?_) | (with_reducible refine Below.setCell ?_ ?_ _) | (with_reducible refine below_via (by assumption) ?_ ?_) | go_size)
  have hkA : ∀ i, i < 3 → (∀ j, wA.cell? ⟨w.heap.size + i, j, none⟩ = #[Value.int .i64 0, .bool false, .int .i64 0, .int .i64 0][j]?) ∧ (∀ j, wA.frozen? ⟨w.heap.size + i, j, none⟩ = false) := by
    intro i hi
    rw [hwA]
    rcases (by omega : i = 0 ∨ i = 1 ∨ i = 2) with rfl | rfl | rfl
    · exact ⟨fun j => by simp [go_sem], fun j => by simp [go_sem]⟩
    · exact ⟨fun j => by simp [go_sem], fun j => by simp [go_sem]⟩
    · exact ⟨fun j => by simp [go_sem], fun j => by simp [go_sem]⟩
  go_wp2_with fail
  rw [← hwA]
  clear hwA
  have HBA := Lib.hid hbA
  refine (l01New_any v l _ (HV.out.keep hbA) HO.out hl).mono ?_
  rintro e w1 ⟨c, rfl, hc0, hcu, hb⟩
  have hz1 := hb.size
  have HC1 := Lib.hid hcu
  have hc1 := hcu.1
  have HB1 := Lib.hid (hbA.trans (hb.mono (by omega)))
  have hk1 : ∀ i, i < 3 → (∀ j, w1.cell? ⟨w.heap.size + i, j, none⟩ = #[Value.int .i64 0, .bool false, .int .i64 0, .int .i64 0][j]?) ∧ (∀ j, w1.frozen? ⟨w.heap.size + i, j, none⟩ = false) := fun i hi => ⟨fun j => (hb.cell (p := ⟨w.heap.size + i, j, none⟩) (show w.heap.size + i < wA.heap.size by omega)).trans ((hkA i hi).1 j), fun j => (hb.frozen (p := ⟨w.heap.size + i, j, none⟩) (show w.heap.size + i < wA.heap.size by omega)).trans ((hkA i hi).2 j)⟩
  have HK1 := Lib.hid hk1
  clear hb hbA hcu hk1 hkA
  go_wp2_with fail
  refine (l31Result_any c v l w w1 HV.out HO.out (by omega) HB1.out HC1.out).mono ?_
  rintro e w2 ⟨⟨r1, rfl, hr1⟩, hcu2, hg2⟩
  have R1 := Lib.hid hr1
  have hz2 := hg2.size
  have hb2 : Below w2.heap.size w2 (w2.alloc (.cells #[.int .i64 r1.l, .bool r1.c, .int .i64 r1.s, .int .i64 r1.t] 56)) := (Below.refl _ _).alloc (Nat.le_refl _) _
  have HC2 := Lib.hid (hcu2.keep hb2)
  have HG2 := Lib.hid (only_trans hg2 (only_old (c := c) hb2))
  have HB2 := Lib.hid (HB1.out.trans ((only_below (Nat.le_of_lt hc1) HG2.out).mono (by omega)))
  clear hr1 hcu2 hg2 hb2
  go_wp2_with fail
  refine (l31Result_any c v l w _ HV.out HO.out (by omega) HB2.out HC2.out).mono ?_
  rintro e w3 ⟨⟨r2, rfl, hr2⟩, hcu3, hg3⟩
  have R2 := Lib.hid hr2
  have hz3 := hg3.size
  simp only [World.size_alloc] at hz3
  have hb3 : Below w3.heap.size w3 (w3.alloc (.cells #[.int .i64 r2.l, .bool r2.c, .int .i64 r2.s, .int .i64 r2.t] 56)) := (Below.refl _ _).alloc (Nat.le_refl _) _
  have hX3 : ∀ j, (w3.alloc (.cells #[.int .i64 r2.l, .bool r2.c, .int .i64 r2.s, .int .i64 r2.t] 56)).cell? ⟨w2.heap.size, j, none⟩ = #[Value.int .i64 r1.l, .bool r1.c, .int .i64 r1.s, .int .i64 r1.t][j]? := fun j => (hb3.cell (show w2.heap.size < w3.heap.size by omega)).trans ((only_cell hg3 (by simp) (by omega)).trans (by simp))
  have hY3 : ∀ j, (w3.alloc (.cells #[.int .i64 r2.l, .bool r2.c, .int .i64 r2.s, .int .i64 r2.t] 56)).cell? ⟨w3.heap.size, j, none⟩ = #[Value.int .i64 r2.l, .bool r2.c, .int .i64 r2.s, .int .i64 r2.t][j]? := fun j => by simp
  have hzw : (w3.alloc (.cells #[.int .i64 r2.l, .bool r2.c, .int .i64 r2.s, .int .i64 r2.t] 56)).heap.size = w3.heap.size + 1 := by simp
  have HC3 := Lib.hid (hcu3.keep hb3)
  have HG3 := Lib.hid (only_trans HG2.out (only_trans hg3 (only_old (c := c) hb3)))
  have HB3 := Lib.hid (HB1.out.trans ((only_below (Nat.le_of_lt hc1) HG3.out).mono (by omega)))
  clear hr2 hcu3 hg3 hb3
  go_wp2_with fail
  obtain ⟨w4, hw4⟩ : ∃ w4 : World, w4 = w3.alloc (.cells #[.int .i64 r2.l, .bool r2.c, .int .i64 r2.s, .int .i64 r2.t] 56) := ⟨_, rfl⟩
  rw [← hw4] at HC3 HG3 HB3 hX3 hY3 hzw
  rw [← hw4]
  clear hw4
  have hd4 : Below w4.heap.size w4 w4.drew := (Below.refl _ _).drew
  have hc4 : c < w4.heap.size := by omega
  have HCALL := Lib.hid (l31Result_any c v l w w4.drew HV.out HO.out (by omega) (HB3.out.trans (hd4.mono HB3.out.size)) (HC3.out.keep hd4))
  have hk4 : ∀ i, i < 3 → (∀ j, w4.cell? ⟨w.heap.size + i, j, none⟩ = #[Value.int .i64 0, .bool false, .int .i64 0, .int .i64 0][j]?) ∧ (∀ j, w4.frozen? ⟨w.heap.size + i, j, none⟩ = false) := fun i hi => ⟨fun j => (only_cell HG3.out (by omega) (by omega)).trans ((HK1.out i hi).1 j), fun j => (only_frozen HG3.out (by omega) (by omega)).trans ((HK1.out i hi).2 j)⟩
  have HK4 := Lib.hid hk4
  clear hd4 hk4
  have HPOST : Hid (∀ w5 : World, w4.drew.grownBy w5 (some c) → (∀ j, w5.cell? ⟨w2.heap.size, j, none⟩ = #[Value.int .i64 r1.l, .bool r1.c, .int .i64 r1.s, .int .i64 r1.t][j]?) ∧ (∀ j, w5.cell? ⟨w3.heap.size, j, none⟩ = #[Value.int .i64 r2.l, .bool r2.c, .int .i64 r2.s, .int .i64 r2.t][j]?) ∧
      (∀ j, w5.cell? ⟨w.heap.size, j, none⟩ = #[Value.int .i64 0, .bool false, .int .i64 0, .int .i64 0][j]?) ∧ (∀ j, w5.cell? ⟨w.heap.size + 1, j, none⟩ = #[Value.int .i64 0, .bool false, .int .i64 0, .int .i64 0][j]?) ∧ (∀ j, w5.cell? ⟨w.heap.size + 1 + 1, j, none⟩ = #[Value.int .i64 0, .bool false, .int .i64 0, .int .i64 0][j]?) ∧
      (∀ j, w5.frozen? ⟨w.heap.size, j, none⟩ = false) ∧ (∀ j, w5.frozen? ⟨w.heap.size + 1, j, none⟩ = false) ∧ (∀ j, w5.frozen? ⟨w.heap.size + 1 + 1, j, none⟩ = false) ∧ Hid (Below w.heap.size w w5) ∧ w4.heap.size ≤ w5.heap.size) := fun w5 hg5 => by
    have hz := hg5.size
    simp only [World.size_drew] at hz
    have hcell : ∀ b j, b < w4.heap.size → b ≠ c → w5.cell? ⟨b, j, none⟩ = w4.cell? ⟨b, j, none⟩ := fun b j h1 h2 => (only_cell hg5 (by simpa using h1) h2).trans (by simp)
    have hfro : ∀ b j, b < w4.heap.size → b ≠ c → w5.frozen? ⟨b, j, none⟩ = w4.frozen? ⟨b, j, none⟩ := fun b j h1 h2 => (only_frozen hg5 (by simpa using h1) h2).trans (by simp)
    refine ⟨fun j => (hcell _ j (by omega) (by omega)).trans (hX3 j), fun j => (hcell _ j (by omega) (by omega)).trans (hY3 j), fun j => (hcell _ j (by omega) (by omega)).trans ((HK4.out 0 (by omega)).1 j), fun j => (hcell _ j (by omega) (by omega)).trans ((HK4.out 1 (by omega)).1 j), fun j => (hcell _ j (by omega) (by omega)).trans ((HK4.out 2 (by omega)).1 j),
      fun j => (hfro _ j (by omega) (by omega)).trans ((HK4.out 0 (by omega)).2 j), fun j => (hfro _ j (by omega) (by omega)).trans ((HK4.out 1 (by omega)).2 j), fun j => (hfro _ j (by omega) (by omega)).trans ((HK4.out 2 (by omega)).2 j), ?_, hz⟩
    show Below w.heap.size w w5
    exact HB3.out.trans ((only_below (c := c) (by omega) (only_trans (only_old ((Below.refl _ w4).drew)) hg5)).mono (by omega))
  go_region_with (go_at_call 113; refine HCALL.out.mono ?_; rintro e w5 ⟨⟨r3, rfl, hr3⟩, hcu5, hg5⟩; have R3 := Lib.hid hr3; obtain ⟨hX5, hY5, ha0, ha1, ha2, hb0, hb1, hb2, HB5, hz5⟩ := HPOST.out w5 hg5; clear hr3 hcu5 hg5)
  all_goals go_wp2_with fail
  all_goals have hbF := HB5.out
  all_goals refine bodyPost_ret (v := .tuple #[.agg #[.int .i64 r1.l, .bool r1.c, .int .i64 r1.s, .int .i64 r1.t], .agg #[.int .i64 r2.l, .bool r2.c, .int .i64 r2.s, .int .i64 r2.t], .agg #[.int .i64 r3.l, .bool r3.c, .int .i64 r3.s, .int .i64 r3.t]]) (by simp [results, Try.results29, go_sem, *]) rfl ⟨r1, r2, r3, rfl, R1.out, R2.out, R3.out, by (repeat' first | (with_reducible exact Below.refl _ _) | (with_reducible refine Below.alloc ?_ ?_ _) | (with_reducible refine Below.drew ?_) | (with_reducible refine Below.setCell ?_ ?_ _) | (with_reducible refine below_via (by assumption) ?_ ?_) | (with_reducible assumption) | ((try simp only [World.size_alloc, World.size_setCell, World.size_drew] at *); omega) | go_size)⟩
end Go.Proofs.Ytfpofhkggojaoaa
