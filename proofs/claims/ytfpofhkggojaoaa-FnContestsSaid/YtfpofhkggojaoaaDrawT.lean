/- DrawT: contract of the reference's drawn result. Conditions: the cursor's form. -/
import Derived.Test.YtfpofhkggojaoaaDrawK
import Derived.Test.YtfpofhkggojaoaaEnt0
set_option linter.unusedVariables false
set_option linter.unusedSimpArgs false
namespace Go.Proofs.Ytfpofhkggojaoaa
open Go.ChangeShapes Go.WideShapes Go.ChangeAt Go.RowKit Peg Go.Sort
def ResIs (r : Rs) : Prop := (1 ≤ r.l ∧ r.l ≤ 6) ∧ (0 ≤ r.s ∧ r.s ≤ 3) ∧ (0 ≤ r.t ∧ r.t ≤ 200)
theorem ResIs.ok {r : Rs} (h : ResIs r) : okR r = true := by
  obtain ⟨h1, h2, h3⟩ := h
  simp only [okR, resultOk, Bool.and_eq_true]
  exact ⟨⟨inR_iff.2 (by omega), inR_iff.2 (by omega)⟩, inR_iff.2 (by omega)⟩
set_option maxHeartbeats 4000000 in
set_option maxRecDepth 100000 in
theorem l31Result_any (c : Nat) (v : Value) (l : List Int) (w0 w : World) (hv : Rd EBy w0 v l) (hok : ∀ y ∈ l, ByOk y) (h0 : w0.heap.size ≤ c) (hbel : Below w0.heap.size w0 w) (hcur : CurAt w c v l.length) :
    Calls Try.prog 113 #[.pointer (some ⟨c, 0, none⟩)] w fun e w' => (∃ r : Rs, e = .returned (.agg #[.int .i64 r.l, .bool r.c, .int .i64 r.s, .int .i64 r.t]) ∧ ResIs r) ∧ CurAt w' c v l.length ∧ w.grownBy w' (some c) := by
  have HV := Lib.hid hv
  have HO := Lib.hid hok
  have HL := Lib.hid hbel
  have hcw := hcur.1
  have HC := Lib.hid hcur
  clear hv hok hbel hcur
  go_enter Try.func113, Try.ntmps113
  have hf0 : ∀ j, (w.alloc (.cells #[.int .i64 0, .bool false, .int .i64 0, .int .i64 0] 56)).frozen? ⟨w.heap.size, j, none⟩ = false := fun j => by simp [go_sem]
  have hk0 : ∀ j, (w.alloc (.cells #[.int .i64 0, .bool false, .int .i64 0, .int .i64 0] 56)).cell? ⟨w.heap.size, j, none⟩ = #[Value.int .i64 0, .bool false, .int .i64 0, .int .i64 0][j]? := fun j => by simp
  have hb0 : Below w.heap.size w (w.alloc (.cells #[.int .i64 0, .bool false, .int .i64 0, .int .i64 0] 56)) := (Below.refl _ _).alloc (Nat.le_refl _) _
  go_wp2_with fail
  refine (l01Below_any c v l 6 (by omega) (by omega) w0 _ HV.out HO.out h0 (HL.out.trans (hb0.mono (by omega))) (HC.out.keep hb0)).mono ?_
  rintro e w1 ⟨⟨x, rfl, x0, x1⟩, hcu1, hg1⟩
  have hz1 := hg1.size
  simp only [World.size_alloc] at hz1
  have HG1 := Lib.hid (only_trans (only_old hb0) hg1)
  have HG1a := Lib.hid hg1
  have HC1 := Lib.hid hcu1
  have HL1 := Lib.hid (HL.out.trans ((only_below (Nat.le_of_lt hcw) HG1.out).mono h0))
  clear hcu1 hg1 hb0
  go_wp2_with fail
  refine (l01Once_any c v l 2 (by omega) (by omega) w0 _ HV.out HO.out h0 HL1.out HC1.out).mono ?_
  rintro e w2 ⟨⟨y, rfl⟩, hcu2, hg2⟩
  have HG2 := Lib.hid (only_trans HG1.out hg2)
  have HG2a := Lib.hid (only_trans HG1a.out hg2)
  have HC2 := Lib.hid hcu2
  have HL2 := Lib.hid (HL.out.trans ((only_below (Nat.le_of_lt hcw) HG2.out).mono h0))
  clear hcu2 hg2
  go_wp2_with fail
  refine (l01Below_any c v l 4 (by omega) (by omega) w0 _ HV.out HO.out h0 HL2.out HC2.out).mono ?_
  rintro e w3 ⟨⟨z, rfl, z0, z1⟩, hcu3, hg3⟩
  have HG3 := Lib.hid (only_trans HG2.out hg3)
  have HG3a := Lib.hid (only_trans HG2a.out hg3)
  have HC3 := Lib.hid hcu3
  have HL3 := Lib.hid (HL.out.trans ((only_below (Nat.le_of_lt hcw) HG3.out).mono h0))
  clear hcu3 hg3
  go_wp2_with fail
  refine (l01Below_any c v l 3 (by omega) (by omega) w0 _ HV.out HO.out h0 HL3.out HC3.out).mono ?_
  rintro e w4 ⟨⟨t, rfl, t0, t1⟩, hcu4, hg4⟩
  have HG4 := Lib.hid (only_trans HG3.out hg4)
  have hg4a := only_trans HG3a.out hg4
  have HC4 := Lib.hid hcu4
  have hz4 := hg4a.size
  simp only [World.size_alloc] at hz4
  have hk4 : ∀ j, w4.cell? ⟨w.heap.size, j, none⟩ = #[Value.int .i64 0, .bool false, .int .i64 0, .int .i64 0][j]? := fun j => (only_cell hg4a (by simp) (by omega)).trans (hk0 j)
  have hf4 : ∀ j, w4.frozen? ⟨w.heap.size, j, none⟩ = false := fun j => (only_frozen hg4a (by simp) (by omega)).trans (hf0 j)
  have hcc : c < w4.heap.size := by omega
  clear hcu4 hg4 hg4a hk0 hf0
  go_wp2_with fail
  refine bodyPost_ret (v := .agg #[.int .i64 (1 + x), .bool y, .int .i64 z, .int .i64 (100 * t)]) (by simp [results, Try.results113, go_sem, *]) rfl ⟨⟨⟨1 + x, y, z, 100 * t⟩, rfl, ⟨by show 1 ≤ 1 + x; omega, by show 1 + x ≤ 6; omega⟩, ⟨z0, by show z ≤ 3; omega⟩, ⟨by show 0 ≤ 100 * t; omega, by show 100 * t ≤ 200; omega⟩⟩, ?_, ?_⟩
  · exact HC4.out.keepB (B := w.heap.size) hcw (by simp) (by (repeat' first | (with_reducible exact Below.refl _ _) | (with_reducible refine Below.alloc ?_ ?_ _) | (with_reducible refine Below.drew ?_) | (with_reducible refine Below.setCell ?_ ?_ _) | (with_reducible refine below_via (by assumption) ?_ ?_) | go_size))
  · exact only_viaB (B := w.heap.size) (by (repeat' first | (with_reducible exact Below.refl _ _) | (with_reducible refine Below.alloc ?_ ?_ _) | (with_reducible refine Below.drew ?_) | (with_reducible refine Below.setCell ?_ ?_ _) | (with_reducible refine below_via (by assumption) ?_ ?_) | go_size)) (Nat.le_refl _) HG4.out
end Go.Proofs.Ytfpofhkggojaoaa
