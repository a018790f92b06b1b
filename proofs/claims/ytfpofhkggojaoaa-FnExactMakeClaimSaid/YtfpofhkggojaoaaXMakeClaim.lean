/- The program's MakeClaim returns what the reference's returns, for all arguments. No condition. -/
import Derived.Test.YtfpofhkggojaoaaClaimK
import Derived.Test.YtfpofhkggojaoaaEqs
import Derived.Test.YtfpofhkggojaoaaOpen
set_option linter.unusedVariables false
set_option linter.unusedSimpArgs false
namespace Go.Proofs.Ytfpofhkggojaoaa.fnExactMakeClaim
open Go.ChangeShapes Go.WideShapes Go.ChangeAt Go.RowKit Peg Go.Sort
theorem way_le (a b o s g : Int) : (wayTo a b o s g).length ≤ 49 := by
  cases hr : reach a b o s g false
  · simp [wayTo, hr]
  · obtain ⟨h1, h2, h3⟩ := reach_parts hr
    have h4 := wayRun_plays h1 h3 (pegs s) s h2 hr (Nat.le_refl _)
    have h5 := pegs_le s
    rw [wayTo, if_pos hr]
    omega
theorem wts_le (a b o : Int) (i : Nat) : (wtsAt a b o i).length ≤ 49 := by
  have key : ∀ (f : Nat → Int), boardOk a b o = true → (mapTo f (a * b).toNat).length ≤ 49 := fun f h => by
    have := area (boardOk_sides h).1 (boardOk_sides h).2
    rw [mapTo_len]; omega
  unfold wtsAt classW colW rowW
  split
  · split
    · rename_i h; rw [Bool.and_eq_true] at h; exact key _ h.1
    · simp
  · split
    · split
      · rename_i h; rw [Bool.and_eq_true] at h; exact key _ h.1
      · simp
    · split
      · rename_i h; rw [Bool.and_eq_true] at h; exact key _ h.1
      · simp
theorem findW_le (a b o p g : Int) : (findW a b o p g).length ≤ 49 := by
  unfold findW
  split
  · exact wts_le a b o _
  · simp
set_option maxHeartbeats 4000000 in
set_option maxRecDepth 100000 in
theorem law_L (a b o s g k : Int) (r : Bool) (L : List Ln) (hL : L.length ≤ 49)
    (HA : Hid (∀ W, Calls Try.prog 15 #[.agg #[.int .i64 a, .int .i64 b, .int .i64 o, .int .i64 s, .int .i64 g]] W fun e w' => (∃ v, e = .returned (.tuple #[.agg #[.int .i64 k, .int .i64 0, v, .slice none 0 0], .bool r]) ∧ Own ELine w' W.heap.size v L ∧ Below W.heap.size W w')))
    (HB : Hid (∀ W, Calls Try.prog 14 #[.agg #[.int .i64 a, .int .i64 b, .int .i64 o, .int .i64 s, .int .i64 g]] W fun e w' => (∃ v, e = .returned (.tuple #[.agg #[.int .i64 k, .int .i64 0, v, .slice none 0 0], .bool r]) ∧ Own ELine w' W.heap.size v L ∧ Below W.heap.size W w'))) (w : World) :
    Calls Try.prog 4 #[.agg #[.int .i64 a, .int .i64 b, .int .i64 o, .int .i64 s, .int .i64 g]] w fun e w' => e = .returned (.bool true) ∧ Below w.heap.size w w' := by
  go_enter Try.func4, Try.ntmps4
  go_wp2_with fail
  refine (toPuzzle_any _ _ _ _ _ _).mono ?_
  rintro e w1 ⟨rfl, hb⟩
  have hz1 := hb.size
  simp only [World.size_alloc] at hz1
  have hX1 : ∀ j, w1.cell? ⟨w.heap.size, j, none⟩ = #[Value.int .i64 a, .int .i64 b, .int .i64 o, .int .i64 s, .int .i64 g][j]? := fun j => (hb.cell (by simp)).trans (by simp)
  have HB1 := Lib.hid (show Below w.heap.size w w1 by (repeat' first | (with_reducible exact Below.refl _ _) | (with_reducible refine Below.alloc ?_ ?_ _) | (with_reducible refine Below.drew ?_) | (with_reducible refine Below.setCell ?_ ?_ _) | (with_reducible refine below_via (by assumption) ?_ ?_) | go_size))
  clear hb
  go_wp2_with fail
  refine (HB.out _).mono ?_
  rintro e w2 ⟨v1, rfl, own1, hb2⟩
  have hz2 := hb2.size
  obtain ⟨a1, c1, rfl, -⟩ := own1.form
  obtain ⟨w3, hw3⟩ : ∃ w3 : World, w3 = w2.alloc (.cells #[Value.int .i64 k, .int .i64 0, .slice a1 L.length c1, .slice none 0 0] 35) := ⟨_, rfl⟩
  have hb3 : Below w2.heap.size w2 w3 := by rw [hw3]; exact (Below.refl _ _).alloc (Nat.le_refl _) _
  have hz3 : w2.heap.size < w3.heap.size := by rw [hw3]; simp
  have hX3 : ∀ j, w3.cell? ⟨w.heap.size, j, none⟩ = #[Value.int .i64 a, .int .i64 b, .int .i64 o, .int .i64 s, .int .i64 g][j]? := fun j => (hb3.cell (show w.heap.size < w2.heap.size by omega)).trans ((hb2.cell (show w.heap.size < w1.heap.size by omega)).trans (hX1 j))
  have hC3 : ∀ j, w3.cell? ⟨w2.heap.size, j, none⟩ = #[Value.int .i64 k, .int .i64 0, .slice a1 L.length c1, .slice none 0 0][j]? := fun j => by rw [hw3]; simp
  have O1 := Lib.hid (own1.keep hb3)
  have HB3 := Lib.hid ((HB1.out.trans (hb2.mono HB1.out.size)).trans (hb3.mono (by omega)))
  clear hb2 hb3 own1 hX1 HB1
  go_upto_region 2 with fail
  rw [← hw3]
  clear hw3
  go_wp2_with fail
  refine (toPuzzle_any _ _ _ _ _ _).mono ?_
  rintro e w4 ⟨rfl, hb4⟩
  have hz4 := hb4.size
  have hC4 : ∀ j, w4.cell? ⟨w2.heap.size, j, none⟩ = #[Value.int .i64 k, .int .i64 0, .slice a1 L.length c1, .slice none 0 0][j]? := fun j => (hb4.cell hz3).trans (hC3 j)
  have hX4 : ∀ j, w4.cell? ⟨w.heap.size, j, none⟩ = #[Value.int .i64 a, .int .i64 b, .int .i64 o, .int .i64 s, .int .i64 g][j]? := fun j => (hb4.cell (show w.heap.size < w3.heap.size by omega)).trans (hX3 j)
  have O1b := Lib.hid (O1.out.keep hb4)
  have HB4 := Lib.hid (HB3.out.trans (hb4.mono HB3.out.size))
  clear hb4 hC3 hX3 HB3
  go_wp2_with fail
  refine (HA.out _).mono ?_
  rintro e w5 ⟨v2, rfl, own2, hb5⟩
  have hz5 := hb5.size
  obtain ⟨a2, c2, rfl, -⟩ := own2.form
  have HROW := Lib.hid own2.blockGe
  have hC5 : ∀ j, w5.cell? ⟨w2.heap.size, j, none⟩ = #[Value.int .i64 k, .int .i64 0, .slice a1 L.length c1, .slice none 0 0][j]? := fun j => (hb5.cell (show w2.heap.size < w4.heap.size by omega)).trans (hC4 j)
  have hX5 : ∀ j, w5.cell? ⟨w.heap.size, j, none⟩ = #[Value.int .i64 a, .int .i64 b, .int .i64 o, .int .i64 s, .int .i64 g][j]? := fun j => (hb5.cell (show w.heap.size < w4.heap.size by omega)).trans (hX4 j)
  obtain ⟨w6, hw6⟩ : ∃ w6 : World, w6 = w5.alloc (.cells #[Value.int .i64 k, .int .i64 0, .slice a2 L.length c2, .slice none 0 0] 35) := ⟨_, rfl⟩
  have hb6 : Below w5.heap.size w5 w6 := by rw [hw6]; exact (Below.refl _ _).alloc (Nat.le_refl _) _
  have hz6 : w5.heap.size < w6.heap.size := by rw [hw6]; simp
  have hC6 : ∀ j, w6.cell? ⟨w2.heap.size, j, none⟩ = #[Value.int .i64 k, .int .i64 0, .slice a1 L.length c1, .slice none 0 0][j]? := fun j => (hb6.cell (show w2.heap.size < w5.heap.size by omega)).trans (hC5 j)
  have hX6 : ∀ j, w6.cell? ⟨w.heap.size, j, none⟩ = #[Value.int .i64 a, .int .i64 b, .int .i64 o, .int .i64 s, .int .i64 g][j]? := fun j => (hb6.cell (show w.heap.size < w5.heap.size by omega)).trans (hX5 j)
  have hD6 : ∀ j, w6.cell? ⟨w5.heap.size, j, none⟩ = #[Value.int .i64 k, .int .i64 0, .slice a2 L.length c2, .slice none 0 0][j]? := fun j => by rw [hw6]; simp
  have O1c := Lib.hid ((O1b.out.keep hb5).keep hb6)
  have O2 := Lib.hid (own2.keep hb6)
  have HB6 := Lib.hid ((HB4.out.trans (hb5.mono HB4.out.size)).trans (hb6.mono (by omega)))
  clear hb5 hb6 own2 hC4 hX4 hC5 hX5 HB4 O1b
  go_upto_region 3 with fail
  rw [← hw6]
  clear hw6
  go_wp2_with fail
  refine (eqClaim_same _ _ L [] _ _ _ _ _ O2.out O1c.out (Own.nil EInt _ 0) (Own.nil EInt _ 0)).mono ?_
  rintro e w7 ⟨rfl, hb7⟩
  have hz7 := hb7.size
  have hC7 : ∀ j, w7.cell? ⟨w2.heap.size, j, none⟩ = #[Value.int .i64 k, .int .i64 0, .slice a1 L.length c1, .slice none 0 0][j]? := fun j => (hb7.cell (show w2.heap.size < w6.heap.size by omega)).trans (hC6 j)
  have hX7 : ∀ j, w7.cell? ⟨w.heap.size, j, none⟩ = #[Value.int .i64 a, .int .i64 b, .int .i64 o, .int .i64 s, .int .i64 g][j]? := fun j => (hb7.cell (show w.heap.size < w6.heap.size by omega)).trans (hX6 j)
  have hD7 : ∀ j, w7.cell? ⟨w5.heap.size, j, none⟩ = #[Value.int .i64 k, .int .i64 0, .slice a2 L.length c2, .slice none 0 0][j]? := fun j => (hb7.cell hz6).trans (hD6 j)
  have O1d := Lib.hid (O1c.out.keep hb7)
  have O2d := Lib.hid (O2.out.keep hb7)
  have HB7 := Lib.hid (HB6.out.trans (hb7.mono HB6.out.size))
  clear hb7 hC6 hX6 hD6 HB6 O1c O2
  go_wp2_with fail
  refine (markClaim_L _ _ L _ 1 (by omega) (by omega) (by omega) _ O2d.out).mono ?_
  rintro e w8 ⟨rfl, own8, hg8⟩
  have hz8 := hg8.size
  have hC8 : ∀ j, w8.cell? ⟨w2.heap.size, j, none⟩ = #[Value.int .i64 k, .int .i64 0, .slice a1 L.length c1, .slice none 0 0][j]? := fun j => (hg8.cell_far ⟨w2.heap.size, j, none⟩ (show w2.heap.size < w7.heap.size by omega) (fun e => by have h := (HROW.out _ e.symm).1; have h2 : w4.heap.size ≤ w2.heap.size := h; omega)).trans (hC7 j)
  have hX8 : ∀ j, w8.cell? ⟨w.heap.size, j, none⟩ = #[Value.int .i64 a, .int .i64 b, .int .i64 o, .int .i64 s, .int .i64 g][j]? := fun j => (hg8.cell_far ⟨w.heap.size, j, none⟩ (show w.heap.size < w7.heap.size by omega) (fun e => by have h := (HROW.out _ e.symm).1; have h2 : w4.heap.size ≤ w.heap.size := h; omega)).trans (hX7 j)
  have hD8 : ∀ j, w8.cell? ⟨w5.heap.size, j, none⟩ = #[Value.int .i64 k, .int .i64 0, .slice a2 L.length c2, .slice none 0 0][j]? := fun j => (hg8.cell_far ⟨w5.heap.size, j, none⟩ (show w5.heap.size < w7.heap.size by omega) (fun e => by have h := (HROW.out _ e.symm).2; have h2 : w5.heap.size < w5.heap.size := h; omega)).trans (hD7 j)
  have O1e := Lib.hid (O1d.out.apart O1.out O2d.out hz4 hg8)
  have O2e := Lib.hid own8
  have HB8 := Lib.hid (HB7.out.trans (O2d.out.apartBelow (B := w.heap.size) (by omega) (by omega) hg8))
  clear hg8 own8 hC7 hX7 hD7 HB7 O1d O2d HROW
  go_wp2_with fail
  refine (heldClaim_L _ _ L.length _ 1 (by omega) (by omega) (by omega) _ O2e.out).mono ?_
  rintro e w9 ⟨rfl, hb9⟩
  have hz9 := hb9.size
  have hC9 : ∀ j, w9.cell? ⟨w2.heap.size, j, none⟩ = #[Value.int .i64 k, .int .i64 0, .slice a1 L.length c1, .slice none 0 0][j]? := fun j => (hb9.cell (show w2.heap.size < w8.heap.size by omega)).trans (hC8 j)
  have hX9 : ∀ j, w9.cell? ⟨w.heap.size, j, none⟩ = #[Value.int .i64 a, .int .i64 b, .int .i64 o, .int .i64 s, .int .i64 g][j]? := fun j => (hb9.cell (show w.heap.size < w8.heap.size by omega)).trans (hX8 j)
  have hD9 : ∀ j, w9.cell? ⟨w5.heap.size, j, none⟩ = #[Value.int .i64 k, .int .i64 0, .slice a2 L.length c2, .slice none 0 0][j]? := fun j => (hb9.cell (show w5.heap.size < w8.heap.size by omega)).trans (hD8 j)
  have O1f := Lib.hid (O1e.out.keep hb9)
  have O2f := Lib.hid (O2e.out.keep hb9)
  have HB9 := Lib.hid (HB8.out.trans (hb9.mono HB8.out.size))
  clear hb9 hC8 hX8 hD8 HB8 O1e O2e
  go_wp2_with fail
  refine (toPuzzle_any _ _ _ _ _ _).mono ?_
  rintro e w10 ⟨rfl, hb10⟩
  have hz10 := hb10.size
  have hC10 : ∀ j, w10.cell? ⟨w2.heap.size, j, none⟩ = #[Value.int .i64 k, .int .i64 0, .slice a1 L.length c1, .slice none 0 0][j]? := fun j => (hb10.cell (show w2.heap.size < w9.heap.size by omega)).trans (hC9 j)
  have hD10 : ∀ j, w10.cell? ⟨w5.heap.size, j, none⟩ = #[Value.int .i64 k, .int .i64 0, .slice a2 L.length c2, .slice none 0 0][j]? := fun j => (hb10.cell (show w5.heap.size < w9.heap.size by omega)).trans (hD9 j)
  have O1g := Lib.hid (O1f.out.keep hb10)
  have O2g := Lib.hid (O2f.out.keep hb10)
  have HB10 := Lib.hid (HB9.out.trans (hb10.mono HB9.out.size))
  clear hb10 hC9 hX9 hD9 HB9 O1f O2f
  go_wp2_with fail
  refine (HA.out _).mono ?_
  rintro e w11 ⟨v3, rfl, own3, hb11⟩
  have hz11 := hb11.size
  obtain ⟨a3, c3, rfl, -⟩ := own3.form
  have hC11 : ∀ j, w11.cell? ⟨w2.heap.size, j, none⟩ = #[Value.int .i64 k, .int .i64 0, .slice a1 L.length c1, .slice none 0 0][j]? := fun j => (hb11.cell (show w2.heap.size < w10.heap.size by omega)).trans (hC10 j)
  have hD11 : ∀ j, w11.cell? ⟨w5.heap.size, j, none⟩ = #[Value.int .i64 k, .int .i64 0, .slice a2 L.length c2, .slice none 0 0][j]? := fun j => (hb11.cell (show w5.heap.size < w10.heap.size by omega)).trans (hD10 j)
  obtain ⟨w12, hw12⟩ : ∃ w12 : World, w12 = w11.alloc (.cells #[Value.int .i64 k, .int .i64 0, .slice a3 L.length c3, .slice none 0 0] 35) := ⟨_, rfl⟩
  have hb12 : Below w11.heap.size w11 w12 := by rw [hw12]; exact (Below.refl _ _).alloc (Nat.le_refl _) _
  have hz12 : w11.heap.size < w12.heap.size := by rw [hw12]; simp
  have hC12 : ∀ j, w12.cell? ⟨w2.heap.size, j, none⟩ = #[Value.int .i64 k, .int .i64 0, .slice a1 L.length c1, .slice none 0 0][j]? := fun j => (hb12.cell (show w2.heap.size < w11.heap.size by omega)).trans (hC11 j)
  have hD12 : ∀ j, w12.cell? ⟨w5.heap.size, j, none⟩ = #[Value.int .i64 k, .int .i64 0, .slice a2 L.length c2, .slice none 0 0][j]? := fun j => (hb12.cell (show w5.heap.size < w11.heap.size by omega)).trans (hD11 j)
  have hG12 : ∀ j, w12.cell? ⟨w11.heap.size, j, none⟩ = #[Value.int .i64 k, .int .i64 0, .slice a3 L.length c3, .slice none 0 0][j]? := fun j => by rw [hw12]; simp
  have O1h := Lib.hid ((O1g.out.keep hb11).keep hb12)
  have O2h := Lib.hid ((O2g.out.keep hb11).keep hb12)
  have O3 := Lib.hid (own3.keep hb12)
  have HB12 := Lib.hid ((HB10.out.trans (hb11.mono HB10.out.size)).trans (hb12.mono (by omega)))
  clear hb11 hb12 own3 hC10 hD10 hC11 hD11 HB10 O1g O2g
  go_upto_region 14 with fail
  rw [← hw12]
  clear hw12
  go_wp2_with fail
  refine (eqClaim_same _ _ L [] _ _ _ _ _ O3.out O1h.out (Own.nil EInt _ 0) (Own.nil EInt _ 0)).mono ?_
  rintro e w13 ⟨rfl, hb13⟩
  have hz13 := hb13.size
  have hD13 : ∀ j, w13.cell? ⟨w5.heap.size, j, none⟩ = #[Value.int .i64 k, .int .i64 0, .slice a2 L.length c2, .slice none 0 0][j]? := fun j => (hb13.cell (show w5.heap.size < w12.heap.size by omega)).trans (hD12 j)
  have O2i := Lib.hid (O2h.out.keep hb13)
  have HB13 := Lib.hid (HB12.out.trans (hb13.mono HB12.out.size))
  clear hb13 hC12 hD12 hG12 HB12 O1h O2h O3
  go_wp2_with fail
  refine (heldClaim_L _ _ L.length _ 1 (by omega) (by omega) (by omega) _ O2i.out).mono ?_
  rintro e w14 ⟨rfl, hb14⟩
  have HB14 := Lib.hid (HB13.out.trans (hb14.mono HB13.out.size))
  clear hb14
  go_wp2_with fail
  go_ret
  exact ⟨by simp, HB14.out⟩
set_option maxHeartbeats 4000000 in
set_option maxRecDepth 100000 in
theorem law_I (a b o s g k : Int) (r : Bool) (L : List Int) (hL : L.length ≤ 49)
    (HA : Hid (∀ W, Calls Try.prog 15 #[.agg #[.int .i64 a, .int .i64 b, .int .i64 o, .int .i64 s, .int .i64 g]] W fun e w' => (∃ v, e = .returned (.tuple #[.agg #[.int .i64 k, .int .i64 0, .slice none 0 0, v], .bool r]) ∧ Own EInt w' W.heap.size v L ∧ Below W.heap.size W w')))
    (HB : Hid (∀ W, Calls Try.prog 14 #[.agg #[.int .i64 a, .int .i64 b, .int .i64 o, .int .i64 s, .int .i64 g]] W fun e w' => (∃ v, e = .returned (.tuple #[.agg #[.int .i64 k, .int .i64 0, .slice none 0 0, v], .bool r]) ∧ Own EInt w' W.heap.size v L ∧ Below W.heap.size W w'))) (w : World) :
    Calls Try.prog 4 #[.agg #[.int .i64 a, .int .i64 b, .int .i64 o, .int .i64 s, .int .i64 g]] w fun e w' => e = .returned (.bool true) ∧ Below w.heap.size w w' := by
  go_enter Try.func4, Try.ntmps4
  go_wp2_with fail
  refine (toPuzzle_any _ _ _ _ _ _).mono ?_
  rintro e w1 ⟨rfl, hb⟩
  have hz1 := hb.size
  simp only [World.size_alloc] at hz1
  have hX1 : ∀ j, w1.cell? ⟨w.heap.size, j, none⟩ = #[Value.int .i64 a, .int .i64 b, .int .i64 o, .int .i64 s, .int .i64 g][j]? := fun j => (hb.cell (by simp)).trans (by simp)
  have HB1 := Lib.hid (show Below w.heap.size w w1 by (repeat' first | (with_reducible exact Below.refl _ _) | (with_reducible refine Below.alloc ?_ ?_ _) | (with_reducible refine Below.drew ?_) | (with_reducible refine Below.setCell ?_ ?_ _) | (with_reducible refine below_via (by assumption) ?_ ?_) | go_size))
  clear hb
  go_wp2_with fail
  refine (HB.out _).mono ?_
  rintro e w2 ⟨v1, rfl, own1, hb2⟩
  have hz2 := hb2.size
  obtain ⟨a1, c1, rfl, -⟩ := own1.form
  obtain ⟨w3, hw3⟩ : ∃ w3 : World, w3 = w2.alloc (.cells #[Value.int .i64 k, .int .i64 0, .slice none 0 0, .slice a1 L.length c1] 35) := ⟨_, rfl⟩
  have hb3 : Below w2.heap.size w2 w3 := by rw [hw3]; exact (Below.refl _ _).alloc (Nat.le_refl _) _
  have hz3 : w2.heap.size < w3.heap.size := by rw [hw3]; simp
  have hX3 : ∀ j, w3.cell? ⟨w.heap.size, j, none⟩ = #[Value.int .i64 a, .int .i64 b, .int .i64 o, .int .i64 s, .int .i64 g][j]? := fun j => (hb3.cell (show w.heap.size < w2.heap.size by omega)).trans ((hb2.cell (show w.heap.size < w1.heap.size by omega)).trans (hX1 j))
  have hC3 : ∀ j, w3.cell? ⟨w2.heap.size, j, none⟩ = #[Value.int .i64 k, .int .i64 0, .slice none 0 0, .slice a1 L.length c1][j]? := fun j => by rw [hw3]; simp
  have O1 := Lib.hid (own1.keep hb3)
  have HB3 := Lib.hid ((HB1.out.trans (hb2.mono HB1.out.size)).trans (hb3.mono (by omega)))
  clear hb2 hb3 own1 hX1 HB1
  go_upto_region 2 with fail
  rw [← hw3]
  clear hw3
  go_wp2_with fail
  refine (toPuzzle_any _ _ _ _ _ _).mono ?_
  rintro e w4 ⟨rfl, hb4⟩
  have hz4 := hb4.size
  have hC4 : ∀ j, w4.cell? ⟨w2.heap.size, j, none⟩ = #[Value.int .i64 k, .int .i64 0, .slice none 0 0, .slice a1 L.length c1][j]? := fun j => (hb4.cell hz3).trans (hC3 j)
  have hX4 : ∀ j, w4.cell? ⟨w.heap.size, j, none⟩ = #[Value.int .i64 a, .int .i64 b, .int .i64 o, .int .i64 s, .int .i64 g][j]? := fun j => (hb4.cell (show w.heap.size < w3.heap.size by omega)).trans (hX3 j)
  have O1b := Lib.hid (O1.out.keep hb4)
  have HB4 := Lib.hid (HB3.out.trans (hb4.mono HB3.out.size))
  clear hb4 hC3 hX3 HB3
  go_wp2_with fail
  refine (HA.out _).mono ?_
  rintro e w5 ⟨v2, rfl, own2, hb5⟩
  have hz5 := hb5.size
  obtain ⟨a2, c2, rfl, -⟩ := own2.form
  have HROW := Lib.hid own2.blockGe
  have hC5 : ∀ j, w5.cell? ⟨w2.heap.size, j, none⟩ = #[Value.int .i64 k, .int .i64 0, .slice none 0 0, .slice a1 L.length c1][j]? := fun j => (hb5.cell (show w2.heap.size < w4.heap.size by omega)).trans (hC4 j)
  have hX5 : ∀ j, w5.cell? ⟨w.heap.size, j, none⟩ = #[Value.int .i64 a, .int .i64 b, .int .i64 o, .int .i64 s, .int .i64 g][j]? := fun j => (hb5.cell (show w.heap.size < w4.heap.size by omega)).trans (hX4 j)
  obtain ⟨w6, hw6⟩ : ∃ w6 : World, w6 = w5.alloc (.cells #[Value.int .i64 k, .int .i64 0, .slice none 0 0, .slice a2 L.length c2] 35) := ⟨_, rfl⟩
  have hb6 : Below w5.heap.size w5 w6 := by rw [hw6]; exact (Below.refl _ _).alloc (Nat.le_refl _) _
  have hz6 : w5.heap.size < w6.heap.size := by rw [hw6]; simp
  have hC6 : ∀ j, w6.cell? ⟨w2.heap.size, j, none⟩ = #[Value.int .i64 k, .int .i64 0, .slice none 0 0, .slice a1 L.length c1][j]? := fun j => (hb6.cell (show w2.heap.size < w5.heap.size by omega)).trans (hC5 j)
  have hX6 : ∀ j, w6.cell? ⟨w.heap.size, j, none⟩ = #[Value.int .i64 a, .int .i64 b, .int .i64 o, .int .i64 s, .int .i64 g][j]? := fun j => (hb6.cell (show w.heap.size < w5.heap.size by omega)).trans (hX5 j)
  have hD6 : ∀ j, w6.cell? ⟨w5.heap.size, j, none⟩ = #[Value.int .i64 k, .int .i64 0, .slice none 0 0, .slice a2 L.length c2][j]? := fun j => by rw [hw6]; simp
  have O1c := Lib.hid ((O1b.out.keep hb5).keep hb6)
  have O2 := Lib.hid (own2.keep hb6)
  have HB6 := Lib.hid ((HB4.out.trans (hb5.mono HB4.out.size)).trans (hb6.mono (by omega)))
  clear hb5 hb6 own2 hC4 hX4 hC5 hX5 HB4 O1b
  go_upto_region 3 with fail
  rw [← hw6]
  clear hw6
  go_wp2_with fail
  refine (eqClaim_same _ _ [] L _ _ _ _ _ (Own.nil ELine _ 0) (Own.nil ELine _ 0) O2.out O1c.out).mono ?_
  rintro e w7 ⟨rfl, hb7⟩
  have hz7 := hb7.size
  have hC7 : ∀ j, w7.cell? ⟨w2.heap.size, j, none⟩ = #[Value.int .i64 k, .int .i64 0, .slice none 0 0, .slice a1 L.length c1][j]? := fun j => (hb7.cell (show w2.heap.size < w6.heap.size by omega)).trans (hC6 j)
  have hX7 : ∀ j, w7.cell? ⟨w.heap.size, j, none⟩ = #[Value.int .i64 a, .int .i64 b, .int .i64 o, .int .i64 s, .int .i64 g][j]? := fun j => (hb7.cell (show w.heap.size < w6.heap.size by omega)).trans (hX6 j)
  have hD7 : ∀ j, w7.cell? ⟨w5.heap.size, j, none⟩ = #[Value.int .i64 k, .int .i64 0, .slice none 0 0, .slice a2 L.length c2][j]? := fun j => (hb7.cell hz6).trans (hD6 j)
  have O1d := Lib.hid (O1c.out.keep hb7)
  have O2d := Lib.hid (O2.out.keep hb7)
  have HB7 := Lib.hid (HB6.out.trans (hb7.mono HB6.out.size))
  clear hb7 hC6 hX6 hD6 HB6 O1c O2
  go_wp2_with fail
  refine (markClaim_I _ _ L _ 1 (by omega) (by omega) (by omega) _ O2d.out).mono ?_
  rintro e w8 ⟨rfl, own8, hg8⟩
  have hz8 := hg8.size
  have hC8 : ∀ j, w8.cell? ⟨w2.heap.size, j, none⟩ = #[Value.int .i64 k, .int .i64 0, .slice none 0 0, .slice a1 L.length c1][j]? := fun j => (hg8.cell_far ⟨w2.heap.size, j, none⟩ (show w2.heap.size < w7.heap.size by omega) (fun e => by have h := (HROW.out _ e.symm).1; have h2 : w4.heap.size ≤ w2.heap.size := h; omega)).trans (hC7 j)
  have hX8 : ∀ j, w8.cell? ⟨w.heap.size, j, none⟩ = #[Value.int .i64 a, .int .i64 b, .int .i64 o, .int .i64 s, .int .i64 g][j]? := fun j => (hg8.cell_far ⟨w.heap.size, j, none⟩ (show w.heap.size < w7.heap.size by omega) (fun e => by have h := (HROW.out _ e.symm).1; have h2 : w4.heap.size ≤ w.heap.size := h; omega)).trans (hX7 j)
  have hD8 : ∀ j, w8.cell? ⟨w5.heap.size, j, none⟩ = #[Value.int .i64 k, .int .i64 0, .slice none 0 0, .slice a2 L.length c2][j]? := fun j => (hg8.cell_far ⟨w5.heap.size, j, none⟩ (show w5.heap.size < w7.heap.size by omega) (fun e => by have h := (HROW.out _ e.symm).2; have h2 : w5.heap.size < w5.heap.size := h; omega)).trans (hD7 j)
  have O1e := Lib.hid (O1d.out.apart O1.out O2d.out hz4 hg8)
  have O2e := Lib.hid own8
  have HB8 := Lib.hid (HB7.out.trans (O2d.out.apartBelow (B := w.heap.size) (by omega) (by omega) hg8))
  clear hg8 own8 hC7 hX7 hD7 HB7 O1d O2d HROW
  go_wp2_with fail
  refine (heldClaim_I _ _ L.length _ 1 (by omega) (by omega) (by omega) _ O2e.out).mono ?_
  rintro e w9 ⟨rfl, hb9⟩
  have hz9 := hb9.size
  have hC9 : ∀ j, w9.cell? ⟨w2.heap.size, j, none⟩ = #[Value.int .i64 k, .int .i64 0, .slice none 0 0, .slice a1 L.length c1][j]? := fun j => (hb9.cell (show w2.heap.size < w8.heap.size by omega)).trans (hC8 j)
  have hX9 : ∀ j, w9.cell? ⟨w.heap.size, j, none⟩ = #[Value.int .i64 a, .int .i64 b, .int .i64 o, .int .i64 s, .int .i64 g][j]? := fun j => (hb9.cell (show w.heap.size < w8.heap.size by omega)).trans (hX8 j)
  have hD9 : ∀ j, w9.cell? ⟨w5.heap.size, j, none⟩ = #[Value.int .i64 k, .int .i64 0, .slice none 0 0, .slice a2 L.length c2][j]? := fun j => (hb9.cell (show w5.heap.size < w8.heap.size by omega)).trans (hD8 j)
  have O1f := Lib.hid (O1e.out.keep hb9)
  have O2f := Lib.hid (O2e.out.keep hb9)
  have HB9 := Lib.hid (HB8.out.trans (hb9.mono HB8.out.size))
  clear hb9 hC8 hX8 hD8 HB8 O1e O2e
  go_wp2_with fail
  refine (toPuzzle_any _ _ _ _ _ _).mono ?_
  rintro e w10 ⟨rfl, hb10⟩
  have hz10 := hb10.size
  have hC10 : ∀ j, w10.cell? ⟨w2.heap.size, j, none⟩ = #[Value.int .i64 k, .int .i64 0, .slice none 0 0, .slice a1 L.length c1][j]? := fun j => (hb10.cell (show w2.heap.size < w9.heap.size by omega)).trans (hC9 j)
  have hD10 : ∀ j, w10.cell? ⟨w5.heap.size, j, none⟩ = #[Value.int .i64 k, .int .i64 0, .slice none 0 0, .slice a2 L.length c2][j]? := fun j => (hb10.cell (show w5.heap.size < w9.heap.size by omega)).trans (hD9 j)
  have O1g := Lib.hid (O1f.out.keep hb10)
  have O2g := Lib.hid (O2f.out.keep hb10)
  have HB10 := Lib.hid (HB9.out.trans (hb10.mono HB9.out.size))
  clear hb10 hC9 hX9 hD9 HB9 O1f O2f
  go_wp2_with fail
  refine (HA.out _).mono ?_
  rintro e w11 ⟨v3, rfl, own3, hb11⟩
  have hz11 := hb11.size
  obtain ⟨a3, c3, rfl, -⟩ := own3.form
  have hC11 : ∀ j, w11.cell? ⟨w2.heap.size, j, none⟩ = #[Value.int .i64 k, .int .i64 0, .slice none 0 0, .slice a1 L.length c1][j]? := fun j => (hb11.cell (show w2.heap.size < w10.heap.size by omega)).trans (hC10 j)
  have hD11 : ∀ j, w11.cell? ⟨w5.heap.size, j, none⟩ = #[Value.int .i64 k, .int .i64 0, .slice none 0 0, .slice a2 L.length c2][j]? := fun j => (hb11.cell (show w5.heap.size < w10.heap.size by omega)).trans (hD10 j)
  obtain ⟨w12, hw12⟩ : ∃ w12 : World, w12 = w11.alloc (.cells #[Value.int .i64 k, .int .i64 0, .slice none 0 0, .slice a3 L.length c3] 35) := ⟨_, rfl⟩
  have hb12 : Below w11.heap.size w11 w12 := by rw [hw12]; exact (Below.refl _ _).alloc (Nat.le_refl _) _
  have hz12 : w11.heap.size < w12.heap.size := by rw [hw12]; simp
  have hC12 : ∀ j, w12.cell? ⟨w2.heap.size, j, none⟩ = #[Value.int .i64 k, .int .i64 0, .slice none 0 0, .slice a1 L.length c1][j]? := fun j => (hb12.cell (show w2.heap.size < w11.heap.size by omega)).trans (hC11 j)
  have hD12 : ∀ j, w12.cell? ⟨w5.heap.size, j, none⟩ = #[Value.int .i64 k, .int .i64 0, .slice none 0 0, .slice a2 L.length c2][j]? := fun j => (hb12.cell (show w5.heap.size < w11.heap.size by omega)).trans (hD11 j)
  have hG12 : ∀ j, w12.cell? ⟨w11.heap.size, j, none⟩ = #[Value.int .i64 k, .int .i64 0, .slice none 0 0, .slice a3 L.length c3][j]? := fun j => by rw [hw12]; simp
  have O1h := Lib.hid ((O1g.out.keep hb11).keep hb12)
  have O2h := Lib.hid ((O2g.out.keep hb11).keep hb12)
  have O3 := Lib.hid (own3.keep hb12)
  have HB12 := Lib.hid ((HB10.out.trans (hb11.mono HB10.out.size)).trans (hb12.mono (by omega)))
  clear hb11 hb12 own3 hC10 hD10 hC11 hD11 HB10 O1g O2g
  go_upto_region 14 with fail
  rw [← hw12]
  clear hw12
  go_wp2_with fail
  refine (eqClaim_same _ _ [] L _ _ _ _ _ (Own.nil ELine _ 0) (Own.nil ELine _ 0) O3.out O1h.out).mono ?_
  rintro e w13 ⟨rfl, hb13⟩
  have hz13 := hb13.size
  have hD13 : ∀ j, w13.cell? ⟨w5.heap.size, j, none⟩ = #[Value.int .i64 k, .int .i64 0, .slice none 0 0, .slice a2 L.length c2][j]? := fun j => (hb13.cell (show w5.heap.size < w12.heap.size by omega)).trans (hD12 j)
  have O2i := Lib.hid (O2h.out.keep hb13)
  have HB13 := Lib.hid (HB12.out.trans (hb13.mono HB12.out.size))
  clear hb13 hC12 hD12 hG12 HB12 O1h O2h O3
  go_wp2_with fail
  refine (heldClaim_I _ _ L.length _ 1 (by omega) (by omega) (by omega) _ O2i.out).mono ?_
  rintro e w14 ⟨rfl, hb14⟩
  have HB14 := Lib.hid (HB13.out.trans (hb14.mono HB13.out.size))
  clear hb14
  go_wp2_with fail
  go_ret
  exact ⟨by simp, HB14.out⟩
theorem law_any (a b o s g : Int) (wa : (Lit.int .i64 a).wf = true) (wb : (Lit.int .i64 b).wf = true) (wo : (Lit.int .i64 o).wf = true) (ws : (Lit.int .i64 s).wf = true) (wg : (Lit.int .i64 g).wf = true) (w : World) :
    Calls Try.prog 4 #[.agg #[.int .i64 a, .int .i64 b, .int .i64 o, .int .i64 s, .int .i64 g]] w fun e w' => e = .returned (.bool true) ∧ Below w.heap.size w w' := by
  have hs := i64_le ws
  have hg := i64_le wg
  clear wa wb wo ws wg
  cases hz : puzzleOk a b o s g
  · refine law_L a b o s g 0 false [] (by simp) (fun W => (MakeClaim_bad a b o s g hs hg hz W).mono ?_) (fun W => (sMakeClaim_bad a b o s g hs hg hz W).mono ?_) w
    all_goals
      rintro e w' ⟨rfl, hb⟩
      exact ⟨_, rfl, Own.nil _ _ _, hb⟩
  cases hr : reach a b o s g false
  · refine law_I a b o s g 2 (checkClaim a b o s g 2 0 [] (findW a b o s g)) (findW a b o s g) (findW_le a b o s g) (fun W => (MakeClaim_not a b o s g hs hg hz hr W).mono ?_) (fun W => (sMakeClaim_not a b o s g hs hg hz hr W).mono ?_) w
    all_goals exact fun e w' h => h
  · refine law_L a b o s g 1 (checkClaim a b o s g 1 0 (wayTo a b o s g) []) (wayTo a b o s g) (way_le a b o s g) (fun W => (MakeClaim_way a b o s g hs hg hz hr W).mono ?_) (fun W => (sMakeClaim_way a b o s g hs hg hz hr W).mono ?_) w
    all_goals exact fun e w' h => h

set_option maxRecDepth 100000 in
theorem law_walk : LawWalk 4 Try.f4.params.toList := by
  intro H enc W base args ds ps hval hA
  rw [Try.params4] at hA hval
  obtain ⟨v0, vs0, d0, ds0, p0, q0, hargs, rfl, rfl, h0, r0⟩ := trodAll_cons hA
  obtain ⟨rfl, rfl, rfl⟩ := trodAll_nil r0
  obtain rfl : args = #[v0] := by cases args; simp_all
  obtain ⟨x0a, x0b, x0c, x0d, x0e, rfl, w0a, w0b, w0c, w0d, w0e⟩ := arg_Puzzle (hval 0 _ _ rfl rfl) h0
  exact law_any x0a x0b x0c x0d x0e w0a w0b w0c w0d w0e W

set_option maxRecDepth 100000 in
theorem lifted (os : Os) (started : os.Started) (H : Type) (enc : TypeId × Value → H) :
    ReturnsInHanded {} Try.checked os 4 .any (Rows.fnExactMakeClaimSpec.pre6 enc Try.prog Try.f4 Rows.fnExactMakeClaimRow.domain false) (Rows.fnExactMakeClaimSpec.post enc Try.prog Try.f4 false true false false) :=
  law_lift started (by kernel_rfl) Try.func4
    (ChangeSpec.witness6 (enc := enc) (C := Try.checked) false ⟨#[], #[.agg #[.int .i64 0, .int .i64 0, .int .i64 0, .int .i64 0, .int .i64 0]], []⟩ 8 (by kernel_rfl) (by kernel_rfl) (by kernel_rfl) (by kernel_rfl))
    rfl rfl (readable_all (by kernel_rfl)) (by intro ds h; match ds, h with | [a0], _ => rfl) law_walk

theorem over : Rows.fnExactMakeClaimRow.holds Try.pinned (OpenSpec.ofChange Rows.fnExactMakeClaimSpec) :=
  OpenClaim.holds_of_wide 4 Try.f4 rfl rfl rfl rfl rfl rfl rfl ⟨rfl, rfl, rfl, rfl, rfl⟩ rfl rfl rfl rfl rfl (by kernel_rfl) Try.func4 (by kernel_rfl)
    (of_decide_eq_true (by kernel_rfl)) (by unfold Func.isWrapper; first | (rw [if_pos (by decide +kernel)]; kernel_rfl) | (rw [if_neg (by decide +kernel)]; exact ⟨rfl, rfl⟩))
    (fun os started H enc _ => lifted os started H enc)

theorem proved : Rows.FnExactMakeClaimSaid := over
#print axioms proved
end Go.Proofs.Ytfpofhkggojaoaa.fnExactMakeClaim
