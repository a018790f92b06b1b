/- ClaimKZ: contracts of MakeClaim, the program's and the reference's. Conditions: numbers in range. -/
import Derived.Test.YtfmplmlilmalpaaGreatClW
import Derived.Test.YtfmplmlilmalpaaGreatClV
import Derived.Test.YtfmplmlilmalpaaGreatCheckZ
import Derived.Deep.RegionWith
import Derived.Deep.Cut
set_option linter.unusedVariables false
set_option linter.unusedSimpArgs false
namespace Go.Proofs.YtfmplmlilmalpaaGreat
open Go.ChangeShapes Go.WideShapes Go.ChangeAt Go.RowKit Peg Go.Sort
def NoClaim (w : World) (e : Ending) (w' : World) : Prop := e = .returned (.tuple #[.agg #[.int .i64 0, .int .i64 0, .slice none 0 0, .slice none 0 0], .bool false]) ∧ Below w.heap.size w w'
def WayClaim (w : World) (r : Bool) (L : List Ln) (e : Ending) (w' : World) : Prop := ∃ vj, e = .returned (.tuple #[.agg #[.int .i64 1, .int .i64 0, vj, .slice none 0 0], .bool r]) ∧ Own ELine w' w.heap.size vj L ∧ Below w.heap.size w w'
def NotClaim (w : World) (r : Bool) (L : List Int) (e : Ending) (w' : World) : Prop := ∃ vw, e = .returned (.tuple #[.agg #[.int .i64 2, .int .i64 0, .slice none 0 0, vw], .bool r]) ∧ Own EInt w' w.heap.size vw L ∧ Below w.heap.size w w'
theorem box4_put0 (w : World) (g : Nat) (x0 x1 x2 x3 u : Value) (h : ∀ j, w.cell? ⟨g, j, none⟩ = #[x0, x1, x2, x3][j]?) (j : Nat) : (w.setCell ⟨g, 0, none⟩ u).cell? ⟨g, j, none⟩ = #[u, x1, x2, x3][j]? := by
  have k := h j
  have kn := h 0
  simp only [List.getElem?_toArray, List.getElem?_cons_succ, List.getElem?_cons_zero] at kn
  match j with
  | 0 | 1 | 2 | 3 => simp [go_sem, *] at k ⊢; try assumption
  | j + 4 => simp [go_sem] at k ⊢; exact k
theorem box4_put2 (w : World) (g : Nat) (x0 x1 x2 x3 u : Value) (h : ∀ j, w.cell? ⟨g, j, none⟩ = #[x0, x1, x2, x3][j]?) (j : Nat) : (w.setCell ⟨g, 2, none⟩ u).cell? ⟨g, j, none⟩ = #[x0, x1, u, x3][j]? := by
  have k := h j
  have kn := h 2
  simp only [List.getElem?_toArray, List.getElem?_cons_succ, List.getElem?_cons_zero] at kn
  match j with
  | 0 | 1 | 2 | 3 => simp [go_sem, *] at k ⊢; try assumption
  | j + 4 => simp [go_sem] at k ⊢; exact k
theorem box4_put3 (w : World) (g : Nat) (x0 x1 x2 x3 u : Value) (h : ∀ j, w.cell? ⟨g, j, none⟩ = #[x0, x1, x2, x3][j]?) (j : Nat) : (w.setCell ⟨g, 3, none⟩ u).cell? ⟨g, j, none⟩ = #[x0, x1, x2, u][j]? := by
  have k := h j
  have kn := h 3
  simp only [List.getElem?_toArray, List.getElem?_cons_succ, List.getElem?_cons_zero] at kn
  match j with
  | 0 | 1 | 2 | 3 => simp [go_sem, *] at k ⊢; try assumption
  | j + 4 => simp [go_sem] at k ⊢; exact k
set_option maxHeartbeats 2000000 in
set_option maxRecDepth 100000 in
theorem MakeClaim_bad (a b o s g : Int) (hs : s ≤ 9223372036854775807) (hg : g ≤ 9223372036854775807) (hz : puzzleOk a b o s g = false) (w : World) :
    Calls Tryz.prog 11 #[.agg #[.int .i64 a, .int .i64 b, .int .i64 o, .int .i64 s, .int .i64 g]] w (NoClaim w) := by
  have HPZ : Hid (∀ W, Calls Tryz.prog 17 #[.agg #[.int .i64 a, .int .i64 b, .int .i64 o, .int .i64 s, .int .i64 g]] W fun e w' => e = .returned (.bool (puzzleOk a b o s g)) ∧ Below W.heap.size W w') := fun W => PuzzleOk_any a b o s g hs hg W
  rw [hz] at HPZ
  clear hz
  go_enter Tryz.func11, Tryz.ntmps11
  go_wp2_with (go_at_call 17; refine (HPZ.out _).mono ?_; rintro e w' ⟨rfl, hb⟩; obtain ⟨hc, hf, hz, hy⟩ := bcell hb; clear hy; (try simp only [World.size_alloc, World.size_setCell, World.size_drew] at hz); (try have gQ0 : w.heap.size < w'.heap.size := by omega); (try have gQ1 : w.heap.size + 1 < w'.heap.size := by omega); (try have gQ2 : w.heap.size + 1 + 1 < w'.heap.size := by omega); (try have gQ3 : w.heap.size + 1 + 1 + 1 < w'.heap.size := by omega); (try have gQ4 : w.heap.size + 1 + 1 + 1 + 1 < w'.heap.size := by omega); (try have gQ5 : w.heap.size + 1 + 1 + 1 + 1 + 1 < w'.heap.size := by omega); (try have dQ0 : _ < w'.heap.size := Nat.lt_of_lt_of_le dQ0 (by omega)); (try have dQ1 : _ < w'.heap.size := Nat.lt_of_lt_of_le dQ1 (by omega)); (try have dQ2 : _ < w'.heap.size := Nat.lt_of_lt_of_le dQ2 (by omega)); (try have dQ3 : _ < w'.heap.size := Nat.lt_of_lt_of_le dQ3 (by omega)); (try have dQ4 : _ < w'.heap.size := Nat.lt_of_lt_of_le dQ4 (by omega)); (try have dQ5 : _ < w'.heap.size := Nat.lt_of_lt_of_le dQ5 (by omega)); (try (have hnQ := Nat.lt_of_succ_le hz; first | (have _x := dQ0; first | (have _x := dQ1; first | (have _x := dQ2; first | (have _x := dQ3; first | (have _x := dQ4; have dQ5 := hnQ) | have dQ4 := hnQ) | have dQ3 := hnQ) | have dQ2 := hnQ) | have dQ1 := hnQ) | have dQ0 := hnQ)); (try (have hmQ := Nat.lt_of_succ_lt (Nat.lt_of_succ_le hz); first | (have _x := dQ0; first | (have _x := dQ1; first | (have _x := dQ2; first | (have _x := dQ3; first | (have _x := dQ4; have dQ5 := hmQ) | have dQ4 := hmQ) | have dQ3 := hmQ) | have dQ2 := hmQ) | have dQ1 := hmQ) | have dQ0 := hmQ)); (try have sQ00 : (w'.cell? ⟨w.heap.size, 0, none⟩).isSome = true := by simp [go_sem, *]); (try have sQ01 : (w'.cell? ⟨w.heap.size, 1, none⟩).isSome = true := by simp [go_sem, *]); (try have sQ02 : (w'.cell? ⟨w.heap.size, 2, none⟩).isSome = true := by simp [go_sem, *]); (try have sQ03 : (w'.cell? ⟨w.heap.size, 3, none⟩).isSome = true := by simp [go_sem, *]); (try have sQ04 : (w'.cell? ⟨w.heap.size, 4, none⟩).isSome = true := by simp [go_sem, *]); (try have sQ10 : (w'.cell? ⟨w.heap.size + 1, 0, none⟩).isSome = true := by simp [go_sem, *]); (try have sQ11 : (w'.cell? ⟨w.heap.size + 1, 1, none⟩).isSome = true := by simp [go_sem, *]); (try have sQ12 : (w'.cell? ⟨w.heap.size + 1, 2, none⟩).isSome = true := by simp [go_sem, *]); (try have sQ13 : (w'.cell? ⟨w.heap.size + 1, 3, none⟩).isSome = true := by simp [go_sem, *]); (try have sQ14 : (w'.cell? ⟨w.heap.size + 1, 4, none⟩).isSome = true := by simp [go_sem, *]); (try have sQ20 : (w'.cell? ⟨w.heap.size + 1 + 1, 0, none⟩).isSome = true := by simp [go_sem, *]); (try have sQ21 : (w'.cell? ⟨w.heap.size + 1 + 1, 1, none⟩).isSome = true := by simp [go_sem, *]); (try have sQ22 : (w'.cell? ⟨w.heap.size + 1 + 1, 2, none⟩).isSome = true := by simp [go_sem, *]); (try have sQ23 : (w'.cell? ⟨w.heap.size + 1 + 1, 3, none⟩).isSome = true := by simp [go_sem, *]); (try have sQ24 : (w'.cell? ⟨w.heap.size + 1 + 1, 4, none⟩).isSome = true := by simp [go_sem, *]); (try have fQ0 : ∀ j, w'.frozen? ⟨w.heap.size, j, none⟩ = false := by intro j; simp [go_sem, *]); (try have fQ1 : ∀ j, w'.frozen? ⟨w.heap.size + 1, j, none⟩ = false := by intro j; simp [go_sem, *]); (try have fQ2 : ∀ j, w'.frozen? ⟨w.heap.size + 1 + 1, j, none⟩ = false := by intro j; simp [go_sem, *]))
  ((try simp only [Exit.inBlock, Exit.then]); refine bodyPost_ret (v := .tuple #[.agg #[.int .i64 0, .int .i64 0, .slice none 0 0, .slice none 0 0], .bool false]) (by simp [results, Tryz.results11, go_sem, *]) rfl ⟨rfl, by (repeat' first | (with_reducible exact Below.refl _ _) | (with_reducible refine Below.alloc ?_ ?_ _) | (with_reducible refine Below.drew ?_) | (with_reducible refine Below.setCell ?_ ?_ _) | (with_reducible refine below_via (by assumption) ?_ ?_) | go_size)⟩)
set_option maxHeartbeats 4000000 in
set_option maxRecDepth 100000 in
theorem MakeClaim_way (a b o s g : Int) (hs : s ≤ 9223372036854775807) (hg : g ≤ 9223372036854775807) (hz : puzzleOk a b o s g = true) (hr : reach a b o s g false = true) (w : World) :
    Calls Tryz.prog 11 #[.agg #[.int .i64 a, .int .i64 b, .int .i64 o, .int .i64 s, .int .i64 g]] w (WayClaim w (checkClaim a b o s g 1 0 (wayTo a b o s g) []) (wayTo a b o s g)) := by
  have HPZ : Hid (∀ W, Calls Tryz.prog 17 #[.agg #[.int .i64 a, .int .i64 b, .int .i64 o, .int .i64 s, .int .i64 g]] W fun e w' => e = .returned (.bool (puzzleOk a b o s g)) ∧ Below W.heap.size W w') := fun W => PuzzleOk_any a b o s g hs hg W
  rw [hz] at HPZ
  clear hz
  have HCA : Hid (∀ (W : World) (B : Nat) (vj : Value), Own ELine W B vj (wayTo a b o s g) → Calls Tryz.prog 6 #[.agg #[.int .i64 a, .int .i64 b, .int .i64 o, .int .i64 s, .int .i64 g], .agg #[.int .i64 1, .int .i64 0, vj, .slice none 0 0]] W fun e w' => e = .returned (.bool (checkClaim a b o s g 1 0 (wayTo a b o s g) [])) ∧ Below W.heap.size W w') := fun W B vj hj => CheckClaim_any a b o s g 1 0 (wayTo a b o s g) [] vj (.slice none 0 0) hs hg W hj (Own.nil EInt W 0)
  have HWAY := Lib.hid (fun W => WayTo_any a b o s g hs hg W)
  go_enter Tryz.func11, Tryz.ntmps11
  go_wp2_with fail
  refine (HPZ.out _).mono ?_
  rintro e w1 ⟨rfl, hb1⟩
  have hz1 := hb1.size
  simp only [World.size_alloc] at hz1
  have hX1 : ∀ j, w1.cell? ⟨w.heap.size, j, none⟩ = #[Value.int .i64 a, .int .i64 b, .int .i64 o, .int .i64 s, .int .i64 g][j]? := fun j => (hb1.cell (by simp; omega)).trans (by simp)
  have hR1 : ∀ j, w1.cell? ⟨w.heap.size + 1, j, none⟩ = #[Value.int .i64 0, .int .i64 0, .slice none 0 0, .slice none 0 0][j]? := fun j => (hb1.cell (by simp)).trans (by simp)
  have hF1 : ∀ j, w1.frozen? ⟨w.heap.size + 1, j, none⟩ = false := fun j => (hb1.frozen (by simp)).trans (by simp)
  have HB1 := Lib.hid (show Below w.heap.size w w1 by (repeat' first | (with_reducible exact Below.refl _ _) | (with_reducible refine Below.alloc ?_ ?_ _) | (with_reducible refine Below.drew ?_) | (with_reducible refine Below.setCell ?_ ?_ _) | (with_reducible refine below_via (by assumption) ?_ ?_) | go_size))
  obtain ⟨w2, hw2⟩ : ∃ w2 : World, w2 = w1.alloc (.cells #[.int .i64 1, .int .i64 0, .slice none 0 0, .slice none 0 0] 31) := ⟨_, rfl⟩
  have hb2 : Below w1.heap.size w1 w2 := by rw [hw2]; exact (Below.refl _ _).alloc (Nat.le_refl _) _
  have hz2 : w1.heap.size < w2.heap.size := by rw [hw2]; simp
  have hG2 : ∀ j, w2.cell? ⟨w1.heap.size, j, none⟩ = #[Value.int .i64 1, .int .i64 0, .slice none 0 0, .slice none 0 0][j]? := fun j => by rw [hw2]; simp
  have hGF2 : ∀ j, w2.frozen? ⟨w1.heap.size, j, none⟩ = false := fun j => by rw [hw2]; simp
  have hX2 : ∀ j, w2.cell? ⟨w.heap.size, j, none⟩ = #[Value.int .i64 a, .int .i64 b, .int .i64 o, .int .i64 s, .int .i64 g][j]? := fun j => (hb2.cell (show w.heap.size < w1.heap.size by omega)).trans (hX1 j)
  have hR2 : ∀ j, w2.cell? ⟨w.heap.size + 1, j, none⟩ = #[Value.int .i64 0, .int .i64 0, .slice none 0 0, .slice none 0 0][j]? := fun j => (hb2.cell (show w.heap.size + 1 < w1.heap.size by omega)).trans (hR1 j)
  have hF2 : ∀ j, w2.frozen? ⟨w.heap.size + 1, j, none⟩ = false := fun j => (hb2.frozen (show w.heap.size + 1 < w1.heap.size by omega)).trans (hF1 j)
  have HB2 := Lib.hid (HB1.out.trans (hb2.mono HB1.out.size))
  clear hb1 hb2 hX1 hR1 hF1
  go_upto_region 4 with fail
  rw [← hw2]
  clear hw2
  go_wp2_with fail
  refine (HWAY.out w2).mono ?_
  rintro e w3 ⟨vW, rfl, hOW, hb3⟩
  have hz3 := hb3.size
  have hX3 : ∀ j, w3.cell? ⟨w.heap.size, j, none⟩ = #[Value.int .i64 a, .int .i64 b, .int .i64 o, .int .i64 s, .int .i64 g][j]? := fun j => (hb3.cell (show w.heap.size < w2.heap.size by omega)).trans (hX2 j)
  have hR3 : ∀ j, w3.cell? ⟨w.heap.size + 1, j, none⟩ = #[Value.int .i64 0, .int .i64 0, .slice none 0 0, .slice none 0 0][j]? := fun j => (hb3.cell (show w.heap.size + 1 < w2.heap.size by omega)).trans (hR2 j)
  have hF3 : ∀ j, w3.frozen? ⟨w.heap.size + 1, j, none⟩ = false := fun j => (hb3.frozen (show w.heap.size + 1 < w2.heap.size by omega)).trans (hF2 j)
  have hG3 : ∀ j, w3.cell? ⟨w1.heap.size, j, none⟩ = #[Value.int .i64 1, .int .i64 0, .slice none 0 0, .slice none 0 0][j]? := fun j => (hb3.cell (show w1.heap.size < w2.heap.size by omega)).trans (hG2 j)
  have hGF3 : ∀ j, w3.frozen? ⟨w1.heap.size, j, none⟩ = false := fun j => (hb3.frozen (show w1.heap.size < w2.heap.size by omega)).trans (hGF2 j)
  have HB3 := Lib.hid (HB2.out.trans (hb3.mono HB2.out.size))
  obtain ⟨aW, cW, rfl, -⟩ := hOW.form
  have HOW := Lib.hid (hOW.mono (show w1.heap.size + 1 ≤ w2.heap.size by omega))
  clear hb3 hOW hX2 hR2 hF2 hG2 hGF2
  rw [hr]
  clear hr HWAY
  generalize checkClaim a b o s g 1 0 (wayTo a b o s g) [] = cr at *
  generalize wayTo a b o s g = L at *
  obtain ⟨w4, hw4⟩ : ∃ w4 : World, w4 = w3.setCell ⟨w1.heap.size, 2, none⟩ (.slice aW L.length cW) := ⟨_, rfl⟩
  have hz4 : w4.heap.size = w3.heap.size := by rw [hw4]; simp
  have hX4 : ∀ j, w4.cell? ⟨w.heap.size, j, none⟩ = #[Value.int .i64 a, .int .i64 b, .int .i64 o, .int .i64 s, .int .i64 g][j]? := fun j => by rw [hw4]; exact (((Below.refl w1.heap.size w3).setCell (p := ⟨w1.heap.size, 2, none⟩) (Nat.le_refl _) _).cell (show w.heap.size < w1.heap.size by omega)).trans (hX3 j)
  have hR4 : ∀ j, w4.cell? ⟨w.heap.size + 1, j, none⟩ = #[Value.int .i64 0, .int .i64 0, .slice none 0 0, .slice none 0 0][j]? := fun j => by rw [hw4]; exact (((Below.refl w1.heap.size w3).setCell (p := ⟨w1.heap.size, 2, none⟩) (Nat.le_refl _) _).cell (show w.heap.size + 1 < w1.heap.size by omega)).trans (hR3 j)
  have hF4 : ∀ j, w4.frozen? ⟨w.heap.size + 1, j, none⟩ = false := fun j => by rw [hw4]; exact (World.frozen?_setCell _ _ _ _).trans (hF3 j)
  have hG4 : ∀ j, w4.cell? ⟨w1.heap.size, j, none⟩ = #[Value.int .i64 1, .int .i64 0, .slice aW L.length cW, .slice none 0 0][j]? := fun j => by rw [hw4]; exact box4_put2 w3 w1.heap.size _ _ _ _ _ hG3 j
  have HB4 : Hid (Below w.heap.size w w4) := by show Below _ _ _; rw [hw4]; exact HB3.out.setCell (by show _ ≤ w1.heap.size; omega) _
  have HO4 : Hid (Own ELine w4 (w1.heap.size + 1) (.slice aW L.length cW) L) := by show Own _ _ _ _ _; rw [hw4]; exact HOW.out.setBelow (show w1.heap.size < w1.heap.size + 1 by omega) _
  have HCK : Hid (∀ W, Below w4.heap.size w4 W → Calls Tryz.prog 6 #[.agg #[.int .i64 a, .int .i64 b, .int .i64 o, .int .i64 s, .int .i64 g], .agg #[.int .i64 1, .int .i64 0, .slice aW L.length cW, .slice none 0 0]] W fun e w' => e = .returned (.bool cr) ∧ Below W.heap.size W w') := fun W hb => HCA.out W _ _ (HO4.out.keep hb)
  go_upto_region 9 with fail
  rw [← hw4]
  clear hw4 hX3 hR3 hF3 hG3 hGF3 HB3 HOW HB1 HB2 HPZ
  have hzd : w4.drew.heap.size = w4.heap.size := by simp
  have HCD := Lib.hid (HCK.out w4.drew ((Below.refl _ _).drew))
  have HBD : Hid (Below w4.heap.size w4 w4.drew) := (Below.refl _ _).drew
  have HXP : Hid (∀ w9 : World, Below w4.heap.size w4 w9 → (∀ j, w9.cell? ⟨w.heap.size, j, none⟩ = #[Value.int .i64 a, .int .i64 b, .int .i64 o, .int .i64 s, .int .i64 g][j]?) ∧ (∀ j, w9.cell? ⟨w.heap.size + 1, j, none⟩ = #[Value.int .i64 0, .int .i64 0, .slice none 0 0, .slice none 0 0][j]?) ∧ (∀ j, w9.frozen? ⟨w.heap.size + 1, j, none⟩ = false) ∧ (∀ j, w9.cell? ⟨w1.heap.size, j, none⟩ = #[Value.int .i64 1, .int .i64 0, .slice aW L.length cW, .slice none 0 0][j]?) ∧ w4.heap.size ≤ w9.heap.size ∧ Hid (Below w.heap.size w w9) ∧ Hid (Own ELine w9 (w1.heap.size + 1) (.slice aW L.length cW) L)) := fun w9 hb9 => ⟨fun j => (hb9.cell (show w.heap.size < w4.heap.size by omega)).trans (hX4 j), fun j => (hb9.cell (show w.heap.size + 1 < w4.heap.size by omega)).trans (hR4 j), fun j => (hb9.frozen (show w.heap.size + 1 < w4.heap.size by omega)).trans (hF4 j), fun j => (hb9.cell (show w1.heap.size < w4.heap.size by omega)).trans (hG4 j), hb9.size, HB4.out.trans (hb9.mono HB4.out.size), HO4.out.keep hb9⟩
  go_wp2_with fail
  go_region_with (go_at_call 6; with_reducible refine HCD.out.mono ?_; rintro e w9 ⟨rfl, hb9⟩; obtain ⟨hX9, hR9, hF9, hG9, hz9, HB9, HO9⟩ := HXP.out w9 (HBD.out.trans (hb9.mono (by omega))); clear hb9)
  all_goals go_wp2_with fail
  all_goals refine bodyPost_ret (v := .tuple #[.agg #[.int .i64 1, .int .i64 0, .slice aW L.length cW, .slice none 0 0], .bool cr]) (by simp [results, Tryz.results11, go_sem, *]) rfl ⟨_, rfl, ?_, ?_⟩
  all_goals first | (exact ((((HO9.out.setBelow (show w.heap.size + 1 < w1.heap.size + 1 by omega) _).setBelow (show w.heap.size + 1 < w1.heap.size + 1 by omega) _).setBelow (show w.heap.size + 1 < w1.heap.size + 1 by omega) _).setBelow (show w.heap.size + 1 < w1.heap.size + 1 by omega) _).mono (by omega)) | (have hbF := HB9.out; (repeat' first | (with_reducible exact Below.refl _ _) | (with_reducible refine Below.alloc ?_ ?_ _) | (with_reducible refine Below.drew ?_) | (with_reducible refine Below.setCell ?_ ?_ _) | (with_reducible refine below_via (by assumption) ?_ ?_) | go_size))
set_option maxHeartbeats 4000000 in
set_option maxRecDepth 100000 in
theorem MakeClaim_not (a b o s g : Int) (hs : s ≤ 9223372036854775807) (hg : g ≤ 9223372036854775807) (hz : puzzleOk a b o s g = true) (hr : reach a b o s g false = false) (w : World) :
    Calls Tryz.prog 11 #[.agg #[.int .i64 a, .int .i64 b, .int .i64 o, .int .i64 s, .int .i64 g]] w (NotClaim w (checkClaim a b o s g 2 0 [] (findW a b o s g)) (findW a b o s g)) := by
  have HPZ : Hid (∀ W, Calls Tryz.prog 17 #[.agg #[.int .i64 a, .int .i64 b, .int .i64 o, .int .i64 s, .int .i64 g]] W fun e w' => e = .returned (.bool (puzzleOk a b o s g)) ∧ Below W.heap.size W w') := fun W => PuzzleOk_any a b o s g hs hg W
  rw [hz] at HPZ
  clear hz
  have HCA : Hid (∀ (W : World) (B : Nat) (vw : Value), Own EInt W B vw (findW a b o s g) → Calls Tryz.prog 6 #[.agg #[.int .i64 a, .int .i64 b, .int .i64 o, .int .i64 s, .int .i64 g], .agg #[.int .i64 2, .int .i64 0, .slice none 0 0, vw]] W fun e w' => e = .returned (.bool (checkClaim a b o s g 2 0 [] (findW a b o s g))) ∧ Below W.heap.size W w') := fun W B vw hw => CheckClaim_any a b o s g 2 0 [] (findW a b o s g) (.slice none 0 0) vw hs hg W (Own.nil ELine W 0) hw
  have HFP := Lib.hid (fun W => FindProof_any a b o s g hs hg W)
  have HWAY := Lib.hid (fun W => WayTo_any a b o s g hs hg W)
  go_enter Tryz.func11, Tryz.ntmps11
  go_wp2_with fail
  refine (HPZ.out _).mono ?_
  rintro e w1 ⟨rfl, hb1⟩
  have hz1 := hb1.size
  simp only [World.size_alloc] at hz1
  have hX1 : ∀ j, w1.cell? ⟨w.heap.size, j, none⟩ = #[Value.int .i64 a, .int .i64 b, .int .i64 o, .int .i64 s, .int .i64 g][j]? := fun j => (hb1.cell (by simp; omega)).trans (by simp)
  have hR1 : ∀ j, w1.cell? ⟨w.heap.size + 1, j, none⟩ = #[Value.int .i64 0, .int .i64 0, .slice none 0 0, .slice none 0 0][j]? := fun j => (hb1.cell (by simp)).trans (by simp)
  have hF1 : ∀ j, w1.frozen? ⟨w.heap.size + 1, j, none⟩ = false := fun j => (hb1.frozen (by simp)).trans (by simp)
  have HB1 := Lib.hid (show Below w.heap.size w w1 by (repeat' first | (with_reducible exact Below.refl _ _) | (with_reducible refine Below.alloc ?_ ?_ _) | (with_reducible refine Below.drew ?_) | (with_reducible refine Below.setCell ?_ ?_ _) | (with_reducible refine below_via (by assumption) ?_ ?_) | go_size))
  obtain ⟨w2, hw2⟩ : ∃ w2 : World, w2 = w1.alloc (.cells #[.int .i64 1, .int .i64 0, .slice none 0 0, .slice none 0 0] 31) := ⟨_, rfl⟩
  have hb2 : Below w1.heap.size w1 w2 := by rw [hw2]; exact (Below.refl _ _).alloc (Nat.le_refl _) _
  have hz2 : w1.heap.size < w2.heap.size := by rw [hw2]; simp
  have hG2 : ∀ j, w2.cell? ⟨w1.heap.size, j, none⟩ = #[Value.int .i64 1, .int .i64 0, .slice none 0 0, .slice none 0 0][j]? := fun j => by rw [hw2]; simp
  have hGF2 : ∀ j, w2.frozen? ⟨w1.heap.size, j, none⟩ = false := fun j => by rw [hw2]; simp
  have hX2 : ∀ j, w2.cell? ⟨w.heap.size, j, none⟩ = #[Value.int .i64 a, .int .i64 b, .int .i64 o, .int .i64 s, .int .i64 g][j]? := fun j => (hb2.cell (show w.heap.size < w1.heap.size by omega)).trans (hX1 j)
  have hR2 : ∀ j, w2.cell? ⟨w.heap.size + 1, j, none⟩ = #[Value.int .i64 0, .int .i64 0, .slice none 0 0, .slice none 0 0][j]? := fun j => (hb2.cell (show w.heap.size + 1 < w1.heap.size by omega)).trans (hR1 j)
  have hF2 : ∀ j, w2.frozen? ⟨w.heap.size + 1, j, none⟩ = false := fun j => (hb2.frozen (show w.heap.size + 1 < w1.heap.size by omega)).trans (hF1 j)
  have HB2 := Lib.hid (HB1.out.trans (hb2.mono HB1.out.size))
  clear hb1 hb2 hX1 hR1 hF1
  go_upto_region 4 with fail
  rw [← hw2]
  clear hw2
  go_wp2_with fail
  refine (HWAY.out w2).mono ?_
  rintro e w3 ⟨vW, rfl, hOW, hb3⟩
  have hz3 := hb3.size
  have hX3 : ∀ j, w3.cell? ⟨w.heap.size, j, none⟩ = #[Value.int .i64 a, .int .i64 b, .int .i64 o, .int .i64 s, .int .i64 g][j]? := fun j => (hb3.cell (show w.heap.size < w2.heap.size by omega)).trans (hX2 j)
  have hR3 : ∀ j, w3.cell? ⟨w.heap.size + 1, j, none⟩ = #[Value.int .i64 0, .int .i64 0, .slice none 0 0, .slice none 0 0][j]? := fun j => (hb3.cell (show w.heap.size + 1 < w2.heap.size by omega)).trans (hR2 j)
  have hF3 : ∀ j, w3.frozen? ⟨w.heap.size + 1, j, none⟩ = false := fun j => (hb3.frozen (show w.heap.size + 1 < w2.heap.size by omega)).trans (hF2 j)
  have hG3 : ∀ j, w3.cell? ⟨w1.heap.size, j, none⟩ = #[Value.int .i64 1, .int .i64 0, .slice none 0 0, .slice none 0 0][j]? := fun j => (hb3.cell (show w1.heap.size < w2.heap.size by omega)).trans (hG2 j)
  have hGF3 : ∀ j, w3.frozen? ⟨w1.heap.size, j, none⟩ = false := fun j => (hb3.frozen (show w1.heap.size < w2.heap.size by omega)).trans (hGF2 j)
  have HB3 := Lib.hid (HB2.out.trans (hb3.mono HB2.out.size))
  obtain ⟨aW, cW, rfl, -⟩ := hOW.form
  have HOW := Lib.hid (hOW.mono (show w1.heap.size + 1 ≤ w2.heap.size by omega))
  clear hb3 hOW hX2 hR2 hF2 hG2 hGF2
  rw [hr]
  clear hr HWAY HOW
  generalize checkClaim a b o s g 2 0 [] (findW a b o s g) = cr at *
  go_upto_region 8 with fail
  obtain ⟨wa, hwa⟩ : ∃ wa : World, wa = w3.setCell ⟨w1.heap.size, 0, none⟩ (.int .i64 2) := ⟨_, rfl⟩
  have hza : wa.heap.size = w3.heap.size := by rw [hwa]; simp
  have hXa : ∀ j, wa.cell? ⟨w.heap.size, j, none⟩ = #[Value.int .i64 a, .int .i64 b, .int .i64 o, .int .i64 s, .int .i64 g][j]? := fun j => by rw [hwa]; exact (((Below.refl w1.heap.size w3).setCell (p := ⟨w1.heap.size, 0, none⟩) (Nat.le_refl _) _).cell (show w.heap.size < w1.heap.size by omega)).trans (hX3 j)
  have hRa : ∀ j, wa.cell? ⟨w.heap.size + 1, j, none⟩ = #[Value.int .i64 0, .int .i64 0, .slice none 0 0, .slice none 0 0][j]? := fun j => by rw [hwa]; exact (((Below.refl w1.heap.size w3).setCell (p := ⟨w1.heap.size, 0, none⟩) (Nat.le_refl _) _).cell (show w.heap.size + 1 < w1.heap.size by omega)).trans (hR3 j)
  have hFa : ∀ j, wa.frozen? ⟨w.heap.size + 1, j, none⟩ = false := fun j => by rw [hwa]; exact (World.frozen?_setCell _ _ _ _).trans (hF3 j)
  have hGa : ∀ j, wa.cell? ⟨w1.heap.size, j, none⟩ = #[Value.int .i64 2, .int .i64 0, .slice none 0 0, .slice none 0 0][j]? := fun j => by rw [hwa]; exact box4_put0 w3 w1.heap.size _ _ _ _ _ hG3 j
  have hGFa : ∀ j, wa.frozen? ⟨w1.heap.size, j, none⟩ = false := fun j => by rw [hwa]; exact (World.frozen?_setCell _ _ _ _).trans (hGF3 j)
  have HBa : Hid (Below w.heap.size w w3) := HB3
  have HBb : Hid (Below w.heap.size w wa) := by show Below _ _ _; rw [hwa]; exact HB3.out.setCell (by show _ ≤ w1.heap.size; omega) _
  rw [← hwa]
  clear hwa hX3 hR3 hF3 hG3 hGF3 HB3 HBa HB1 HB2 HPZ
  go_wp2_with fail
  refine (HFP.out wa).mono ?_
  rintro e wb ⟨vF, rfl, hOF, hbb⟩
  have hzb := hbb.size
  have hXb : ∀ j, wb.cell? ⟨w.heap.size, j, none⟩ = #[Value.int .i64 a, .int .i64 b, .int .i64 o, .int .i64 s, .int .i64 g][j]? := fun j => (hbb.cell (show w.heap.size < wa.heap.size by omega)).trans (hXa j)
  have hRb : ∀ j, wb.cell? ⟨w.heap.size + 1, j, none⟩ = #[Value.int .i64 0, .int .i64 0, .slice none 0 0, .slice none 0 0][j]? := fun j => (hbb.cell (show w.heap.size + 1 < wa.heap.size by omega)).trans (hRa j)
  have hFb : ∀ j, wb.frozen? ⟨w.heap.size + 1, j, none⟩ = false := fun j => (hbb.frozen (show w.heap.size + 1 < wa.heap.size by omega)).trans (hFa j)
  have hGb : ∀ j, wb.cell? ⟨w1.heap.size, j, none⟩ = #[Value.int .i64 2, .int .i64 0, .slice none 0 0, .slice none 0 0][j]? := fun j => (hbb.cell (show w1.heap.size < wa.heap.size by omega)).trans (hGa j)
  have hGFb : ∀ j, wb.frozen? ⟨w1.heap.size, j, none⟩ = false := fun j => (hbb.frozen (show w1.heap.size < wa.heap.size by omega)).trans (hGFa j)
  have HBc := Lib.hid (HBb.out.trans (hbb.mono HBb.out.size))
  obtain ⟨aF, cF, rfl, -⟩ := hOF.form
  have HOF := Lib.hid (hOF.mono (show w1.heap.size + 1 ≤ wa.heap.size by omega))
  clear hbb hOF hXa hRa hFa hGa hGFa HBb HFP
  generalize (findProof a b o s g).isSome = fs at *
  generalize findW a b o s g = L at *
  obtain ⟨w4, hw4⟩ : ∃ w4 : World, w4 = wb.setCell ⟨w1.heap.size, 3, none⟩ (.slice aF L.length cF) := ⟨_, rfl⟩
  have hz4 : w4.heap.size = wb.heap.size := by rw [hw4]; simp
  have hX4 : ∀ j, w4.cell? ⟨w.heap.size, j, none⟩ = #[Value.int .i64 a, .int .i64 b, .int .i64 o, .int .i64 s, .int .i64 g][j]? := fun j => by rw [hw4]; exact (((Below.refl w1.heap.size wb).setCell (p := ⟨w1.heap.size, 3, none⟩) (Nat.le_refl _) _).cell (show w.heap.size < w1.heap.size by omega)).trans (hXb j)
  have hR4 : ∀ j, w4.cell? ⟨w.heap.size + 1, j, none⟩ = #[Value.int .i64 0, .int .i64 0, .slice none 0 0, .slice none 0 0][j]? := fun j => by rw [hw4]; exact (((Below.refl w1.heap.size wb).setCell (p := ⟨w1.heap.size, 3, none⟩) (Nat.le_refl _) _).cell (show w.heap.size + 1 < w1.heap.size by omega)).trans (hRb j)
  have hF4 : ∀ j, w4.frozen? ⟨w.heap.size + 1, j, none⟩ = false := fun j => by rw [hw4]; exact (World.frozen?_setCell _ _ _ _).trans (hFb j)
  have hG4 : ∀ j, w4.cell? ⟨w1.heap.size, j, none⟩ = #[Value.int .i64 2, .int .i64 0, .slice none 0 0, .slice aF L.length cF][j]? := fun j => by rw [hw4]; exact box4_put3 wb w1.heap.size _ _ _ _ _ hGb j
  have HB4 : Hid (Below w.heap.size w w4) := by show Below _ _ _; rw [hw4]; exact HBc.out.setCell (by show _ ≤ w1.heap.size; omega) _
  have HO4 : Hid (Own EInt w4 (w1.heap.size + 1) (.slice aF L.length cF) L) := by show Own _ _ _ _ _; rw [hw4]; exact HOF.out.setBelow (show w1.heap.size < w1.heap.size + 1 by omega) _
  have HCK : Hid (∀ W, Below w4.heap.size w4 W → Calls Tryz.prog 6 #[.agg #[.int .i64 a, .int .i64 b, .int .i64 o, .int .i64 s, .int .i64 g], .agg #[.int .i64 2, .int .i64 0, .slice none 0 0, .slice aF L.length cF]] W fun e w' => e = .returned (.bool cr) ∧ Below W.heap.size W w') := fun W hb => HCA.out W _ _ (HO4.out.keep hb)
  go_upto_region 9 with fail
  rw [← hw4]
  clear hw4 hXb hRb hFb hGb hGFb HBc HOF
  have hzd : w4.drew.heap.size = w4.heap.size := by simp
  have HCD := Lib.hid (HCK.out w4.drew ((Below.refl _ _).drew))
  have HBD : Hid (Below w4.heap.size w4 w4.drew) := (Below.refl _ _).drew
  have HXP : Hid (∀ w9 : World, Below w4.heap.size w4 w9 → (∀ j, w9.cell? ⟨w.heap.size, j, none⟩ = #[Value.int .i64 a, .int .i64 b, .int .i64 o, .int .i64 s, .int .i64 g][j]?) ∧ (∀ j, w9.cell? ⟨w.heap.size + 1, j, none⟩ = #[Value.int .i64 0, .int .i64 0, .slice none 0 0, .slice none 0 0][j]?) ∧ (∀ j, w9.frozen? ⟨w.heap.size + 1, j, none⟩ = false) ∧ (∀ j, w9.cell? ⟨w1.heap.size, j, none⟩ = #[Value.int .i64 2, .int .i64 0, .slice none 0 0, .slice aF L.length cF][j]?) ∧ w4.heap.size ≤ w9.heap.size ∧ Hid (Below w.heap.size w w9) ∧ Hid (Own EInt w9 (w1.heap.size + 1) (.slice aF L.length cF) L)) := fun w9 hb9 => ⟨fun j => (hb9.cell (show w.heap.size < w4.heap.size by omega)).trans (hX4 j), fun j => (hb9.cell (show w.heap.size + 1 < w4.heap.size by omega)).trans (hR4 j), fun j => (hb9.frozen (show w.heap.size + 1 < w4.heap.size by omega)).trans (hF4 j), fun j => (hb9.cell (show w1.heap.size < w4.heap.size by omega)).trans (hG4 j), hb9.size, HB4.out.trans (hb9.mono HB4.out.size), HO4.out.keep hb9⟩
  go_wp2_with fail
  go_region_with (go_at_call 6; with_reducible refine HCD.out.mono ?_; rintro e w9 ⟨rfl, hb9⟩; obtain ⟨hX9, hR9, hF9, hG9, hz9, HB9, HO9⟩ := HXP.out w9 (HBD.out.trans (hb9.mono (by omega))); clear hb9)
  all_goals go_wp2_with fail
  all_goals refine bodyPost_ret (v := .tuple #[.agg #[.int .i64 2, .int .i64 0, .slice none 0 0, .slice aF L.length cF], .bool cr]) (by simp [results, Tryz.results11, go_sem, *]) rfl ⟨_, rfl, ?_, ?_⟩
  all_goals first | (exact ((((HO9.out.setBelow (show w.heap.size + 1 < w1.heap.size + 1 by omega) _).setBelow (show w.heap.size + 1 < w1.heap.size + 1 by omega) _).setBelow (show w.heap.size + 1 < w1.heap.size + 1 by omega) _).setBelow (show w.heap.size + 1 < w1.heap.size + 1 by omega) _).mono (by omega)) | (have hbF := HB9.out; (repeat' first | (with_reducible exact Below.refl _ _) | (with_reducible refine Below.alloc ?_ ?_ _) | (with_reducible refine Below.drew ?_) | (with_reducible refine Below.setCell ?_ ?_ _) | (with_reducible refine below_via (by assumption) ?_ ?_) | go_size))
end Go.Proofs.YtfmplmlilmalpaaGreat
