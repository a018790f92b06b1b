/- Weights: contracts of WeightsOk, SumOf, BrokenLine, IsFalling, IsProof and the reference's. Conditions: numbers in range. -/
import Derived.Test.YtfpofhkggojaoaaPlay
import Derived.Test.YtfpofhkggojaoaaSLines
import Derived.Test.YtfpofhkggojaoaaMem3
import Derived.Test.YtfpofhkggojaoaaEnt0
set_option linter.unusedVariables false
set_option linter.unusedSimpArgs false
namespace Peg
def weightsOk (a b o : Int) (W : List Int) : Bool := boardOk a b o && (((W.length : Int) == a * b) && W.all fun n => inR n (-1000) 1000)
def sumTo (W : List Int) (p : Int) : Nat → Int
  | 0 => 0
  | k + 1 => sumTo W p k + if tb p k = true then gD W 0 k else 0
def sumOf (a b o : Int) (W : List Int) (p : Int) : Int := if weightsOk a b o W = true then if posOk a b o p = true then sumTo W p W.length else 0 else 0
def sumL (W : List Int) : List Int → Int
  | [] => 0
  | x :: l => gD W 0 x.toNat + sumL W l
theorem sumL_append (W l m : List Int) : sumL W (l ++ m) = sumL W l + sumL W m := by
  induction l with
  | nil => simp [sumL]
  | cons x l ih => simp [sumL, ih]; omega
theorem sumL_take {W l : List Int} {k : Nat} (h : k < l.length) : sumL W (l.take (k + 1)) = sumL W (l.take k) + gD W 0 (gD l 0 k).toNat := by
  rw [take_gD l 0 k h, sumL_append]; simp [sumL]
theorem sumL_holes (W : List Int) (p : Int) (k : Nat) : sumL W (holesTo p k) = sumTo W p k := by
  induction k with
  | zero => simp [holesTo, sumL, sumTo]
  | succ k ih =>
    simp only [sumTo]
    cases h : tb p k
    · rw [holesTo_succ_no _ _ h, ih]; simp
    · rw [holesTo_succ_yes _ _ h, sumL_append, ih]; simp [sumL]
theorem weights_at {W : List Int} (h : (W.all fun n => inR n (-1000) 1000) = true) {k : Nat} (hk : k < W.length) : -1000 ≤ gD W 0 k ∧ gD W 0 k ≤ 1000 :=
  inR_iff.1 (List.all_eq_true.1 h _ (gD_mem W 0 k hk))
theorem weightsOk_bd {a b o : Int} {W : List Int} (h : weightsOk a b o W = true) : boardOk a b o = true ∧ (W.length : Int) = a * b ∧ W.length ≤ 49 ∧ ∀ k, k < W.length → -1000 ≤ gD W 0 k ∧ gD W 0 k ≤ 1000 := by
  simp only [weightsOk, Bool.and_eq_true, beq_iff_eq] at h
  have := area (boardOk_sides h.1).1 (boardOk_sides h.1).2
  exact ⟨h.1, h.2.1, by omega, fun k hk => weights_at h.2.2 hk⟩
theorem sumTo_bd {W : List Int} {p : Int} (h : ∀ k, k < W.length → -1000 ≤ gD W 0 k ∧ gD W 0 k ≤ 1000) : ∀ k, k ≤ W.length → -1000 * k ≤ sumTo W p k ∧ sumTo W p k ≤ 1000 * k := by
  intro k
  induction k with
  | zero => intro _; simp [sumTo]
  | succ k ih =>
    intro hk
    have h1 := ih (by omega)
    have h2 := h k (by omega)
    simp only [sumTo]
    split <;> constructor <;> omega
/-- the holes of a position that lie on the board are those below its size -/
theorem holes_pos {a b o p : Int} {W : List Int} (hp : posOk a b o p = true) (hw : (W.length : Int) = a * b) : holesTo p 49 = holesTo p W.length := by
  have hb := (posOk_bd hp).1
  have h1 := area (boardOk_sides hb).1 (boardOk_sides hb).2
  have h2 := boardOk_holes hb
  have h3 : p ≤ o := by
    have h4 := (posOk_bd hp).2.2
    have := band_le_right p o (by omega)
    omega
  have h6 := holesTo_more (p := p) (k := W.length) (posOk_bd hp).2.1 (by rw [hw]; omega) (49 - W.length)
  rw [← h6]
  congr 1
  omega
def brokenAt (W : List Int) (l : Ln) : Bool := decide (gD W 0 l.f.toNat + gD W 0 l.o.toNat < gD W 0 l.t.toNat)
def broken (a b o : Int) (W : List Int) : Bool := weightsOk a b o W && (linesOf a b o).any (brokenAt W)
def falling (a b o : Int) (W : List Int) : Bool := weightsOk a b o W && !broken a b o W
def isProof (a b o : Int) (W : List Int) (p g : Int) : Bool := falling a b o W && (posOk a b o p && (posOk a b o g && decide (sumOf a b o W p < sumOf a b o W g)))
theorem any_no {α : Type} {P : α → Bool} {l : List α} {d : α} {k : Nat} (h : k < l.length) (h0 : (l.take k).any P = false) (h1 : P (gD l d k) = false) : (l.take (k + 1)).any P = false := by
  rw [take_gD l d k h, List.any_append, h0]; simp [h1]
theorem any_yes {α : Type} {P : α → Bool} {l : List α} {d : α} {k : Nat} (h : k < l.length) (h1 : P (gD l d k) = true) : l.any P = true :=
  List.any_eq_true.2 ⟨_, gD_mem l d k h, h1⟩
end Peg
namespace Go.Proofs.Ytfpofhkggojaoaa
open Go.ChangeShapes Go.WideShapes Go.ChangeAt Go.RowKit Peg Go.Sort
set_option maxHeartbeats 1000000 in
set_option maxRecDepth 100000 in
theorem WeightsOk_any (a b o : Int) (W : List Int) (v : Value) (w : World) {B : Nat} (hv : Own EInt w B v W) :
    Calls Try.prog 250 #[.agg #[.int .i64 a, .int .i64 b, .int .i64 o], v] w fun e w' => e = .returned (.bool (weightsOk a b o W)) ∧ Below w.heap.size w w' := by
  obtain ⟨aW, capW, rfl, hmW, hgetW⟩ := hv.intG
  have HGW := Lib.hid hgetW
  clear hgetW hv
  have HB : Hid (∀ W', Calls Try.prog 183 #[.agg #[.int .i64 a, .int .i64 b, .int .i64 o]] W' fun e w' => e = .returned (.bool (boardOk a b o)) ∧ Below W'.heap.size W' w') := fun W' => BoardOk_any a b o W'
  have HF : Hid (weightsOk a b o W = (boardOk a b o && (((W.length : Int) == a * b) && W.all fun n => inR n (-1000) 1000))) := rfl
  cases hb0 : boardOk a b o
  · have HE : Hid (weightsOk a b o W = false) := by show _ = _; rw [HF.out, hb0]; rfl
    rw [hb0] at HB
    clear hb0
    go_enter Try.func250, Try.ntmps250
    go_wp2_with (go_at_call 183; refine (HB.out _).mono ?_; rintro e w' ⟨rfl, hb⟩; obtain ⟨hc, hf, hz, hy⟩ := bcell hb; clear hy; (try simp only [World.size_alloc, World.size_setCell, World.size_drew] at hz); (try have gQ0 : w.heap.size < w'.heap.size := by omega); (try have gQ1 : w.heap.size + 1 < w'.heap.size := by omega); (try have gQ2 : w.heap.size + 1 + 1 < w'.heap.size := by omega); (try have gQ3 : w.heap.size + 1 + 1 + 1 < w'.heap.size := by omega); (try have gQ4 : w.heap.size + 1 + 1 + 1 + 1 < w'.heap.size := by omega); (try have gQ5 : w.heap.size + 1 + 1 + 1 + 1 + 1 < w'.heap.size := by omega); (try have dQ0 : _ < w'.heap.size := Nat.lt_of_lt_of_le dQ0 (by omega)); (try have dQ1 : _ < w'.heap.size := Nat.lt_of_lt_of_le dQ1 (by omega)); (try have dQ2 : _ < w'.heap.size := Nat.lt_of_lt_of_le dQ2 (by omega)); (try have dQ3 : _ < w'.heap.size := Nat.lt_of_lt_of_le dQ3 (by omega)); (try have dQ4 : _ < w'.heap.size := Nat.lt_of_lt_of_le dQ4 (by omega)); (try have dQ5 : _ < w'.heap.size := Nat.lt_of_lt_of_le dQ5 (by omega)); (try (have hnQ := Nat.lt_of_succ_le hz; first | (have _x := dQ0; first | (have _x := dQ1; first | (have _x := dQ2; first | (have _x := dQ3; first | (have _x := dQ4; have dQ5 := hnQ) | have dQ4 := hnQ) | have dQ3 := hnQ) | have dQ2 := hnQ) | have dQ1 := hnQ) | have dQ0 := hnQ)); (try (have hmQ := Nat.lt_of_succ_lt (Nat.lt_of_succ_le hz); first | (have _x := dQ0; first | (have _x := dQ1; first | (have _x := dQ2; first | (have _x := dQ3; first | (have _x := dQ4; have dQ5 := hmQ) | have dQ4 := hmQ) | have dQ3 := hmQ) | have dQ2 := hmQ) | have dQ1 := hmQ) | have dQ0 := hmQ)))
    all_goals go_ret
    all_goals exact ⟨by simp [HE.out], by (repeat' first | (with_reducible exact Below.refl _ _) | (with_reducible refine Below.alloc ?_ ?_ _) | (with_reducible refine Below.drew ?_) | (with_reducible refine Below.setCell ?_ ?_ _) | (with_reducible refine below_via (by assumption) ?_ ?_) | go_size)⟩
  have har := area (boardOk_sides hb0).1 (boardOk_sides hb0).2
  have hs1 := inR_iff.1 (boardOk_sides hb0).1
  have hs2 := inR_iff.1 (boardOk_sides hb0).2
  rw [hb0] at HB HF
  clear hb0
  have hwr : IntKind.i64.wrap (a * b) = a * b := by rw [IntKind.wrap_i64]; omega
  have HAR := Lib.hid har
  by_cases hl : (W.length : Int) = a * b
  rotate_left
  · have HE : Hid (weightsOk a b o W = false) := by show _ = _; rw [HF.out]; simp [hl]
    have hne : ((W.length : Int) != a * b) = true := by simpa using hl
    go_enter Try.func250, Try.ntmps250
    go_wp2_with (go_at_call 183; refine (HB.out _).mono ?_; rintro e w' ⟨rfl, hb⟩; obtain ⟨hc, hf, hz, hy⟩ := bcell hb; clear hy; (try simp only [World.size_alloc, World.size_setCell, World.size_drew] at hz); (try have gQ0 : w.heap.size < w'.heap.size := by omega); (try have gQ1 : w.heap.size + 1 < w'.heap.size := by omega); (try have gQ2 : w.heap.size + 1 + 1 < w'.heap.size := by omega); (try have gQ3 : w.heap.size + 1 + 1 + 1 < w'.heap.size := by omega); (try have gQ4 : w.heap.size + 1 + 1 + 1 + 1 < w'.heap.size := by omega); (try have gQ5 : w.heap.size + 1 + 1 + 1 + 1 + 1 < w'.heap.size := by omega); (try have dQ0 : _ < w'.heap.size := Nat.lt_of_lt_of_le dQ0 (by omega)); (try have dQ1 : _ < w'.heap.size := Nat.lt_of_lt_of_le dQ1 (by omega)); (try have dQ2 : _ < w'.heap.size := Nat.lt_of_lt_of_le dQ2 (by omega)); (try have dQ3 : _ < w'.heap.size := Nat.lt_of_lt_of_le dQ3 (by omega)); (try have dQ4 : _ < w'.heap.size := Nat.lt_of_lt_of_le dQ4 (by omega)); (try have dQ5 : _ < w'.heap.size := Nat.lt_of_lt_of_le dQ5 (by omega)); (try (have hnQ := Nat.lt_of_succ_le hz; first | (have _x := dQ0; first | (have _x := dQ1; first | (have _x := dQ2; first | (have _x := dQ3; first | (have _x := dQ4; have dQ5 := hnQ) | have dQ4 := hnQ) | have dQ3 := hnQ) | have dQ2 := hnQ) | have dQ1 := hnQ) | have dQ0 := hnQ)); (try (have hmQ := Nat.lt_of_succ_lt (Nat.lt_of_succ_le hz); first | (have _x := dQ0; first | (have _x := dQ1; first | (have _x := dQ2; first | (have _x := dQ3; first | (have _x := dQ4; have dQ5 := hmQ) | have dQ4 := hmQ) | have dQ3 := hmQ) | have dQ2 := hmQ) | have dQ1 := hmQ) | have dQ0 := hmQ)); (try have sQ00 : (w'.cell? ⟨w.heap.size, 0, none⟩).isSome = true := by simp [go_sem, *]); (try have sQ01 : (w'.cell? ⟨w.heap.size, 1, none⟩).isSome = true := by simp [go_sem, *]); (try have sQ02 : (w'.cell? ⟨w.heap.size, 2, none⟩).isSome = true := by simp [go_sem, *]); (try have sQ03 : (w'.cell? ⟨w.heap.size, 3, none⟩).isSome = true := by simp [go_sem, *]); (try have sQ04 : (w'.cell? ⟨w.heap.size, 4, none⟩).isSome = true := by simp [go_sem, *]); (try have sQ10 : (w'.cell? ⟨w.heap.size + 1, 0, none⟩).isSome = true := by simp [go_sem, *]); (try have sQ11 : (w'.cell? ⟨w.heap.size + 1, 1, none⟩).isSome = true := by simp [go_sem, *]); (try have sQ12 : (w'.cell? ⟨w.heap.size + 1, 2, none⟩).isSome = true := by simp [go_sem, *]); (try have sQ13 : (w'.cell? ⟨w.heap.size + 1, 3, none⟩).isSome = true := by simp [go_sem, *]); (try have sQ14 : (w'.cell? ⟨w.heap.size + 1, 4, none⟩).isSome = true := by simp [go_sem, *]); (try have sQ20 : (w'.cell? ⟨w.heap.size + 1 + 1, 0, none⟩).isSome = true := by simp [go_sem, *]); (try have sQ21 : (w'.cell? ⟨w.heap.size + 1 + 1, 1, none⟩).isSome = true := by simp [go_sem, *]); (try have sQ22 : (w'.cell? ⟨w.heap.size + 1 + 1, 2, none⟩).isSome = true := by simp [go_sem, *]); (try have sQ23 : (w'.cell? ⟨w.heap.size + 1 + 1, 3, none⟩).isSome = true := by simp [go_sem, *]); (try have sQ24 : (w'.cell? ⟨w.heap.size + 1 + 1, 4, none⟩).isSome = true := by simp [go_sem, *]); (try have fQ0 : ∀ j, w'.frozen? ⟨w.heap.size, j, none⟩ = false := by intro j; simp [go_sem, *]); (try have fQ1 : ∀ j, w'.frozen? ⟨w.heap.size + 1, j, none⟩ = false := by intro j; simp [go_sem, *]); (try have fQ2 : ∀ j, w'.frozen? ⟨w.heap.size + 1 + 1, j, none⟩ = false := by intro j; simp [go_sem, *]))
    all_goals go_ret
    all_goals exact ⟨by simp [HE.out], by (repeat' first | (with_reducible exact Below.refl _ _) | (with_reducible refine Below.alloc ?_ ?_ _) | (with_reducible refine Below.drew ?_) | (with_reducible refine Below.setCell ?_ ?_ _) | (with_reducible refine below_via (by assumption) ?_ ?_) | go_size)⟩
  have HFA : Hid (weightsOk a b o W = W.all fun n => inR n (-1000) 1000) := by show _ = _; rw [HF.out]; simp [hl]
  have hne : ((W.length : Int) != a * b) = false := by simpa using hl
  have hlb : W.length ≤ 49 := by omega
  clear hl har
  go_enter Try.func250, Try.ntmps250
  go_wp2_with (go_at_call 183; refine (HB.out _).mono ?_; rintro e w' ⟨rfl, hb⟩; obtain ⟨hc, hf, hz, hy⟩ := bcell hb; clear hy; (try simp only [World.size_alloc, World.size_setCell, World.size_drew] at hz); (try have gQ0 : w.heap.size < w'.heap.size := by omega); (try have gQ1 : w.heap.size + 1 < w'.heap.size := by omega); (try have gQ2 : w.heap.size + 1 + 1 < w'.heap.size := by omega); (try have gQ3 : w.heap.size + 1 + 1 + 1 < w'.heap.size := by omega); (try have gQ4 : w.heap.size + 1 + 1 + 1 + 1 < w'.heap.size := by omega); (try have gQ5 : w.heap.size + 1 + 1 + 1 + 1 + 1 < w'.heap.size := by omega); (try have dQ0 : _ < w'.heap.size := Nat.lt_of_lt_of_le dQ0 (by omega)); (try have dQ1 : _ < w'.heap.size := Nat.lt_of_lt_of_le dQ1 (by omega)); (try have dQ2 : _ < w'.heap.size := Nat.lt_of_lt_of_le dQ2 (by omega)); (try have dQ3 : _ < w'.heap.size := Nat.lt_of_lt_of_le dQ3 (by omega)); (try have dQ4 : _ < w'.heap.size := Nat.lt_of_lt_of_le dQ4 (by omega)); (try have dQ5 : _ < w'.heap.size := Nat.lt_of_lt_of_le dQ5 (by omega)); (try (have hnQ := Nat.lt_of_succ_le hz; first | (have _x := dQ0; first | (have _x := dQ1; first | (have _x := dQ2; first | (have _x := dQ3; first | (have _x := dQ4; have dQ5 := hnQ) | have dQ4 := hnQ) | have dQ3 := hnQ) | have dQ2 := hnQ) | have dQ1 := hnQ) | have dQ0 := hnQ)); (try (have hmQ := Nat.lt_of_succ_lt (Nat.lt_of_succ_le hz); first | (have _x := dQ0; first | (have _x := dQ1; first | (have _x := dQ2; first | (have _x := dQ3; first | (have _x := dQ4; have dQ5 := hmQ) | have dQ4 := hmQ) | have dQ3 := hmQ) | have dQ2 := hmQ) | have dQ1 := hmQ) | have dQ0 := hmQ)); (try have sQ00 : (w'.cell? ⟨w.heap.size, 0, none⟩).isSome = true := by simp [go_sem, *]); (try have sQ01 : (w'.cell? ⟨w.heap.size, 1, none⟩).isSome = true := by simp [go_sem, *]); (try have sQ02 : (w'.cell? ⟨w.heap.size, 2, none⟩).isSome = true := by simp [go_sem, *]); (try have sQ03 : (w'.cell? ⟨w.heap.size, 3, none⟩).isSome = true := by simp [go_sem, *]); (try have sQ04 : (w'.cell? ⟨w.heap.size, 4, none⟩).isSome = true := by simp [go_sem, *]); (try have sQ10 : (w'.cell? ⟨w.heap.size + 1, 0, none⟩).isSome = true := by simp [go_sem, *]); (try have sQ11 : (w'.cell? ⟨w.heap.size + 1, 1, none⟩).isSome = true := by simp [go_sem, *]); (try have sQ12 : (w'.cell? ⟨w.heap.size + 1, 2, none⟩).isSome = true := by simp [go_sem, *]); (try have sQ13 : (w'.cell? ⟨w.heap.size + 1, 3, none⟩).isSome = true := by simp [go_sem, *]); (try have sQ14 : (w'.cell? ⟨w.heap.size + 1, 4, none⟩).isSome = true := by simp [go_sem, *]); (try have sQ20 : (w'.cell? ⟨w.heap.size + 1 + 1, 0, none⟩).isSome = true := by simp [go_sem, *]); (try have sQ21 : (w'.cell? ⟨w.heap.size + 1 + 1, 1, none⟩).isSome = true := by simp [go_sem, *]); (try have sQ22 : (w'.cell? ⟨w.heap.size + 1 + 1, 2, none⟩).isSome = true := by simp [go_sem, *]); (try have sQ23 : (w'.cell? ⟨w.heap.size + 1 + 1, 3, none⟩).isSome = true := by simp [go_sem, *]); (try have sQ24 : (w'.cell? ⟨w.heap.size + 1 + 1, 4, none⟩).isSome = true := by simp [go_sem, *]); (try have fQ0 : ∀ j, w'.frozen? ⟨w.heap.size, j, none⟩ = false := by intro j; simp [go_sem, *]); (try have fQ1 : ∀ j, w'.frozen? ⟨w.heap.size + 1, j, none⟩ = false := by intro j; simp [go_sem, *]); (try have fQ2 : ∀ j, w'.frozen? ⟨w.heap.size + 1 + 1, j, none⟩ = false := by intro j; simp [go_sem, *]))
  obtain ⟨w3, rfl⟩ : ∃ w3 : World, w3 = w' := ⟨_, rfl⟩
  have HW3 : Hid (Below w.heap.size w w3) := by show Below _ _ _; (repeat' first | (with_reducible exact Below.refl _ _) | (with_reducible refine Below.alloc ?_ ?_ _) | (with_reducible refine Below.drew ?_) | (with_reducible refine Below.setCell ?_ ?_ _) | (with_reducible refine below_via (by assumption) ?_ ?_) | go_size)
  have hz3 := HW3.out.size
  clear hc hf
  go_loopw [22] (fun i wr => ∃ k : Nat, k ≤ W.length ∧ i = .int .i64 k ∧ Hid ((W.take k).all (fun n => inR n (-1000) 1000) = true) ∧ wr = w3) (fun i _ => W.length - (intOf i).toNat)
  case atStart => exact ⟨0, by omega, rfl, by show _ = _; simp, rfl⟩
  case round =>
    obtain ⟨k, hk, rfl, hall, rfl⟩ := hrel
    by_cases hlt : k < W.length
    · obtain ⟨bW, rfl, _, hbW, hcW⟩ := HGW.out k hlt
      rw [← HW3.out.cell (by simpa using hbW)] at hcW
      have gW : bW < wr.heap.size := by omega
      have HY := Lib.hid (fun h => all_take_yes (P := fun n => inR n (-1000) 1000) (l := W) (d := 0) hlt hall.out h)
      have HN := Lib.hid (fun h => all_take_no (P := fun n => inR n (-1000) 1000) (l := W) (d := 0) hlt h)
      have HI : Hid (∀ W', Calls Try.prog 125 #[.int .i64 (gD W 0 k), .int .i64 (-1000), .int .i64 1000] W' fun e w' => e = .returned (.bool (inR (gD W 0 k) (-1000) 1000)) ∧ W' = w') := fun W' => within_any _ (-1000) 1000 W'
      generalize gD W 0 k = x at *
      cases hx : inR x (-1000) 1000
      · have HE : Hid (weightsOk a b o W = false) := by show _ = _; rw [HFA.out, HN.out hx]
        rw [hx] at HI
        clear HY HN hx
        go_wp2_with (go_at_call 125; (with_reducible refine (HI.out _).mono ?_); rintro e w' ⟨rfl, rfl⟩)
        go_ret
        exact ⟨by simp [HE.out], HW3.out⟩
      · have HN2 := Lib.hid (HY.out hx)
        rw [hx] at HI
        clear HY HN hx
        go_wp2_with (go_at_call 125; (with_reducible refine (HI.out _).mono ?_); rintro e w' ⟨rfl, rfl⟩)
        go_roundw
        case rel => exact ⟨k + 1, by omega, by go_num, HN2, trivial⟩
        case measure => simp [intOf]; omega
    · obtain rfl : k = W.length := by omega
      have HE : Hid (weightsOk a b o W = true) := by show _ = _; rw [HFA.out]; have := hall.out; rwa [List.take_length] at this
      go_wp2_with fail
      go_ret
      exact ⟨by simp [HE.out], HW3.out⟩
set_option maxHeartbeats 1000000 in
set_option maxRecDepth 100000 in
theorem sWeightsOk_any (a b o : Int) (W : List Int) (v : Value) (w : World) {B : Nat} (hv : Own EInt w B v W) :
    Calls Try.prog 247 #[.agg #[.int .i64 a, .int .i64 b, .int .i64 o], v] w fun e w' => e = .returned (.bool (weightsOk a b o W)) ∧ Below w.heap.size w w' := by
  obtain ⟨aW, capW, rfl, hmW, hgetW⟩ := hv.intG
  have HGW := Lib.hid hgetW
  clear hgetW hv
  have HB : Hid (∀ W', Calls Try.prog 118 #[.agg #[.int .i64 a, .int .i64 b, .int .i64 o]] W' fun e w' => e = .returned (.bool (boardOk a b o)) ∧ Below W'.heap.size W' w') := fun W' => sBoardOk_any a b o W'
  have HF : Hid (weightsOk a b o W = (boardOk a b o && (((W.length : Int) == a * b) && W.all fun n => inR n (-1000) 1000))) := rfl
  go_enter Try.func247, Try.ntmps247
  go_wp2_with fail
  go_loopw [5] (fun i wr => ∃ k : Nat, k ≤ W.length ∧ i = .int .i64 k ∧ Hid ((W.take k).all (fun n => inR n (-1000) 1000) = true) ∧ wr = w.alloc (.cells #[.int .i64 a, .int .i64 b, .int .i64 o] 27)) (fun i _ => W.length - (intOf i).toNat)
  case atStart => exact ⟨0, by omega, rfl, by show _ = _; simp, rfl⟩
  case round =>
    obtain ⟨k, hk, rfl, hall, rfl⟩ := hrel
    by_cases hlt : k < W.length
    · obtain ⟨bW, rfl, _, hbW, hcW⟩ := HGW.out k hlt
      have HY := Lib.hid (fun h => all_take_yes (P := fun n => inR n (-1000) 1000) (l := W) (d := 0) hlt hall.out h)
      have HN := Lib.hid (fun h => all_take_no (P := fun n => inR n (-1000) 1000) (l := W) (d := 0) hlt h)
      have HI : Hid (∀ W', Calls Try.prog 133 #[.int .i64 (gD W 0 k), .int .i64 (-1000), .int .i64 1000] W' fun e w' => e = .returned (.bool (inR (gD W 0 k) (-1000) 1000)) ∧ W' = w') := fun W' => l01In_any _ (-1000) 1000 W'
      generalize gD W 0 k = x at *
      cases hx : inR x (-1000) 1000
      · have HE : Hid (weightsOk a b o W = false) := by show _ = _; rw [HF.out, HN.out hx]; simp
        rw [hx] at HI
        clear HY HN hx
        go_wp2_with (go_at_call 133; (with_reducible refine (HI.out _).mono ?_); rintro e w' ⟨rfl, rfl⟩)
        go_ret
        exact ⟨by simp [HE.out], by (repeat' first | (with_reducible exact Below.refl _ _) | (with_reducible refine Below.alloc ?_ ?_ _) | (with_reducible refine Below.drew ?_) | (with_reducible refine Below.setCell ?_ ?_ _) | (with_reducible refine below_via (by assumption) ?_ ?_) | go_size)⟩
      · have HN2 := Lib.hid (HY.out hx)
        rw [hx] at HI
        clear HY HN hx
        go_wp2_with (go_at_call 133; (with_reducible refine (HI.out _).mono ?_); rintro e w' ⟨rfl, rfl⟩)
        go_roundw
        case rel => exact ⟨k + 1, by omega, by go_num, HN2, trivial⟩
        case measure => simp [intOf]; omega
    · obtain rfl : k = W.length := by omega
      have hA : (W.all fun n => inR n (-1000) 1000) = true := by have := hall.out; rwa [List.take_length] at this
      rw [hA] at HF
      clear hA
      cases hb0 : boardOk a b o
      · have HE : Hid (weightsOk a b o W = false) := by show _ = _; rw [HF.out, hb0]; rfl
        rw [hb0] at HB
        clear hb0
        go_wp2_with (go_at_call 118; refine (HB.out _).mono ?_; rintro e w' ⟨rfl, hb⟩; obtain ⟨hc, hf, hz, hy⟩ := bcell hb; clear hy; (try simp only [World.size_alloc, World.size_setCell, World.size_drew] at hz); (try have gQ0 : w.heap.size < w'.heap.size := by omega); (try have gQ1 : w.heap.size + 1 < w'.heap.size := by omega); (try have gQ2 : w.heap.size + 1 + 1 < w'.heap.size := by omega); (try have gQ3 : w.heap.size + 1 + 1 + 1 < w'.heap.size := by omega); (try have gQ4 : w.heap.size + 1 + 1 + 1 + 1 < w'.heap.size := by omega); (try have gQ5 : w.heap.size + 1 + 1 + 1 + 1 + 1 < w'.heap.size := by omega); (try have dQ0 : _ < w'.heap.size := Nat.lt_of_lt_of_le dQ0 (by omega)); (try have dQ1 : _ < w'.heap.size := Nat.lt_of_lt_of_le dQ1 (by omega)); (try have dQ2 : _ < w'.heap.size := Nat.lt_of_lt_of_le dQ2 (by omega)); (try have dQ3 : _ < w'.heap.size := Nat.lt_of_lt_of_le dQ3 (by omega)); (try have dQ4 : _ < w'.heap.size := Nat.lt_of_lt_of_le dQ4 (by omega)); (try have dQ5 : _ < w'.heap.size := Nat.lt_of_lt_of_le dQ5 (by omega)); (try (have hnQ := Nat.lt_of_succ_le hz; first | (have _x := dQ0; first | (have _x := dQ1; first | (have _x := dQ2; first | (have _x := dQ3; first | (have _x := dQ4; have dQ5 := hnQ) | have dQ4 := hnQ) | have dQ3 := hnQ) | have dQ2 := hnQ) | have dQ1 := hnQ) | have dQ0 := hnQ)); (try (have hmQ := Nat.lt_of_succ_lt (Nat.lt_of_succ_le hz); first | (have _x := dQ0; first | (have _x := dQ1; first | (have _x := dQ2; first | (have _x := dQ3; first | (have _x := dQ4; have dQ5 := hmQ) | have dQ4 := hmQ) | have dQ3 := hmQ) | have dQ2 := hmQ) | have dQ1 := hmQ) | have dQ0 := hmQ)))
        all_goals go_ret
        all_goals exact ⟨by simp [HE.out], by (repeat' first | (with_reducible exact Below.refl _ _) | (with_reducible refine Below.alloc ?_ ?_ _) | (with_reducible refine Below.drew ?_) | (with_reducible refine Below.setCell ?_ ?_ _) | (with_reducible refine below_via (by assumption) ?_ ?_) | go_size)⟩
      have har := area (boardOk_sides hb0).1 (boardOk_sides hb0).2
      have hs1 := inR_iff.1 (boardOk_sides hb0).1
      have hs2 := inR_iff.1 (boardOk_sides hb0).2
      rw [hb0] at HB HF
      clear hb0
      have hwr : IntKind.i64.wrap (a * b) = a * b := by rw [IntKind.wrap_i64]; omega
      have HE : Hid (weightsOk a b o W = ((W.length : Int) == a * b)) := by show _ = _; rw [HF.out]; simp
      clear har
      go_wp2_with (go_at_call 118; refine (HB.out _).mono ?_; rintro e w' ⟨rfl, hb⟩; obtain ⟨hc, hf, hz, hy⟩ := bcell hb; clear hy; (try simp only [World.size_alloc, World.size_setCell, World.size_drew] at hz); (try have gQ0 : w.heap.size < w'.heap.size := by omega); (try have gQ1 : w.heap.size + 1 < w'.heap.size := by omega); (try have gQ2 : w.heap.size + 1 + 1 < w'.heap.size := by omega); (try have gQ3 : w.heap.size + 1 + 1 + 1 < w'.heap.size := by omega); (try have gQ4 : w.heap.size + 1 + 1 + 1 + 1 < w'.heap.size := by omega); (try have gQ5 : w.heap.size + 1 + 1 + 1 + 1 + 1 < w'.heap.size := by omega); (try have dQ0 : _ < w'.heap.size := Nat.lt_of_lt_of_le dQ0 (by omega)); (try have dQ1 : _ < w'.heap.size := Nat.lt_of_lt_of_le dQ1 (by omega)); (try have dQ2 : _ < w'.heap.size := Nat.lt_of_lt_of_le dQ2 (by omega)); (try have dQ3 : _ < w'.heap.size := Nat.lt_of_lt_of_le dQ3 (by omega)); (try have dQ4 : _ < w'.heap.size := Nat.lt_of_lt_of_le dQ4 (by omega)); (try have dQ5 : _ < w'.heap.size := Nat.lt_of_lt_of_le dQ5 (by omega)); (try (have hnQ := Nat.lt_of_succ_le hz; first | (have _x := dQ0; first | (have _x := dQ1; first | (have _x := dQ2; first | (have _x := dQ3; first | (have _x := dQ4; have dQ5 := hnQ) | have dQ4 := hnQ) | have dQ3 := hnQ) | have dQ2 := hnQ) | have dQ1 := hnQ) | have dQ0 := hnQ)); (try (have hmQ := Nat.lt_of_succ_lt (Nat.lt_of_succ_le hz); first | (have _x := dQ0; first | (have _x := dQ1; first | (have _x := dQ2; first | (have _x := dQ3; first | (have _x := dQ4; have dQ5 := hmQ) | have dQ4 := hmQ) | have dQ3 := hmQ) | have dQ2 := hmQ) | have dQ1 := hmQ) | have dQ0 := hmQ)); (try have sQ00 : (w'.cell? ⟨w.heap.size, 0, none⟩).isSome = true := by simp [go_sem, *]); (try have sQ01 : (w'.cell? ⟨w.heap.size, 1, none⟩).isSome = true := by simp [go_sem, *]); (try have sQ02 : (w'.cell? ⟨w.heap.size, 2, none⟩).isSome = true := by simp [go_sem, *]); (try have sQ03 : (w'.cell? ⟨w.heap.size, 3, none⟩).isSome = true := by simp [go_sem, *]); (try have sQ04 : (w'.cell? ⟨w.heap.size, 4, none⟩).isSome = true := by simp [go_sem, *]); (try have sQ10 : (w'.cell? ⟨w.heap.size + 1, 0, none⟩).isSome = true := by simp [go_sem, *]); (try have sQ11 : (w'.cell? ⟨w.heap.size + 1, 1, none⟩).isSome = true := by simp [go_sem, *]); (try have sQ12 : (w'.cell? ⟨w.heap.size + 1, 2, none⟩).isSome = true := by simp [go_sem, *]); (try have sQ13 : (w'.cell? ⟨w.heap.size + 1, 3, none⟩).isSome = true := by simp [go_sem, *]); (try have sQ14 : (w'.cell? ⟨w.heap.size + 1, 4, none⟩).isSome = true := by simp [go_sem, *]); (try have sQ20 : (w'.cell? ⟨w.heap.size + 1 + 1, 0, none⟩).isSome = true := by simp [go_sem, *]); (try have sQ21 : (w'.cell? ⟨w.heap.size + 1 + 1, 1, none⟩).isSome = true := by simp [go_sem, *]); (try have sQ22 : (w'.cell? ⟨w.heap.size + 1 + 1, 2, none⟩).isSome = true := by simp [go_sem, *]); (try have sQ23 : (w'.cell? ⟨w.heap.size + 1 + 1, 3, none⟩).isSome = true := by simp [go_sem, *]); (try have sQ24 : (w'.cell? ⟨w.heap.size + 1 + 1, 4, none⟩).isSome = true := by simp [go_sem, *]); (try have fQ0 : ∀ j, w'.frozen? ⟨w.heap.size, j, none⟩ = false := by intro j; simp [go_sem, *]); (try have fQ1 : ∀ j, w'.frozen? ⟨w.heap.size + 1, j, none⟩ = false := by intro j; simp [go_sem, *]); (try have fQ2 : ∀ j, w'.frozen? ⟨w.heap.size + 1 + 1, j, none⟩ = false := by intro j; simp [go_sem, *]))
      all_goals go_ret
      all_goals exact ⟨by simp [HE.out], by (repeat' first | (with_reducible exact Below.refl _ _) | (with_reducible refine Below.alloc ?_ ?_ _) | (with_reducible refine Below.drew ?_) | (with_reducible refine Below.setCell ?_ ?_ _) | (with_reducible refine below_via (by assumption) ?_ ?_) | go_size)⟩
set_option maxHeartbeats 1000000 in
set_option maxRecDepth 100000 in
theorem SumOf_any (a b o : Int) (W : List Int) (p : Int) (v : Value) (hp : p ≤ 9223372036854775807) (w : World) {B : Nat} (hv : Own EInt w B v W) :
    Calls Try.prog 216 #[.agg #[.int .i64 a, .int .i64 b, .int .i64 o], v, .int .i64 p] w fun e w' => e = .returned (.int .i64 (sumOf a b o W p)) ∧ Below w.heap.size w w' := by
  have HV := Lib.hid (fun w' (hb : Below w.heap.size w w') => hv.keep hb)
  obtain ⟨aW, capW, rfl, hmW, hgetW⟩ := hv.intG
  have HGW := Lib.hid hgetW
  clear hgetW hv
  have HW : Hid (∀ W', Own EInt W' B (.slice aW W.length capW) W → Calls Try.prog 250 #[.agg #[.int .i64 a, .int .i64 b, .int .i64 o], .slice aW W.length capW] W' fun e w' => e = .returned (.bool (weightsOk a b o W)) ∧ Below W'.heap.size W' w') := fun W' hW => WeightsOk_any a b o W _ W' hW
  have HP : Hid (∀ W', Calls Try.prog 108 #[.agg #[.int .i64 a, .int .i64 b, .int .i64 o], .int .i64 p] W' fun e w' => e = .returned (.bool (posOk a b o p)) ∧ Below W'.heap.size W' w') := fun W' => PositionOk_any a b o p hp W'
  have HF : Hid (sumOf a b o W p = if weightsOk a b o W = true then if posOk a b o p = true then sumTo W p W.length else 0 else 0) := rfl
  cases hwk : weightsOk a b o W
  · have HE : Hid (sumOf a b o W p = 0) := by show _ = _; rw [HF.out, hwk]; rfl
    rw [hwk] at HW
    clear hwk
    go_enter Try.func216, Try.ntmps216
    go_wp2_with (go_at_call 250; refine (HW.out _ (HV.out _ (by (repeat' first | (with_reducible exact Below.refl _ _) | (with_reducible refine Below.alloc ?_ ?_ _) | (with_reducible refine Below.drew ?_) | (with_reducible refine Below.setCell ?_ ?_ _) | (with_reducible refine below_via (by assumption) ?_ ?_) | go_size)))).mono ?_; rintro e w' ⟨rfl, hb⟩; obtain ⟨hc, hf, hz, hy⟩ := bcell hb; clear hy; (try simp only [World.size_alloc, World.size_setCell, World.size_drew] at hz); (try have gQ0 : w.heap.size < w'.heap.size := by omega); (try have gQ1 : w.heap.size + 1 < w'.heap.size := by omega); (try have gQ2 : w.heap.size + 1 + 1 < w'.heap.size := by omega); (try have gQ3 : w.heap.size + 1 + 1 + 1 < w'.heap.size := by omega); (try have gQ4 : w.heap.size + 1 + 1 + 1 + 1 < w'.heap.size := by omega); (try have gQ5 : w.heap.size + 1 + 1 + 1 + 1 + 1 < w'.heap.size := by omega); (try have dQ0 : _ < w'.heap.size := Nat.lt_of_lt_of_le dQ0 (by omega)); (try have dQ1 : _ < w'.heap.size := Nat.lt_of_lt_of_le dQ1 (by omega)); (try have dQ2 : _ < w'.heap.size := Nat.lt_of_lt_of_le dQ2 (by omega)); (try have dQ3 : _ < w'.heap.size := Nat.lt_of_lt_of_le dQ3 (by omega)); (try have dQ4 : _ < w'.heap.size := Nat.lt_of_lt_of_le dQ4 (by omega)); (try have dQ5 : _ < w'.heap.size := Nat.lt_of_lt_of_le dQ5 (by omega)); (try (have hnQ := Nat.lt_of_succ_le hz; first | (have _x := dQ0; first | (have _x := dQ1; first | (have _x := dQ2; first | (have _x := dQ3; first | (have _x := dQ4; have dQ5 := hnQ) | have dQ4 := hnQ) | have dQ3 := hnQ) | have dQ2 := hnQ) | have dQ1 := hnQ) | have dQ0 := hnQ)); (try (have hmQ := Nat.lt_of_succ_lt (Nat.lt_of_succ_le hz); first | (have _x := dQ0; first | (have _x := dQ1; first | (have _x := dQ2; first | (have _x := dQ3; first | (have _x := dQ4; have dQ5 := hmQ) | have dQ4 := hmQ) | have dQ3 := hmQ) | have dQ2 := hmQ) | have dQ1 := hmQ) | have dQ0 := hmQ)))
    all_goals go_ret
    all_goals exact ⟨by simp [HE.out], by (repeat' first | (with_reducible exact Below.refl _ _) | (with_reducible refine Below.alloc ?_ ?_ _) | (with_reducible refine Below.drew ?_) | (with_reducible refine Below.setCell ?_ ?_ _) | (with_reducible refine below_via (by assumption) ?_ ?_) | go_size)⟩
  obtain ⟨hb0, hWl, hW49, hWb⟩ := weightsOk_bd hwk
  rw [hwk] at HW HF
  cases hpk : posOk a b o p
  · have HE : Hid (sumOf a b o W p = 0) := by show _ = _; rw [HF.out, hpk]; rfl
    rw [hpk] at HP
    clear hpk hwk hWb
    go_enter Try.func216, Try.ntmps216
    go_wp2_with (first | (go_at_call 250; refine (HW.out _ (HV.out _ (by (repeat' first | (with_reducible exact Below.refl _ _) | (with_reducible refine Below.alloc ?_ ?_ _) | (with_reducible refine Below.drew ?_) | (with_reducible refine Below.setCell ?_ ?_ _) | (with_reducible refine below_via (by assumption) ?_ ?_) | go_size)))).mono ?_; rintro e w' ⟨rfl, hb⟩; obtain ⟨hc, hf, hz, hy⟩ := bcell hb; clear hy; (try simp only [World.size_alloc, World.size_setCell, World.size_drew] at hz); (try have gQ0 : w.heap.size < w'.heap.size := by omega); (try have gQ1 : w.heap.size + 1 < w'.heap.size := by omega); (try have gQ2 : w.heap.size + 1 + 1 < w'.heap.size := by omega); (try have gQ3 : w.heap.size + 1 + 1 + 1 < w'.heap.size := by omega); (try have gQ4 : w.heap.size + 1 + 1 + 1 + 1 < w'.heap.size := by omega); (try have gQ5 : w.heap.size + 1 + 1 + 1 + 1 + 1 < w'.heap.size := by omega); (try have dQ0 : _ < w'.heap.size := Nat.lt_of_lt_of_le dQ0 (by omega)); (try have dQ1 : _ < w'.heap.size := Nat.lt_of_lt_of_le dQ1 (by omega)); (try have dQ2 : _ < w'.heap.size := Nat.lt_of_lt_of_le dQ2 (by omega)); (try have dQ3 : _ < w'.heap.size := Nat.lt_of_lt_of_le dQ3 (by omega)); (try have dQ4 : _ < w'.heap.size := Nat.lt_of_lt_of_le dQ4 (by omega)); (try have dQ5 : _ < w'.heap.size := Nat.lt_of_lt_of_le dQ5 (by omega)); (try (have hnQ := Nat.lt_of_succ_le hz; first | (have _x := dQ0; first | (have _x := dQ1; first | (have _x := dQ2; first | (have _x := dQ3; first | (have _x := dQ4; have dQ5 := hnQ) | have dQ4 := hnQ) | have dQ3 := hnQ) | have dQ2 := hnQ) | have dQ1 := hnQ) | have dQ0 := hnQ)); (try (have hmQ := Nat.lt_of_succ_lt (Nat.lt_of_succ_le hz); first | (have _x := dQ0; first | (have _x := dQ1; first | (have _x := dQ2; first | (have _x := dQ3; first | (have _x := dQ4; have dQ5 := hmQ) | have dQ4 := hmQ) | have dQ3 := hmQ) | have dQ2 := hmQ) | have dQ1 := hmQ) | have dQ0 := hmQ))) | (go_at_call 108; refine (HP.out _).mono ?_; rintro e w' ⟨rfl, hb⟩; obtain ⟨hc, hf, hz, hy⟩ := bcell hb; clear hy; (try simp only [World.size_alloc, World.size_setCell, World.size_drew] at hz); (try have gQ0 : w.heap.size < w'.heap.size := by omega); (try have gQ1 : w.heap.size + 1 < w'.heap.size := by omega); (try have gQ2 : w.heap.size + 1 + 1 < w'.heap.size := by omega); (try have gQ3 : w.heap.size + 1 + 1 + 1 < w'.heap.size := by omega); (try have gQ4 : w.heap.size + 1 + 1 + 1 + 1 < w'.heap.size := by omega); (try have gQ5 : w.heap.size + 1 + 1 + 1 + 1 + 1 < w'.heap.size := by omega); (try have dQ0 : _ < w'.heap.size := Nat.lt_of_lt_of_le dQ0 (by omega)); (try have dQ1 : _ < w'.heap.size := Nat.lt_of_lt_of_le dQ1 (by omega)); (try have dQ2 : _ < w'.heap.size := Nat.lt_of_lt_of_le dQ2 (by omega)); (try have dQ3 : _ < w'.heap.size := Nat.lt_of_lt_of_le dQ3 (by omega)); (try have dQ4 : _ < w'.heap.size := Nat.lt_of_lt_of_le dQ4 (by omega)); (try have dQ5 : _ < w'.heap.size := Nat.lt_of_lt_of_le dQ5 (by omega)); (try (have hnQ := Nat.lt_of_succ_le hz; first | (have _x := dQ0; first | (have _x := dQ1; first | (have _x := dQ2; first | (have _x := dQ3; first | (have _x := dQ4; have dQ5 := hnQ) | have dQ4 := hnQ) | have dQ3 := hnQ) | have dQ2 := hnQ) | have dQ1 := hnQ) | have dQ0 := hnQ)); (try (have hmQ := Nat.lt_of_succ_lt (Nat.lt_of_succ_le hz); first | (have _x := dQ0; first | (have _x := dQ1; first | (have _x := dQ2; first | (have _x := dQ3; first | (have _x := dQ4; have dQ5 := hmQ) | have dQ4 := hmQ) | have dQ3 := hmQ) | have dQ2 := hmQ) | have dQ1 := hmQ) | have dQ0 := hmQ))))
    all_goals go_ret
    all_goals exact ⟨by simp [HE.out], by (repeat' first | (with_reducible exact Below.refl _ _) | (with_reducible refine Below.alloc ?_ ?_ _) | (with_reducible refine Below.drew ?_) | (with_reducible refine Below.setCell ?_ ?_ _) | (with_reducible refine below_via (by assumption) ?_ ?_) | go_size)⟩
  have HE : Hid (sumOf a b o W p = sumTo W p W.length) := by show _ = _; rw [HF.out, hpk]; rfl
  have hpb := pos_lt hpk
  have HSB := Lib.hid (sumTo_bd (p := p) hWb)
  have HWB := Lib.hid hWb
  rw [hpk] at HP
  clear hpk hwk hWb hb0 hWl
  go_enter Try.func216, Try.ntmps216
  go_wp2_with (first | (go_at_call 250; refine (HW.out _ (HV.out _ (by (repeat' first | (with_reducible exact Below.refl _ _) | (with_reducible refine Below.alloc ?_ ?_ _) | (with_reducible refine Below.drew ?_) | (with_reducible refine Below.setCell ?_ ?_ _) | (with_reducible refine below_via (by assumption) ?_ ?_) | go_size)))).mono ?_; rintro e w' ⟨rfl, hb⟩; obtain ⟨hc, hf, hz, hy⟩ := bcell hb; clear hy; (try simp only [World.size_alloc, World.size_setCell, World.size_drew] at hz); (try have gQ0 : w.heap.size < w'.heap.size := by omega); (try have gQ1 : w.heap.size + 1 < w'.heap.size := by omega); (try have gQ2 : w.heap.size + 1 + 1 < w'.heap.size := by omega); (try have gQ3 : w.heap.size + 1 + 1 + 1 < w'.heap.size := by omega); (try have gQ4 : w.heap.size + 1 + 1 + 1 + 1 < w'.heap.size := by omega); (try have gQ5 : w.heap.size + 1 + 1 + 1 + 1 + 1 < w'.heap.size := by omega); (try have dQ0 : _ < w'.heap.size := Nat.lt_of_lt_of_le dQ0 (by omega)); (try have dQ1 : _ < w'.heap.size := Nat.lt_of_lt_of_le dQ1 (by omega)); (try have dQ2 : _ < w'.heap.size := Nat.lt_of_lt_of_le dQ2 (by omega)); (try have dQ3 : _ < w'.heap.size := Nat.lt_of_lt_of_le dQ3 (by omega)); (try have dQ4 : _ < w'.heap.size := Nat.lt_of_lt_of_le dQ4 (by omega)); (try have dQ5 : _ < w'.heap.size := Nat.lt_of_lt_of_le dQ5 (by omega)); (try (have hnQ := Nat.lt_of_succ_le hz; first | (have _x := dQ0; first | (have _x := dQ1; first | (have _x := dQ2; first | (have _x := dQ3; first | (have _x := dQ4; have dQ5 := hnQ) | have dQ4 := hnQ) | have dQ3 := hnQ) | have dQ2 := hnQ) | have dQ1 := hnQ) | have dQ0 := hnQ)); (try (have hmQ := Nat.lt_of_succ_lt (Nat.lt_of_succ_le hz); first | (have _x := dQ0; first | (have _x := dQ1; first | (have _x := dQ2; first | (have _x := dQ3; first | (have _x := dQ4; have dQ5 := hmQ) | have dQ4 := hmQ) | have dQ3 := hmQ) | have dQ2 := hmQ) | have dQ1 := hmQ) | have dQ0 := hmQ))) | (go_at_call 108; refine (HP.out _).mono ?_; rintro e w' ⟨rfl, hb⟩; obtain ⟨hc, hf, hz, hy⟩ := bcell hb; clear hy; (try simp only [World.size_alloc, World.size_setCell, World.size_drew] at hz); (try have gQ0 : w.heap.size < w'.heap.size := by omega); (try have gQ1 : w.heap.size + 1 < w'.heap.size := by omega); (try have gQ2 : w.heap.size + 1 + 1 < w'.heap.size := by omega); (try have gQ3 : w.heap.size + 1 + 1 + 1 < w'.heap.size := by omega); (try have gQ4 : w.heap.size + 1 + 1 + 1 + 1 < w'.heap.size := by omega); (try have gQ5 : w.heap.size + 1 + 1 + 1 + 1 + 1 < w'.heap.size := by omega); (try have dQ0 : _ < w'.heap.size := Nat.lt_of_lt_of_le dQ0 (by omega)); (try have dQ1 : _ < w'.heap.size := Nat.lt_of_lt_of_le dQ1 (by omega)); (try have dQ2 : _ < w'.heap.size := Nat.lt_of_lt_of_le dQ2 (by omega)); (try have dQ3 : _ < w'.heap.size := Nat.lt_of_lt_of_le dQ3 (by omega)); (try have dQ4 : _ < w'.heap.size := Nat.lt_of_lt_of_le dQ4 (by omega)); (try have dQ5 : _ < w'.heap.size := Nat.lt_of_lt_of_le dQ5 (by omega)); (try (have hnQ := Nat.lt_of_succ_le hz; first | (have _x := dQ0; first | (have _x := dQ1; first | (have _x := dQ2; first | (have _x := dQ3; first | (have _x := dQ4; have dQ5 := hnQ) | have dQ4 := hnQ) | have dQ3 := hnQ) | have dQ2 := hnQ) | have dQ1 := hnQ) | have dQ0 := hnQ)); (try (have hmQ := Nat.lt_of_succ_lt (Nat.lt_of_succ_le hz); first | (have _x := dQ0; first | (have _x := dQ1; first | (have _x := dQ2; first | (have _x := dQ3; first | (have _x := dQ4; have dQ5 := hmQ) | have dQ4 := hmQ) | have dQ3 := hmQ) | have dQ2 := hmQ) | have dQ1 := hmQ) | have dQ0 := hmQ))))
  obtain ⟨w3, rfl⟩ : ∃ w3 : World, w3 = w' := ⟨_, rfl⟩
  have HW3 : Hid (Below w.heap.size w w3) := by show Below _ _ _; (repeat' first | (with_reducible exact Below.refl _ _) | (with_reducible refine Below.alloc ?_ ?_ _) | (with_reducible refine Below.drew ?_) | (with_reducible refine Below.setCell ?_ ?_ _) | (with_reducible refine below_via (by assumption) ?_ ?_) | go_size)
  have hz3 := HW3.out.size
  clear hc hf
  go_loopw [7, 22] (fun s i wr => ∃ k : Nat, k ≤ W.length ∧ i = .int .i64 k ∧ s = .int .i64 (sumTo W p k) ∧ wr = w3) (fun _ i _ => W.length - (intOf i).toNat)
  case atStart => exact ⟨0, by omega, rfl, rfl, rfl⟩
  case round =>
    obtain ⟨k, hk, rfl, rfl, rfl⟩ := hrel
    by_cases hlt : k < W.length
    · obtain ⟨bW, rfl, _, hbW, hcW⟩ := HGW.out k hlt
      rw [← HW3.out.cell (by simpa using hbW)] at hcW
      have gW : bW < wr.heap.size := by omega
      have hx := HWB.out k hlt
      have hsb := HSB.out k hk
      have HSS : Hid (sumTo W p (k + 1) = sumTo W p k + if tb p k = true then gD W 0 k else 0) := rfl
      have HT : Hid (∀ W', Calls Try.prog 123 #[.int .i64 p, .int .i64 k] W' fun e w' => e = .returned (.bool (tb p k)) ∧ W' = w') := fun W' => hasBit_any p k hpb.1 hp (by omega) W'
      generalize gD W 0 k = x at *
      generalize sumTo W p k = S at *
      cases ht : tb p k
      all_goals
        have HN : Hid _ := HSS.out
        rw [ht] at HN HT
        simp only [Bool.false_eq_true, if_false, if_true, Int.add_zero] at HN
        clear ht HSS
        go_wp2_with (go_at_call 123; (with_reducible refine (HT.out _).mono ?_); rintro e w' ⟨rfl, rfl⟩)
        go_roundw
        case rel => exact ⟨k + 1, by omega, by go_num, by rw [HN.out], trivial⟩
        case measure => simp [intOf]; omega
    · obtain rfl : k = W.length := by omega
      go_wp2_with fail
      go_ret
      exact ⟨by simp [HE.out], HW3.out⟩
set_option maxHeartbeats 1000000 in
set_option maxRecDepth 100000 in
theorem sSumOf_any (a b o : Int) (W : List Int) (p : Int) (v : Value) (hp : p ≤ 9223372036854775807) (w : World) {B : Nat} (hv : Own EInt w B v W) :
    Calls Try.prog 210 #[.agg #[.int .i64 a, .int .i64 b, .int .i64 o], v, .int .i64 p] w fun e w' => e = .returned (.int .i64 (sumOf a b o W p)) ∧ Below w.heap.size w w' := by
  have HV := Lib.hid (fun w' (hb : Below w.heap.size w w') => hv.keep hb)
  obtain ⟨aW, capW, rfl, hmW, hgetW⟩ := hv.intG
  have HGW := Lib.hid hgetW
  clear hgetW hv
  have HW : Hid (∀ W', Own EInt W' B (.slice aW W.length capW) W → Calls Try.prog 247 #[.agg #[.int .i64 a, .int .i64 b, .int .i64 o], .slice aW W.length capW] W' fun e w' => e = .returned (.bool (weightsOk a b o W)) ∧ Below W'.heap.size W' w') := fun W' hW => sWeightsOk_any a b o W _ W' hW
  have HP : Hid (∀ W', Calls Try.prog 106 #[.agg #[.int .i64 a, .int .i64 b, .int .i64 o], .int .i64 p] W' fun e w' => e = .returned (.bool (posOk a b o p)) ∧ Below W'.heap.size W' w') := fun W' => sPositionOk_any a b o p hp W'
  have HF : Hid (sumOf a b o W p = if weightsOk a b o W = true then if posOk a b o p = true then sumTo W p W.length else 0 else 0) := rfl
  cases hwk : weightsOk a b o W
  · have HE : Hid (sumOf a b o W p = 0) := by show _ = _; rw [HF.out, hwk]; rfl
    rw [hwk] at HW
    clear hwk
    go_enter Try.func210, Try.ntmps210
    go_wp2_with (go_at_call 247; refine (HW.out _ (HV.out _ (by (repeat' first | (with_reducible exact Below.refl _ _) | (with_reducible refine Below.alloc ?_ ?_ _) | (with_reducible refine Below.drew ?_) | (with_reducible refine Below.setCell ?_ ?_ _) | (with_reducible refine below_via (by assumption) ?_ ?_) | go_size)))).mono ?_; rintro e w' ⟨rfl, hb⟩; obtain ⟨hc, hf, hz, hy⟩ := bcell hb; clear hy; (try simp only [World.size_alloc, World.size_setCell, World.size_drew] at hz); (try have gQ0 : w.heap.size < w'.heap.size := by omega); (try have gQ1 : w.heap.size + 1 < w'.heap.size := by omega); (try have gQ2 : w.heap.size + 1 + 1 < w'.heap.size := by omega); (try have gQ3 : w.heap.size + 1 + 1 + 1 < w'.heap.size := by omega); (try have gQ4 : w.heap.size + 1 + 1 + 1 + 1 < w'.heap.size := by omega); (try have gQ5 : w.heap.size + 1 + 1 + 1 + 1 + 1 < w'.heap.size := by omega); (try have dQ0 : _ < w'.heap.size := Nat.lt_of_lt_of_le dQ0 (by omega)); (try have dQ1 : _ < w'.heap.size := Nat.lt_of_lt_of_le dQ1 (by omega)); (try have dQ2 : _ < w'.heap.size := Nat.lt_of_lt_of_le dQ2 (by omega)); (try have dQ3 : _ < w'.heap.size := Nat.lt_of_lt_of_le dQ3 (by omega)); (try have dQ4 : _ < w'.heap.size := Nat.lt_of_lt_of_le dQ4 (by omega)); (try have dQ5 : _ < w'.heap.size := Nat.lt_of_lt_of_le dQ5 (by omega)); (try (have hnQ := Nat.lt_of_succ_le hz; first | (have _x := dQ0; first | (have _x := dQ1; first | (have _x := dQ2; first | (have _x := dQ3; first | (have _x := dQ4; have dQ5 := hnQ) | have dQ4 := hnQ) | have dQ3 := hnQ) | have dQ2 := hnQ) | have dQ1 := hnQ) | have dQ0 := hnQ)); (try (have hmQ := Nat.lt_of_succ_lt (Nat.lt_of_succ_le hz); first | (have _x := dQ0; first | (have _x := dQ1; first | (have _x := dQ2; first | (have _x := dQ3; first | (have _x := dQ4; have dQ5 := hmQ) | have dQ4 := hmQ) | have dQ3 := hmQ) | have dQ2 := hmQ) | have dQ1 := hmQ) | have dQ0 := hmQ)))
    all_goals go_ret
    all_goals exact ⟨by simp [HE.out], by (repeat' first | (with_reducible exact Below.refl _ _) | (with_reducible refine Below.alloc ?_ ?_ _) | (with_reducible refine Below.drew ?_) | (with_reducible refine Below.setCell ?_ ?_ _) | (with_reducible refine below_via (by assumption) ?_ ?_) | go_size)⟩
  obtain ⟨hb0, hWl, hW49, hWb⟩ := weightsOk_bd hwk
  rw [hwk] at HW HF
  cases hpk : posOk a b o p
  · have HE : Hid (sumOf a b o W p = 0) := by show _ = _; rw [HF.out, hpk]; rfl
    rw [hpk] at HP
    clear hpk hwk hWb
    go_enter Try.func210, Try.ntmps210
    go_wp2_with (first | (go_at_call 247; refine (HW.out _ (HV.out _ (by (repeat' first | (with_reducible exact Below.refl _ _) | (with_reducible refine Below.alloc ?_ ?_ _) | (with_reducible refine Below.drew ?_) | (with_reducible refine Below.setCell ?_ ?_ _) | (with_reducible refine below_via (by assumption) ?_ ?_) | go_size)))).mono ?_; rintro e w' ⟨rfl, hb⟩; obtain ⟨hc, hf, hz, hy⟩ := bcell hb; clear hy; (try simp only [World.size_alloc, World.size_setCell, World.size_drew] at hz); (try have gQ0 : w.heap.size < w'.heap.size := by omega); (try have gQ1 : w.heap.size + 1 < w'.heap.size := by omega); (try have gQ2 : w.heap.size + 1 + 1 < w'.heap.size := by omega); (try have gQ3 : w.heap.size + 1 + 1 + 1 < w'.heap.size := by omega); (try have gQ4 : w.heap.size + 1 + 1 + 1 + 1 < w'.heap.size := by omega); (try have gQ5 : w.heap.size + 1 + 1 + 1 + 1 + 1 < w'.heap.size := by omega); (try have dQ0 : _ < w'.heap.size := Nat.lt_of_lt_of_le dQ0 (by omega)); (try have dQ1 : _ < w'.heap.size := Nat.lt_of_lt_of_le dQ1 (by omega)); (try have dQ2 : _ < w'.heap.size := Nat.lt_of_lt_of_le dQ2 (by omega)); (try have dQ3 : _ < w'.heap.size := Nat.lt_of_lt_of_le dQ3 (by omega)); (try have dQ4 : _ < w'.heap.size := Nat.lt_of_lt_of_le dQ4 (by omega)); (try have dQ5 : _ < w'.heap.size := Nat.lt_of_lt_of_le dQ5 (by omega)); (try (have hnQ := Nat.lt_of_succ_le hz; first | (have _x := dQ0; first | (have _x := dQ1; first | (have _x := dQ2; first | (have _x := dQ3; first | (have _x := dQ4; have dQ5 := hnQ) | have dQ4 := hnQ) | have dQ3 := hnQ) | have dQ2 := hnQ) | have dQ1 := hnQ) | have dQ0 := hnQ)); (try (have hmQ := Nat.lt_of_succ_lt (Nat.lt_of_succ_le hz); first | (have _x := dQ0; first | (have _x := dQ1; first | (have _x := dQ2; first | (have _x := dQ3; first | (have _x := dQ4; have dQ5 := hmQ) | have dQ4 := hmQ) | have dQ3 := hmQ) | have dQ2 := hmQ) | have dQ1 := hmQ) | have dQ0 := hmQ))) | (go_at_call 106; refine (HP.out _).mono ?_; rintro e w' ⟨rfl, hb⟩; obtain ⟨hc, hf, hz, hy⟩ := bcell hb; clear hy; (try simp only [World.size_alloc, World.size_setCell, World.size_drew] at hz); (try have gQ0 : w.heap.size < w'.heap.size := by omega); (try have gQ1 : w.heap.size + 1 < w'.heap.size := by omega); (try have gQ2 : w.heap.size + 1 + 1 < w'.heap.size := by omega); (try have gQ3 : w.heap.size + 1 + 1 + 1 < w'.heap.size := by omega); (try have gQ4 : w.heap.size + 1 + 1 + 1 + 1 < w'.heap.size := by omega); (try have gQ5 : w.heap.size + 1 + 1 + 1 + 1 + 1 < w'.heap.size := by omega); (try have dQ0 : _ < w'.heap.size := Nat.lt_of_lt_of_le dQ0 (by omega)); (try have dQ1 : _ < w'.heap.size := Nat.lt_of_lt_of_le dQ1 (by omega)); (try have dQ2 : _ < w'.heap.size := Nat.lt_of_lt_of_le dQ2 (by omega)); (try have dQ3 : _ < w'.heap.size := Nat.lt_of_lt_of_le dQ3 (by omega)); (try have dQ4 : _ < w'.heap.size := Nat.lt_of_lt_of_le dQ4 (by omega)); (try have dQ5 : _ < w'.heap.size := Nat.lt_of_lt_of_le dQ5 (by omega)); (try (have hnQ := Nat.lt_of_succ_le hz; first | (have _x := dQ0; first | (have _x := dQ1; first | (have _x := dQ2; first | (have _x := dQ3; first | (have _x := dQ4; have dQ5 := hnQ) | have dQ4 := hnQ) | have dQ3 := hnQ) | have dQ2 := hnQ) | have dQ1 := hnQ) | have dQ0 := hnQ)); (try (have hmQ := Nat.lt_of_succ_lt (Nat.lt_of_succ_le hz); first | (have _x := dQ0; first | (have _x := dQ1; first | (have _x := dQ2; first | (have _x := dQ3; first | (have _x := dQ4; have dQ5 := hmQ) | have dQ4 := hmQ) | have dQ3 := hmQ) | have dQ2 := hmQ) | have dQ1 := hmQ) | have dQ0 := hmQ))))
    all_goals go_ret
    all_goals exact ⟨by simp [HE.out], by (repeat' first | (with_reducible exact Below.refl _ _) | (with_reducible refine Below.alloc ?_ ?_ _) | (with_reducible refine Below.drew ?_) | (with_reducible refine Below.setCell ?_ ?_ _) | (with_reducible refine below_via (by assumption) ?_ ?_) | go_size)⟩
  have hpb := pos_lt hpk
  have hh := holes_pos hpk hWl
  have HE : Hid (sumOf a b o W p = sumL W (holesTo p 49)) := by show _ = _; rw [HF.out, hpk, hh, sumL_holes]; rfl
  have HM : Hid (∀ k, k < (holesTo p 49).length → 0 ≤ gD (holesTo p 49) 0 k ∧ gD (holesTo p 49) 0 k < W.length) := fun k hk => by
    have := holesTo_mem (x := gD (holesTo p 49) 0 k) (o := p) (k := W.length) (by rw [← hh]; exact gD_mem _ _ _ hk)
    omega
  have hl49 := holesTo_length p 49
  have HWB := Lib.hid hWb
  rw [hpk] at HP
  clear hpk hwk hWb hb0 hWl hh
  go_enter Try.func210, Try.ntmps210
  go_wp2_with (first | (go_at_call 247; refine (HW.out _ (HV.out _ (by (repeat' first | (with_reducible exact Below.refl _ _) | (with_reducible refine Below.alloc ?_ ?_ _) | (with_reducible refine Below.drew ?_) | (with_reducible refine Below.setCell ?_ ?_ _) | (with_reducible refine below_via (by assumption) ?_ ?_) | go_size)))).mono ?_; rintro e w' ⟨rfl, hb⟩; obtain ⟨hc, hf, hz, hy⟩ := bcell hb; clear hy; (try simp only [World.size_alloc, World.size_setCell, World.size_drew] at hz); (try have gQ0 : w.heap.size < w'.heap.size := by omega); (try have gQ1 : w.heap.size + 1 < w'.heap.size := by omega); (try have gQ2 : w.heap.size + 1 + 1 < w'.heap.size := by omega); (try have gQ3 : w.heap.size + 1 + 1 + 1 < w'.heap.size := by omega); (try have gQ4 : w.heap.size + 1 + 1 + 1 + 1 < w'.heap.size := by omega); (try have gQ5 : w.heap.size + 1 + 1 + 1 + 1 + 1 < w'.heap.size := by omega); (try have dQ0 : _ < w'.heap.size := Nat.lt_of_lt_of_le dQ0 (by omega)); (try have dQ1 : _ < w'.heap.size := Nat.lt_of_lt_of_le dQ1 (by omega)); (try have dQ2 : _ < w'.heap.size := Nat.lt_of_lt_of_le dQ2 (by omega)); (try have dQ3 : _ < w'.heap.size := Nat.lt_of_lt_of_le dQ3 (by omega)); (try have dQ4 : _ < w'.heap.size := Nat.lt_of_lt_of_le dQ4 (by omega)); (try have dQ5 : _ < w'.heap.size := Nat.lt_of_lt_of_le dQ5 (by omega)); (try (have hnQ := Nat.lt_of_succ_le hz; first | (have _x := dQ0; first | (have _x := dQ1; first | (have _x := dQ2; first | (have _x := dQ3; first | (have _x := dQ4; have dQ5 := hnQ) | have dQ4 := hnQ) | have dQ3 := hnQ) | have dQ2 := hnQ) | have dQ1 := hnQ) | have dQ0 := hnQ)); (try (have hmQ := Nat.lt_of_succ_lt (Nat.lt_of_succ_le hz); first | (have _x := dQ0; first | (have _x := dQ1; first | (have _x := dQ2; first | (have _x := dQ3; first | (have _x := dQ4; have dQ5 := hmQ) | have dQ4 := hmQ) | have dQ3 := hmQ) | have dQ2 := hmQ) | have dQ1 := hmQ) | have dQ0 := hmQ))) | (go_at_call 106; refine (HP.out _).mono ?_; rintro e w' ⟨rfl, hb⟩; obtain ⟨hc, hf, hz, hy⟩ := bcell hb; clear hy; (try simp only [World.size_alloc, World.size_setCell, World.size_drew] at hz); (try have gQ0 : w.heap.size < w'.heap.size := by omega); (try have gQ1 : w.heap.size + 1 < w'.heap.size := by omega); (try have gQ2 : w.heap.size + 1 + 1 < w'.heap.size := by omega); (try have gQ3 : w.heap.size + 1 + 1 + 1 < w'.heap.size := by omega); (try have gQ4 : w.heap.size + 1 + 1 + 1 + 1 < w'.heap.size := by omega); (try have gQ5 : w.heap.size + 1 + 1 + 1 + 1 + 1 < w'.heap.size := by omega); (try have dQ0 : _ < w'.heap.size := Nat.lt_of_lt_of_le dQ0 (by omega)); (try have dQ1 : _ < w'.heap.size := Nat.lt_of_lt_of_le dQ1 (by omega)); (try have dQ2 : _ < w'.heap.size := Nat.lt_of_lt_of_le dQ2 (by omega)); (try have dQ3 : _ < w'.heap.size := Nat.lt_of_lt_of_le dQ3 (by omega)); (try have dQ4 : _ < w'.heap.size := Nat.lt_of_lt_of_le dQ4 (by omega)); (try have dQ5 : _ < w'.heap.size := Nat.lt_of_lt_of_le dQ5 (by omega)); (try (have hnQ := Nat.lt_of_succ_le hz; first | (have _x := dQ0; first | (have _x := dQ1; first | (have _x := dQ2; first | (have _x := dQ3; first | (have _x := dQ4; have dQ5 := hnQ) | have dQ4 := hnQ) | have dQ3 := hnQ) | have dQ2 := hnQ) | have dQ1 := hnQ) | have dQ0 := hnQ)); (try (have hmQ := Nat.lt_of_succ_lt (Nat.lt_of_succ_le hz); first | (have _x := dQ0; first | (have _x := dQ1; first | (have _x := dQ2; first | (have _x := dQ3; first | (have _x := dQ4; have dQ5 := hmQ) | have dQ4 := hmQ) | have dQ3 := hmQ) | have dQ2 := hmQ) | have dQ1 := hmQ) | have dQ0 := hmQ))))
  refine (l02List_any _ hpb.1 hp _).mono ?_
  rintro e w' ⟨vl, rfl, hown, hb⟩
  generalize holesTo p 49 = L at *
  obtain ⟨aL, capL, rfl, hmL, hgetL⟩ := hown.intG
  have HGL := Lib.hid hgetL
  obtain ⟨w3, rfl⟩ : ∃ w3 : World, w3 = w' := ⟨_, rfl⟩
  have HW3 : Hid (Below w.heap.size w w3) := by show Below _ _ _; (repeat' first | (with_reducible exact Below.refl _ _) | (with_reducible refine Below.alloc ?_ ?_ _) | (with_reducible refine Below.drew ?_) | (with_reducible refine Below.setCell ?_ ?_ _) | (with_reducible refine below_via (by assumption) ?_ ?_) | go_size)
  have hz3 := HW3.out.size
  clear hc hf
  clear hgetL hown
  go_wp2_with fail
  go_loopw [7, 9] (fun s i wr => ∃ k : Nat, k ≤ L.length ∧ i = .int .i64 k ∧ s = .int .i64 (sumL W (L.take k)) ∧ Hid (-1000 * (k : Int) ≤ sumL W (L.take k) ∧ sumL W (L.take k) ≤ 1000 * k) ∧ wr = w3) (fun _ i _ => L.length - (intOf i).toNat)
  case atStart => exact ⟨0, by omega, rfl, by simp [sumL], by show _ ∧ _; simp [sumL], rfl⟩
  case round =>
    obtain ⟨k, hk, rfl, rfl, hbd, rfl⟩ := hrel
    by_cases hlt : k < L.length
    · obtain ⟨bL, rfl, _, hbL, hcL⟩ := HGL.out k hlt
      have hmm := HM.out k hlt
      obtain ⟨bW, rfl, _, hbW, hcW⟩ := HGW.out (gD L 0 k).toNat (by omega)
      rw [← HW3.out.cell (by simpa using hbW)] at hcW
      have gW : bW < wr.heap.size := by omega
      have hx := HWB.out (gD L 0 k).toNat (by omega)
      have HSS := Lib.hid (sumL_take (W := W) hlt)
      have hbd' := hbd.out
      generalize gD L 0 k = y at *
      generalize gD W 0 y.toNat = x at *
      generalize sumL W (L.take k) = S at *
      go_wp2_with fail
      go_roundw
      case rel => exact ⟨k + 1, by omega, by go_num, by rw [HSS.out], by show _ ∧ _; rw [HSS.out]; omega, trivial⟩
      case measure => simp [intOf]; omega
    · obtain rfl : k = L.length := by omega
      have HT : Hid (sumL W (L.take L.length) = sumL W L) := by show _ = _; rw [List.take_length]
      go_wp2_with fail
      go_ret
      exact ⟨by simp [HE.out, HT.out], HW3.out⟩
end Go.Proofs.Ytfpofhkggojaoaa
