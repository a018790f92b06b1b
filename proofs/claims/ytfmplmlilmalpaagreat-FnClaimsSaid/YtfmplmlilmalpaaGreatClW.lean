/- ClW: several texts in one (Weights, Broken, Proof, WtsA). Conditions: those that each theorem names. -/
import Derived.Test.YtfmplmlilmalpaaGreatPlay
import Derived.Test.YtfmplmlilmalpaaGreatSLines
import Derived.Test.YtfmplmlilmalpaaGreatMem3
import Derived.Test.YtfmplmlilmalpaaGreatClO
import Derived.Test.YtfmplmlilmalpaaGreatJump
import Derived.Test.YtfmplmlilmalpaaGreatReach
import Derived.Test.YtfmplmlilmalpaaGreatHoles
import Derived.Deep.AppendLies
set_option linter.unusedVariables false
set_option linter.unusedSimpArgs false
namespace Peg
def weightsOk (a b o : Int) (W : List Int) : Bool := boardOk a b o && (((W.length : Int) == a * b) && W.all fun n => inR n (-1000) 1000)
def sumTo (W : List Int) (p : Int) : Nat → Int
  | 0 => 0
  | k + 1 => sumTo W p k + if tb p k = true then gD W 0 k else 0
def sumOf (a b o : Int) (W : List Int) (p : Int) : Int := if weightsOk a b o W = true then if posOk a b o p = true then sumTo W p W.length else 0 else 0
def sumL (W : List Int) : List Int → Int
  | [] => 0
  | x :: l => gD W 0 x.toNat + sumL W l
theorem sumL_append (W l m : List Int) : sumL W (l ++ m) = sumL W l + sumL W m := by
  induction l with
  | nil => simp [sumL]
  | cons x l ih => simp [sumL, ih]; omega
theorem sumL_take {W l : List Int} {k : Nat} (h : k < l.length) : sumL W (l.take (k + 1)) = sumL W (l.take k) + gD W 0 (gD l 0 k).toNat := by
  rw [take_gD l 0 k h, sumL_append]; simp [sumL]
theorem sumL_holes (W : List Int) (p : Int) (k : Nat) : sumL W (holesTo p k) = sumTo W p k := by
  induction k with
  | zero => simp [holesTo, sumL, sumTo]
  | succ k ih =>
    simp only [sumTo]
    cases h : tb p k
    · rw [holesTo_succ_no _ _ h, ih]; simp
    · rw [holesTo_succ_yes _ _ h, sumL_append, ih]; simp [sumL]
theorem weights_at {W : List Int} (h : (W.all fun n => inR n (-1000) 1000) = true) {k : Nat} (hk : k < W.length) : -1000 ≤ gD W 0 k ∧ gD W 0 k ≤ 1000 :=
  inR_iff.1 (List.all_eq_true.1 h _ (gD_mem W 0 k hk))
theorem weightsOk_bd {a b o : Int} {W : List Int} (h : weightsOk a b o W = true) : boardOk a b o = true ∧ (W.length : Int) = a * b ∧ W.length ≤ 49 ∧ ∀ k, k < W.length → -1000 ≤ gD W 0 k ∧ gD W 0 k ≤ 1000 := by
  simp only [weightsOk, Bool.and_eq_true, beq_iff_eq] at h
  have := area (boardOk_sides h.1).1 (boardOk_sides h.1).2
  exact ⟨h.1, h.2.1, by omega, fun k hk => weights_at h.2.2 hk⟩
theorem sumTo_bd {W : List Int} {p : Int} (h : ∀ k, k < W.length → -1000 ≤ gD W 0 k ∧ gD W 0 k ≤ 1000) : ∀ k, k ≤ W.length → -1000 * k ≤ sumTo W p k ∧ sumTo W p k ≤ 1000 * k := by
  intro k
  induction k with
  | zero => intro _; simp [sumTo]
  | succ k ih =>
    intro hk
    have h1 := ih (by omega)
    have h2 := h k (by omega)
    simp only [sumTo]
    split <;> constructor <;> omega
/-- the holes of a position that lie on the board are those below its size -/
theorem holes_pos {a b o p : Int} {W : List Int} (hp : posOk a b o p = true) (hw : (W.length : Int) = a * b) : holesTo p 49 = holesTo p W.length := by
  have hb := (posOk_bd hp).1
  have h1 := area (boardOk_sides hb).1 (boardOk_sides hb).2
  have h2 := boardOk_holes hb
  have h3 : p ≤ o := by
    have h4 := (posOk_bd hp).2.2
    have := band_le_right p o (by omega)
    omega
  have h6 := holesTo_more (p := p) (k := W.length) (posOk_bd hp).2.1 (by rw [hw]; omega) (49 - W.length)
  rw [← h6]
  congr 1
  omega
def brokenAt (W : List Int) (l : Ln) : Bool := decide (gD W 0 l.f.toNat + gD W 0 l.o.toNat < gD W 0 l.t.toNat)
def broken (a b o : Int) (W : List Int) : Bool := weightsOk a b o W && (linesOf a b o).any (brokenAt W)
def falling (a b o : Int) (W : List Int) : Bool := weightsOk a b o W && !broken a b o W
def isProof (a b o : Int) (W : List Int) (p g : Int) : Bool := falling a b o W && (posOk a b o p && (posOk a b o g && decide (sumOf a b o W p < sumOf a b o W g)))
theorem any_no {α : Type} {P : α → Bool} {l : List α} {d : α} {k : Nat} (h : k < l.length) (h0 : (l.take k).any P = false) (h1 : P (gD l d k) = false) : (l.take (k + 1)).any P = false := by
  rw [take_gD l d k h, List.any_append, h0]; simp [h1]
theorem any_yes {α : Type} {P : α → Bool} {l : List α} {d : α} {k : Nat} (h : k < l.length) (h1 : P (gD l d k) = true) : l.any P = true :=
  List.any_eq_true.2 ⟨_, gD_mem l d k h, h1⟩
end Peg
namespace Go.Proofs.YtfmplmlilmalpaaGreat
open Go.ChangeShapes Go.WideShapes Go.ChangeAt Go.RowKit Peg Go.Sort
set_option maxHeartbeats 1000000 in
set_option maxRecDepth 100000 in
theorem WeightsOk_any (a b o : Int) (W : List Int) (v : Value) (w : World) {B : Nat} (hv : Own EInt w B v W) :
    Calls Tryz.prog 88 #[.agg #[.int .i64 a, .int .i64 b, .int .i64 o], v] w fun e w' => e = .returned (.bool (weightsOk a b o W)) ∧ Below w.heap.size w w' := by
  obtain ⟨aW, capW, rfl, hmW, hgetW⟩ := hv.intG
  have HGW := Lib.hid hgetW
  clear hgetW hv
  have HB : Hid (∀ W', Calls Tryz.prog 86 #[.agg #[.int .i64 a, .int .i64 b, .int .i64 o]] W' fun e w' => e = .returned (.bool (boardOk a b o)) ∧ Below W'.heap.size W' w') := fun W' => BoardOk_any a b o W'
  have HF : Hid (weightsOk a b o W = (boardOk a b o && (((W.length : Int) == a * b) && W.all fun n => inR n (-1000) 1000))) := rfl
  cases hb0 : boardOk a b o
  · have HE : Hid (weightsOk a b o W = false) := by show _ = _; rw [HF.out, hb0]; rfl
    rw [hb0] at HB
    clear hb0
    go_enter Tryz.func88, Tryz.ntmps88
    go_wp2_with (go_at_call 86; refine (HB.out _).mono ?_; rintro e w' ⟨rfl, hb⟩; obtain ⟨hc, hf, hz, hy⟩ := bcell hb; clear hy; (try simp only [World.size_alloc, World.size_setCell, World.size_drew] at hz); (try have gQ0 : w.heap.size < w'.heap.size := by omega); (try have gQ1 : w.heap.size + 1 < w'.heap.size := by omega); (try have gQ2 : w.heap.size + 1 + 1 < w'.heap.size := by omega); (try have gQ3 : w.heap.size + 1 + 1 + 1 < w'.heap.size := by omega); (try have gQ4 : w.heap.size + 1 + 1 + 1 + 1 < w'.heap.size := by omega); (try have gQ5 : w.heap.size + 1 + 1 + 1 + 1 + 1 < w'.heap.size := by omega); (try have dQ0 : _ < w'.heap.size := Nat.lt_of_lt_of_le dQ0 (by omega)); (try have dQ1 : _ < w'.heap.size := Nat.lt_of_lt_of_le dQ1 (by omega)); (try have dQ2 : _ < w'.heap.size := Nat.lt_of_lt_of_le dQ2 (by omega)); (try have dQ3 : _ < w'.heap.size := Nat.lt_of_lt_of_le dQ3 (by omega)); (try have dQ4 : _ < w'.heap.size := Nat.lt_of_lt_of_le dQ4 (by omega)); (try have dQ5 : _ < w'.heap.size := Nat.lt_of_lt_of_le dQ5 (by omega)); (try (have hnQ := Nat.lt_of_succ_le hz; first | (have _x := dQ0; first | (have _x := dQ1; first | (have _x := dQ2; first | (have _x := dQ3; first | (have _x := dQ4; have dQ5 := hnQ) | have dQ4 := hnQ) | have dQ3 := hnQ) | have dQ2 := hnQ) | have dQ1 := hnQ) | have dQ0 := hnQ)); (try (have hmQ := Nat.lt_of_succ_lt (Nat.lt_of_succ_le hz); first | (have _x := dQ0; first | (have _x := dQ1; first | (have _x := dQ2; first | (have _x := dQ3; first | (have _x := dQ4; have dQ5 := hmQ) | have dQ4 := hmQ) | have dQ3 := hmQ) | have dQ2 := hmQ) | have dQ1 := hmQ) | have dQ0 := hmQ)))
    all_goals go_ret
    all_goals exact ⟨by simp [HE.out], by (repeat' first | (with_reducible exact Below.refl _ _) | (with_reducible refine Below.alloc ?_ ?_ _) | (with_reducible refine Below.drew ?_) | (with_reducible refine Below.setCell ?_ ?_ _) | (with_reducible refine below_via (by assumption) ?_ ?_) | go_size)⟩
  have har := area (boardOk_sides hb0).1 (boardOk_sides hb0).2
  have hs1 := inR_iff.1 (boardOk_sides hb0).1
  have hs2 := inR_iff.1 (boardOk_sides hb0).2
  rw [hb0] at HB HF
  clear hb0
  have hwr : IntKind.i64.wrap (a * b) = a * b := by rw [IntKind.wrap_i64]; omega
  have HAR := Lib.hid har
  by_cases hl : (W.length : Int) = a * b
  rotate_left
  · have HE : Hid (weightsOk a b o W = false) := by show _ = _; rw [HF.out]; simp [hl]
    have hne : ((W.length : Int) != a * b) = true := by simpa using hl
    go_enter Tryz.func88, Tryz.ntmps88
    go_wp2_with (go_at_call 86; refine (HB.out _).mono ?_; rintro e w' ⟨rfl, hb⟩; obtain ⟨hc, hf, hz, hy⟩ := bcell hb; clear hy; (try simp only [World.size_alloc, World.size_setCell, World.size_drew] at hz); (try have gQ0 : w.heap.size < w'.heap.size := by omega); (try have gQ1 : w.heap.size + 1 < w'.heap.size := by omega); (try have gQ2 : w.heap.size + 1 + 1 < w'.heap.size := by omega); (try have gQ3 : w.heap.size + 1 + 1 + 1 < w'.heap.size := by omega); (try have gQ4 : w.heap.size + 1 + 1 + 1 + 1 < w'.heap.size := by omega); (try have gQ5 : w.heap.size + 1 + 1 + 1 + 1 + 1 < w'.heap.size := by omega); (try have dQ0 : _ < w'.heap.size := Nat.lt_of_lt_of_le dQ0 (by omega)); (try have dQ1 : _ < w'.heap.size := Nat.lt_of_lt_of_le dQ1 (by omega)); (try have dQ2 : _ < w'.heap.size := Nat.lt_of_lt_of_le dQ2 (by omega)); (try have dQ3 : _ < w'.heap.size := Nat.lt_of_lt_of_le dQ3 (by omega)); (try have dQ4 : _ < w'.heap.size := Nat.lt_of_lt_of_le dQ4 (by omega)); (try have dQ5 : _ < w'.heap.size := Nat.lt_of_lt_of_le dQ5 (by omega)); (try (have hnQ := Nat.lt_of_succ_le hz; first | (have _x := dQ0; first | (have _x := dQ1; first | (have _x := dQ2; first | (have _x := dQ3; first | (have _x := dQ4; have dQ5 := hnQ) | have dQ4 := hnQ) | have dQ3 := hnQ) | have dQ2 := hnQ) | have dQ1 := hnQ) | have dQ0 := hnQ)); (try (have hmQ := Nat.lt_of_succ_lt (Nat.lt_of_succ_le hz); first | (have _x := dQ0; first | (have _x := dQ1; first | (have _x := dQ2; first | (have _x := dQ3; first | (have _x := dQ4; have dQ5 := hmQ) | have dQ4 := hmQ) | have dQ3 := hmQ) | have dQ2 := hmQ) | have dQ1 := hmQ) | have dQ0 := hmQ)); (try have sQ00 : (w'.cell? ⟨w.heap.size, 0, none⟩).isSome = true := by simp [go_sem, *]); (try have sQ01 : (w'.cell? ⟨w.heap.size, 1, none⟩).isSome = true := by simp [go_sem, *]); (try have sQ02 : (w'.cell? ⟨w.heap.size, 2, none⟩).isSome = true := by simp [go_sem, *]); (try have sQ03 : (w'.cell? ⟨w.heap.size, 3, none⟩).isSome = true := by simp [go_sem, *]); (try have sQ04 : (w'.cell? ⟨w.heap.size, 4, none⟩).isSome = true := by simp [go_sem, *]); (try have sQ10 : (w'.cell? ⟨w.heap.size + 1, 0, none⟩).isSome = true := by simp [go_sem, *]); (try have sQ11 : (w'.cell? ⟨w.heap.size + 1, 1, none⟩).isSome = true := by simp [go_sem, *]); (try have sQ12 : (w'.cell? ⟨w.heap.size + 1, 2, none⟩).isSome = true := by simp [go_sem, *]); (try have sQ13 : (w'.cell? ⟨w.heap.size + 1, 3, none⟩).isSome = true := by simp [go_sem, *]); (try have sQ14 : (w'.cell? ⟨w.heap.size + 1, 4, none⟩).isSome = true := by simp [go_sem, *]); (try have sQ20 : (w'.cell? ⟨w.heap.size + 1 + 1, 0, none⟩).isSome = true := by simp [go_sem, *]); (try have sQ21 : (w'.cell? ⟨w.heap.size + 1 + 1, 1, none⟩).isSome = true := by simp [go_sem, *]); (try have sQ22 : (w'.cell? ⟨w.heap.size + 1 + 1, 2, none⟩).isSome = true := by simp [go_sem, *]); (try have sQ23 : (w'.cell? ⟨w.heap.size + 1 + 1, 3, none⟩).isSome = true := by simp [go_sem, *]); (try have sQ24 : (w'.cell? ⟨w.heap.size + 1 + 1, 4, none⟩).isSome = true := by simp [go_sem, *]); (try have fQ0 : ∀ j, w'.frozen? ⟨w.heap.size, j, none⟩ = false := by intro j; simp [go_sem, *]); (try have fQ1 : ∀ j, w'.frozen? ⟨w.heap.size + 1, j, none⟩ = false := by intro j; simp [go_sem, *]); (try have fQ2 : ∀ j, w'.frozen? ⟨w.heap.size + 1 + 1, j, none⟩ = false := by intro j; simp [go_sem, *]))
    all_goals go_ret
    all_goals exact ⟨by simp [HE.out], by (repeat' first | (with_reducible exact Below.refl _ _) | (with_reducible refine Below.alloc ?_ ?_ _) | (with_reducible refine Below.drew ?_) | (with_reducible refine Below.setCell ?_ ?_ _) | (with_reducible refine below_via (by assumption) ?_ ?_) | go_size)⟩
  have HFA : Hid (weightsOk a b o W = W.all fun n => inR n (-1000) 1000) := by show _ = _; rw [HF.out]; simp [hl]
  have hne : ((W.length : Int) != a * b) = false := by simpa using hl
  have hlb : W.length ≤ 49 := by omega
  clear hl har
  go_enter Tryz.func88, Tryz.ntmps88
  go_wp2_with (go_at_call 86; refine (HB.out _).mono ?_; rintro e w' ⟨rfl, hb⟩; obtain ⟨hc, hf, hz, hy⟩ := bcell hb; clear hy; (try simp only [World.size_alloc, World.size_setCell, World.size_drew] at hz); (try have gQ0 : w.heap.size < w'.heap.size := by omega); (try have gQ1 : w.heap.size + 1 < w'.heap.size := by omega); (try have gQ2 : w.heap.size + 1 + 1 < w'.heap.size := by omega); (try have gQ3 : w.heap.size + 1 + 1 + 1 < w'.heap.size := by omega); (try have gQ4 : w.heap.size + 1 + 1 + 1 + 1 < w'.heap.size := by omega); (try have gQ5 : w.heap.size + 1 + 1 + 1 + 1 + 1 < w'.heap.size := by omega); (try have dQ0 : _ < w'.heap.size := Nat.lt_of_lt_of_le dQ0 (by omega)); (try have dQ1 : _ < w'.heap.size := Nat.lt_of_lt_of_le dQ1 (by omega)); (try have dQ2 : _ < w'.heap.size := Nat.lt_of_lt_of_le dQ2 (by omega)); (try have dQ3 : _ < w'.heap.size := Nat.lt_of_lt_of_le dQ3 (by omega)); (try have dQ4 : _ < w'.heap.size := Nat.lt_of_lt_of_le dQ4 (by omega)); (try have dQ5 : _ < w'.heap.size := Nat.lt_of_lt_of_le dQ5 (by omega)); (try (have hnQ := Nat.lt_of_succ_le hz; first | (have _x := dQ0; first | (have _x := dQ1; first | (have _x := dQ2; first | (have _x := dQ3; first | (have _x := dQ4; have dQ5 := hnQ) | have dQ4 := hnQ) | have dQ3 := hnQ) | have dQ2 := hnQ) | have dQ1 := hnQ) | have dQ0 := hnQ)); (try (have hmQ := Nat.lt_of_succ_lt (Nat.lt_of_succ_le hz); first | (have _x := dQ0; first | (have _x := dQ1; first | (have _x := dQ2; first | (have _x := dQ3; first | (have _x := dQ4; have dQ5 := hmQ) | have dQ4 := hmQ) | have dQ3 := hmQ) | have dQ2 := hmQ) | have dQ1 := hmQ) | have dQ0 := hmQ)); (try have sQ00 : (w'.cell? ⟨w.heap.size, 0, none⟩).isSome = true := by simp [go_sem, *]); (try have sQ01 : (w'.cell? ⟨w.heap.size, 1, none⟩).isSome = true := by simp [go_sem, *]); (try have sQ02 : (w'.cell? ⟨w.heap.size, 2, none⟩).isSome = true := by simp [go_sem, *]); (try have sQ03 : (w'.cell? ⟨w.heap.size, 3, none⟩).isSome = true := by simp [go_sem, *]); (try have sQ04 : (w'.cell? ⟨w.heap.size, 4, none⟩).isSome = true := by simp [go_sem, *]); (try have sQ10 : (w'.cell? ⟨w.heap.size + 1, 0, none⟩).isSome = true := by simp [go_sem, *]); (try have sQ11 : (w'.cell? ⟨w.heap.size + 1, 1, none⟩).isSome = true := by simp [go_sem, *]); (try have sQ12 : (w'.cell? ⟨w.heap.size + 1, 2, none⟩).isSome = true := by simp [go_sem, *]); (try have sQ13 : (w'.cell? ⟨w.heap.size + 1, 3, none⟩).isSome = true := by simp [go_sem, *]); (try have sQ14 : (w'.cell? ⟨w.heap.size + 1, 4, none⟩).isSome = true := by simp [go_sem, *]); (try have sQ20 : (w'.cell? ⟨w.heap.size + 1 + 1, 0, none⟩).isSome = true := by simp [go_sem, *]); (try have sQ21 : (w'.cell? ⟨w.heap.size + 1 + 1, 1, none⟩).isSome = true := by simp [go_sem, *]); (try have sQ22 : (w'.cell? ⟨w.heap.size + 1 + 1, 2, none⟩).isSome = true := by simp [go_sem, *]); (try have sQ23 : (w'.cell? ⟨w.heap.size + 1 + 1, 3, none⟩).isSome = true := by simp [go_sem, *]); (try have sQ24 : (w'.cell? ⟨w.heap.size + 1 + 1, 4, none⟩).isSome = true := by simp [go_sem, *]); (try have fQ0 : ∀ j, w'.frozen? ⟨w.heap.size, j, none⟩ = false := by intro j; simp [go_sem, *]); (try have fQ1 : ∀ j, w'.frozen? ⟨w.heap.size + 1, j, none⟩ = false := by intro j; simp [go_sem, *]); (try have fQ2 : ∀ j, w'.frozen? ⟨w.heap.size + 1 + 1, j, none⟩ = false := by intro j; simp [go_sem, *]))
  obtain ⟨w3, rfl⟩ : ∃ w3 : World, w3 = w' := ⟨_, rfl⟩
  have HW3 : Hid (Below w.heap.size w w3) := by show Below _ _ _; (repeat' first | (with_reducible exact Below.refl _ _) | (with_reducible refine Below.alloc ?_ ?_ _) | (with_reducible refine Below.drew ?_) | (with_reducible refine Below.setCell ?_ ?_ _) | (with_reducible refine below_via (by assumption) ?_ ?_) | go_size)
  have hz3 := HW3.out.size
  clear hc hf
  go_loopw [22] (fun i wr => ∃ k : Nat, k ≤ W.length ∧ i = .int .i64 k ∧ Hid ((W.take k).all (fun n => inR n (-1000) 1000) = true) ∧ wr = w3) (fun i _ => W.length - (intOf i).toNat)
  case atStart => exact ⟨0, by omega, rfl, by show _ = _; simp, rfl⟩
  case round =>
    obtain ⟨k, hk, rfl, hall, rfl⟩ := hrel
    by_cases hlt : k < W.length
    · obtain ⟨bW, rfl, _, hbW, hcW⟩ := HGW.out k hlt
      rw [← HW3.out.cell (by simpa using hbW)] at hcW
      have gW : bW < wr.heap.size := by omega
      have HY := Lib.hid (fun h => all_take_yes (P := fun n => inR n (-1000) 1000) (l := W) (d := 0) hlt hall.out h)
      have HN := Lib.hid (fun h => all_take_no (P := fun n => inR n (-1000) 1000) (l := W) (d := 0) hlt h)
      have HI : Hid (∀ W', Calls Tryz.prog 35 #[.int .i64 (gD W 0 k), .int .i64 (-1000), .int .i64 1000] W' fun e w' => e = .returned (.bool (inR (gD W 0 k) (-1000) 1000)) ∧ W' = w') := fun W' => within_any _ (-1000) 1000 W'
      generalize gD W 0 k = x at *
      cases hx : inR x (-1000) 1000
      · have HE : Hid (weightsOk a b o W = false) := by show _ = _; rw [HFA.out, HN.out hx]
        rw [hx] at HI
        clear HY HN hx
        go_wp2_with (go_at_call 35; (with_reducible refine (HI.out _).mono ?_); rintro e w' ⟨rfl, rfl⟩)
        go_ret
        exact ⟨by simp [HE.out], HW3.out⟩
      · have HN2 := Lib.hid (HY.out hx)
        rw [hx] at HI
        clear HY HN hx
        go_wp2_with (go_at_call 35; (with_reducible refine (HI.out _).mono ?_); rintro e w' ⟨rfl, rfl⟩)
        go_roundw
        case rel => exact ⟨k + 1, by omega, by go_num, HN2, trivial⟩
        case measure => simp [intOf]; omega
    · obtain rfl : k = W.length := by omega
      have HE : Hid (weightsOk a b o W = true) := by show _ = _; rw [HFA.out]; have := hall.out; rwa [List.take_length] at this
      go_wp2_with fail
      go_ret
      exact ⟨by simp [HE.out], HW3.out⟩
set_option maxHeartbeats 1000000 in
set_option maxRecDepth 100000 in
theorem sWeightsOk_any (a b o : Int) (W : List Int) (v : Value) (w : World) {B : Nat} (hv : Own EInt w B v W) :
    Calls Tryz.prog 98 #[.agg #[.int .i64 a, .int .i64 b, .int .i64 o], v] w fun e w' => e = .returned (.bool (weightsOk a b o W)) ∧ Below w.heap.size w w' := by
  obtain ⟨aW, capW, rfl, hmW, hgetW⟩ := hv.intG
  have HGW := Lib.hid hgetW
  clear hgetW hv
  have HB : Hid (∀ W', Calls Tryz.prog 76 #[.agg #[.int .i64 a, .int .i64 b, .int .i64 o]] W' fun e w' => e = .returned (.bool (boardOk a b o)) ∧ Below W'.heap.size W' w') := fun W' => sBoardOk_any a b o W'
  have HF : Hid (weightsOk a b o W = (boardOk a b o && (((W.length : Int) == a * b) && W.all fun n => inR n (-1000) 1000))) := rfl
  go_enter Tryz.func98, Tryz.ntmps98
  go_wp2_with fail
  go_loopw [5] (fun i wr => ∃ k : Nat, k ≤ W.length ∧ i = .int .i64 k ∧ Hid ((W.take k).all (fun n => inR n (-1000) 1000) = true) ∧ wr = w.alloc (.cells #[.int .i64 a, .int .i64 b, .int .i64 o] 25)) (fun i _ => W.length - (intOf i).toNat)
  case atStart => exact ⟨0, by omega, rfl, by show _ = _; simp, rfl⟩
  case round =>
    obtain ⟨k, hk, rfl, hall, rfl⟩ := hrel
    by_cases hlt : k < W.length
    · obtain ⟨bW, rfl, _, hbW, hcW⟩ := HGW.out k hlt
      have HY := Lib.hid (fun h => all_take_yes (P := fun n => inR n (-1000) 1000) (l := W) (d := 0) hlt hall.out h)
      have HN := Lib.hid (fun h => all_take_no (P := fun n => inR n (-1000) 1000) (l := W) (d := 0) hlt h)
      have HI : Hid (∀ W', Calls Tryz.prog 63 #[.int .i64 (gD W 0 k), .int .i64 (-1000), .int .i64 1000] W' fun e w' => e = .returned (.bool (inR (gD W 0 k) (-1000) 1000)) ∧ W' = w') := fun W' => l01In_any _ (-1000) 1000 W'
      generalize gD W 0 k = x at *
      cases hx : inR x (-1000) 1000
      · have HE : Hid (weightsOk a b o W = false) := by show _ = _; rw [HF.out, HN.out hx]; simp
        rw [hx] at HI
        clear HY HN hx
        go_wp2_with (go_at_call 63; (with_reducible refine (HI.out _).mono ?_); rintro e w' ⟨rfl, rfl⟩)
        go_ret
        exact ⟨by simp [HE.out], by (repeat' first | (with_reducible exact Below.refl _ _) | (with_reducible refine Below.alloc ?_ ?_ _) | (with_reducible refine Below.drew ?_) | (with_reducible refine Below.setCell ?_ ?_ _) | (with_reducible refine below_via (by assumption) ?_ ?_) | go_size)⟩
      · have HN2 := Lib.hid (HY.out hx)
        rw [hx] at HI
        clear HY HN hx
        go_wp2_with (go_at_call 63; (with_reducible refine (HI.out _).mono ?_); rintro e w' ⟨rfl, rfl⟩)
        go_roundw
        case rel => exact ⟨k + 1, by omega, by go_num, HN2, trivial⟩
        case measure => simp [intOf]; omega
    · obtain rfl : k = W.length := by omega
      have hA : (W.all fun n => inR n (-1000) 1000) = true := by have := hall.out; rwa [List.take_length] at this
      rw [hA] at HF
      clear hA
      cases hb0 : boardOk a b o
      · have HE : Hid (weightsOk a b o W = false) := by show _ = _; rw [HF.out, hb0]; rfl
        rw [hb0] at HB
        clear hb0
        go_wp2_with (go_at_call 76; refine (HB.out _).mono ?_; rintro e w' ⟨rfl, hb⟩; obtain ⟨hc, hf, hz, hy⟩ := bcell hb; clear hy; (try simp only [World.size_alloc, World.size_setCell, World.size_drew] at hz); (try have gQ0 : w.heap.size < w'.heap.size := by omega); (try have gQ1 : w.heap.size + 1 < w'.heap.size := by omega); (try have gQ2 : w.heap.size + 1 + 1 < w'.heap.size := by omega); (try have gQ3 : w.heap.size + 1 + 1 + 1 < w'.heap.size := by omega); (try have gQ4 : w.heap.size + 1 + 1 + 1 + 1 < w'.heap.size := by omega); (try have gQ5 : w.heap.size + 1 + 1 + 1 + 1 + 1 < w'.heap.size := by omega); (try have dQ0 : _ < w'.heap.size := Nat.lt_of_lt_of_le dQ0 (by omega)); (try have dQ1 : _ < w'.heap.size := Nat.lt_of_lt_of_le dQ1 (by omega)); (try have dQ2 : _ < w'.heap.size := Nat.lt_of_lt_of_le dQ2 (by omega)); (try have dQ3 : _ < w'.heap.size := Nat.lt_of_lt_of_le dQ3 (by omega)); (try have dQ4 : _ < w'.heap.size := Nat.lt_of_lt_of_le dQ4 (by omega)); (try have dQ5 : _ < w'.heap.size := Nat.lt_of_lt_of_le dQ5 (by omega)); (try (have hnQ := Nat.lt_of_succ_le hz; first | (have _x := dQ0; first | (have _x := dQ1; first | (have _x := dQ2; first | (have _x := dQ3; first | (have _x := dQ4; have dQ5 := hnQ) | have dQ4 := hnQ) | have dQ3 := hnQ) | have dQ2 := hnQ) | have dQ1 := hnQ) | have dQ0 := hnQ)); (try (have hmQ := Nat.lt_of_succ_lt (Nat.lt_of_succ_le hz); first | (have _x := dQ0; first | (have _x := dQ1; first | (have _x := dQ2; first | (have _x := dQ3; first | (have _x := dQ4; have dQ5 := hmQ) | have dQ4 := hmQ) | have dQ3 := hmQ) | have dQ2 := hmQ) | have dQ1 := hmQ) | have dQ0 := hmQ)))
        all_goals go_ret
        all_goals exact ⟨by simp [HE.out], by (repeat' first | (with_reducible exact Below.refl _ _) | (with_reducible refine Below.alloc ?_ ?_ _) | (with_reducible refine Below.drew ?_) | (with_reducible refine Below.setCell ?_ ?_ _) | (with_reducible refine below_via (by assumption) ?_ ?_) | go_size)⟩
      have har := area (boardOk_sides hb0).1 (boardOk_sides hb0).2
      have hs1 := inR_iff.1 (boardOk_sides hb0).1
      have hs2 := inR_iff.1 (boardOk_sides hb0).2
      rw [hb0] at HB HF
      clear hb0
      have hwr : IntKind.i64.wrap (a * b) = a * b := by rw [IntKind.wrap_i64]; omega
      have HE : Hid (weightsOk a b o W = ((W.length : Int) == a * b)) := by show _ = _; rw [HF.out]; simp
      clear har
      go_wp2_with (go_at_call 76; refine (HB.out _).mono ?_; rintro e w' ⟨rfl, hb⟩; obtain ⟨hc, hf, hz, hy⟩ := bcell hb; clear hy; (try simp only [World.size_alloc, World.size_setCell, World.size_drew] at hz); (try have gQ0 : w.heap.size < w'.heap.size := by omega); (try have gQ1 : w.heap.size + 1 < w'.heap.size := by omega); (try have gQ2 : w.heap.size + 1 + 1 < w'.heap.size := by omega); (try have gQ3 : w.heap.size + 1 + 1 + 1 < w'.heap.size := by omega); (try have gQ4 : w.heap.size + 1 + 1 + 1 + 1 < w'.heap.size := by omega); (try have gQ5 : w.heap.size + 1 + 1 + 1 + 1 + 1 < w'.heap.size := by omega); (try have dQ0 : _ < w'.heap.size := Nat.lt_of_lt_of_le dQ0 (by omega)); (try have dQ1 : _ < w'.heap.size := Nat.lt_of_lt_of_le dQ1 (by omega)); (try have dQ2 : _ < w'.heap.size := Nat.lt_of_lt_of_le dQ2 (by omega)); (try have dQ3 : _ < w'.heap.size := Nat.lt_of_lt_of_le dQ3 (by omega)); (try have dQ4 : _ < w'.heap.size := Nat.lt_of_lt_of_le dQ4 (by omega)); (try have dQ5 : _ < w'.heap.size := Nat.lt_of_lt_of_le dQ5 (by omega)); (try (have hnQ := Nat.lt_of_succ_le hz; first | (have _x := dQ0; first | (have _x := dQ1; first | (have _x := dQ2; first | (have _x := dQ3; first | (have _x := dQ4; have dQ5 := hnQ) | have dQ4 := hnQ) | have dQ3 := hnQ) | have dQ2 := hnQ) | have dQ1 := hnQ) | have dQ0 := hnQ)); (try (have hmQ := Nat.lt_of_succ_lt (Nat.lt_of_succ_le hz); first | (have _x := dQ0; first | (have _x := dQ1; first | (have _x := dQ2; first | (have _x := dQ3; first | (have _x := dQ4; have dQ5 := hmQ) | have dQ4 := hmQ) | have dQ3 := hmQ) | have dQ2 := hmQ) | have dQ1 := hmQ) | have dQ0 := hmQ)); (try have sQ00 : (w'.cell? ⟨w.heap.size, 0, none⟩).isSome = true := by simp [go_sem, *]); (try have sQ01 : (w'.cell? ⟨w.heap.size, 1, none⟩).isSome = true := by simp [go_sem, *]); (try have sQ02 : (w'.cell? ⟨w.heap.size, 2, none⟩).isSome = true := by simp [go_sem, *]); (try have sQ03 : (w'.cell? ⟨w.heap.size, 3, none⟩).isSome = true := by simp [go_sem, *]); (try have sQ04 : (w'.cell? ⟨w.heap.size, 4, none⟩).isSome = true := by simp [go_sem, *]); (try have sQ10 : (w'.cell? ⟨w.heap.size + 1, 0, none⟩).isSome = true := by simp [go_sem, *]); (try have sQ11 : (w'.cell? ⟨w.heap.size + 1, 1, none⟩).isSome = true := by simp [go_sem, *]); (try have sQ12 : (w'.cell? ⟨w.heap.size + 1, 2, none⟩).isSome = true := by simp [go_sem, *]); (try have sQ13 : (w'.cell? ⟨w.heap.size + 1, 3, none⟩).isSome = true := by simp [go_sem, *]); (try have sQ14 : (w'.cell? ⟨w.heap.size + 1, 4, none⟩).isSome = true := by simp [go_sem, *]); (try have sQ20 : (w'.cell? ⟨w.heap.size + 1 + 1, 0, none⟩).isSome = true := by simp [go_sem, *]); (try have sQ21 : (w'.cell? ⟨w.heap.size + 1 + 1, 1, none⟩).isSome = true := by simp [go_sem, *]); (try have sQ22 : (w'.cell? ⟨w.heap.size + 1 + 1, 2, none⟩).isSome = true := by simp [go_sem, *]); (try have sQ23 : (w'.cell? ⟨w.heap.size + 1 + 1, 3, none⟩).isSome = true := by simp [go_sem, *]); (try have sQ24 : (w'.cell? ⟨w.heap.size + 1 + 1, 4, none⟩).isSome = true := by simp [go_sem, *]); (try have fQ0 : ∀ j, w'.frozen? ⟨w.heap.size, j, none⟩ = false := by intro j; simp [go_sem, *]); (try have fQ1 : ∀ j, w'.frozen? ⟨w.heap.size + 1, j, none⟩ = false := by intro j; simp [go_sem, *]); (try have fQ2 : ∀ j, w'.frozen? ⟨w.heap.size + 1 + 1, j, none⟩ = false := by intro j; simp [go_sem, *]))
      all_goals go_ret
      all_goals exact ⟨by simp [HE.out], by (repeat' first | (with_reducible exact Below.refl _ _) | (with_reducible refine Below.alloc ?_ ?_ _) | (with_reducible refine Below.drew ?_) | (with_reducible refine Below.setCell ?_ ?_ _) | (with_reducible refine below_via (by assumption) ?_ ?_) | go_size)⟩
set_option maxHeartbeats 1000000 in
set_option maxRecDepth 100000 in
theorem SumOf_any (a b o : Int) (W : List Int) (p : Int) (v : Value) (hp : p ≤ 9223372036854775807) (w : World) {B : Nat} (hv : Own EInt w B v W) :
    Calls Tryz.prog 53 #[.agg #[.int .i64 a, .int .i64 b, .int .i64 o], v, .int .i64 p] w fun e w' => e = .returned (.int .i64 (sumOf a b o W p)) ∧ Below w.heap.size w w' := by
  have HV := Lib.hid (fun w' (hb : Below w.heap.size w w') => hv.keep hb)
  obtain ⟨aW, capW, rfl, hmW, hgetW⟩ := hv.intG
  have HGW := Lib.hid hgetW
  clear hgetW hv
  have HW : Hid (∀ W', Own EInt W' B (.slice aW W.length capW) W → Calls Tryz.prog 88 #[.agg #[.int .i64 a, .int .i64 b, .int .i64 o], .slice aW W.length capW] W' fun e w' => e = .returned (.bool (weightsOk a b o W)) ∧ Below W'.heap.size W' w') := fun W' hW => WeightsOk_any a b o W _ W' hW
  have HP : Hid (∀ W', Calls Tryz.prog 50 #[.agg #[.int .i64 a, .int .i64 b, .int .i64 o], .int .i64 p] W' fun e w' => e = .returned (.bool (posOk a b o p)) ∧ Below W'.heap.size W' w') := fun W' => PositionOk_any a b o p hp W'
  have HF : Hid (sumOf a b o W p = if weightsOk a b o W = true then if posOk a b o p = true then sumTo W p W.length else 0 else 0) := rfl
  cases hwk : weightsOk a b o W
  · have HE : Hid (sumOf a b o W p = 0) := by show _ = _; rw [HF.out, hwk]; rfl
    rw [hwk] at HW
    clear hwk
    go_enter Tryz.func53, Tryz.ntmps53
    go_wp2_with (go_at_call 88; refine (HW.out _ (HV.out _ (by (repeat' first | (with_reducible exact Below.refl _ _) | (with_reducible refine Below.alloc ?_ ?_ _) | (with_reducible refine Below.drew ?_) | (with_reducible refine Below.setCell ?_ ?_ _) | (with_reducible refine below_via (by assumption) ?_ ?_) | go_size)))).mono ?_; rintro e w' ⟨rfl, hb⟩; obtain ⟨hc, hf, hz, hy⟩ := bcell hb; clear hy; (try simp only [World.size_alloc, World.size_setCell, World.size_drew] at hz); (try have gQ0 : w.heap.size < w'.heap.size := by omega); (try have gQ1 : w.heap.size + 1 < w'.heap.size := by omega); (try have gQ2 : w.heap.size + 1 + 1 < w'.heap.size := by omega); (try have gQ3 : w.heap.size + 1 + 1 + 1 < w'.heap.size := by omega); (try have gQ4 : w.heap.size + 1 + 1 + 1 + 1 < w'.heap.size := by omega); (try have gQ5 : w.heap.size + 1 + 1 + 1 + 1 + 1 < w'.heap.size := by omega); (try have dQ0 : _ < w'.heap.size := Nat.lt_of_lt_of_le dQ0 (by omega)); (try have dQ1 : _ < w'.heap.size := Nat.lt_of_lt_of_le dQ1 (by omega)); (try have dQ2 : _ < w'.heap.size := Nat.lt_of_lt_of_le dQ2 (by omega)); (try have dQ3 : _ < w'.heap.size := Nat.lt_of_lt_of_le dQ3 (by omega)); (try have dQ4 : _ < w'.heap.size := Nat.lt_of_lt_of_le dQ4 (by omega)); (try have dQ5 : _ < w'.heap.size := Nat.lt_of_lt_of_le dQ5 (by omega)); (try (have hnQ := Nat.lt_of_succ_le hz; first | (have _x := dQ0; first | (have _x := dQ1; first | (have _x := dQ2; first | (have _x := dQ3; first | (have _x := dQ4; have dQ5 := hnQ) | have dQ4 := hnQ) | have dQ3 := hnQ) | have dQ2 := hnQ) | have dQ1 := hnQ) | have dQ0 := hnQ)); (try (have hmQ := Nat.lt_of_succ_lt (Nat.lt_of_succ_le hz); first | (have _x := dQ0; first | (have _x := dQ1; first | (have _x := dQ2; first | (have _x := dQ3; first | (have _x := dQ4; have dQ5 := hmQ) | have dQ4 := hmQ) | have dQ3 := hmQ) | have dQ2 := hmQ) | have dQ1 := hmQ) | have dQ0 := hmQ)))
    all_goals go_ret
    all_goals exact ⟨by simp [HE.out], by (repeat' first | (with_reducible exact Below.refl _ _) | (with_reducible refine Below.alloc ?_ ?_ _) | (with_reducible refine Below.drew ?_) | (with_reducible refine Below.setCell ?_ ?_ _) | (with_reducible refine below_via (by assumption) ?_ ?_) | go_size)⟩
  obtain ⟨hb0, hWl, hW49, hWb⟩ := weightsOk_bd hwk
  rw [hwk] at HW HF
  cases hpk : posOk a b o p
  · have HE : Hid (sumOf a b o W p = 0) := by show _ = _; rw [HF.out, hpk]; rfl
    rw [hpk] at HP
    clear hpk hwk hWb
    go_enter Tryz.func53, Tryz.ntmps53
    go_wp2_with (first | (go_at_call 88; refine (HW.out _ (HV.out _ (by (repeat' first | (with_reducible exact Below.refl _ _) | (with_reducible refine Below.alloc ?_ ?_ _) | (with_reducible refine Below.drew ?_) | (with_reducible refine Below.setCell ?_ ?_ _) | (with_reducible refine below_via (by assumption) ?_ ?_) | go_size)))).mono ?_; rintro e w' ⟨rfl, hb⟩; obtain ⟨hc, hf, hz, hy⟩ := bcell hb; clear hy; (try simp only [World.size_alloc, World.size_setCell, World.size_drew] at hz); (try have gQ0 : w.heap.size < w'.heap.size := by omega); (try have gQ1 : w.heap.size + 1 < w'.heap.size := by omega); (try have gQ2 : w.heap.size + 1 + 1 < w'.heap.size := by omega); (try have gQ3 : w.heap.size + 1 + 1 + 1 < w'.heap.size := by omega); (try have gQ4 : w.heap.size + 1 + 1 + 1 + 1 < w'.heap.size := by omega); (try have gQ5 : w.heap.size + 1 + 1 + 1 + 1 + 1 < w'.heap.size := by omega); (try have dQ0 : _ < w'.heap.size := Nat.lt_of_lt_of_le dQ0 (by omega)); (try have dQ1 : _ < w'.heap.size := Nat.lt_of_lt_of_le dQ1 (by omega)); (try have dQ2 : _ < w'.heap.size := Nat.lt_of_lt_of_le dQ2 (by omega)); (try have dQ3 : _ < w'.heap.size := Nat.lt_of_lt_of_le dQ3 (by omega)); (try have dQ4 : _ < w'.heap.size := Nat.lt_of_lt_of_le dQ4 (by omega)); (try have dQ5 : _ < w'.heap.size := Nat.lt_of_lt_of_le dQ5 (by omega)); (try (have hnQ := Nat.lt_of_succ_le hz; first | (have _x := dQ0; first | (have _x := dQ1; first | (have _x := dQ2; first | (have _x := dQ3; first | (have _x := dQ4; have dQ5 := hnQ) | have dQ4 := hnQ) | have dQ3 := hnQ) | have dQ2 := hnQ) | have dQ1 := hnQ) | have dQ0 := hnQ)); (try (have hmQ := Nat.lt_of_succ_lt (Nat.lt_of_succ_le hz); first | (have _x := dQ0; first | (have _x := dQ1; first | (have _x := dQ2; first | (have _x := dQ3; first | (have _x := dQ4; have dQ5 := hmQ) | have dQ4 := hmQ) | have dQ3 := hmQ) | have dQ2 := hmQ) | have dQ1 := hmQ) | have dQ0 := hmQ))) | (go_at_call 50; refine (HP.out _).mono ?_; rintro e w' ⟨rfl, hb⟩; obtain ⟨hc, hf, hz, hy⟩ := bcell hb; clear hy; (try simp only [World.size_alloc, World.size_setCell, World.size_drew] at hz); (try have gQ0 : w.heap.size < w'.heap.size := by omega); (try have gQ1 : w.heap.size + 1 < w'.heap.size := by omega); (try have gQ2 : w.heap.size + 1 + 1 < w'.heap.size := by omega); (try have gQ3 : w.heap.size + 1 + 1 + 1 < w'.heap.size := by omega); (try have gQ4 : w.heap.size + 1 + 1 + 1 + 1 < w'.heap.size := by omega); (try have gQ5 : w.heap.size + 1 + 1 + 1 + 1 + 1 < w'.heap.size := by omega); (try have dQ0 : _ < w'.heap.size := Nat.lt_of_lt_of_le dQ0 (by omega)); (try have dQ1 : _ < w'.heap.size := Nat.lt_of_lt_of_le dQ1 (by omega)); (try have dQ2 : _ < w'.heap.size := Nat.lt_of_lt_of_le dQ2 (by omega)); (try have dQ3 : _ < w'.heap.size := Nat.lt_of_lt_of_le dQ3 (by omega)); (try have dQ4 : _ < w'.heap.size := Nat.lt_of_lt_of_le dQ4 (by omega)); (try have dQ5 : _ < w'.heap.size := Nat.lt_of_lt_of_le dQ5 (by omega)); (try (have hnQ := Nat.lt_of_succ_le hz; first | (have _x := dQ0; first | (have _x := dQ1; first | (have _x := dQ2; first | (have _x := dQ3; first | (have _x := dQ4; have dQ5 := hnQ) | have dQ4 := hnQ) | have dQ3 := hnQ) | have dQ2 := hnQ) | have dQ1 := hnQ) | have dQ0 := hnQ)); (try (have hmQ := Nat.lt_of_succ_lt (Nat.lt_of_succ_le hz); first | (have _x := dQ0; first | (have _x := dQ1; first | (have _x := dQ2; first | (have _x := dQ3; first | (have _x := dQ4; have dQ5 := hmQ) | have dQ4 := hmQ) | have dQ3 := hmQ) | have dQ2 := hmQ) | have dQ1 := hmQ) | have dQ0 := hmQ))))
    all_goals go_ret
    all_goals exact ⟨by simp [HE.out], by (repeat' first | (with_reducible exact Below.refl _ _) | (with_reducible refine Below.alloc ?_ ?_ _) | (with_reducible refine Below.drew ?_) | (with_reducible refine Below.setCell ?_ ?_ _) | (with_reducible refine below_via (by assumption) ?_ ?_) | go_size)⟩
  have HE : Hid (sumOf a b o W p = sumTo W p W.length) := by show _ = _; rw [HF.out, hpk]; rfl
  have hpb := pos_lt hpk
  have HSB := Lib.hid (sumTo_bd (p := p) hWb)
  have HWB := Lib.hid hWb
  rw [hpk] at HP
  clear hpk hwk hWb hb0 hWl
  go_enter Tryz.func53, Tryz.ntmps53
  go_wp2_with (first | (go_at_call 88; refine (HW.out _ (HV.out _ (by (repeat' first | (with_reducible exact Below.refl _ _) | (with_reducible refine Below.alloc ?_ ?_ _) | (with_reducible refine Below.drew ?_) | (with_reducible refine Below.setCell ?_ ?_ _) | (with_reducible refine below_via (by assumption) ?_ ?_) | go_size)))).mono ?_; rintro e w' ⟨rfl, hb⟩; obtain ⟨hc, hf, hz, hy⟩ := bcell hb; clear hy; (try simp only [World.size_alloc, World.size_setCell, World.size_drew] at hz); (try have gQ0 : w.heap.size < w'.heap.size := by omega); (try have gQ1 : w.heap.size + 1 < w'.heap.size := by omega); (try have gQ2 : w.heap.size + 1 + 1 < w'.heap.size := by omega); (try have gQ3 : w.heap.size + 1 + 1 + 1 < w'.heap.size := by omega); (try have gQ4 : w.heap.size + 1 + 1 + 1 + 1 < w'.heap.size := by omega); (try have gQ5 : w.heap.size + 1 + 1 + 1 + 1 + 1 < w'.heap.size := by omega); (try have dQ0 : _ < w'.heap.size := Nat.lt_of_lt_of_le dQ0 (by omega)); (try have dQ1 : _ < w'.heap.size := Nat.lt_of_lt_of_le dQ1 (by omega)); (try have dQ2 : _ < w'.heap.size := Nat.lt_of_lt_of_le dQ2 (by omega)); (try have dQ3 : _ < w'.heap.size := Nat.lt_of_lt_of_le dQ3 (by omega)); (try have dQ4 : _ < w'.heap.size := Nat.lt_of_lt_of_le dQ4 (by omega)); (try have dQ5 : _ < w'.heap.size := Nat.lt_of_lt_of_le dQ5 (by omega)); (try (have hnQ := Nat.lt_of_succ_le hz; first | (have _x := dQ0; first | (have _x := dQ1; first | (have _x := dQ2; first | (have _x := dQ3; first | (have _x := dQ4; have dQ5 := hnQ) | have dQ4 := hnQ) | have dQ3 := hnQ) | have dQ2 := hnQ) | have dQ1 := hnQ) | have dQ0 := hnQ)); (try (have hmQ := Nat.lt_of_succ_lt (Nat.lt_of_succ_le hz); first | (have _x := dQ0; first | (have _x := dQ1; first | (have _x := dQ2; first | (have _x := dQ3; first | (have _x := dQ4; have dQ5 := hmQ) | have dQ4 := hmQ) | have dQ3 := hmQ) | have dQ2 := hmQ) | have dQ1 := hmQ) | have dQ0 := hmQ))) | (go_at_call 50; refine (HP.out _).mono ?_; rintro e w' ⟨rfl, hb⟩; obtain ⟨hc, hf, hz, hy⟩ := bcell hb; clear hy; (try simp only [World.size_alloc, World.size_setCell, World.size_drew] at hz); (try have gQ0 : w.heap.size < w'.heap.size := by omega); (try have gQ1 : w.heap.size + 1 < w'.heap.size := by omega); (try have gQ2 : w.heap.size + 1 + 1 < w'.heap.size := by omega); (try have gQ3 : w.heap.size + 1 + 1 + 1 < w'.heap.size := by omega); (try have gQ4 : w.heap.size + 1 + 1 + 1 + 1 < w'.heap.size := by omega); (try have gQ5 : w.heap.size + 1 + 1 + 1 + 1 + 1 < w'.heap.size := by omega); (try have dQ0 : _ < w'.heap.size := Nat.lt_of_lt_of_le dQ0 (by omega)); (try have dQ1 : _ < w'.heap.size := Nat.lt_of_lt_of_le dQ1 (by omega)); (try have dQ2 : _ < w'.heap.size := Nat.lt_of_lt_of_le dQ2 (by omega)); (try have dQ3 : _ < w'.heap.size := Nat.lt_of_lt_of_le dQ3 (by omega)); (try have dQ4 : _ < w'.heap.size := Nat.lt_of_lt_of_le dQ4 (by omega)); (try have dQ5 : _ < w'.heap.size := Nat.lt_of_lt_of_le dQ5 (by omega)); (try (have hnQ := Nat.lt_of_succ_le hz; first | (have _x := dQ0; first | (have _x := dQ1; first | (have _x := dQ2; first | (have _x := dQ3; first | (have _x := dQ4; have dQ5 := hnQ) | have dQ4 := hnQ) | have dQ3 := hnQ) | have dQ2 := hnQ) | have dQ1 := hnQ) | have dQ0 := hnQ)); (try (have hmQ := Nat.lt_of_succ_lt (Nat.lt_of_succ_le hz); first | (have _x := dQ0; first | (have _x := dQ1; first | (have _x := dQ2; first | (have _x := dQ3; first | (have _x := dQ4; have dQ5 := hmQ) | have dQ4 := hmQ) | have dQ3 := hmQ) | have dQ2 := hmQ) | have dQ1 := hmQ) | have dQ0 := hmQ))))
  obtain ⟨w3, rfl⟩ : ∃ w3 : World, w3 = w' := ⟨_, rfl⟩
  have HW3 : Hid (Below w.heap.size w w3) := by show Below _ _ _; (repeat' first | (with_reducible exact Below.refl _ _) | (with_reducible refine Below.alloc ?_ ?_ _) | (with_reducible refine Below.drew ?_) | (with_reducible refine Below.setCell ?_ ?_ _) | (with_reducible refine below_via (by assumption) ?_ ?_) | go_size)
  have hz3 := HW3.out.size
  clear hc hf
  go_loopw [7, 22] (fun s i wr => ∃ k : Nat, k ≤ W.length ∧ i = .int .i64 k ∧ s = .int .i64 (sumTo W p k) ∧ wr = w3) (fun _ i _ => W.length - (intOf i).toNat)
  case atStart => exact ⟨0, by omega, rfl, rfl, rfl⟩
  case round =>
    obtain ⟨k, hk, rfl, rfl, rfl⟩ := hrel
    by_cases hlt : k < W.length
    · obtain ⟨bW, rfl, _, hbW, hcW⟩ := HGW.out k hlt
      rw [← HW3.out.cell (by simpa using hbW)] at hcW
      have gW : bW < wr.heap.size := by omega
      have hx := HWB.out k hlt
      have hsb := HSB.out k hk
      have HSS : Hid (sumTo W p (k + 1) = sumTo W p k + if tb p k = true then gD W 0 k else 0) := rfl
      have HT : Hid (∀ W', Calls Tryz.prog 89 #[.int .i64 p, .int .i64 k] W' fun e w' => e = .returned (.bool (tb p k)) ∧ W' = w') := fun W' => hasBit_any p k hpb.1 hp (by omega) W'
      generalize gD W 0 k = x at *
      generalize sumTo W p k = S at *
      cases ht : tb p k
      all_goals
        have HN : Hid _ := HSS.out
        rw [ht] at HN HT
        simp only [Bool.false_eq_true, if_false, if_true, Int.add_zero] at HN
        clear ht HSS
        go_wp2_with (go_at_call 89; (with_reducible refine (HT.out _).mono ?_); rintro e w' ⟨rfl, rfl⟩)
        go_roundw
        case rel => exact ⟨k + 1, by omega, by go_num, by rw [HN.out], trivial⟩
        case measure => simp [intOf]; omega
    · obtain rfl : k = W.length := by omega
      go_wp2_with fail
      go_ret
      exact ⟨by simp [HE.out], HW3.out⟩
set_option maxHeartbeats 1000000 in
set_option maxRecDepth 100000 in
theorem sSumOf_any (a b o : Int) (W : List Int) (p : Int) (v : Value) (hp : p ≤ 9223372036854775807) (w : World) {B : Nat} (hv : Own EInt w B v W) :
    Calls Tryz.prog 65 #[.agg #[.int .i64 a, .int .i64 b, .int .i64 o], v, .int .i64 p] w fun e w' => e = .returned (.int .i64 (sumOf a b o W p)) ∧ Below w.heap.size w w' := by
  have HV := Lib.hid (fun w' (hb : Below w.heap.size w w') => hv.keep hb)
  obtain ⟨aW, capW, rfl, hmW, hgetW⟩ := hv.intG
  have HGW := Lib.hid hgetW
  clear hgetW hv
  have HW : Hid (∀ W', Own EInt W' B (.slice aW W.length capW) W → Calls Tryz.prog 98 #[.agg #[.int .i64 a, .int .i64 b, .int .i64 o], .slice aW W.length capW] W' fun e w' => e = .returned (.bool (weightsOk a b o W)) ∧ Below W'.heap.size W' w') := fun W' hW => sWeightsOk_any a b o W _ W' hW
  have HP : Hid (∀ W', Calls Tryz.prog 40 #[.agg #[.int .i64 a, .int .i64 b, .int .i64 o], .int .i64 p] W' fun e w' => e = .returned (.bool (posOk a b o p)) ∧ Below W'.heap.size W' w') := fun W' => sPositionOk_any a b o p hp W'
  have HF : Hid (sumOf a b o W p = if weightsOk a b o W = true then if posOk a b o p = true then sumTo W p W.length else 0 else 0) := rfl
  cases hwk : weightsOk a b o W
  · have HE : Hid (sumOf a b o W p = 0) := by show _ = _; rw [HF.out, hwk]; rfl
    rw [hwk] at HW
    clear hwk
    go_enter Tryz.func65, Tryz.ntmps65
    go_wp2_with (go_at_call 98; refine (HW.out _ (HV.out _ (by (repeat' first | (with_reducible exact Below.refl _ _) | (with_reducible refine Below.alloc ?_ ?_ _) | (with_reducible refine Below.drew ?_) | (with_reducible refine Below.setCell ?_ ?_ _) | (with_reducible refine below_via (by assumption) ?_ ?_) | go_size)))).mono ?_; rintro e w' ⟨rfl, hb⟩; obtain ⟨hc, hf, hz, hy⟩ := bcell hb; clear hy; (try simp only [World.size_alloc, World.size_setCell, World.size_drew] at hz); (try have gQ0 : w.heap.size < w'.heap.size := by omega); (try have gQ1 : w.heap.size + 1 < w'.heap.size := by omega); (try have gQ2 : w.heap.size + 1 + 1 < w'.heap.size := by omega); (try have gQ3 : w.heap.size + 1 + 1 + 1 < w'.heap.size := by omega); (try have gQ4 : w.heap.size + 1 + 1 + 1 + 1 < w'.heap.size := by omega); (try have gQ5 : w.heap.size + 1 + 1 + 1 + 1 + 1 < w'.heap.size := by omega); (try have dQ0 : _ < w'.heap.size := Nat.lt_of_lt_of_le dQ0 (by omega)); (try have dQ1 : _ < w'.heap.size := Nat.lt_of_lt_of_le dQ1 (by omega)); (try have dQ2 : _ < w'.heap.size := Nat.lt_of_lt_of_le dQ2 (by omega)); (try have dQ3 : _ < w'.heap.size := Nat.lt_of_lt_of_le dQ3 (by omega)); (try have dQ4 : _ < w'.heap.size := Nat.lt_of_lt_of_le dQ4 (by omega)); (try have dQ5 : _ < w'.heap.size := Nat.lt_of_lt_of_le dQ5 (by omega)); (try (have hnQ := Nat.lt_of_succ_le hz; first | (have _x := dQ0; first | (have _x := dQ1; first | (have _x := dQ2; first | (have _x := dQ3; first | (have _x := dQ4; have dQ5 := hnQ) | have dQ4 := hnQ) | have dQ3 := hnQ) | have dQ2 := hnQ) | have dQ1 := hnQ) | have dQ0 := hnQ)); (try (have hmQ := Nat.lt_of_succ_lt (Nat.lt_of_succ_le hz); first | (have _x := dQ0; first | (have _x := dQ1; first | (have _x := dQ2; first | (have _x := dQ3; first | (have _x := dQ4; have dQ5 := hmQ) | have dQ4 := hmQ) | have dQ3 := hmQ) | have dQ2 := hmQ) | have dQ1 := hmQ) | have dQ0 := hmQ)))
    all_goals go_ret
    all_goals exact ⟨by simp [HE.out], by (repeat' first | (with_reducible exact Below.refl _ _) | (with_reducible refine Below.alloc ?_ ?_ _) | (with_reducible refine Below.drew ?_) | (with_reducible refine Below.setCell ?_ ?_ _) | (with_reducible refine below_via (by assumption) ?_ ?_) | go_size)⟩
  obtain ⟨hb0, hWl, hW49, hWb⟩ := weightsOk_bd hwk
  rw [hwk] at HW HF
  cases hpk : posOk a b o p
  · have HE : Hid (sumOf a b o W p = 0) := by show _ = _; rw [HF.out, hpk]; rfl
    rw [hpk] at HP
    clear hpk hwk hWb
    go_enter Tryz.func65, Tryz.ntmps65
    go_wp2_with (first | (go_at_call 98; refine (HW.out _ (HV.out _ (by (repeat' first | (with_reducible exact Below.refl _ _) | (with_reducible refine Below.alloc ?_ ?_ _) | (with_reducible refine Below.drew ?_) | (with_reducible refine Below.setCell ?_ ?_ _) | (with_reducible refine below_via (by assumption) ?_ ?_) | go_size)))).mono ?_; rintro e w' ⟨rfl, hb⟩; obtain ⟨hc, hf, hz, hy⟩ := bcell hb; clear hy; (try simp only [World.size_alloc, World.size_setCell, World.size_drew] at hz); (try have gQ0 : w.heap.size < w'.heap.size := by omega); (try have gQ1 : w.heap.size + 1 < w'.heap.size := by omega); (try have gQ2 : w.heap.size + 1 + 1 < w'.heap.size := by omega); (try have gQ3 : w.heap.size + 1 + 1 + 1 < w'.heap.size := by omega); (try have gQ4 : w.heap.size + 1 + 1 + 1 + 1 < w'.heap.size := by omega); (try have gQ5 : w.heap.size + 1 + 1 + 1 + 1 + 1 < w'.heap.size := by omega); (try have dQ0 : _ < w'.heap.size := Nat.lt_of_lt_of_le dQ0 (by omega)); (try have dQ1 : _ < w'.heap.size := Nat.lt_of_lt_of_le dQ1 (by omega)); (try have dQ2 : _ < w'.heap.size := Nat.lt_of_lt_of_le dQ2 (by omega)); (try have dQ3 : _ < w'.heap.size := Nat.lt_of_lt_of_le dQ3 (by omega)); (try have dQ4 : _ < w'.heap.size := Nat.lt_of_lt_of_le dQ4 (by omega)); (try have dQ5 : _ < w'.heap.size := Nat.lt_of_lt_of_le dQ5 (by omega)); (try (have hnQ := Nat.lt_of_succ_le hz; first | (have _x := dQ0; first | (have _x := dQ1; first | (have _x := dQ2; first | (have _x := dQ3; first | (have _x := dQ4; have dQ5 := hnQ) | have dQ4 := hnQ) | have dQ3 := hnQ) | have dQ2 := hnQ) | have dQ1 := hnQ) | have dQ0 := hnQ)); (try (have hmQ := Nat.lt_of_succ_lt (Nat.lt_of_succ_le hz); first | (have _x := dQ0; first | (have _x := dQ1; first | (have _x := dQ2; first | (have _x := dQ3; first | (have _x := dQ4; have dQ5 := hmQ) | have dQ4 := hmQ) | have dQ3 := hmQ) | have dQ2 := hmQ) | have dQ1 := hmQ) | have dQ0 := hmQ))) | (go_at_call 40; refine (HP.out _).mono ?_; rintro e w' ⟨rfl, hb⟩; obtain ⟨hc, hf, hz, hy⟩ := bcell hb; clear hy; (try simp only [World.size_alloc, World.size_setCell, World.size_drew] at hz); (try have gQ0 : w.heap.size < w'.heap.size := by omega); (try have gQ1 : w.heap.size + 1 < w'.heap.size := by omega); (try have gQ2 : w.heap.size + 1 + 1 < w'.heap.size := by omega); (try have gQ3 : w.heap.size + 1 + 1 + 1 < w'.heap.size := by omega); (try have gQ4 : w.heap.size + 1 + 1 + 1 + 1 < w'.heap.size := by omega); (try have gQ5 : w.heap.size + 1 + 1 + 1 + 1 + 1 < w'.heap.size := by omega); (try have dQ0 : _ < w'.heap.size := Nat.lt_of_lt_of_le dQ0 (by omega)); (try have dQ1 : _ < w'.heap.size := Nat.lt_of_lt_of_le dQ1 (by omega)); (try have dQ2 : _ < w'.heap.size := Nat.lt_of_lt_of_le dQ2 (by omega)); (try have dQ3 : _ < w'.heap.size := Nat.lt_of_lt_of_le dQ3 (by omega)); (try have dQ4 : _ < w'.heap.size := Nat.lt_of_lt_of_le dQ4 (by omega)); (try have dQ5 : _ < w'.heap.size := Nat.lt_of_lt_of_le dQ5 (by omega)); (try (have hnQ := Nat.lt_of_succ_le hz; first | (have _x := dQ0; first | (have _x := dQ1; first | (have _x := dQ2; first | (have _x := dQ3; first | (have _x := dQ4; have dQ5 := hnQ) | have dQ4 := hnQ) | have dQ3 := hnQ) | have dQ2 := hnQ) | have dQ1 := hnQ) | have dQ0 := hnQ)); (try (have hmQ := Nat.lt_of_succ_lt (Nat.lt_of_succ_le hz); first | (have _x := dQ0; first | (have _x := dQ1; first | (have _x := dQ2; first | (have _x := dQ3; first | (have _x := dQ4; have dQ5 := hmQ) | have dQ4 := hmQ) | have dQ3 := hmQ) | have dQ2 := hmQ) | have dQ1 := hmQ) | have dQ0 := hmQ))))
    all_goals go_ret
    all_goals exact ⟨by simp [HE.out], by (repeat' first | (with_reducible exact Below.refl _ _) | (with_reducible refine Below.alloc ?_ ?_ _) | (with_reducible refine Below.drew ?_) | (with_reducible refine Below.setCell ?_ ?_ _) | (with_reducible refine below_via (by assumption) ?_ ?_) | go_size)⟩
  have hpb := pos_lt hpk
  have hh := holes_pos hpk hWl
  have HE : Hid (sumOf a b o W p = sumL W (holesTo p 49)) := by show _ = _; rw [HF.out, hpk, hh, sumL_holes]; rfl
  have HM : Hid (∀ k, k < (holesTo p 49).length → 0 ≤ gD (holesTo p 49) 0 k ∧ gD (holesTo p 49) 0 k < W.length) := fun k hk => by
    have := holesTo_mem (x := gD (holesTo p 49) 0 k) (o := p) (k := W.length) (by rw [← hh]; exact gD_mem _ _ _ hk)
    omega
  have hl49 := holesTo_length p 49
  have HWB := Lib.hid hWb
  rw [hpk] at HP
  clear hpk hwk hWb hb0 hWl hh
  go_enter Tryz.func65, Tryz.ntmps65
  go_wp2_with (first | (go_at_call 98; refine (HW.out _ (HV.out _ (by (repeat' first | (with_reducible exact Below.refl _ _) | (with_reducible refine Below.alloc ?_ ?_ _) | (with_reducible refine Below.drew ?_) | (with_reducible refine Below.setCell ?_ ?_ _) | (with_reducible refine below_via (by assumption) ?_ ?_) | go_size)))).mono ?_; rintro e w' ⟨rfl, hb⟩; obtain ⟨hc, hf, hz, hy⟩ := bcell hb; clear hy; (try simp only [World.size_alloc, World.size_setCell, World.size_drew] at hz); (try have gQ0 : w.heap.size < w'.heap.size := by omega); (try have gQ1 : w.heap.size + 1 < w'.heap.size := by omega); (try have gQ2 : w.heap.size + 1 + 1 < w'.heap.size := by omega); (try have gQ3 : w.heap.size + 1 + 1 + 1 < w'.heap.size := by omega); (try have gQ4 : w.heap.size + 1 + 1 + 1 + 1 < w'.heap.size := by omega); (try have gQ5 : w.heap.size + 1 + 1 + 1 + 1 + 1 < w'.heap.size := by omega); (try have dQ0 : _ < w'.heap.size := Nat.lt_of_lt_of_le dQ0 (by omega)); (try have dQ1 : _ < w'.heap.size := Nat.lt_of_lt_of_le dQ1 (by omega)); (try have dQ2 : _ < w'.heap.size := Nat.lt_of_lt_of_le dQ2 (by omega)); (try have dQ3 : _ < w'.heap.size := Nat.lt_of_lt_of_le dQ3 (by omega)); (try have dQ4 : _ < w'.heap.size := Nat.lt_of_lt_of_le dQ4 (by omega)); (try have dQ5 : _ < w'.heap.size := Nat.lt_of_lt_of_le dQ5 (by omega)); (try (have hnQ := Nat.lt_of_succ_le hz; first | (have _x := dQ0; first | (have _x := dQ1; first | (have _x := dQ2; first | (have _x := dQ3; first | (have _x := dQ4; have dQ5 := hnQ) | have dQ4 := hnQ) | have dQ3 := hnQ) | have dQ2 := hnQ) | have dQ1 := hnQ) | have dQ0 := hnQ)); (try (have hmQ := Nat.lt_of_succ_lt (Nat.lt_of_succ_le hz); first | (have _x := dQ0; first | (have _x := dQ1; first | (have _x := dQ2; first | (have _x := dQ3; first | (have _x := dQ4; have dQ5 := hmQ) | have dQ4 := hmQ) | have dQ3 := hmQ) | have dQ2 := hmQ) | have dQ1 := hmQ) | have dQ0 := hmQ))) | (go_at_call 40; refine (HP.out _).mono ?_; rintro e w' ⟨rfl, hb⟩; obtain ⟨hc, hf, hz, hy⟩ := bcell hb; clear hy; (try simp only [World.size_alloc, World.size_setCell, World.size_drew] at hz); (try have gQ0 : w.heap.size < w'.heap.size := by omega); (try have gQ1 : w.heap.size + 1 < w'.heap.size := by omega); (try have gQ2 : w.heap.size + 1 + 1 < w'.heap.size := by omega); (try have gQ3 : w.heap.size + 1 + 1 + 1 < w'.heap.size := by omega); (try have gQ4 : w.heap.size + 1 + 1 + 1 + 1 < w'.heap.size := by omega); (try have gQ5 : w.heap.size + 1 + 1 + 1 + 1 + 1 < w'.heap.size := by omega); (try have dQ0 : _ < w'.heap.size := Nat.lt_of_lt_of_le dQ0 (by omega)); (try have dQ1 : _ < w'.heap.size := Nat.lt_of_lt_of_le dQ1 (by omega)); (try have dQ2 : _ < w'.heap.size := Nat.lt_of_lt_of_le dQ2 (by omega)); (try have dQ3 : _ < w'.heap.size := Nat.lt_of_lt_of_le dQ3 (by omega)); (try have dQ4 : _ < w'.heap.size := Nat.lt_of_lt_of_le dQ4 (by omega)); (try have dQ5 : _ < w'.heap.size := Nat.lt_of_lt_of_le dQ5 (by omega)); (try (have hnQ := Nat.lt_of_succ_le hz; first | (have _x := dQ0; first | (have _x := dQ1; first | (have _x := dQ2; first | (have _x := dQ3; first | (have _x := dQ4; have dQ5 := hnQ) | have dQ4 := hnQ) | have dQ3 := hnQ) | have dQ2 := hnQ) | have dQ1 := hnQ) | have dQ0 := hnQ)); (try (have hmQ := Nat.lt_of_succ_lt (Nat.lt_of_succ_le hz); first | (have _x := dQ0; first | (have _x := dQ1; first | (have _x := dQ2; first | (have _x := dQ3; first | (have _x := dQ4; have dQ5 := hmQ) | have dQ4 := hmQ) | have dQ3 := hmQ) | have dQ2 := hmQ) | have dQ1 := hmQ) | have dQ0 := hmQ))))
  refine (l02List_any _ hpb.1 hp _).mono ?_
  rintro e w' ⟨vl, rfl, hown, hb⟩
  generalize holesTo p 49 = L at *
  obtain ⟨aL, capL, rfl, hmL, hgetL⟩ := hown.intG
  have HGL := Lib.hid hgetL
  obtain ⟨w3, rfl⟩ : ∃ w3 : World, w3 = w' := ⟨_, rfl⟩
  have HW3 : Hid (Below w.heap.size w w3) := by show Below _ _ _; (repeat' first | (with_reducible exact Below.refl _ _) | (with_reducible refine Below.alloc ?_ ?_ _) | (with_reducible refine Below.drew ?_) | (with_reducible refine Below.setCell ?_ ?_ _) | (with_reducible refine below_via (by assumption) ?_ ?_) | go_size)
  have hz3 := HW3.out.size
  clear hc hf
  clear hgetL hown
  go_wp2_with fail
  go_loopw [7, 9] (fun s i wr => ∃ k : Nat, k ≤ L.length ∧ i = .int .i64 k ∧ s = .int .i64 (sumL W (L.take k)) ∧ Hid (-1000 * (k : Int) ≤ sumL W (L.take k) ∧ sumL W (L.take k) ≤ 1000 * k) ∧ wr = w3) (fun _ i _ => L.length - (intOf i).toNat)
  case atStart => exact ⟨0, by omega, rfl, by simp [sumL], by show _ ∧ _; simp [sumL], rfl⟩
  case round =>
    obtain ⟨k, hk, rfl, rfl, hbd, rfl⟩ := hrel
    by_cases hlt : k < L.length
    · obtain ⟨bL, rfl, _, hbL, hcL⟩ := HGL.out k hlt
      have hmm := HM.out k hlt
      obtain ⟨bW, rfl, _, hbW, hcW⟩ := HGW.out (gD L 0 k).toNat (by omega)
      rw [← HW3.out.cell (by simpa using hbW)] at hcW
      have gW : bW < wr.heap.size := by omega
      have hx := HWB.out (gD L 0 k).toNat (by omega)
      have HSS := Lib.hid (sumL_take (W := W) hlt)
      have hbd' := hbd.out
      generalize gD L 0 k = y at *
      generalize gD W 0 y.toNat = x at *
      generalize sumL W (L.take k) = S at *
      go_wp2_with fail
      go_roundw
      case rel => exact ⟨k + 1, by omega, by go_num, by rw [HSS.out], by show _ ∧ _; rw [HSS.out]; omega, trivial⟩
      case measure => simp [intOf]; omega
    · obtain rfl : k = L.length := by omega
      have HT : Hid (sumL W (L.take L.length) = sumL W L) := by show _ = _; rw [List.take_length]
      go_wp2_with fail
      go_ret
      exact ⟨by simp [HE.out, HT.out], HW3.out⟩
end Go.Proofs.YtfmplmlilmalpaaGreat
namespace Go.Proofs.YtfmplmlilmalpaaGreat
open Go.ChangeShapes Go.WideShapes Go.ChangeAt Go.RowKit Peg Go.Sort
def RetBroken (w : World) (r : Bool) (e : Ending) (w' : World) : Prop := (∃ x : Ln, e = .returned (.tuple #[.agg #[.int .i64 x.f, .int .i64 x.o, .int .i64 x.t], .bool r])) ∧ Below w.heap.size w w'
set_option maxHeartbeats 2000000 in
set_option maxRecDepth 100000 in
theorem BrokenLine_any (a b o : Int) (W : List Int) (v : Value) (w : World) {B : Nat} (hv : Own EInt w B v W) :
    Calls Tryz.prog 87 #[.agg #[.int .i64 a, .int .i64 b, .int .i64 o], v] w (RetBroken w (broken a b o W)) := by
  have HV := Lib.hid (fun w' (hb : Below w.heap.size w w') => hv.keep hb)
  obtain ⟨aW, capW, rfl, hmW, hgetW⟩ := hv.intG
  have HGW := Lib.hid hgetW
  clear hgetW hv
  have HW : Hid (∀ W', Own EInt W' B (.slice aW W.length capW) W → Calls Tryz.prog 88 #[.agg #[.int .i64 a, .int .i64 b, .int .i64 o], .slice aW W.length capW] W' fun e w' => e = .returned (.bool (weightsOk a b o W)) ∧ Below W'.heap.size W' w') := fun W' hW => WeightsOk_any a b o W _ W' hW
  have HF : Hid (broken a b o W = (weightsOk a b o W && (linesOf a b o).any (brokenAt W))) := rfl
  cases hwk : weightsOk a b o W
  · have HE : Hid (broken a b o W = false) := by show _ = _; rw [HF.out, hwk]; rfl
    rw [HE.out]
    rw [hwk] at HW
    clear hwk HE
    unfold RetBroken
    go_enter Tryz.func87, Tryz.ntmps87
    go_wp2_with (go_at_call 88; refine (HW.out _ (HV.out _ (by (repeat' first | (with_reducible exact Below.refl _ _) | (with_reducible refine Below.alloc ?_ ?_ _) | (with_reducible refine Below.drew ?_) | (with_reducible refine Below.setCell ?_ ?_ _) | (with_reducible refine below_via (by assumption) ?_ ?_) | go_size)))).mono ?_; rintro e w' ⟨rfl, hb⟩; obtain ⟨hc, hf, hz, hy⟩ := bcell hb; clear hy; (try simp only [World.size_alloc, World.size_setCell, World.size_drew] at hz); (try have gQ0 : w.heap.size < w'.heap.size := by omega); (try have gQ1 : w.heap.size + 1 < w'.heap.size := by omega); (try have gQ2 : w.heap.size + 1 + 1 < w'.heap.size := by omega); (try have gQ3 : w.heap.size + 1 + 1 + 1 < w'.heap.size := by omega); (try have gQ4 : w.heap.size + 1 + 1 + 1 + 1 < w'.heap.size := by omega); (try have gQ5 : w.heap.size + 1 + 1 + 1 + 1 + 1 < w'.heap.size := by omega); (try have dQ0 : _ < w'.heap.size := Nat.lt_of_lt_of_le dQ0 (by omega)); (try have dQ1 : _ < w'.heap.size := Nat.lt_of_lt_of_le dQ1 (by omega)); (try have dQ2 : _ < w'.heap.size := Nat.lt_of_lt_of_le dQ2 (by omega)); (try have dQ3 : _ < w'.heap.size := Nat.lt_of_lt_of_le dQ3 (by omega)); (try have dQ4 : _ < w'.heap.size := Nat.lt_of_lt_of_le dQ4 (by omega)); (try have dQ5 : _ < w'.heap.size := Nat.lt_of_lt_of_le dQ5 (by omega)); (try (have hnQ := Nat.lt_of_succ_le hz; first | (have _x := dQ0; first | (have _x := dQ1; first | (have _x := dQ2; first | (have _x := dQ3; first | (have _x := dQ4; have dQ5 := hnQ) | have dQ4 := hnQ) | have dQ3 := hnQ) | have dQ2 := hnQ) | have dQ1 := hnQ) | have dQ0 := hnQ)); (try (have hmQ := Nat.lt_of_succ_lt (Nat.lt_of_succ_le hz); first | (have _x := dQ0; first | (have _x := dQ1; first | (have _x := dQ2; first | (have _x := dQ3; first | (have _x := dQ4; have dQ5 := hmQ) | have dQ4 := hmQ) | have dQ3 := hmQ) | have dQ2 := hmQ) | have dQ1 := hmQ) | have dQ0 := hmQ)); (try have sQ00 : (w'.cell? ⟨w.heap.size, 0, none⟩).isSome = true := by simp [go_sem, *]); (try have sQ01 : (w'.cell? ⟨w.heap.size, 1, none⟩).isSome = true := by simp [go_sem, *]); (try have sQ02 : (w'.cell? ⟨w.heap.size, 2, none⟩).isSome = true := by simp [go_sem, *]); (try have sQ03 : (w'.cell? ⟨w.heap.size, 3, none⟩).isSome = true := by simp [go_sem, *]); (try have sQ04 : (w'.cell? ⟨w.heap.size, 4, none⟩).isSome = true := by simp [go_sem, *]); (try have sQ10 : (w'.cell? ⟨w.heap.size + 1, 0, none⟩).isSome = true := by simp [go_sem, *]); (try have sQ11 : (w'.cell? ⟨w.heap.size + 1, 1, none⟩).isSome = true := by simp [go_sem, *]); (try have sQ12 : (w'.cell? ⟨w.heap.size + 1, 2, none⟩).isSome = true := by simp [go_sem, *]); (try have sQ13 : (w'.cell? ⟨w.heap.size + 1, 3, none⟩).isSome = true := by simp [go_sem, *]); (try have sQ14 : (w'.cell? ⟨w.heap.size + 1, 4, none⟩).isSome = true := by simp [go_sem, *]); (try have sQ20 : (w'.cell? ⟨w.heap.size + 1 + 1, 0, none⟩).isSome = true := by simp [go_sem, *]); (try have sQ21 : (w'.cell? ⟨w.heap.size + 1 + 1, 1, none⟩).isSome = true := by simp [go_sem, *]); (try have sQ22 : (w'.cell? ⟨w.heap.size + 1 + 1, 2, none⟩).isSome = true := by simp [go_sem, *]); (try have sQ23 : (w'.cell? ⟨w.heap.size + 1 + 1, 3, none⟩).isSome = true := by simp [go_sem, *]); (try have sQ24 : (w'.cell? ⟨w.heap.size + 1 + 1, 4, none⟩).isSome = true := by simp [go_sem, *]); (try have fQ0 : ∀ j, w'.frozen? ⟨w.heap.size, j, none⟩ = false := by intro j; simp [go_sem, *]); (try have fQ1 : ∀ j, w'.frozen? ⟨w.heap.size + 1, j, none⟩ = false := by intro j; simp [go_sem, *]); (try have fQ2 : ∀ j, w'.frozen? ⟨w.heap.size + 1 + 1, j, none⟩ = false := by intro j; simp [go_sem, *]))
    all_goals ((try simp only [Exit.inBlock, Exit.then]); refine bodyPost_ret (v := .tuple #[.agg #[.int .i64 0, .int .i64 0, .int .i64 0], .bool false]) (by simp [results, Tryz.results87, go_sem, *]) rfl ⟨⟨Ln0, rfl⟩, by (repeat' first | (with_reducible exact Below.refl _ _) | (with_reducible refine Below.alloc ?_ ?_ _) | (with_reducible refine Below.drew ?_) | (with_reducible refine Below.setCell ?_ ?_ _) | (with_reducible refine below_via (by assumption) ?_ ?_) | go_size)⟩)
  obtain ⟨hb0, hWl, hW49, hWb⟩ := weightsOk_bd hwk
  have HE : Hid (broken a b o W = (linesOf a b o).any (brokenAt W)) := by show _ = _; rw [HF.out, hwk]; rfl
  have HWB := Lib.hid hWb
  have HLN : Hid (∀ k, k < (linesOf a b o).length → (0 ≤ (gD (linesOf a b o) Ln0 k).f ∧ (gD (linesOf a b o) Ln0 k).f < W.length) ∧ (0 ≤ (gD (linesOf a b o) Ln0 k).o ∧ (gD (linesOf a b o) Ln0 k).o < W.length) ∧ 0 ≤ (gD (linesOf a b o) Ln0 k).t ∧ (gD (linesOf a b o) Ln0 k).t < W.length) := fun k hk => by
    have h := linesOf_in (gD_mem _ Ln0 k hk)
    have h1 := h.1.1
    have h2 := h.1.2.1
    have h3 := h.1.2.2.1
    have h4 := h.2
    omega
  rw [hwk] at HW
  clear hwk hWb hWl hb0
  go_enter Tryz.func87, Tryz.ntmps87
  go_wp2_with (go_at_call 88; refine (HW.out _ (HV.out _ (by (repeat' first | (with_reducible exact Below.refl _ _) | (with_reducible refine Below.alloc ?_ ?_ _) | (with_reducible refine Below.drew ?_) | (with_reducible refine Below.setCell ?_ ?_ _) | (with_reducible refine below_via (by assumption) ?_ ?_) | go_size)))).mono ?_; rintro e w' ⟨rfl, hb⟩; obtain ⟨hc, hf, hz, hy⟩ := bcell hb; clear hy; (try simp only [World.size_alloc, World.size_setCell, World.size_drew] at hz); (try have gQ0 : w.heap.size < w'.heap.size := by omega); (try have gQ1 : w.heap.size + 1 < w'.heap.size := by omega); (try have gQ2 : w.heap.size + 1 + 1 < w'.heap.size := by omega); (try have gQ3 : w.heap.size + 1 + 1 + 1 < w'.heap.size := by omega); (try have gQ4 : w.heap.size + 1 + 1 + 1 + 1 < w'.heap.size := by omega); (try have gQ5 : w.heap.size + 1 + 1 + 1 + 1 + 1 < w'.heap.size := by omega); (try have dQ0 : _ < w'.heap.size := Nat.lt_of_lt_of_le dQ0 (by omega)); (try have dQ1 : _ < w'.heap.size := Nat.lt_of_lt_of_le dQ1 (by omega)); (try have dQ2 : _ < w'.heap.size := Nat.lt_of_lt_of_le dQ2 (by omega)); (try have dQ3 : _ < w'.heap.size := Nat.lt_of_lt_of_le dQ3 (by omega)); (try have dQ4 : _ < w'.heap.size := Nat.lt_of_lt_of_le dQ4 (by omega)); (try have dQ5 : _ < w'.heap.size := Nat.lt_of_lt_of_le dQ5 (by omega)); (try (have hnQ := Nat.lt_of_succ_le hz; first | (have _x := dQ0; first | (have _x := dQ1; first | (have _x := dQ2; first | (have _x := dQ3; first | (have _x := dQ4; have dQ5 := hnQ) | have dQ4 := hnQ) | have dQ3 := hnQ) | have dQ2 := hnQ) | have dQ1 := hnQ) | have dQ0 := hnQ)); (try (have hmQ := Nat.lt_of_succ_lt (Nat.lt_of_succ_le hz); first | (have _x := dQ0; first | (have _x := dQ1; first | (have _x := dQ2; first | (have _x := dQ3; first | (have _x := dQ4; have dQ5 := hmQ) | have dQ4 := hmQ) | have dQ3 := hmQ) | have dQ2 := hmQ) | have dQ1 := hmQ) | have dQ0 := hmQ)); (try have sQ00 : (w'.cell? ⟨w.heap.size, 0, none⟩).isSome = true := by simp [go_sem, *]); (try have sQ01 : (w'.cell? ⟨w.heap.size, 1, none⟩).isSome = true := by simp [go_sem, *]); (try have sQ02 : (w'.cell? ⟨w.heap.size, 2, none⟩).isSome = true := by simp [go_sem, *]); (try have sQ03 : (w'.cell? ⟨w.heap.size, 3, none⟩).isSome = true := by simp [go_sem, *]); (try have sQ04 : (w'.cell? ⟨w.heap.size, 4, none⟩).isSome = true := by simp [go_sem, *]); (try have sQ10 : (w'.cell? ⟨w.heap.size + 1, 0, none⟩).isSome = true := by simp [go_sem, *]); (try have sQ11 : (w'.cell? ⟨w.heap.size + 1, 1, none⟩).isSome = true := by simp [go_sem, *]); (try have sQ12 : (w'.cell? ⟨w.heap.size + 1, 2, none⟩).isSome = true := by simp [go_sem, *]); (try have sQ13 : (w'.cell? ⟨w.heap.size + 1, 3, none⟩).isSome = true := by simp [go_sem, *]); (try have sQ14 : (w'.cell? ⟨w.heap.size + 1, 4, none⟩).isSome = true := by simp [go_sem, *]); (try have sQ20 : (w'.cell? ⟨w.heap.size + 1 + 1, 0, none⟩).isSome = true := by simp [go_sem, *]); (try have sQ21 : (w'.cell? ⟨w.heap.size + 1 + 1, 1, none⟩).isSome = true := by simp [go_sem, *]); (try have sQ22 : (w'.cell? ⟨w.heap.size + 1 + 1, 2, none⟩).isSome = true := by simp [go_sem, *]); (try have sQ23 : (w'.cell? ⟨w.heap.size + 1 + 1, 3, none⟩).isSome = true := by simp [go_sem, *]); (try have sQ24 : (w'.cell? ⟨w.heap.size + 1 + 1, 4, none⟩).isSome = true := by simp [go_sem, *]); (try have fQ0 : ∀ j, w'.frozen? ⟨w.heap.size, j, none⟩ = false := by intro j; simp [go_sem, *]); (try have fQ1 : ∀ j, w'.frozen? ⟨w.heap.size + 1, j, none⟩ = false := by intro j; simp [go_sem, *]); (try have fQ2 : ∀ j, w'.frozen? ⟨w.heap.size + 1 + 1, j, none⟩ = false := by intro j; simp [go_sem, *]))
  refine (LinesOf_any _ _ _ _).mono ?_
  rintro e w' ⟨vL, rfl, hownL, hb⟩
  obtain ⟨hc, hf, hz, hy⟩ := bcell hb; clear hy; (try simp only [World.size_alloc, World.size_setCell, World.size_drew] at hz); (try have gQ0 : w.heap.size < w'.heap.size := by omega); (try have gQ1 : w.heap.size + 1 < w'.heap.size := by omega); (try have gQ2 : w.heap.size + 1 + 1 < w'.heap.size := by omega); (try have gQ3 : w.heap.size + 1 + 1 + 1 < w'.heap.size := by omega); (try have gQ4 : w.heap.size + 1 + 1 + 1 + 1 < w'.heap.size := by omega); (try have gQ5 : w.heap.size + 1 + 1 + 1 + 1 + 1 < w'.heap.size := by omega); (try have dQ0 : _ < w'.heap.size := Nat.lt_of_lt_of_le dQ0 (by omega)); (try have dQ1 : _ < w'.heap.size := Nat.lt_of_lt_of_le dQ1 (by omega)); (try have dQ2 : _ < w'.heap.size := Nat.lt_of_lt_of_le dQ2 (by omega)); (try have dQ3 : _ < w'.heap.size := Nat.lt_of_lt_of_le dQ3 (by omega)); (try have dQ4 : _ < w'.heap.size := Nat.lt_of_lt_of_le dQ4 (by omega)); (try have dQ5 : _ < w'.heap.size := Nat.lt_of_lt_of_le dQ5 (by omega)); (try (have hnQ := Nat.lt_of_succ_le hz; first | (have _x := dQ0; first | (have _x := dQ1; first | (have _x := dQ2; first | (have _x := dQ3; first | (have _x := dQ4; have dQ5 := hnQ) | have dQ4 := hnQ) | have dQ3 := hnQ) | have dQ2 := hnQ) | have dQ1 := hnQ) | have dQ0 := hnQ)); (try (have hmQ := Nat.lt_of_succ_lt (Nat.lt_of_succ_le hz); first | (have _x := dQ0; first | (have _x := dQ1; first | (have _x := dQ2; first | (have _x := dQ3; first | (have _x := dQ4; have dQ5 := hmQ) | have dQ4 := hmQ) | have dQ3 := hmQ) | have dQ2 := hmQ) | have dQ1 := hmQ) | have dQ0 := hmQ))
  generalize linesOf a b o = L at *
  obtain ⟨aL, capL, rfl, hmL, hgetL⟩ := hownL.lineG
  have HGL := Lib.hid hgetL
  obtain ⟨w3, rfl⟩ : ∃ w3 : World, w3 = w' := ⟨_, rfl⟩
  have HW3 : Hid (Below w.heap.size w w3) := by show Below _ _ _; (repeat' first | (with_reducible exact Below.refl _ _) | (with_reducible refine Below.alloc ?_ ?_ _) | (with_reducible refine Below.drew ?_) | (with_reducible refine Below.setCell ?_ ?_ _) | (with_reducible refine below_via (by assumption) ?_ ?_) | go_size)
  have hr0 : w3.cell? ⟨w.heap.size + 1, 0, none⟩ = some (.int .i64 0) := by simp [go_sem, *]
  have hr1 : w3.cell? ⟨w.heap.size + 1, 1, none⟩ = some (.int .i64 0) := by simp [go_sem, *]
  have hr2 : w3.cell? ⟨w.heap.size + 1, 2, none⟩ = some (.int .i64 0) := by simp [go_sem, *]
  have hrf : ∀ j, w3.frozen? ⟨w.heap.size + 1, j, none⟩ = false := by intro j; simp [go_sem, *]
  have hz3 : w.heap.size + 1 < w3.heap.size := by omega
  clear hc hf hgetL hownL
  go_wp2_with fail
  go_loopw [16] (fun i wr => ∃ k : Nat, k ≤ L.length ∧ i = .int .i64 k ∧ Hid ((L.take k).any (brokenAt W) = false) ∧ Below w3.heap.size w3 wr) (fun i _ => L.length - (intOf i).toNat)
  case atStart => exact ⟨0, by omega, rfl, by show _ = _; simp, Below.refl _ _⟩
  case round =>
    obtain ⟨k, hk, rfl, hno, hbw⟩ := hrel
    have hz := hbw.size
    have hr0' := (hbw.cell (p := ⟨w.heap.size + 1, 0, none⟩) hz3).trans hr0
    have hr1' := (hbw.cell (p := ⟨w.heap.size + 1, 1, none⟩) hz3).trans hr1
    have hr2' := (hbw.cell (p := ⟨w.heap.size + 1, 2, none⟩) hz3).trans hr2
    have hrf' : ∀ j, wr.frozen? ⟨w.heap.size + 1, j, none⟩ = false := fun j => (hbw.frozen (p := ⟨w.heap.size + 1, j, none⟩) hz3).trans (hrf j)
    have gR : w.heap.size + 1 < wr.heap.size := by omega
    by_cases hlt : k < L.length
    · obtain ⟨bL, rfl, _, hbL, hc0, hc1, hc2⟩ := HGL.out k hlt
      rw [← hbw.cell (by simpa using hbL)] at hc0 hc1 hc2
      have gL : bL < wr.heap.size := by omega
      have hln := HLN.out k hlt
      obtain ⟨bW, rfl, _, hbW, hw0⟩ := HGW.out (gD L Ln0 k).f.toNat (by omega)
      obtain ⟨bW', e1, _, _, hw1⟩ := HGW.out (gD L Ln0 k).o.toNat (by omega)
      obtain rfl : bW = bW' := by simpa using e1
      clear e1
      obtain ⟨bW', e1, _, _, hw2⟩ := HGW.out (gD L Ln0 k).t.toNat (by omega)
      obtain rfl : bW = bW' := by simpa using e1
      clear e1
      have g3 : bW < w3.heap.size := Nat.lt_of_lt_of_le hbW HW3.out.size
      rw [← HW3.out.cell (by simpa using hbW), ← hbw.cell (by simpa using g3)] at hw0 hw1 hw2
      have gW : bW < wr.heap.size := by omega
      have hx0 := HWB.out (gD L Ln0 k).f.toNat (by omega)
      have hx1 := HWB.out (gD L Ln0 k).o.toNat (by omega)
      have hx2 := HWB.out (gD L Ln0 k).t.toNat (by omega)
      have HBA : Hid (brokenAt W (gD L Ln0 k) = decide (gD W 0 (gD L Ln0 k).f.toNat + gD W 0 (gD L Ln0 k).o.toNat < gD W 0 (gD L Ln0 k).t.toNat)) := rfl
      have HY := Lib.hid (fun h => any_yes (P := brokenAt W) (l := L) (d := Ln0) hlt h)
      have HN := Lib.hid (fun h => any_no (P := brokenAt W) (l := L) (d := Ln0) hlt hno.out h)
      generalize brokenAt W (gD L Ln0 k) = q at *
      generalize gD W 0 (gD L Ln0 k).f.toNat = x0 at *
      generalize gD W 0 (gD L Ln0 k).o.toNat = x1 at *
      generalize gD W 0 (gD L Ln0 k).t.toNat = x2 at *
      generalize gD L Ln0 k = l at *
      by_cases hq : x0 + x1 < x2
      · have hqd : decide (x0 + x1 < x2) = true := by simpa using hq
        have HT : Hid (L.any (brokenAt W) = true) := HY.out (by rw [HBA.out, hqd])
        have HR : Hid (broken a b o W = true) := by show _ = _; rw [HE.out, HT.out]
        clear HY HN HBA HT HE
        go_wp2_with ((with_reducible refine wp_region_qb ?_ ?_ (fun hq => ?_)); (focus kernel_rfl); (focus kernel_rfl); (repeat (go_big_quiet_step (fail))); refine wpQuiet_nil ?_; intro wq hb; obtain ⟨hc, hf, hz, hy⟩ := bcell hb; clear hq hy; (try simp only [World.size_alloc, World.size_setCell, World.size_drew] at hz); (try have gQ0 : w.heap.size < wq.heap.size := by omega); (try have gQ1 : w.heap.size + 1 < wq.heap.size := by omega); (try have gQ2 : w.heap.size + 1 + 1 < wq.heap.size := by omega); (try have gQ3 : w.heap.size + 1 + 1 + 1 < wq.heap.size := by omega); (try have gQ4 : w.heap.size + 1 + 1 + 1 + 1 < wq.heap.size := by omega); (try have gQ5 : w.heap.size + 1 + 1 + 1 + 1 + 1 < wq.heap.size := by omega); (try have dQ0 : _ < wq.heap.size := Nat.lt_of_lt_of_le dQ0 (by omega)); (try have dQ1 : _ < wq.heap.size := Nat.lt_of_lt_of_le dQ1 (by omega)); (try have dQ2 : _ < wq.heap.size := Nat.lt_of_lt_of_le dQ2 (by omega)); (try have dQ3 : _ < wq.heap.size := Nat.lt_of_lt_of_le dQ3 (by omega)); (try have dQ4 : _ < wq.heap.size := Nat.lt_of_lt_of_le dQ4 (by omega)); (try have dQ5 : _ < wq.heap.size := Nat.lt_of_lt_of_le dQ5 (by omega)); (try (have hnQ := Nat.lt_of_succ_le hz; first | (have _x := dQ0; first | (have _x := dQ1; first | (have _x := dQ2; first | (have _x := dQ3; first | (have _x := dQ4; have dQ5 := hnQ) | have dQ4 := hnQ) | have dQ3 := hnQ) | have dQ2 := hnQ) | have dQ1 := hnQ) | have dQ0 := hnQ)); (try (have hmQ := Nat.lt_of_succ_lt (Nat.lt_of_succ_le hz); first | (have _x := dQ0; first | (have _x := dQ1; first | (have _x := dQ2; first | (have _x := dQ3; first | (have _x := dQ4; have dQ5 := hmQ) | have dQ4 := hmQ) | have dQ3 := hmQ) | have dQ2 := hmQ) | have dQ1 := hmQ) | have dQ0 := hmQ)); have hBQ : Below wr.heap.size wr wq := (((Below.refl _ _).alloc (Nat.le_refl _) _).trans (hb.mono (by simp))); have sQ0 := (hBQ.cell (p := ⟨w.heap.size + 1, 0, none⟩) gR).trans hr0'; have sQ1 := (hBQ.cell (p := ⟨w.heap.size + 1, 1, none⟩) gR).trans hr1'; have sQ2 := (hBQ.cell (p := ⟨w.heap.size + 1, 2, none⟩) gR).trans hr2'; have fQ : (∀ j, wq.frozen? ⟨w.heap.size + 1, j, none⟩ = false) := (fun j => (hBQ.frozen (p := ⟨w.heap.size + 1, j, none⟩) gR).trans (hrf' j)))
        all_goals ((try simp only [Exit.inBlock, Exit.then]); refine bodyPost_ret (v := .tuple #[.agg #[.int .i64 l.f, .int .i64 l.o, .int .i64 l.t], .bool true]) (by simp [results, Tryz.results87, go_sem, *]) rfl ⟨⟨l, by rw [HR.out]⟩, by have h1 := HW3.out.trans (hbw.mono (Nat.le_of_lt (Nat.lt_of_succ_lt hz3))); (repeat' first | (with_reducible exact Below.refl _ _) | (with_reducible refine Below.alloc ?_ ?_ _) | (with_reducible refine Below.drew ?_) | (with_reducible refine Below.setCell ?_ ?_ _) | (with_reducible refine below_via (by assumption) ?_ ?_) | go_size)⟩)
      · have hqd : decide (x0 + x1 < x2) = false := by simpa using hq
        have HN2 := Lib.hid (HN.out (by rw [HBA.out, hqd]))
        clear HY HN HBA HE
        go_wp2_with ((with_reducible refine wp_region_qb ?_ ?_ (fun hq => ?_)); (focus kernel_rfl); (focus kernel_rfl); (repeat (go_big_quiet_step (fail))); refine wpQuiet_nil ?_; intro wq hb; obtain ⟨hc, hf, hz, hy⟩ := bcell hb; clear hq hy; (try simp only [World.size_alloc, World.size_setCell, World.size_drew] at hz); (try have gQ0 : w.heap.size < wq.heap.size := by omega); (try have gQ1 : w.heap.size + 1 < wq.heap.size := by omega); (try have gQ2 : w.heap.size + 1 + 1 < wq.heap.size := by omega); (try have gQ3 : w.heap.size + 1 + 1 + 1 < wq.heap.size := by omega); (try have gQ4 : w.heap.size + 1 + 1 + 1 + 1 < wq.heap.size := by omega); (try have gQ5 : w.heap.size + 1 + 1 + 1 + 1 + 1 < wq.heap.size := by omega); (try have dQ0 : _ < wq.heap.size := Nat.lt_of_lt_of_le dQ0 (by omega)); (try have dQ1 : _ < wq.heap.size := Nat.lt_of_lt_of_le dQ1 (by omega)); (try have dQ2 : _ < wq.heap.size := Nat.lt_of_lt_of_le dQ2 (by omega)); (try have dQ3 : _ < wq.heap.size := Nat.lt_of_lt_of_le dQ3 (by omega)); (try have dQ4 : _ < wq.heap.size := Nat.lt_of_lt_of_le dQ4 (by omega)); (try have dQ5 : _ < wq.heap.size := Nat.lt_of_lt_of_le dQ5 (by omega)); (try (have hnQ := Nat.lt_of_succ_le hz; first | (have _x := dQ0; first | (have _x := dQ1; first | (have _x := dQ2; first | (have _x := dQ3; first | (have _x := dQ4; have dQ5 := hnQ) | have dQ4 := hnQ) | have dQ3 := hnQ) | have dQ2 := hnQ) | have dQ1 := hnQ) | have dQ0 := hnQ)); (try (have hmQ := Nat.lt_of_succ_lt (Nat.lt_of_succ_le hz); first | (have _x := dQ0; first | (have _x := dQ1; first | (have _x := dQ2; first | (have _x := dQ3; first | (have _x := dQ4; have dQ5 := hmQ) | have dQ4 := hmQ) | have dQ3 := hmQ) | have dQ2 := hmQ) | have dQ1 := hmQ) | have dQ0 := hmQ)))
        go_roundw
        case rel => exact ⟨k + 1, by omega, by go_num, HN2, by (repeat' first | (with_reducible exact Below.refl _ _) | (with_reducible refine Below.alloc ?_ ?_ _) | (with_reducible refine Below.drew ?_) | (with_reducible refine Below.setCell ?_ ?_ _) | (with_reducible refine below_via (by assumption) ?_ ?_) | go_size)⟩
        case measure => simp [intOf]; omega
    · obtain rfl : k = L.length := by omega
      have HR : Hid (broken a b o W = false) := by show _ = _; rw [HE.out]; have := hno.out; rwa [List.take_length] at this
      go_wp2_with fail
      all_goals ((try simp only [Exit.inBlock, Exit.then]); refine bodyPost_ret (v := .tuple #[.agg #[.int .i64 0, .int .i64 0, .int .i64 0], .bool false]) (by simp [results, Tryz.results87, go_sem, *]) rfl ⟨⟨Ln0, by rw [HR.out]; rfl⟩, by have h1 := HW3.out.trans (hbw.mono (Nat.le_of_lt (Nat.lt_of_succ_lt hz3))); (repeat' first | (with_reducible exact Below.refl _ _) | (with_reducible refine Below.alloc ?_ ?_ _) | (with_reducible refine Below.drew ?_) | (with_reducible refine Below.setCell ?_ ?_ _) | (with_reducible refine below_via (by assumption) ?_ ?_) | go_size)⟩)
set_option maxHeartbeats 2000000 in
set_option maxRecDepth 100000 in
theorem sBrokenLine_any (a b o : Int) (W : List Int) (v : Value) (w : World) {B : Nat} (hv : Own EInt w B v W) :
    Calls Tryz.prog 97 #[.agg #[.int .i64 a, .int .i64 b, .int .i64 o], v] w (RetBroken w (broken a b o W)) := by
  have HV := Lib.hid (fun w' (hb : Below w.heap.size w w') => hv.keep hb)
  obtain ⟨aW, capW, rfl, hmW, hgetW⟩ := hv.intG
  have HGW := Lib.hid hgetW
  clear hgetW hv
  have HW : Hid (∀ W', Own EInt W' B (.slice aW W.length capW) W → Calls Tryz.prog 98 #[.agg #[.int .i64 a, .int .i64 b, .int .i64 o], .slice aW W.length capW] W' fun e w' => e = .returned (.bool (weightsOk a b o W)) ∧ Below W'.heap.size W' w') := fun W' hW => sWeightsOk_any a b o W _ W' hW
  have HF : Hid (broken a b o W = (weightsOk a b o W && (linesOf a b o).any (brokenAt W))) := rfl
  have HBD : Hid (weightsOk a b o W = true → (W.length ≤ 49 ∧ (∀ k, k < W.length → -1000 ≤ gD W 0 k ∧ gD W 0 k ≤ 1000)) ∧ ∀ k, k < (linesOf a b o).length → (0 ≤ (gD (linesOf a b o) Ln0 k).f ∧ (gD (linesOf a b o) Ln0 k).f < W.length) ∧ (0 ≤ (gD (linesOf a b o) Ln0 k).o ∧ (gD (linesOf a b o) Ln0 k).o < W.length) ∧ 0 ≤ (gD (linesOf a b o) Ln0 k).t ∧ (gD (linesOf a b o) Ln0 k).t < W.length) := fun hwk => by
    obtain ⟨hb0, hWl, hW49, hWb⟩ := weightsOk_bd hwk
    refine ⟨⟨hW49, hWb⟩, fun k hk => ?_⟩
    have h := linesOf_in (gD_mem _ Ln0 k hk)
    have h1 := h.1.1
    have h2 := h.1.2.1
    have h3 := h.1.2.2.1
    have h4 := h.2
    omega
  go_enter Tryz.func97, Tryz.ntmps97
  go_wp2_with fail
  refine (sLinesOf_any _ _ _ _).mono ?_
  rintro e w' ⟨vL, rfl, hownL, hb⟩
  obtain ⟨hc, hf, hz, hy⟩ := bcell hb; clear hy; (try simp only [World.size_alloc, World.size_setCell, World.size_drew] at hz); (try have gQ0 : w.heap.size < w'.heap.size := by omega); (try have gQ1 : w.heap.size + 1 < w'.heap.size := by omega); (try have gQ2 : w.heap.size + 1 + 1 < w'.heap.size := by omega); (try have gQ3 : w.heap.size + 1 + 1 + 1 < w'.heap.size := by omega); (try have gQ4 : w.heap.size + 1 + 1 + 1 + 1 < w'.heap.size := by omega); (try have gQ5 : w.heap.size + 1 + 1 + 1 + 1 + 1 < w'.heap.size := by omega); (try have dQ0 : _ < w'.heap.size := Nat.lt_of_lt_of_le dQ0 (by omega)); (try have dQ1 : _ < w'.heap.size := Nat.lt_of_lt_of_le dQ1 (by omega)); (try have dQ2 : _ < w'.heap.size := Nat.lt_of_lt_of_le dQ2 (by omega)); (try have dQ3 : _ < w'.heap.size := Nat.lt_of_lt_of_le dQ3 (by omega)); (try have dQ4 : _ < w'.heap.size := Nat.lt_of_lt_of_le dQ4 (by omega)); (try have dQ5 : _ < w'.heap.size := Nat.lt_of_lt_of_le dQ5 (by omega)); (try (have hnQ := Nat.lt_of_succ_le hz; first | (have _x := dQ0; first | (have _x := dQ1; first | (have _x := dQ2; first | (have _x := dQ3; first | (have _x := dQ4; have dQ5 := hnQ) | have dQ4 := hnQ) | have dQ3 := hnQ) | have dQ2 := hnQ) | have dQ1 := hnQ) | have dQ0 := hnQ)); (try (have hmQ := Nat.lt_of_succ_lt (Nat.lt_of_succ_le hz); first | (have _x := dQ0; first | (have _x := dQ1; first | (have _x := dQ2; first | (have _x := dQ3; first | (have _x := dQ4; have dQ5 := hmQ) | have dQ4 := hmQ) | have dQ3 := hmQ) | have dQ2 := hmQ) | have dQ1 := hmQ) | have dQ0 := hmQ))
  generalize linesOf a b o = L at *
  obtain ⟨aL, capL, rfl, hmL, hgetL⟩ := hownL.lineG
  have HGL := Lib.hid hgetL
  obtain ⟨w3, rfl⟩ : ∃ w3 : World, w3 = w' := ⟨_, rfl⟩
  have HW3 : Hid (Below w.heap.size w w3) := by show Below _ _ _; (repeat' first | (with_reducible exact Below.refl _ _) | (with_reducible refine Below.alloc ?_ ?_ _) | (with_reducible refine Below.drew ?_) | (with_reducible refine Below.setCell ?_ ?_ _) | (with_reducible refine below_via (by assumption) ?_ ?_) | go_size)
  have hb0 : w3.cell? ⟨w.heap.size, 0, none⟩ = some (.int .i64 a) := by simp [go_sem, *]
  have hb1 : w3.cell? ⟨w.heap.size, 1, none⟩ = some (.int .i64 b) := by simp [go_sem, *]
  have hb2 : w3.cell? ⟨w.heap.size, 2, none⟩ = some (.int .i64 o) := by simp [go_sem, *]
  have hr0 : w3.cell? ⟨w.heap.size + 1, 0, none⟩ = some (.int .i64 0) := by simp [go_sem, *]
  have hr1 : w3.cell? ⟨w.heap.size + 1, 1, none⟩ = some (.int .i64 0) := by simp [go_sem, *]
  have hr2 : w3.cell? ⟨w.heap.size + 1, 2, none⟩ = some (.int .i64 0) := by simp [go_sem, *]
  have hrf : ∀ j, w3.frozen? ⟨w.heap.size + 1, j, none⟩ = false := by intro j; simp [go_sem, *]
  have hz3 : w.heap.size + 1 < w3.heap.size := by omega
  have hz4 : w.heap.size < w3.heap.size := by omega
  clear hc hf hgetL hownL
  go_wp2_with fail
  go_loopw [7] (fun i wr => ∃ k : Nat, k ≤ L.length ∧ i = .int .i64 k ∧ Hid ((L.take k).any (brokenAt W) = false) ∧ Below w3.heap.size w3 wr) (fun i _ => L.length - (intOf i).toNat)
  case atStart => exact ⟨0, by omega, rfl, by show _ = _; simp, Below.refl _ _⟩
  case round =>
    obtain ⟨k, hk, rfl, hno, hbw⟩ := hrel
    have hz := hbw.size
    have hb0' := (hbw.cell (p := ⟨w.heap.size, 0, none⟩) hz4).trans hb0
    have hb1' := (hbw.cell (p := ⟨w.heap.size, 1, none⟩) hz4).trans hb1
    have hb2' := (hbw.cell (p := ⟨w.heap.size, 2, none⟩) hz4).trans hb2
    have gB : w.heap.size < wr.heap.size := by omega
    have gR : w.heap.size + 1 < wr.heap.size := by omega
    have HWr : Hid (Below w.heap.size w wr) := HW3.out.trans (hbw.mono (Nat.le_of_lt hz4))
    by_cases hlt : k < L.length
    rotate_left
    · have hr0' := (hbw.cell (p := ⟨w.heap.size + 1, 0, none⟩) hz3).trans hr0
      have hr1' := (hbw.cell (p := ⟨w.heap.size + 1, 1, none⟩) hz3).trans hr1
      have hr2' := (hbw.cell (p := ⟨w.heap.size + 1, 2, none⟩) hz3).trans hr2
      have hrf' : ∀ j, wr.frozen? ⟨w.heap.size + 1, j, none⟩ = false := fun j => (hbw.frozen (p := ⟨w.heap.size + 1, j, none⟩) hz3).trans (hrf j)
      obtain rfl : k = L.length := by omega
      have HR : Hid (broken a b o W = false) := by show _ = _; rw [HF.out]; have := hno.out; rw [List.take_length] at this; rw [this]; simp
      go_wp2_with fail
      all_goals ((try simp only [Exit.inBlock, Exit.then]); refine bodyPost_ret (v := .tuple #[.agg #[.int .i64 0, .int .i64 0, .int .i64 0], .bool false]) (by simp [results, Tryz.results97, go_sem, *]) rfl ⟨⟨Ln0, by rw [HR.out]; rfl⟩, by have h1 := HWr.out; (repeat' first | (with_reducible exact Below.refl _ _) | (with_reducible refine Below.alloc ?_ ?_ _) | (with_reducible refine Below.drew ?_) | (with_reducible refine Below.setCell ?_ ?_ _) | (with_reducible refine below_via (by assumption) ?_ ?_) | go_size)⟩)
    cases hwk : weightsOk a b o W
    · have HR : Hid (broken a b o W = false) := by show _ = _; rw [HF.out, hwk]; rfl
      rw [hwk] at HW
      clear hwk HBD
      go_wp2_with (go_at_call 98; refine (HW.out _ (HV.out _ HWr.out)).mono ?_; rintro e w' ⟨rfl, hb⟩; have hr0' := (hb.cell (p := ⟨w.heap.size + 1, 0, none⟩) gR).trans ((hbw.cell (p := ⟨w.heap.size + 1, 0, none⟩) hz3).trans hr0); have hr1' := (hb.cell (p := ⟨w.heap.size + 1, 1, none⟩) gR).trans ((hbw.cell (p := ⟨w.heap.size + 1, 1, none⟩) hz3).trans hr1); have hr2' := (hb.cell (p := ⟨w.heap.size + 1, 2, none⟩) gR).trans ((hbw.cell (p := ⟨w.heap.size + 1, 2, none⟩) hz3).trans hr2); have hrf' : (∀ j, w'.frozen? ⟨w.heap.size + 1, j, none⟩ = false) := (fun j => (hb.frozen (p := ⟨w.heap.size + 1, j, none⟩) gR).trans ((hbw.frozen (p := ⟨w.heap.size + 1, j, none⟩) hz3).trans (hrf j))); have hBf := HWr.out.trans (hb.mono (Nat.le_of_lt gB)))
      all_goals ((try simp only [Exit.inBlock, Exit.then]); refine bodyPost_ret (v := .tuple #[.agg #[.int .i64 0, .int .i64 0, .int .i64 0], .bool false]) (by simp [results, Tryz.results97, go_sem, *]) rfl ⟨⟨Ln0, by rw [HR.out]; rfl⟩, by clear hb hbw; (repeat' first | (with_reducible exact Below.refl _ _) | (with_reducible refine Below.alloc ?_ ?_ _) | (with_reducible refine Below.drew ?_) | (with_reducible refine Below.setCell ?_ ?_ _) | (with_reducible refine below_via (by assumption) ?_ ?_) | go_size)⟩)
    obtain ⟨⟨hW49, hWb⟩, hLN⟩ := HBD.out hwk
    have HE : Hid (broken a b o W = L.any (brokenAt W)) := by show _ = _; rw [HF.out, hwk]; rfl
    rw [hwk] at HW
    obtain ⟨bL, rfl, _, hbL, hc0, hc1, hc2⟩ := HGL.out k hlt
    have hln := hLN k hlt
    obtain ⟨bW, rfl, _, hbW, hw0⟩ := HGW.out (gD L Ln0 k).f.toNat (by omega)
    obtain ⟨bW', e1, _, _, hw1⟩ := HGW.out (gD L Ln0 k).o.toNat (by omega)
    obtain rfl : bW = bW' := by simpa using e1
    clear e1
    obtain ⟨bW', e1, _, _, hw2⟩ := HGW.out (gD L Ln0 k).t.toNat (by omega)
    obtain rfl : bW = bW' := by simpa using e1
    clear e1
    have g3 : bW < w3.heap.size := Nat.lt_of_lt_of_le hbW HW3.out.size
    have hx0 := hWb (gD L Ln0 k).f.toNat (by omega)
    have hx1 := hWb (gD L Ln0 k).o.toNat (by omega)
    have hx2 := hWb (gD L Ln0 k).t.toNat (by omega)
    have HBA : Hid (brokenAt W (gD L Ln0 k) = decide (gD W 0 (gD L Ln0 k).f.toNat + gD W 0 (gD L Ln0 k).o.toNat < gD W 0 (gD L Ln0 k).t.toNat)) := rfl
    have HY := Lib.hid (fun h => any_yes (P := brokenAt W) (l := L) (d := Ln0) hlt h)
    have HN := Lib.hid (fun h => any_no (P := brokenAt W) (l := L) (d := Ln0) hlt hno.out h)
    have HC0 := Lib.hid hc0
    have HC1 := Lib.hid hc1
    have HC2 := Lib.hid hc2
    have HX0 := Lib.hid hw0
    have HX1 := Lib.hid hw1
    have HX2 := Lib.hid hw2
    clear hwk HBD hLN hWb hc0 hc1 hc2 hw0 hw1 hw2
    go_wp2_with (go_at_call 98; refine (HW.out _ (HV.out _ HWr.out)).mono ?_; rintro e w' ⟨rfl, hb⟩; have hBw := hbw.trans (hb.mono hz))
    obtain ⟨wo, rfl⟩ : ∃ wo : World, wo = w' := ⟨_, rfl⟩
    have hc0 := HC0.out
    have hc1 := HC1.out
    have hc2 := HC2.out
    have hw0 := HX0.out
    have hw1 := HX1.out
    have hw2 := HX2.out
    rw [← hBw.cell (by simpa using hbL)] at hc0 hc1 hc2
    rw [← HW3.out.cell (by simpa using hbW), ← hBw.cell (by simpa using g3)] at hw0 hw1 hw2
    have hzo := hBw.size
    have gL : bL < wo.heap.size := by omega
    have gW : bW < wo.heap.size := by omega
    have gRo : w.heap.size + 1 < wo.heap.size := by omega
    have hr0' := (hBw.cell (p := ⟨w.heap.size + 1, 0, none⟩) hz3).trans hr0
    have hr1' := (hBw.cell (p := ⟨w.heap.size + 1, 1, none⟩) hz3).trans hr1
    have hr2' := (hBw.cell (p := ⟨w.heap.size + 1, 2, none⟩) hz3).trans hr2
    have hrf' : ∀ j, wo.frozen? ⟨w.heap.size + 1, j, none⟩ = false := fun j => (hBw.frozen (p := ⟨w.heap.size + 1, j, none⟩) hz3).trans (hrf j)
    clear hb0' hb1' hb2' hb hbw
    generalize brokenAt W (gD L Ln0 k) = q at *
    generalize gD W 0 (gD L Ln0 k).f.toNat = x0 at *
    generalize gD W 0 (gD L Ln0 k).o.toNat = x1 at *
    generalize gD W 0 (gD L Ln0 k).t.toNat = x2 at *
    generalize gD L Ln0 k = l at *
    by_cases hq : x0 + x1 < x2
    · have hqd : decide (x0 + x1 < x2) = true := by simpa using hq
      have HT : Hid (L.any (brokenAt W) = true) := HY.out (by rw [HBA.out, hqd])
      have HR : Hid (broken a b o W = true) := by show _ = _; rw [HE.out, HT.out]
      clear HY HN HBA HT HE
      go_wp2_with ((with_reducible refine wp_region_qb ?_ ?_ (fun hq => ?_)); (focus kernel_rfl); (focus kernel_rfl); (repeat (go_big_quiet_step (fail))); refine wpQuiet_nil ?_; intro wq hBQ; have sQ0 := (hBQ.cell (p := ⟨w.heap.size + 1, 0, none⟩) gRo).trans hr0'; have sQ1 := (hBQ.cell (p := ⟨w.heap.size + 1, 1, none⟩) gRo).trans hr1'; have sQ2 := (hBQ.cell (p := ⟨w.heap.size + 1, 2, none⟩) gRo).trans hr2'; have fQ : (∀ j, wq.frozen? ⟨w.heap.size + 1, j, none⟩ = false) := (fun j => (hBQ.frozen (p := ⟨w.heap.size + 1, j, none⟩) gRo).trans (hrf' j)); have cQ0 := (hBQ.cell (p := ⟨bL, k * 3, none⟩) gL).trans hc0; have cQ1 := (hBQ.cell (p := ⟨bL, k * 3 + 1, none⟩) gL).trans hc1; have cQ2 := (hBQ.cell (p := ⟨bL, k * 3 + 2, none⟩) gL).trans hc2)
      all_goals ((try simp only [Exit.inBlock, Exit.then]); refine bodyPost_ret (v := .tuple #[.agg #[.int .i64 l.f, .int .i64 l.o, .int .i64 l.t], .bool true]) (by simp [results, Tryz.results97, go_sem, *]) rfl ⟨⟨l, by rw [HR.out]⟩, by have h1 := HW3.out.trans (hBw.mono (Nat.le_of_lt hz4)); have h2 := h1.trans (hBQ.mono h1.size); clear h1 hBw hBQ; (repeat' first | (with_reducible exact Below.refl _ _) | (with_reducible refine Below.alloc ?_ ?_ _) | (with_reducible refine Below.drew ?_) | (with_reducible refine Below.setCell ?_ ?_ _) | (with_reducible refine below_via (by assumption) ?_ ?_) | go_size)⟩)
    · have hqd : decide (x0 + x1 < x2) = false := by simpa using hq
      have HN2 := Lib.hid (HN.out (by rw [HBA.out, hqd]))
      clear HY HN HBA HE
      go_wp2_with ((with_reducible refine wp_region_qb ?_ ?_ (fun hq => ?_)); (focus kernel_rfl); (focus kernel_rfl); (repeat (go_big_quiet_step (fail))); refine wpQuiet_nil ?_; intro wq hBQ)
      go_roundw
      case rel => exact ⟨k + 1, by omega, by go_num, HN2, hBw.trans (hBQ.mono hzo)⟩
      case measure => simp [intOf]; omega
end Go.Proofs.YtfmplmlilmalpaaGreat
namespace Go.Proofs.YtfmplmlilmalpaaGreat
open Go.ChangeShapes Go.WideShapes Go.ChangeAt Go.RowKit Peg Go.Sort
set_option maxHeartbeats 1000000 in
set_option maxRecDepth 100000 in
theorem IsFalling_any (a b o : Int) (W : List Int) (v : Value) (w : World) {B : Nat} (hv : Own EInt w B v W) :
    Calls Tryz.prog 52 #[.agg #[.int .i64 a, .int .i64 b, .int .i64 o], v] w fun e w' => e = .returned (.bool (falling a b o W)) ∧ Below w.heap.size w w' := by
  have HV := Lib.hid (fun w' (hb : Below w.heap.size w w') => hv.keep hb)
  obtain ⟨aW, capW, rfl, _⟩ := hv.intG
  clear hv
  have HW : Hid (∀ W', Own EInt W' B (.slice aW W.length capW) W → Calls Tryz.prog 88 #[.agg #[.int .i64 a, .int .i64 b, .int .i64 o], .slice aW W.length capW] W' fun e w' => e = .returned (.bool (weightsOk a b o W)) ∧ Below W'.heap.size W' w') := fun W' hW => WeightsOk_any a b o W _ W' hW
  have HBR : Hid (∀ W', Own EInt W' B (.slice aW W.length capW) W → Calls Tryz.prog 87 #[.agg #[.int .i64 a, .int .i64 b, .int .i64 o], .slice aW W.length capW] W' (RetBroken W' (broken a b o W))) := fun W' hW => BrokenLine_any a b o W _ W' hW
  have HF : Hid (falling a b o W = (weightsOk a b o W && !broken a b o W)) := rfl
  generalize weightsOk a b o W = x at *
  generalize broken a b o W = y at *
  cases x <;> cases y
  all_goals
    go_enter Tryz.func52, Tryz.ntmps52
    go_wp2_with (first | (go_at_call 87; refine (HBR.out _ (HV.out _ (by (repeat' first | (with_reducible exact Below.refl _ _) | (with_reducible refine Below.alloc ?_ ?_ _) | (with_reducible refine Below.drew ?_) | (with_reducible refine Below.setCell ?_ ?_ _) | (with_reducible refine below_via (by assumption) ?_ ?_) | go_size)))).mono ?_; rintro e w' ⟨⟨x, rfl⟩, hb⟩; obtain ⟨hc, hf, hz, hy⟩ := bcell hb; clear hy; (try simp only [World.size_alloc, World.size_setCell, World.size_drew] at hz); (try have gQ0 : w.heap.size < w'.heap.size := by omega); (try have gQ1 : w.heap.size + 1 < w'.heap.size := by omega); (try have gQ2 : w.heap.size + 1 + 1 < w'.heap.size := by omega); (try have gQ3 : w.heap.size + 1 + 1 + 1 < w'.heap.size := by omega); (try have gQ4 : w.heap.size + 1 + 1 + 1 + 1 < w'.heap.size := by omega); (try have gQ5 : w.heap.size + 1 + 1 + 1 + 1 + 1 < w'.heap.size := by omega); (try have dQ0 : _ < w'.heap.size := Nat.lt_of_lt_of_le dQ0 (by omega)); (try have dQ1 : _ < w'.heap.size := Nat.lt_of_lt_of_le dQ1 (by omega)); (try have dQ2 : _ < w'.heap.size := Nat.lt_of_lt_of_le dQ2 (by omega)); (try have dQ3 : _ < w'.heap.size := Nat.lt_of_lt_of_le dQ3 (by omega)); (try have dQ4 : _ < w'.heap.size := Nat.lt_of_lt_of_le dQ4 (by omega)); (try have dQ5 : _ < w'.heap.size := Nat.lt_of_lt_of_le dQ5 (by omega)); (try (have hnQ := Nat.lt_of_succ_le hz; first | (have _x := dQ0; first | (have _x := dQ1; first | (have _x := dQ2; first | (have _x := dQ3; first | (have _x := dQ4; have dQ5 := hnQ) | have dQ4 := hnQ) | have dQ3 := hnQ) | have dQ2 := hnQ) | have dQ1 := hnQ) | have dQ0 := hnQ)); (try (have hmQ := Nat.lt_of_succ_lt (Nat.lt_of_succ_le hz); first | (have _x := dQ0; first | (have _x := dQ1; first | (have _x := dQ2; first | (have _x := dQ3; first | (have _x := dQ4; have dQ5 := hmQ) | have dQ4 := hmQ) | have dQ3 := hmQ) | have dQ2 := hmQ) | have dQ1 := hmQ) | have dQ0 := hmQ))) | (go_at_call 88; refine (HW.out _ (HV.out _ (by (repeat' first | (with_reducible exact Below.refl _ _) | (with_reducible refine Below.alloc ?_ ?_ _) | (with_reducible refine Below.drew ?_) | (with_reducible refine Below.setCell ?_ ?_ _) | (with_reducible refine below_via (by assumption) ?_ ?_) | go_size)))).mono ?_; rintro e w' ⟨rfl, hb⟩; obtain ⟨hc, hf, hz, hy⟩ := bcell hb; clear hy; (try simp only [World.size_alloc, World.size_setCell, World.size_drew] at hz); (try have gQ0 : w.heap.size < w'.heap.size := by omega); (try have gQ1 : w.heap.size + 1 < w'.heap.size := by omega); (try have gQ2 : w.heap.size + 1 + 1 < w'.heap.size := by omega); (try have gQ3 : w.heap.size + 1 + 1 + 1 < w'.heap.size := by omega); (try have gQ4 : w.heap.size + 1 + 1 + 1 + 1 < w'.heap.size := by omega); (try have gQ5 : w.heap.size + 1 + 1 + 1 + 1 + 1 < w'.heap.size := by omega); (try have dQ0 : _ < w'.heap.size := Nat.lt_of_lt_of_le dQ0 (by omega)); (try have dQ1 : _ < w'.heap.size := Nat.lt_of_lt_of_le dQ1 (by omega)); (try have dQ2 : _ < w'.heap.size := Nat.lt_of_lt_of_le dQ2 (by omega)); (try have dQ3 : _ < w'.heap.size := Nat.lt_of_lt_of_le dQ3 (by omega)); (try have dQ4 : _ < w'.heap.size := Nat.lt_of_lt_of_le dQ4 (by omega)); (try have dQ5 : _ < w'.heap.size := Nat.lt_of_lt_of_le dQ5 (by omega)); (try (have hnQ := Nat.lt_of_succ_le hz; first | (have _x := dQ0; first | (have _x := dQ1; first | (have _x := dQ2; first | (have _x := dQ3; first | (have _x := dQ4; have dQ5 := hnQ) | have dQ4 := hnQ) | have dQ3 := hnQ) | have dQ2 := hnQ) | have dQ1 := hnQ) | have dQ0 := hnQ)); (try (have hmQ := Nat.lt_of_succ_lt (Nat.lt_of_succ_le hz); first | (have _x := dQ0; first | (have _x := dQ1; first | (have _x := dQ2; first | (have _x := dQ3; first | (have _x := dQ4; have dQ5 := hmQ) | have dQ4 := hmQ) | have dQ3 := hmQ) | have dQ2 := hmQ) | have dQ1 := hmQ) | have dQ0 := hmQ))))
    all_goals go_ret
    all_goals exact ⟨by simp [HF.out], by (repeat' first | (with_reducible exact Below.refl _ _) | (with_reducible refine Below.alloc ?_ ?_ _) | (with_reducible refine Below.drew ?_) | (with_reducible refine Below.setCell ?_ ?_ _) | (with_reducible refine below_via (by assumption) ?_ ?_) | go_size)⟩
set_option maxHeartbeats 2000000 in
set_option maxRecDepth 100000 in
theorem IsProof_any (a b o : Int) (W : List Int) (p g : Int) (v : Value) (hp : p ≤ 9223372036854775807) (hg : g ≤ 9223372036854775807) (w : World) {B : Nat} (hv : Own EInt w B v W) :
    Calls Tryz.prog 19 #[.agg #[.int .i64 a, .int .i64 b, .int .i64 o], v, .int .i64 p, .int .i64 g] w fun e w' => e = .returned (.bool (isProof a b o W p g)) ∧ Below w.heap.size w w' := by
  have HV := Lib.hid (fun w' (hb : Below w.heap.size w w') => hv.keep hb)
  obtain ⟨aW, capW, rfl, _⟩ := hv.intG
  clear hv
  have HFA : Hid (∀ W', Own EInt W' B (.slice aW W.length capW) W → Calls Tryz.prog 52 #[.agg #[.int .i64 a, .int .i64 b, .int .i64 o], .slice aW W.length capW] W' fun e w' => e = .returned (.bool (falling a b o W)) ∧ Below W'.heap.size W' w') := fun W' hW => IsFalling_any a b o W _ W' hW
  have HP : Hid (∀ W', Calls Tryz.prog 50 #[.agg #[.int .i64 a, .int .i64 b, .int .i64 o], .int .i64 p] W' fun e w' => e = .returned (.bool (posOk a b o p)) ∧ Below W'.heap.size W' w') := fun W' => PositionOk_any a b o p hp W'
  have HG : Hid (∀ W', Calls Tryz.prog 50 #[.agg #[.int .i64 a, .int .i64 b, .int .i64 o], .int .i64 g] W' fun e w' => e = .returned (.bool (posOk a b o g)) ∧ Below W'.heap.size W' w') := fun W' => PositionOk_any a b o g hg W'
  have HSP : Hid (∀ W', Own EInt W' B (.slice aW W.length capW) W → Calls Tryz.prog 53 #[.agg #[.int .i64 a, .int .i64 b, .int .i64 o], .slice aW W.length capW, .int .i64 p] W' fun e w' => e = .returned (.int .i64 (sumOf a b o W p)) ∧ Below W'.heap.size W' w') := fun W' hW => SumOf_any a b o W p _ hp W' hW
  have HSG : Hid (∀ W', Own EInt W' B (.slice aW W.length capW) W → Calls Tryz.prog 53 #[.agg #[.int .i64 a, .int .i64 b, .int .i64 o], .slice aW W.length capW, .int .i64 g] W' fun e w' => e = .returned (.int .i64 (sumOf a b o W g)) ∧ Below W'.heap.size W' w') := fun W' hW => SumOf_any a b o W g _ hg W' hW
  have HF : Hid (isProof a b o W p g = (falling a b o W && (posOk a b o p && (posOk a b o g && decide (sumOf a b o W p < sumOf a b o W g))))) := rfl
  generalize falling a b o W = x at *
  generalize posOk a b o p = y at *
  generalize posOk a b o g = z at *
  generalize sumOf a b o W p = s at *
  generalize sumOf a b o W g = t at *
  cases x
  · go_enter Tryz.func19, Tryz.ntmps19
    go_wp2_with ((with_reducible refine wp_region_qb ?_ ?_ (fun hq => ?_)); (focus kernel_rfl); (focus kernel_rfl); (repeat (go_big_quiet_step (first | (go_at_call 52; exact Calls.regrown_of (HFA.out _ (HV.out _ (((Below.refl _ _).alloc (Nat.le_refl _) _).trans ((below_regrown _ _ _).mono (by simp)))))) | (go_at_call 50; first | (with_reducible exact Calls.regrown_of (HP.out _)) | (with_reducible exact Calls.regrown_of (HG.out _))) | (go_at_call 53; first | (with_reducible exact Calls.regrown_of (HSP.out _ (HV.out _ (((Below.refl _ _).alloc (Nat.le_refl _) _).trans ((below_regrown _ _ _).mono (by simp)))))) | (with_reducible exact Calls.regrown_of (HSG.out _ (HV.out _ (((Below.refl _ _).alloc (Nat.le_refl _) _).trans ((below_regrown _ _ _).mono (by simp)))))))))); refine wpQuiet_nil ?_; intro wq hb; obtain ⟨hc, hf, hz, hy⟩ := bcell hb; clear hq hy; (try simp only [World.size_alloc, World.size_setCell, World.size_drew] at hz); (try have gQ0 : w.heap.size < wq.heap.size := by omega); (try have gQ1 : w.heap.size + 1 < wq.heap.size := by omega); (try have gQ2 : w.heap.size + 1 + 1 < wq.heap.size := by omega); (try have gQ3 : w.heap.size + 1 + 1 + 1 < wq.heap.size := by omega); (try have gQ4 : w.heap.size + 1 + 1 + 1 + 1 < wq.heap.size := by omega); (try have gQ5 : w.heap.size + 1 + 1 + 1 + 1 + 1 < wq.heap.size := by omega); (try have dQ0 : _ < wq.heap.size := Nat.lt_of_lt_of_le dQ0 (by omega)); (try have dQ1 : _ < wq.heap.size := Nat.lt_of_lt_of_le dQ1 (by omega)); (try have dQ2 : _ < wq.heap.size := Nat.lt_of_lt_of_le dQ2 (by omega)); (try have dQ3 : _ < wq.heap.size := Nat.lt_of_lt_of_le dQ3 (by omega)); (try have dQ4 : _ < wq.heap.size := Nat.lt_of_lt_of_le dQ4 (by omega)); (try have dQ5 : _ < wq.heap.size := Nat.lt_of_lt_of_le dQ5 (by omega)); (try (have hnQ := Nat.lt_of_succ_le hz; first | (have _x := dQ0; first | (have _x := dQ1; first | (have _x := dQ2; first | (have _x := dQ3; first | (have _x := dQ4; have dQ5 := hnQ) | have dQ4 := hnQ) | have dQ3 := hnQ) | have dQ2 := hnQ) | have dQ1 := hnQ) | have dQ0 := hnQ)); (try (have hmQ := Nat.lt_of_succ_lt (Nat.lt_of_succ_le hz); first | (have _x := dQ0; first | (have _x := dQ1; first | (have _x := dQ2; first | (have _x := dQ3; first | (have _x := dQ4; have dQ5 := hmQ) | have dQ4 := hmQ) | have dQ3 := hmQ) | have dQ2 := hmQ) | have dQ1 := hmQ) | have dQ0 := hmQ)))
    all_goals go_ret
    all_goals exact ⟨by simp [HF.out], by (repeat' first | (with_reducible exact Below.refl _ _) | (with_reducible refine Below.alloc ?_ ?_ _) | (with_reducible refine Below.drew ?_) | (with_reducible refine Below.setCell ?_ ?_ _) | (with_reducible refine below_via (by assumption) ?_ ?_) | go_size)⟩
  cases y
  · go_enter Tryz.func19, Tryz.ntmps19
    go_wp2_with ((with_reducible refine wp_region_qb ?_ ?_ (fun hq => ?_)); (focus kernel_rfl); (focus kernel_rfl); (repeat (go_big_quiet_step (first | (go_at_call 52; exact Calls.regrown_of (HFA.out _ (HV.out _ (((Below.refl _ _).alloc (Nat.le_refl _) _).trans ((below_regrown _ _ _).mono (by simp)))))) | (go_at_call 50; first | (with_reducible exact Calls.regrown_of (HP.out _)) | (with_reducible exact Calls.regrown_of (HG.out _))) | (go_at_call 53; first | (with_reducible exact Calls.regrown_of (HSP.out _ (HV.out _ (((Below.refl _ _).alloc (Nat.le_refl _) _).trans ((below_regrown _ _ _).mono (by simp)))))) | (with_reducible exact Calls.regrown_of (HSG.out _ (HV.out _ (((Below.refl _ _).alloc (Nat.le_refl _) _).trans ((below_regrown _ _ _).mono (by simp)))))))))); refine wpQuiet_nil ?_; intro wq hb; obtain ⟨hc, hf, hz, hy⟩ := bcell hb; clear hq hy; (try simp only [World.size_alloc, World.size_setCell, World.size_drew] at hz); (try have gQ0 : w.heap.size < wq.heap.size := by omega); (try have gQ1 : w.heap.size + 1 < wq.heap.size := by omega); (try have gQ2 : w.heap.size + 1 + 1 < wq.heap.size := by omega); (try have gQ3 : w.heap.size + 1 + 1 + 1 < wq.heap.size := by omega); (try have gQ4 : w.heap.size + 1 + 1 + 1 + 1 < wq.heap.size := by omega); (try have gQ5 : w.heap.size + 1 + 1 + 1 + 1 + 1 < wq.heap.size := by omega); (try have dQ0 : _ < wq.heap.size := Nat.lt_of_lt_of_le dQ0 (by omega)); (try have dQ1 : _ < wq.heap.size := Nat.lt_of_lt_of_le dQ1 (by omega)); (try have dQ2 : _ < wq.heap.size := Nat.lt_of_lt_of_le dQ2 (by omega)); (try have dQ3 : _ < wq.heap.size := Nat.lt_of_lt_of_le dQ3 (by omega)); (try have dQ4 : _ < wq.heap.size := Nat.lt_of_lt_of_le dQ4 (by omega)); (try have dQ5 : _ < wq.heap.size := Nat.lt_of_lt_of_le dQ5 (by omega)); (try (have hnQ := Nat.lt_of_succ_le hz; first | (have _x := dQ0; first | (have _x := dQ1; first | (have _x := dQ2; first | (have _x := dQ3; first | (have _x := dQ4; have dQ5 := hnQ) | have dQ4 := hnQ) | have dQ3 := hnQ) | have dQ2 := hnQ) | have dQ1 := hnQ) | have dQ0 := hnQ)); (try (have hmQ := Nat.lt_of_succ_lt (Nat.lt_of_succ_le hz); first | (have _x := dQ0; first | (have _x := dQ1; first | (have _x := dQ2; first | (have _x := dQ3; first | (have _x := dQ4; have dQ5 := hmQ) | have dQ4 := hmQ) | have dQ3 := hmQ) | have dQ2 := hmQ) | have dQ1 := hmQ) | have dQ0 := hmQ)))
    all_goals go_ret
    all_goals exact ⟨by simp [HF.out], by (repeat' first | (with_reducible exact Below.refl _ _) | (with_reducible refine Below.alloc ?_ ?_ _) | (with_reducible refine Below.drew ?_) | (with_reducible refine Below.setCell ?_ ?_ _) | (with_reducible refine below_via (by assumption) ?_ ?_) | go_size)⟩
  cases z
  · go_enter Tryz.func19, Tryz.ntmps19
    go_wp2_with ((with_reducible refine wp_region_qb ?_ ?_ (fun hq => ?_)); (focus kernel_rfl); (focus kernel_rfl); (repeat (go_big_quiet_step (first | (go_at_call 52; exact Calls.regrown_of (HFA.out _ (HV.out _ (((Below.refl _ _).alloc (Nat.le_refl _) _).trans ((below_regrown _ _ _).mono (by simp)))))) | (go_at_call 50; first | (with_reducible exact Calls.regrown_of (HP.out _)) | (with_reducible exact Calls.regrown_of (HG.out _))) | (go_at_call 53; first | (with_reducible exact Calls.regrown_of (HSP.out _ (HV.out _ (((Below.refl _ _).alloc (Nat.le_refl _) _).trans ((below_regrown _ _ _).mono (by simp)))))) | (with_reducible exact Calls.regrown_of (HSG.out _ (HV.out _ (((Below.refl _ _).alloc (Nat.le_refl _) _).trans ((below_regrown _ _ _).mono (by simp)))))))))); refine wpQuiet_nil ?_; intro wq hb; obtain ⟨hc, hf, hz, hy⟩ := bcell hb; clear hq hy; (try simp only [World.size_alloc, World.size_setCell, World.size_drew] at hz); (try have gQ0 : w.heap.size < wq.heap.size := by omega); (try have gQ1 : w.heap.size + 1 < wq.heap.size := by omega); (try have gQ2 : w.heap.size + 1 + 1 < wq.heap.size := by omega); (try have gQ3 : w.heap.size + 1 + 1 + 1 < wq.heap.size := by omega); (try have gQ4 : w.heap.size + 1 + 1 + 1 + 1 < wq.heap.size := by omega); (try have gQ5 : w.heap.size + 1 + 1 + 1 + 1 + 1 < wq.heap.size := by omega); (try have dQ0 : _ < wq.heap.size := Nat.lt_of_lt_of_le dQ0 (by omega)); (try have dQ1 : _ < wq.heap.size := Nat.lt_of_lt_of_le dQ1 (by omega)); (try have dQ2 : _ < wq.heap.size := Nat.lt_of_lt_of_le dQ2 (by omega)); (try have dQ3 : _ < wq.heap.size := Nat.lt_of_lt_of_le dQ3 (by omega)); (try have dQ4 : _ < wq.heap.size := Nat.lt_of_lt_of_le dQ4 (by omega)); (try have dQ5 : _ < wq.heap.size := Nat.lt_of_lt_of_le dQ5 (by omega)); (try (have hnQ := Nat.lt_of_succ_le hz; first | (have _x := dQ0; first | (have _x := dQ1; first | (have _x := dQ2; first | (have _x := dQ3; first | (have _x := dQ4; have dQ5 := hnQ) | have dQ4 := hnQ) | have dQ3 := hnQ) | have dQ2 := hnQ) | have dQ1 := hnQ) | have dQ0 := hnQ)); (try (have hmQ := Nat.lt_of_succ_lt (Nat.lt_of_succ_le hz); first | (have _x := dQ0; first | (have _x := dQ1; first | (have _x := dQ2; first | (have _x := dQ3; first | (have _x := dQ4; have dQ5 := hmQ) | have dQ4 := hmQ) | have dQ3 := hmQ) | have dQ2 := hmQ) | have dQ1 := hmQ) | have dQ0 := hmQ)))
    all_goals go_ret
    all_goals exact ⟨by simp [HF.out], by (repeat' first | (with_reducible exact Below.refl _ _) | (with_reducible refine Below.alloc ?_ ?_ _) | (with_reducible refine Below.drew ?_) | (with_reducible refine Below.setCell ?_ ?_ _) | (with_reducible refine below_via (by assumption) ?_ ?_) | go_size)⟩
  go_enter Tryz.func19, Tryz.ntmps19
  go_wp2_with ((with_reducible refine wp_region_qb ?_ ?_ (fun hq => ?_)); (focus kernel_rfl); (focus kernel_rfl); (repeat (go_big_quiet_step (first | (go_at_call 52; exact Calls.regrown_of (HFA.out _ (HV.out _ (((Below.refl _ _).alloc (Nat.le_refl _) _).trans ((below_regrown _ _ _).mono (by simp)))))) | (go_at_call 50; first | (with_reducible exact Calls.regrown_of (HP.out _)) | (with_reducible exact Calls.regrown_of (HG.out _))) | (go_at_call 53; first | (with_reducible exact Calls.regrown_of (HSP.out _ (HV.out _ (((Below.refl _ _).alloc (Nat.le_refl _) _).trans ((below_regrown _ _ _).mono (by simp)))))) | (with_reducible exact Calls.regrown_of (HSG.out _ (HV.out _ (((Below.refl _ _).alloc (Nat.le_refl _) _).trans ((below_regrown _ _ _).mono (by simp)))))))))); refine wpQuiet_nil ?_; intro wq hb; obtain ⟨hc, hf, hz, hy⟩ := bcell hb; clear hq hy; (try simp only [World.size_alloc, World.size_setCell, World.size_drew] at hz); (try have gQ0 : w.heap.size < wq.heap.size := by omega); (try have gQ1 : w.heap.size + 1 < wq.heap.size := by omega); (try have gQ2 : w.heap.size + 1 + 1 < wq.heap.size := by omega); (try have gQ3 : w.heap.size + 1 + 1 + 1 < wq.heap.size := by omega); (try have gQ4 : w.heap.size + 1 + 1 + 1 + 1 < wq.heap.size := by omega); (try have gQ5 : w.heap.size + 1 + 1 + 1 + 1 + 1 < wq.heap.size := by omega); (try have dQ0 : _ < wq.heap.size := Nat.lt_of_lt_of_le dQ0 (by omega)); (try have dQ1 : _ < wq.heap.size := Nat.lt_of_lt_of_le dQ1 (by omega)); (try have dQ2 : _ < wq.heap.size := Nat.lt_of_lt_of_le dQ2 (by omega)); (try have dQ3 : _ < wq.heap.size := Nat.lt_of_lt_of_le dQ3 (by omega)); (try have dQ4 : _ < wq.heap.size := Nat.lt_of_lt_of_le dQ4 (by omega)); (try have dQ5 : _ < wq.heap.size := Nat.lt_of_lt_of_le dQ5 (by omega)); (try (have hnQ := Nat.lt_of_succ_le hz; first | (have _x := dQ0; first | (have _x := dQ1; first | (have _x := dQ2; first | (have _x := dQ3; first | (have _x := dQ4; have dQ5 := hnQ) | have dQ4 := hnQ) | have dQ3 := hnQ) | have dQ2 := hnQ) | have dQ1 := hnQ) | have dQ0 := hnQ)); (try (have hmQ := Nat.lt_of_succ_lt (Nat.lt_of_succ_le hz); first | (have _x := dQ0; first | (have _x := dQ1; first | (have _x := dQ2; first | (have _x := dQ3; first | (have _x := dQ4; have dQ5 := hmQ) | have dQ4 := hmQ) | have dQ3 := hmQ) | have dQ2 := hmQ) | have dQ1 := hmQ) | have dQ0 := hmQ)))
  all_goals go_ret
  all_goals exact ⟨by simp [HF.out], by (repeat' first | (with_reducible exact Below.refl _ _) | (with_reducible refine Below.alloc ?_ ?_ _) | (with_reducible refine Below.drew ?_) | (with_reducible refine Below.setCell ?_ ?_ _) | (with_reducible refine below_via (by assumption) ?_ ?_) | go_size)⟩
set_option maxHeartbeats 1000000 in
set_option maxRecDepth 100000 in
theorem sIsFalling_any (a b o : Int) (W : List Int) (v : Value) (w : World) {B : Nat} (hv : Own EInt w B v W) :
    Calls Tryz.prog 64 #[.agg #[.int .i64 a, .int .i64 b, .int .i64 o], v] w fun e w' => e = .returned (.bool (falling a b o W)) ∧ Below w.heap.size w w' := by
  have HV := Lib.hid (fun w' (hb : Below w.heap.size w w') => hv.keep hb)
  obtain ⟨aW, capW, rfl, _⟩ := hv.intG
  clear hv
  have HW : Hid (∀ W', Own EInt W' B (.slice aW W.length capW) W → Calls Tryz.prog 98 #[.agg #[.int .i64 a, .int .i64 b, .int .i64 o], .slice aW W.length capW] W' fun e w' => e = .returned (.bool (weightsOk a b o W)) ∧ Below W'.heap.size W' w') := fun W' hW => sWeightsOk_any a b o W _ W' hW
  have HBR : Hid (∀ W', Own EInt W' B (.slice aW W.length capW) W → Calls Tryz.prog 97 #[.agg #[.int .i64 a, .int .i64 b, .int .i64 o], .slice aW W.length capW] W' (RetBroken W' (broken a b o W))) := fun W' hW => sBrokenLine_any a b o W _ W' hW
  have HF : Hid (falling a b o W = (weightsOk a b o W && !broken a b o W)) := rfl
  generalize weightsOk a b o W = x at *
  generalize broken a b o W = y at *
  cases x <;> cases y
  all_goals
    go_enter Tryz.func64, Tryz.ntmps64
    go_wp2_with (first | (go_at_call 97; refine (HBR.out _ (HV.out _ (by (repeat' first | (with_reducible exact Below.refl _ _) | (with_reducible refine Below.alloc ?_ ?_ _) | (with_reducible refine Below.drew ?_) | (with_reducible refine Below.setCell ?_ ?_ _) | (with_reducible refine below_via (by assumption) ?_ ?_) | go_size)))).mono ?_; rintro e w' ⟨⟨x, rfl⟩, hb⟩; obtain ⟨hc, hf, hz, hy⟩ := bcell hb; clear hy; (try simp only [World.size_alloc, World.size_setCell, World.size_drew] at hz); (try have gQ0 : w.heap.size < w'.heap.size := by omega); (try have gQ1 : w.heap.size + 1 < w'.heap.size := by omega); (try have gQ2 : w.heap.size + 1 + 1 < w'.heap.size := by omega); (try have gQ3 : w.heap.size + 1 + 1 + 1 < w'.heap.size := by omega); (try have gQ4 : w.heap.size + 1 + 1 + 1 + 1 < w'.heap.size := by omega); (try have gQ5 : w.heap.size + 1 + 1 + 1 + 1 + 1 < w'.heap.size := by omega); (try have dQ0 : _ < w'.heap.size := Nat.lt_of_lt_of_le dQ0 (by omega)); (try have dQ1 : _ < w'.heap.size := Nat.lt_of_lt_of_le dQ1 (by omega)); (try have dQ2 : _ < w'.heap.size := Nat.lt_of_lt_of_le dQ2 (by omega)); (try have dQ3 : _ < w'.heap.size := Nat.lt_of_lt_of_le dQ3 (by omega)); (try have dQ4 : _ < w'.heap.size := Nat.lt_of_lt_of_le dQ4 (by omega)); (try have dQ5 : _ < w'.heap.size := Nat.lt_of_lt_of_le dQ5 (by omega)); (try (have hnQ := Nat.lt_of_succ_le hz; first | (have _x := dQ0; first | (have _x := dQ1; first | (have _x := dQ2; first | (have _x := dQ3; first | (have _x := dQ4; have dQ5 := hnQ) | have dQ4 := hnQ) | have dQ3 := hnQ) | have dQ2 := hnQ) | have dQ1 := hnQ) | have dQ0 := hnQ)); (try (have hmQ := Nat.lt_of_succ_lt (Nat.lt_of_succ_le hz); first | (have _x := dQ0; first | (have _x := dQ1; first | (have _x := dQ2; first | (have _x := dQ3; first | (have _x := dQ4; have dQ5 := hmQ) | have dQ4 := hmQ) | have dQ3 := hmQ) | have dQ2 := hmQ) | have dQ1 := hmQ) | have dQ0 := hmQ))) | (go_at_call 98; refine (HW.out _ (HV.out _ (by (repeat' first | (with_reducible exact Below.refl _ _) | (with_reducible refine Below.alloc ?_ ?_ _) | (with_reducible refine Below.drew ?_) | (with_reducible refine Below.setCell ?_ ?_ _) | (with_reducible refine below_via (by assumption) ?_ ?_) | go_size)))).mono ?_; rintro e w' ⟨rfl, hb⟩; obtain ⟨hc, hf, hz, hy⟩ := bcell hb; clear hy; (try simp only [World.size_alloc, World.size_setCell, World.size_drew] at hz); (try have gQ0 : w.heap.size < w'.heap.size := by omega); (try have gQ1 : w.heap.size + 1 < w'.heap.size := by omega); (try have gQ2 : w.heap.size + 1 + 1 < w'.heap.size := by omega); (try have gQ3 : w.heap.size + 1 + 1 + 1 < w'.heap.size := by omega); (try have gQ4 : w.heap.size + 1 + 1 + 1 + 1 < w'.heap.size := by omega); (try have gQ5 : w.heap.size + 1 + 1 + 1 + 1 + 1 < w'.heap.size := by omega); (try have dQ0 : _ < w'.heap.size := Nat.lt_of_lt_of_le dQ0 (by omega)); (try have dQ1 : _ < w'.heap.size := Nat.lt_of_lt_of_le dQ1 (by omega)); (try have dQ2 : _ < w'.heap.size := Nat.lt_of_lt_of_le dQ2 (by omega)); (try have dQ3 : _ < w'.heap.size := Nat.lt_of_lt_of_le dQ3 (by omega)); (try have dQ4 : _ < w'.heap.size := Nat.lt_of_lt_of_le dQ4 (by omega)); (try have dQ5 : _ < w'.heap.size := Nat.lt_of_lt_of_le dQ5 (by omega)); (try (have hnQ := Nat.lt_of_succ_le hz; first | (have _x := dQ0; first | (have _x := dQ1; first | (have _x := dQ2; first | (have _x := dQ3; first | (have _x := dQ4; have dQ5 := hnQ) | have dQ4 := hnQ) | have dQ3 := hnQ) | have dQ2 := hnQ) | have dQ1 := hnQ) | have dQ0 := hnQ)); (try (have hmQ := Nat.lt_of_succ_lt (Nat.lt_of_succ_le hz); first | (have _x := dQ0; first | (have _x := dQ1; first | (have _x := dQ2; first | (have _x := dQ3; first | (have _x := dQ4; have dQ5 := hmQ) | have dQ4 := hmQ) | have dQ3 := hmQ) | have dQ2 := hmQ) | have dQ1 := hmQ) | have dQ0 := hmQ))))
    all_goals go_ret
    all_goals exact ⟨by simp [HF.out], by (repeat' first | (with_reducible exact Below.refl _ _) | (with_reducible refine Below.alloc ?_ ?_ _) | (with_reducible refine Below.drew ?_) | (with_reducible refine Below.setCell ?_ ?_ _) | (with_reducible refine below_via (by assumption) ?_ ?_) | go_size)⟩
set_option maxHeartbeats 2000000 in
set_option maxRecDepth 100000 in
theorem sIsProof_any (a b o : Int) (W : List Int) (p g : Int) (v : Value) (hp : p ≤ 9223372036854775807) (hg : g ≤ 9223372036854775807) (w : World) {B : Nat} (hv : Own EInt w B v W) :
    Calls Tryz.prog 28 #[.agg #[.int .i64 a, .int .i64 b, .int .i64 o], v, .int .i64 p, .int .i64 g] w fun e w' => e = .returned (.bool (isProof a b o W p g)) ∧ Below w.heap.size w w' := by
  have HV := Lib.hid (fun w' (hb : Below w.heap.size w w') => hv.keep hb)
  obtain ⟨aW, capW, rfl, _⟩ := hv.intG
  clear hv
  have HFA : Hid (∀ W', Own EInt W' B (.slice aW W.length capW) W → Calls Tryz.prog 64 #[.agg #[.int .i64 a, .int .i64 b, .int .i64 o], .slice aW W.length capW] W' fun e w' => e = .returned (.bool (falling a b o W)) ∧ Below W'.heap.size W' w') := fun W' hW => sIsFalling_any a b o W _ W' hW
  have HP : Hid (∀ W', Calls Tryz.prog 40 #[.agg #[.int .i64 a, .int .i64 b, .int .i64 o], .int .i64 p] W' fun e w' => e = .returned (.bool (posOk a b o p)) ∧ Below W'.heap.size W' w') := fun W' => sPositionOk_any a b o p hp W'
  have HG : Hid (∀ W', Calls Tryz.prog 40 #[.agg #[.int .i64 a, .int .i64 b, .int .i64 o], .int .i64 g] W' fun e w' => e = .returned (.bool (posOk a b o g)) ∧ Below W'.heap.size W' w') := fun W' => sPositionOk_any a b o g hg W'
  have HSP : Hid (∀ W', Own EInt W' B (.slice aW W.length capW) W → Calls Tryz.prog 65 #[.agg #[.int .i64 a, .int .i64 b, .int .i64 o], .slice aW W.length capW, .int .i64 p] W' fun e w' => e = .returned (.int .i64 (sumOf a b o W p)) ∧ Below W'.heap.size W' w') := fun W' hW => sSumOf_any a b o W p _ hp W' hW
  have HSG : Hid (∀ W', Own EInt W' B (.slice aW W.length capW) W → Calls Tryz.prog 65 #[.agg #[.int .i64 a, .int .i64 b, .int .i64 o], .slice aW W.length capW, .int .i64 g] W' fun e w' => e = .returned (.int .i64 (sumOf a b o W g)) ∧ Below W'.heap.size W' w') := fun W' hW => sSumOf_any a b o W g _ hg W' hW
  have HF : Hid (isProof a b o W p g = (falling a b o W && (posOk a b o p && (posOk a b o g && decide (sumOf a b o W p < sumOf a b o W g))))) := rfl
  generalize falling a b o W = x at *
  generalize posOk a b o p = y at *
  generalize posOk a b o g = z at *
  generalize sumOf a b o W p = s at *
  generalize sumOf a b o W g = t at *
  cases x
  · go_enter Tryz.func28, Tryz.ntmps28
    go_wp2_with ((with_reducible refine wp_region_qb ?_ ?_ (fun hq => ?_)); (focus kernel_rfl); (focus kernel_rfl); (repeat (go_big_quiet_step (first | (go_at_call 64; exact Calls.regrown_of (HFA.out _ (HV.out _ (((Below.refl _ _).alloc (Nat.le_refl _) _).trans ((below_regrown _ _ _).mono (by simp)))))) | (go_at_call 40; first | (with_reducible exact Calls.regrown_of (HP.out _)) | (with_reducible exact Calls.regrown_of (HG.out _))) | (go_at_call 65; first | (with_reducible exact Calls.regrown_of (HSP.out _ (HV.out _ (((Below.refl _ _).alloc (Nat.le_refl _) _).trans ((below_regrown _ _ _).mono (by simp)))))) | (with_reducible exact Calls.regrown_of (HSG.out _ (HV.out _ (((Below.refl _ _).alloc (Nat.le_refl _) _).trans ((below_regrown _ _ _).mono (by simp)))))))))); refine wpQuiet_nil ?_; intro wq hb; obtain ⟨hc, hf, hz, hy⟩ := bcell hb; clear hq hy; (try simp only [World.size_alloc, World.size_setCell, World.size_drew] at hz); (try have gQ0 : w.heap.size < wq.heap.size := by omega); (try have gQ1 : w.heap.size + 1 < wq.heap.size := by omega); (try have gQ2 : w.heap.size + 1 + 1 < wq.heap.size := by omega); (try have gQ3 : w.heap.size + 1 + 1 + 1 < wq.heap.size := by omega); (try have gQ4 : w.heap.size + 1 + 1 + 1 + 1 < wq.heap.size := by omega); (try have gQ5 : w.heap.size + 1 + 1 + 1 + 1 + 1 < wq.heap.size := by omega); (try have dQ0 : _ < wq.heap.size := Nat.lt_of_lt_of_le dQ0 (by omega)); (try have dQ1 : _ < wq.heap.size := Nat.lt_of_lt_of_le dQ1 (by omega)); (try have dQ2 : _ < wq.heap.size := Nat.lt_of_lt_of_le dQ2 (by omega)); (try have dQ3 : _ < wq.heap.size := Nat.lt_of_lt_of_le dQ3 (by omega)); (try have dQ4 : _ < wq.heap.size := Nat.lt_of_lt_of_le dQ4 (by omega)); (try have dQ5 : _ < wq.heap.size := Nat.lt_of_lt_of_le dQ5 (by omega)); (try (have hnQ := Nat.lt_of_succ_le hz; first | (have _x := dQ0; first | (have _x := dQ1; first | (have _x := dQ2; first | (have _x := dQ3; first | (have _x := dQ4; have dQ5 := hnQ) | have dQ4 := hnQ) | have dQ3 := hnQ) | have dQ2 := hnQ) | have dQ1 := hnQ) | have dQ0 := hnQ)); (try (have hmQ := Nat.lt_of_succ_lt (Nat.lt_of_succ_le hz); first | (have _x := dQ0; first | (have _x := dQ1; first | (have _x := dQ2; first | (have _x := dQ3; first | (have _x := dQ4; have dQ5 := hmQ) | have dQ4 := hmQ) | have dQ3 := hmQ) | have dQ2 := hmQ) | have dQ1 := hmQ) | have dQ0 := hmQ)))
    all_goals go_ret
    all_goals exact ⟨by simp [HF.out], by (repeat' first | (with_reducible exact Below.refl _ _) | (with_reducible refine Below.alloc ?_ ?_ _) | (with_reducible refine Below.drew ?_) | (with_reducible refine Below.setCell ?_ ?_ _) | (with_reducible refine below_via (by assumption) ?_ ?_) | go_size)⟩
  cases y
  · go_enter Tryz.func28, Tryz.ntmps28
    go_wp2_with ((with_reducible refine wp_region_qb ?_ ?_ (fun hq => ?_)); (focus kernel_rfl); (focus kernel_rfl); (repeat (go_big_quiet_step (first | (go_at_call 64; exact Calls.regrown_of (HFA.out _ (HV.out _ (((Below.refl _ _).alloc (Nat.le_refl _) _).trans ((below_regrown _ _ _).mono (by simp)))))) | (go_at_call 40; first | (with_reducible exact Calls.regrown_of (HP.out _)) | (with_reducible exact Calls.regrown_of (HG.out _))) | (go_at_call 65; first | (with_reducible exact Calls.regrown_of (HSP.out _ (HV.out _ (((Below.refl _ _).alloc (Nat.le_refl _) _).trans ((below_regrown _ _ _).mono (by simp)))))) | (with_reducible exact Calls.regrown_of (HSG.out _ (HV.out _ (((Below.refl _ _).alloc (Nat.le_refl _) _).trans ((below_regrown _ _ _).mono (by simp)))))))))); refine wpQuiet_nil ?_; intro wq hb; obtain ⟨hc, hf, hz, hy⟩ := bcell hb; clear hq hy; (try simp only [World.size_alloc, World.size_setCell, World.size_drew] at hz); (try have gQ0 : w.heap.size < wq.heap.size := by omega); (try have gQ1 : w.heap.size + 1 < wq.heap.size := by omega); (try have gQ2 : w.heap.size + 1 + 1 < wq.heap.size := by omega); (try have gQ3 : w.heap.size + 1 + 1 + 1 < wq.heap.size := by omega); (try have gQ4 : w.heap.size + 1 + 1 + 1 + 1 < wq.heap.size := by omega); (try have gQ5 : w.heap.size + 1 + 1 + 1 + 1 + 1 < wq.heap.size := by omega); (try have dQ0 : _ < wq.heap.size := Nat.lt_of_lt_of_le dQ0 (by omega)); (try have dQ1 : _ < wq.heap.size := Nat.lt_of_lt_of_le dQ1 (by omega)); (try have dQ2 : _ < wq.heap.size := Nat.lt_of_lt_of_le dQ2 (by omega)); (try have dQ3 : _ < wq.heap.size := Nat.lt_of_lt_of_le dQ3 (by omega)); (try have dQ4 : _ < wq.heap.size := Nat.lt_of_lt_of_le dQ4 (by omega)); (try have dQ5 : _ < wq.heap.size := Nat.lt_of_lt_of_le dQ5 (by omega)); (try (have hnQ := Nat.lt_of_succ_le hz; first | (have _x := dQ0; first | (have _x := dQ1; first | (have _x := dQ2; first | (have _x := dQ3; first | (have _x := dQ4; have dQ5 := hnQ) | have dQ4 := hnQ) | have dQ3 := hnQ) | have dQ2 := hnQ) | have dQ1 := hnQ) | have dQ0 := hnQ)); (try (have hmQ := Nat.lt_of_succ_lt (Nat.lt_of_succ_le hz); first | (have _x := dQ0; first | (have _x := dQ1; first | (have _x := dQ2; first | (have _x := dQ3; first | (have _x := dQ4; have dQ5 := hmQ) | have dQ4 := hmQ) | have dQ3 := hmQ) | have dQ2 := hmQ) | have dQ1 := hmQ) | have dQ0 := hmQ)))
    all_goals go_ret
    all_goals exact ⟨by simp [HF.out], by (repeat' first | (with_reducible exact Below.refl _ _) | (with_reducible refine Below.alloc ?_ ?_ _) | (with_reducible refine Below.drew ?_) | (with_reducible refine Below.setCell ?_ ?_ _) | (with_reducible refine below_via (by assumption) ?_ ?_) | go_size)⟩
  cases z
  · go_enter Tryz.func28, Tryz.ntmps28
    go_wp2_with ((with_reducible refine wp_region_qb ?_ ?_ (fun hq => ?_)); (focus kernel_rfl); (focus kernel_rfl); (repeat (go_big_quiet_step (first | (go_at_call 64; exact Calls.regrown_of (HFA.out _ (HV.out _ (((Below.refl _ _).alloc (Nat.le_refl _) _).trans ((below_regrown _ _ _).mono (by simp)))))) | (go_at_call 40; first | (with_reducible exact Calls.regrown_of (HP.out _)) | (with_reducible exact Calls.regrown_of (HG.out _))) | (go_at_call 65; first | (with_reducible exact Calls.regrown_of (HSP.out _ (HV.out _ (((Below.refl _ _).alloc (Nat.le_refl _) _).trans ((below_regrown _ _ _).mono (by simp)))))) | (with_reducible exact Calls.regrown_of (HSG.out _ (HV.out _ (((Below.refl _ _).alloc (Nat.le_refl _) _).trans ((below_regrown _ _ _).mono (by simp)))))))))); refine wpQuiet_nil ?_; intro wq hb; obtain ⟨hc, hf, hz, hy⟩ := bcell hb; clear hq hy; (try simp only [World.size_alloc, World.size_setCell, World.size_drew] at hz); (try have gQ0 : w.heap.size < wq.heap.size := by omega); (try have gQ1 : w.heap.size + 1 < wq.heap.size := by omega); (try have gQ2 : w.heap.size + 1 + 1 < wq.heap.size := by omega); (try have gQ3 : w.heap.size + 1 + 1 + 1 < wq.heap.size := by omega); (try have gQ4 : w.heap.size + 1 + 1 + 1 + 1 < wq.heap.size := by omega); (try have gQ5 : w.heap.size + 1 + 1 + 1 + 1 + 1 < wq.heap.size := by omega); (try have dQ0 : _ < wq.heap.size := Nat.lt_of_lt_of_le dQ0 (by omega)); (try have dQ1 : _ < wq.heap.size := Nat.lt_of_lt_of_le dQ1 (by omega)); (try have dQ2 : _ < wq.heap.size := Nat.lt_of_lt_of_le dQ2 (by omega)); (try have dQ3 : _ < wq.heap.size := Nat.lt_of_lt_of_le dQ3 (by omega)); (try have dQ4 : _ < wq.heap.size := Nat.lt_of_lt_of_le dQ4 (by omega)); (try have dQ5 : _ < wq.heap.size := Nat.lt_of_lt_of_le dQ5 (by omega)); (try (have hnQ := Nat.lt_of_succ_le hz; first | (have _x := dQ0; first | (have _x := dQ1; first | (have _x := dQ2; first | (have _x := dQ3; first | (have _x := dQ4; have dQ5 := hnQ) | have dQ4 := hnQ) | have dQ3 := hnQ) | have dQ2 := hnQ) | have dQ1 := hnQ) | have dQ0 := hnQ)); (try (have hmQ := Nat.lt_of_succ_lt (Nat.lt_of_succ_le hz); first | (have _x := dQ0; first | (have _x := dQ1; first | (have _x := dQ2; first | (have _x := dQ3; first | (have _x := dQ4; have dQ5 := hmQ) | have dQ4 := hmQ) | have dQ3 := hmQ) | have dQ2 := hmQ) | have dQ1 := hmQ) | have dQ0 := hmQ)))
    all_goals go_ret
    all_goals exact ⟨by simp [HF.out], by (repeat' first | (with_reducible exact Below.refl _ _) | (with_reducible refine Below.alloc ?_ ?_ _) | (with_reducible refine Below.drew ?_) | (with_reducible refine Below.setCell ?_ ?_ _) | (with_reducible refine below_via (by assumption) ?_ ?_) | go_size)⟩
  go_enter Tryz.func28, Tryz.ntmps28
  go_wp2_with ((with_reducible refine wp_region_qb ?_ ?_ (fun hq => ?_)); (focus kernel_rfl); (focus kernel_rfl); (repeat (go_big_quiet_step (first | (go_at_call 64; exact Calls.regrown_of (HFA.out _ (HV.out _ (((Below.refl _ _).alloc (Nat.le_refl _) _).trans ((below_regrown _ _ _).mono (by simp)))))) | (go_at_call 40; first | (with_reducible exact Calls.regrown_of (HP.out _)) | (with_reducible exact Calls.regrown_of (HG.out _))) | (go_at_call 65; first | (with_reducible exact Calls.regrown_of (HSP.out _ (HV.out _ (((Below.refl _ _).alloc (Nat.le_refl _) _).trans ((below_regrown _ _ _).mono (by simp)))))) | (with_reducible exact Calls.regrown_of (HSG.out _ (HV.out _ (((Below.refl _ _).alloc (Nat.le_refl _) _).trans ((below_regrown _ _ _).mono (by simp)))))))))); refine wpQuiet_nil ?_; intro wq hb; obtain ⟨hc, hf, hz, hy⟩ := bcell hb; clear hq hy; (try simp only [World.size_alloc, World.size_setCell, World.size_drew] at hz); (try have gQ0 : w.heap.size < wq.heap.size := by omega); (try have gQ1 : w.heap.size + 1 < wq.heap.size := by omega); (try have gQ2 : w.heap.size + 1 + 1 < wq.heap.size := by omega); (try have gQ3 : w.heap.size + 1 + 1 + 1 < wq.heap.size := by omega); (try have gQ4 : w.heap.size + 1 + 1 + 1 + 1 < wq.heap.size := by omega); (try have gQ5 : w.heap.size + 1 + 1 + 1 + 1 + 1 < wq.heap.size := by omega); (try have dQ0 : _ < wq.heap.size := Nat.lt_of_lt_of_le dQ0 (by omega)); (try have dQ1 : _ < wq.heap.size := Nat.lt_of_lt_of_le dQ1 (by omega)); (try have dQ2 : _ < wq.heap.size := Nat.lt_of_lt_of_le dQ2 (by omega)); (try have dQ3 : _ < wq.heap.size := Nat.lt_of_lt_of_le dQ3 (by omega)); (try have dQ4 : _ < wq.heap.size := Nat.lt_of_lt_of_le dQ4 (by omega)); (try have dQ5 : _ < wq.heap.size := Nat.lt_of_lt_of_le dQ5 (by omega)); (try (have hnQ := Nat.lt_of_succ_le hz; first | (have _x := dQ0; first | (have _x := dQ1; first | (have _x := dQ2; first | (have _x := dQ3; first | (have _x := dQ4; have dQ5 := hnQ) | have dQ4 := hnQ) | have dQ3 := hnQ) | have dQ2 := hnQ) | have dQ1 := hnQ) | have dQ0 := hnQ)); (try (have hmQ := Nat.lt_of_succ_lt (Nat.lt_of_succ_le hz); first | (have _x := dQ0; first | (have _x := dQ1; first | (have _x := dQ2; first | (have _x := dQ3; first | (have _x := dQ4; have dQ5 := hmQ) | have dQ4 := hmQ) | have dQ3 := hmQ) | have dQ2 := hmQ) | have dQ1 := hmQ) | have dQ0 := hmQ)))
  all_goals go_ret
  all_goals exact ⟨by simp [HF.out], by (repeat' first | (with_reducible exact Below.refl _ _) | (with_reducible refine Below.alloc ?_ ?_ _) | (with_reducible refine Below.drew ?_) | (with_reducible refine Below.setCell ?_ ?_ _) | (with_reducible refine below_via (by assumption) ?_ ?_) | go_size)⟩
end Go.Proofs.YtfmplmlilmalpaaGreat
namespace Peg
def fibN : Nat → Int
  | 0 => 0
  | 1 => 1
  | n + 2 => fibN n + fibN (n + 1)
theorem fibN_bd : ∀ n : Nat, n ≤ 8 → 0 ≤ fibN n ∧ fibN n ≤ 21 := by
  intro n h
  match n, h with
  | 0, _ => decide
  | 1, _ => decide
  | 2, _ => decide
  | 3, _ => decide
  | 4, _ => decide
  | 5, _ => decide
  | 6, _ => decide
  | 7, _ => decide
  | 8, _ => decide
/-- the number of a distance -/
def fibAt (x : Int) : Int := fibN (7 - x.natAbs)
def classAt (a r : Int) (k : Nat) : Int := if ((k : Int) % a + (k : Int) / a) % 3 = r then 0 else 1
def colAt (a t : Int) (k : Nat) : Int := fibAt ((k : Int) % a - t)
def rowAtW (a t : Int) (k : Nat) : Int := fibAt ((k : Int) / a - t)
def mapTo (f : Nat → Int) (n : Nat) : List Int := (List.range n).map f
theorem mapTo_succ (f : Nat → Int) (n : Nat) : mapTo f (n + 1) = mapTo f n ++ [f n] := by simp [mapTo, List.range_succ]
theorem mapTo_zero (f : Nat → Int) : mapTo f 0 = [] := rfl
theorem mapTo_len (f : Nat → Int) (n : Nat) : (mapTo f n).length = n := by simp [mapTo]
def classW (a b o r : Int) : List Int := if boardOk a b o && inR r 0 2 then mapTo (classAt a r) (a * b).toNat else []
def colW (a b o t : Int) : List Int := if boardOk a b o && inR t 0 6 then mapTo (colAt a t) (a * b).toNat else []
def rowW (a b o t : Int) : List Int := if boardOk a b o && inR t 0 6 then mapTo (rowAtW a t) (a * b).toNat else []
def wtsAt (a b o : Int) (i : Nat) : List Int := if i < 3 then classW a b o i else if i < 10 then colW a b o ((i : Int) - 3) else rowW a b o ((i : Int) - 10)
def proofAt (a b o p g : Int) (i : Nat) : Bool := isProof a b o (wtsAt a b o i) p g
def findProof (a b o p g : Int) : Option Nat := (List.range 17).find? (proofAt a b o p g)
def findW (a b o p g : Int) : List Int := match findProof a b o p g with | some i => wtsAt a b o i | none => []
theorem rfindW_yes {P : Nat → Bool} {k n : Nat} (hk : k < n) (h0 : (List.range k).find? P = none) (h1 : P k = true) : (List.range n).find? P = some k := by
  rw [List.find?_range_eq_some]
  refine ⟨h1, List.mem_range.2 hk, fun j hj => ?_⟩
  rw [List.find?_eq_none] at h0
  have := h0 j (List.mem_range.2 hj)
  simpa using this
theorem rfindW_no {P : Nat → Bool} {k : Nat} (h0 : (List.range k).find? P = none) (h1 : P k = false) : (List.range (k + 1)).find? P = none := by
  rw [List.find?_eq_none] at h0 ⊢
  intro j hj
  by_cases e : j = k
  · subst e; simp [h1]
  · exact h0 j (List.mem_range.2 (by have := List.mem_range.1 hj; omega))
theorem find_yes {a b o p g : Int} {i : Nat} (hi : i < 17) (h0 : (List.range i).find? (proofAt a b o p g) = none) (h1 : isProof a b o (wtsAt a b o i) p g = true) : findProof a b o p g = some i ∧ findW a b o p g = wtsAt a b o i := by
  have h := rfindW_yes (n := 17) hi h0 (show proofAt a b o p g i = true from h1)
  have h' : findProof a b o p g = some i := h
  exact ⟨h', by simp [findW, h']⟩
theorem find_no {a b o p g : Int} (h0 : (List.range 17).find? (proofAt a b o p g) = none) : findProof a b o p g = none ∧ findW a b o p g = [] := by
  have h' : findProof a b o p g = none := h0
  exact ⟨h', by simp [findW, h']⟩
theorem wts_class (a b o : Int) {i : Nat} (h : i < 3) : wtsAt a b o i = classW a b o i := by simp [wtsAt, h]
theorem wts_col (a b o : Int) {i : Nat} (h : ¬ i < 3) (h2 : i < 10) : wtsAt a b o i = colW a b o ((i : Int) - 3) := by simp [wtsAt, h, h2]
theorem wts_row (a b o : Int) {i : Nat} (h2 : ¬ i < 10) : wtsAt a b o i = rowW a b o ((i : Int) - 10) := by
  have : ¬ i < 3 := by omega
  simp [wtsAt, this, h2]
theorem classW_of {a b o r : Int} (h : boardOk a b o = true) (h2 : inR r 0 2 = true) : classW a b o r = mapTo (classAt a r) (a * b).toNat := by simp [classW, h, h2]
theorem colW_of {a b o r : Int} (h : boardOk a b o = true) (h2 : inR r 0 6 = true) : colW a b o r = mapTo (colAt a r) (a * b).toNat := by simp [colW, h, h2]
theorem rowW_of {a b o r : Int} (h : boardOk a b o = true) (h2 : inR r 0 6 = true) : rowW a b o r = mapTo (rowAtW a r) (a * b).toNat := by simp [rowW, h, h2]
end Peg
namespace Go.Proofs.YtfmplmlilmalpaaGreat
open Go.ChangeShapes Go.WideShapes Go.ChangeAt Go.RowKit Peg Go.Sort
theorem fibN_two (k : Nat) : fibN (k + 1 + 1) = fibN k + fibN (k + 1) := rfl
theorem magnitude_small (x : Int) (h0 : -100 ≤ x) (h1 : x ≤ 100) (w : World) : Calls Tryz.prog 106 #[.int .i64 x] w fun e w' => e = .returned (.int .i64 x.natAbs) ∧ w = w' := by
  go_enter Tryz.func106, Tryz.ntmps106
  by_cases h : x < 0
  · have e : (x.natAbs : Int) = -x := by omega
    go_wp2
    all_goals go_ret
    all_goals exact ⟨by rw [e]; (try go_num), rfl⟩
  · have e : (x.natAbs : Int) = x := by omega
    go_wp2
    all_goals go_ret
    all_goals exact ⟨by first | rfl | (rw [e]; rfl), rfl⟩
set_option maxRecDepth 100000 in
theorem fibonacci_small (n : Nat) (h : n ≤ 7) (w : World) : Calls Tryz.prog 105 #[.int .i64 n] w fun e w' => e = .returned (.int .i64 (fibN n)) ∧ w = w' := by
  go_enter Tryz.func105, Tryz.ntmps105
  go_wp2_with fail
  go_loopw [3, 4, 5] (fun x y i wr => ∃ k : Nat, k ≤ n ∧ x = .int .i64 (fibN k) ∧ y = .int .i64 (fibN (k + 1)) ∧ i = .int .i64 k ∧ wr = w) (fun _ _ i _ => n - (intOf i).toNat)
  case atStart => exact ⟨0, by omega, rfl, rfl, rfl, rfl⟩
  case round =>
    obtain ⟨k, hk, rfl, rfl, rfl, rfl⟩ := hrel
    have hb1 := fibN_bd k (by omega)
    have hb2 := fibN_bd (k + 1) (by omega)
    have H2 := Lib.hid (fibN_two k)
    by_cases hlt : k < n
    · go_wp2_with fail
      go_roundw
      case rel => exact ⟨k + 1, by omega, rfl, by rw [H2.out]; (try go_num), by go_num, (by simp)⟩
      case measure => simp [intOf]; omega
    · obtain rfl : k = n := by omega
      go_wp2_with fail
      go_ret
      exact (by simp)
set_option maxRecDepth 100000 in
theorem l10Number_small (n : Nat) (h : n ≤ 7) (w : World) : Calls Tryz.prog 124 #[.int .i64 n] w fun e w' => e = .returned (.int .i64 (fibN n)) ∧ w = w' := by
  go_enter Tryz.func124, Tryz.ntmps124
  go_wp2_with fail
  go_loopw [3, 4, 5] (fun x y i wr => ∃ k : Nat, k ≤ n ∧ x = .int .i64 (fibN k) ∧ y = .int .i64 (fibN (k + 1)) ∧ i = .int .i64 k ∧ wr = w) (fun _ _ i _ => n - (intOf i).toNat)
  case atStart => exact ⟨0, by omega, rfl, rfl, rfl, rfl⟩
  case round =>
    obtain ⟨k, hk, rfl, rfl, rfl, rfl⟩ := hrel
    have hb1 := fibN_bd k (by omega)
    have hb2 := fibN_bd (k + 1) (by omega)
    have H2 := Lib.hid (fibN_two k)
    by_cases hlt : k < n
    · go_wp2_with fail
      go_roundw
      case rel => exact ⟨k + 1, by omega, rfl, by rw [H2.out]; (try go_num), by go_num, (by simp)⟩
      case measure => simp [intOf]; omega
    · obtain rfl : k = n := by omega
      go_wp2_with fail
      go_ret
      exact (by simp)
theorem fibonacci_z (y : Int) (h0 : 0 ≤ y) (h1 : y ≤ 7) (w : World) : Calls Tryz.prog 105 #[.int .i64 y] w fun e w' => e = .returned (.int .i64 (fibN y.toNat)) ∧ w = w' := by
  have h := fibonacci_small y.toNat (by omega) w
  rwa [show ((y.toNat : Nat) : Int) = y from by omega] at h
theorem l10Number_z (y : Int) (h0 : 0 ≤ y) (h1 : y ≤ 7) (w : World) : Calls Tryz.prog 124 #[.int .i64 y] w fun e w' => e = .returned (.int .i64 (fibN y.toNat)) ∧ w = w' := by
  have h := l10Number_small y.toNat (by omega) w
  rwa [show ((y.toNat : Nat) : Int) = y from by omega] at h
theorem fibAt_of (x : Int) (h : (x.natAbs : Int) ≤ 7) : fibN (7 - (x.natAbs : Int)).toNat = fibAt x := by
  unfold fibAt
  congr 1
  omega
theorem remdiv {a b : Int} {k : Nat} (ha : 1 ≤ a) (ha7 : a ≤ 7) (hb7 : b ≤ 7) (hk : (k : Int) < a * b) : 0 ≤ (k : Int) % a ∧ (k : Int) % a ≤ 6 ∧ 0 ≤ (k : Int) / a ∧ (k : Int) / a ≤ 6 := by
  have h1 := Int.emod_nonneg (k : Int) (show a ≠ 0 by omega)
  have h2 := Int.emod_lt_of_pos (k : Int) (show 0 < a by omega)
  have h3 := Int.ediv_nonneg (show 0 ≤ (k : Int) by omega) (show 0 ≤ a by omega)
  have h4 : (k : Int) / a < b := Int.ediv_lt_of_lt_mul (by omega) (by rw [Int.mul_comm] at hk; exact hk)
  omega
set_option maxHeartbeats 2000000 in
set_option maxRecDepth 100000 in
theorem ClassWeights_any (a b o r : Int) (w : World) :
    Calls Tryz.prog 73 #[.agg #[.int .i64 a, .int .i64 b, .int .i64 o], .int .i64 r] w (RetInts w (classW a b o r)) := by
  have HBA : Hid (∀ W, Calls Tryz.prog 86 #[.agg #[.int .i64 a, .int .i64 b, .int .i64 o]] W fun e w' => e = .returned (.bool (boardOk a b o)) ∧ Below W.heap.size W w') := fun W => BoardOk_any a b o W
  cases h : boardOk a b o
  · have HF : Hid (classW a b o r = []) := by show _ = _; simp [classW, h]
    rw [h] at HBA
    clear h
    go_enter Tryz.func73, Tryz.ntmps73
    go_wp2_with (first | (go_at_call 86; refine (HBA.out _).mono ?_; rintro e w' ⟨rfl, hb⟩; obtain ⟨hc, hf, hz, hy⟩ := bcell hb; clear hy; (try simp only [World.size_alloc, World.size_setCell, World.size_drew] at hz); (try have gQ0 : w.heap.size < w'.heap.size := by omega); (try have gQ1 : w.heap.size + 1 < w'.heap.size := by omega); (try have gQ2 : w.heap.size + 1 + 1 < w'.heap.size := by omega); (try have gQ3 : w.heap.size + 1 + 1 + 1 < w'.heap.size := by omega); (try have gQ4 : w.heap.size + 1 + 1 + 1 + 1 < w'.heap.size := by omega); (try have gQ5 : w.heap.size + 1 + 1 + 1 + 1 + 1 < w'.heap.size := by omega); (try have dQ0 : _ < w'.heap.size := Nat.lt_of_lt_of_le dQ0 (by omega)); (try have dQ1 : _ < w'.heap.size := Nat.lt_of_lt_of_le dQ1 (by omega)); (try have dQ2 : _ < w'.heap.size := Nat.lt_of_lt_of_le dQ2 (by omega)); (try have dQ3 : _ < w'.heap.size := Nat.lt_of_lt_of_le dQ3 (by omega)); (try have dQ4 : _ < w'.heap.size := Nat.lt_of_lt_of_le dQ4 (by omega)); (try have dQ5 : _ < w'.heap.size := Nat.lt_of_lt_of_le dQ5 (by omega)); (try (have hnQ := Nat.lt_of_succ_le hz; first | (have _x := dQ0; first | (have _x := dQ1; first | (have _x := dQ2; first | (have _x := dQ3; first | (have _x := dQ4; have dQ5 := hnQ) | have dQ4 := hnQ) | have dQ3 := hnQ) | have dQ2 := hnQ) | have dQ1 := hnQ) | have dQ0 := hnQ)); (try (have hmQ := Nat.lt_of_succ_lt (Nat.lt_of_succ_le hz); first | (have _x := dQ0; first | (have _x := dQ1; first | (have _x := dQ2; first | (have _x := dQ3; first | (have _x := dQ4; have dQ5 := hmQ) | have dQ4 := hmQ) | have dQ3 := hmQ) | have dQ2 := hmQ) | have dQ1 := hmQ) | have dQ0 := hmQ))) | ((with_reducible refine wp_region_qb ?_ ?_ (fun hq => ?_)); (focus kernel_rfl); (focus kernel_rfl); (repeat (go_big_quiet_step ((first | (go_at_call 86; exact Calls.regrown_of (HBA.out _)))))); refine wpQuiet_nil ?_; intro wq hb; obtain ⟨hc, hf, hz, hy⟩ := bcell hb; clear hq hy; (try simp only [World.size_alloc, World.size_setCell, World.size_drew] at hz); (try have gQ0 : w.heap.size < wq.heap.size := by omega); (try have gQ1 : w.heap.size + 1 < wq.heap.size := by omega); (try have gQ2 : w.heap.size + 1 + 1 < wq.heap.size := by omega); (try have gQ3 : w.heap.size + 1 + 1 + 1 < wq.heap.size := by omega); (try have gQ4 : w.heap.size + 1 + 1 + 1 + 1 < wq.heap.size := by omega); (try have gQ5 : w.heap.size + 1 + 1 + 1 + 1 + 1 < wq.heap.size := by omega); (try have dQ0 : _ < wq.heap.size := Nat.lt_of_lt_of_le dQ0 (by omega)); (try have dQ1 : _ < wq.heap.size := Nat.lt_of_lt_of_le dQ1 (by omega)); (try have dQ2 : _ < wq.heap.size := Nat.lt_of_lt_of_le dQ2 (by omega)); (try have dQ3 : _ < wq.heap.size := Nat.lt_of_lt_of_le dQ3 (by omega)); (try have dQ4 : _ < wq.heap.size := Nat.lt_of_lt_of_le dQ4 (by omega)); (try have dQ5 : _ < wq.heap.size := Nat.lt_of_lt_of_le dQ5 (by omega)); (try (have hnQ := Nat.lt_of_succ_le hz; first | (have _x := dQ0; first | (have _x := dQ1; first | (have _x := dQ2; first | (have _x := dQ3; first | (have _x := dQ4; have dQ5 := hnQ) | have dQ4 := hnQ) | have dQ3 := hnQ) | have dQ2 := hnQ) | have dQ1 := hnQ) | have dQ0 := hnQ)); (try (have hmQ := Nat.lt_of_succ_lt (Nat.lt_of_succ_le hz); first | (have _x := dQ0; first | (have _x := dQ1; first | (have _x := dQ2; first | (have _x := dQ3; first | (have _x := dQ4; have dQ5 := hmQ) | have dQ4 := hmQ) | have dQ3 := hmQ) | have dQ2 := hmQ) | have dQ1 := hmQ) | have dQ0 := hmQ))))
    all_goals go_ret
    all_goals exact ⟨_, rfl, by rw [HF.out]; exact Own.emptyAny _ _ _ _, by (repeat' first | (with_reducible exact Below.refl _ _) | (with_reducible refine Below.alloc ?_ ?_ _) | (with_reducible refine Below.drew ?_) | (with_reducible refine Below.setCell ?_ ?_ _) | (with_reducible refine below_via (by assumption) ?_ ?_) | go_size)⟩
  cases hr : inR r 0 2
  · have HF : Hid (classW a b o r = []) := by show _ = _; simp [classW, h, hr]
    rw [h] at HBA
    clear h
    go_enter Tryz.func73, Tryz.ntmps73
    go_wp2_with (first | (go_at_call 86; refine (HBA.out _).mono ?_; rintro e w' ⟨rfl, hb⟩; obtain ⟨hc, hf, hz, hy⟩ := bcell hb; clear hy; (try simp only [World.size_alloc, World.size_setCell, World.size_drew] at hz); (try have gQ0 : w.heap.size < w'.heap.size := by omega); (try have gQ1 : w.heap.size + 1 < w'.heap.size := by omega); (try have gQ2 : w.heap.size + 1 + 1 < w'.heap.size := by omega); (try have gQ3 : w.heap.size + 1 + 1 + 1 < w'.heap.size := by omega); (try have gQ4 : w.heap.size + 1 + 1 + 1 + 1 < w'.heap.size := by omega); (try have gQ5 : w.heap.size + 1 + 1 + 1 + 1 + 1 < w'.heap.size := by omega); (try have dQ0 : _ < w'.heap.size := Nat.lt_of_lt_of_le dQ0 (by omega)); (try have dQ1 : _ < w'.heap.size := Nat.lt_of_lt_of_le dQ1 (by omega)); (try have dQ2 : _ < w'.heap.size := Nat.lt_of_lt_of_le dQ2 (by omega)); (try have dQ3 : _ < w'.heap.size := Nat.lt_of_lt_of_le dQ3 (by omega)); (try have dQ4 : _ < w'.heap.size := Nat.lt_of_lt_of_le dQ4 (by omega)); (try have dQ5 : _ < w'.heap.size := Nat.lt_of_lt_of_le dQ5 (by omega)); (try (have hnQ := Nat.lt_of_succ_le hz; first | (have _x := dQ0; first | (have _x := dQ1; first | (have _x := dQ2; first | (have _x := dQ3; first | (have _x := dQ4; have dQ5 := hnQ) | have dQ4 := hnQ) | have dQ3 := hnQ) | have dQ2 := hnQ) | have dQ1 := hnQ) | have dQ0 := hnQ)); (try (have hmQ := Nat.lt_of_succ_lt (Nat.lt_of_succ_le hz); first | (have _x := dQ0; first | (have _x := dQ1; first | (have _x := dQ2; first | (have _x := dQ3; first | (have _x := dQ4; have dQ5 := hmQ) | have dQ4 := hmQ) | have dQ3 := hmQ) | have dQ2 := hmQ) | have dQ1 := hmQ) | have dQ0 := hmQ))) | (go_at_call 35; refine (within_r _ _ _ _ hr).mono ?_; rintro e w' ⟨rfl, rfl⟩) | ((with_reducible refine wp_region_qb ?_ ?_ (fun hq => ?_)); (focus kernel_rfl); (focus kernel_rfl); (repeat (go_big_quiet_step ((first | (go_at_call 86; exact Calls.regrown_of (HBA.out _)) | (go_at_call 35; exact calls_qp (within_r _ _ _ _ hr)))))); refine wpQuiet_nil ?_; intro wq hb; obtain ⟨hc, hf, hz, hy⟩ := bcell hb; clear hq hy; (try simp only [World.size_alloc, World.size_setCell, World.size_drew] at hz); (try have gQ0 : w.heap.size < wq.heap.size := by omega); (try have gQ1 : w.heap.size + 1 < wq.heap.size := by omega); (try have gQ2 : w.heap.size + 1 + 1 < wq.heap.size := by omega); (try have gQ3 : w.heap.size + 1 + 1 + 1 < wq.heap.size := by omega); (try have gQ4 : w.heap.size + 1 + 1 + 1 + 1 < wq.heap.size := by omega); (try have gQ5 : w.heap.size + 1 + 1 + 1 + 1 + 1 < wq.heap.size := by omega); (try have dQ0 : _ < wq.heap.size := Nat.lt_of_lt_of_le dQ0 (by omega)); (try have dQ1 : _ < wq.heap.size := Nat.lt_of_lt_of_le dQ1 (by omega)); (try have dQ2 : _ < wq.heap.size := Nat.lt_of_lt_of_le dQ2 (by omega)); (try have dQ3 : _ < wq.heap.size := Nat.lt_of_lt_of_le dQ3 (by omega)); (try have dQ4 : _ < wq.heap.size := Nat.lt_of_lt_of_le dQ4 (by omega)); (try have dQ5 : _ < wq.heap.size := Nat.lt_of_lt_of_le dQ5 (by omega)); (try (have hnQ := Nat.lt_of_succ_le hz; first | (have _x := dQ0; first | (have _x := dQ1; first | (have _x := dQ2; first | (have _x := dQ3; first | (have _x := dQ4; have dQ5 := hnQ) | have dQ4 := hnQ) | have dQ3 := hnQ) | have dQ2 := hnQ) | have dQ1 := hnQ) | have dQ0 := hnQ)); (try (have hmQ := Nat.lt_of_succ_lt (Nat.lt_of_succ_le hz); first | (have _x := dQ0; first | (have _x := dQ1; first | (have _x := dQ2; first | (have _x := dQ3; first | (have _x := dQ4; have dQ5 := hmQ) | have dQ4 := hmQ) | have dQ3 := hmQ) | have dQ2 := hmQ) | have dQ1 := hmQ) | have dQ0 := hmQ))))
    all_goals go_ret
    all_goals exact ⟨_, rfl, by rw [HF.out]; exact Own.emptyAny _ _ _ _, by (repeat' first | (with_reducible exact Below.refl _ _) | (with_reducible refine Below.alloc ?_ ?_ _) | (with_reducible refine Below.drew ?_) | (with_reducible refine Below.setCell ?_ ?_ _) | (with_reducible refine below_via (by assumption) ?_ ?_) | go_size)⟩
  have HF := Lib.hid (classW_of h hr)
  obtain ⟨hs1, hs2⟩ := boardOk_sides h
  have ⟨h8, h9⟩ := area hs1 hs2
  obtain ⟨ha1, ha7⟩ := inR_iff.1 hs1
  obtain ⟨hb1', hb7⟩ := inR_iff.1 hs2
  have hrr := inR_iff.1 hr
  have HS := Lib.hid (mapTo_succ (classAt a r))
  have HRD := Lib.hid (fun (k : Nat) (hk : (k : Int) < a * b) => remdiv ha1 ha7 hb7 hk)
  have HLN := Lib.hid (mapTo_len (classAt a r))
  have HCA := Lib.hid (fun k => (rfl : classAt a r k = classAt a r k))
  rw [h] at HBA
  clear h hs1 hs2
  go_enter Tryz.func73, Tryz.ntmps73
  go_wp2_with fail
  refine (HBA.out _).mono ?_
  rintro e w' ⟨rfl, hb⟩
  have hbox0 : ∀ j, w'.cell? ⟨w.heap.size, j, none⟩ = #[Value.int .i64 a, .int .i64 b, .int .i64 o][j]? := fun j => (hb.cell (by simp)).trans (by simp)
  obtain ⟨w3, rfl⟩ : ∃ w3 : World, w3 = w' := ⟨_, rfl⟩
  have HW3 := Lib.hid (show Below w.heap.size w w3 by (repeat' first | (with_reducible exact Below.refl _ _) | (with_reducible refine Below.alloc ?_ ?_ _) | (with_reducible refine Below.drew ?_) | (with_reducible refine Below.setCell ?_ ?_ _) | (with_reducible refine below_via (by assumption) ?_ ?_) | go_size))
  have gz3 : w.heap.size < w3.heap.size := by have := hb.size; simp at this; omega
  clear hb
  go_wp2_with (go_at_call 35; refine (within_r _ _ _ _ hr).mono ?_; rintro e w' ⟨rfl, rfl⟩)
  go_loopw [5, 6] (fun out i wr => ∃ k : Nat, (k : Int) ≤ a * b ∧ i = .int .i64 k ∧ Own EInt wr w3.heap.size out (mapTo (classAt a r) k) ∧ Below w3.heap.size w3 wr) (fun _ i _ => (a * b - intOf i).toNat)
  case atStart => exact ⟨0, by omega, rfl, Own.emptyAny _ _ _ _, by (repeat' first | (with_reducible exact Below.refl _ _) | (with_reducible refine Below.alloc ?_ ?_ _) | (with_reducible refine Below.drew ?_) | (with_reducible refine Below.setCell ?_ ?_ _) | (with_reducible refine below_via (by assumption) ?_ ?_) | go_size)⟩
  case round =>
    obtain ⟨k, hk, rfl, hown, hbw⟩ := hrel
    have hzr := hbw.size
    have hbox : ∀ j, wr.cell? ⟨w.heap.size, j, none⟩ = #[Value.int .i64 a, .int .i64 b, .int .i64 o][j]? := fun j => (hbw.cell (by exact gz3)).trans (hbox0 j)
    have gW0 : w.heap.size < wr.heap.size := by omega
    have HBw := Lib.hid hbw
    have hlen := HLN.out k
    have HSk := Lib.hid (HS.out k)
    have HOw := Lib.hid hown
    clear hbw hown
    by_cases hlt : (k : Int) < a * b
    · obtain ⟨d1, d2, d3, d4⟩ := HRD.out k hlt
      by_cases hc : ((k : Int) % a + (k : Int) / a) % 3 = r
      · have HV : Hid (classAt a r k = 0) := by show _ = _; simp [classAt, hc]
        generalize mapTo (classAt a r) k = P at *
        go_wp2_with (first | (at_builtin; (refine append1 (E := EInt) (l := P) rfl rfl _ _ 29 rfl Tryz.underlying29 rfl hownq (0 : Int) rfl (by omega) (by omega) ?_); intro v' w5 hown5 hb5 hg5) | ((with_reducible refine wp_region_qb ?_ ?_ (fun hq => ?_)); (focus kernel_rfl); (focus kernel_rfl); (repeat (go_big_quiet_step (fail))); refine wpQuiet_nil ?_; (intro wq hbq; have hownq := HOw.out.keep hbq; have HBq := Lib.hid (HBw.out.trans (hbq.mono (by omega))); have hzq := hbq.size; clear hq hbq)))
        all_goals go_roundw
        case rel => exact ⟨k + 1, by omega, by go_num, by rw [HSk.out, HV.out]; exact hown5, HBq.out.trans hb5⟩
        case measure => simp [intOf]; omega
      · have HV : Hid (classAt a r k = 1) := by show _ = _; simp [classAt, hc]
        generalize mapTo (classAt a r) k = P at *
        go_wp2_with (first | (at_builtin; (refine append1 (E := EInt) (l := P) rfl rfl _ _ 29 rfl Tryz.underlying29 rfl hownq (1 : Int) rfl (by omega) (by omega) ?_); intro v' w5 hown5 hb5 hg5) | ((with_reducible refine wp_region_qb ?_ ?_ (fun hq => ?_)); (focus kernel_rfl); (focus kernel_rfl); (repeat (go_big_quiet_step (fail))); refine wpQuiet_nil ?_; (intro wq hbq; have hownq := HOw.out.keep hbq; have HBq := Lib.hid (HBw.out.trans (hbq.mono (by omega))); have hzq := hbq.size; clear hq hbq)))
        all_goals go_roundw
        case rel => exact ⟨k + 1, by omega, by go_num, by rw [HSk.out, HV.out]; exact hown5, HBq.out.trans hb5⟩
        case measure => simp [intOf]; omega
    · have e : (a * b).toNat = k := by omega
      have HE : Hid (classW a b o r = mapTo (classAt a r) k) := by show _ = _; rw [HF.out, e]
      clear e
      go_wp2_with fail
      go_ret
      exact ⟨_, rfl, by rw [HE.out]; exact HOw.out.mono (by omega), HW3.out.trans (HBw.out.mono (by omega))⟩
set_option maxHeartbeats 2000000 in
set_option maxRecDepth 100000 in
theorem sClassWeights_any (a b o r : Int) (w : World) :
    Calls Tryz.prog 112 #[.agg #[.int .i64 a, .int .i64 b, .int .i64 o], .int .i64 r] w (RetInts w (classW a b o r)) := by
  have HBA : Hid (∀ W, Calls Tryz.prog 76 #[.agg #[.int .i64 a, .int .i64 b, .int .i64 o]] W fun e w' => e = .returned (.bool (boardOk a b o)) ∧ Below W.heap.size W w') := fun W => sBoardOk_any a b o W
  cases h : boardOk a b o
  · have HF : Hid (classW a b o r = []) := by show _ = _; simp [classW, h]
    rw [h] at HBA
    clear h
    go_enter Tryz.func112, Tryz.ntmps112
    go_wp2_with fail
    refine wp_loop_once ?_
    go_wp2_with (first | (go_at_call 76; refine (HBA.out _).mono ?_; rintro e w' ⟨rfl, hb⟩; obtain ⟨hc, hf, hz, hy⟩ := bcell hb; clear hy; (try simp only [World.size_alloc, World.size_setCell, World.size_drew] at hz); (try have gQ0 : w.heap.size < w'.heap.size := by omega); (try have gQ1 : w.heap.size + 1 < w'.heap.size := by omega); (try have gQ2 : w.heap.size + 1 + 1 < w'.heap.size := by omega); (try have gQ3 : w.heap.size + 1 + 1 + 1 < w'.heap.size := by omega); (try have gQ4 : w.heap.size + 1 + 1 + 1 + 1 < w'.heap.size := by omega); (try have gQ5 : w.heap.size + 1 + 1 + 1 + 1 + 1 < w'.heap.size := by omega); (try have dQ0 : _ < w'.heap.size := Nat.lt_of_lt_of_le dQ0 (by omega)); (try have dQ1 : _ < w'.heap.size := Nat.lt_of_lt_of_le dQ1 (by omega)); (try have dQ2 : _ < w'.heap.size := Nat.lt_of_lt_of_le dQ2 (by omega)); (try have dQ3 : _ < w'.heap.size := Nat.lt_of_lt_of_le dQ3 (by omega)); (try have dQ4 : _ < w'.heap.size := Nat.lt_of_lt_of_le dQ4 (by omega)); (try have dQ5 : _ < w'.heap.size := Nat.lt_of_lt_of_le dQ5 (by omega)); (try (have hnQ := Nat.lt_of_succ_le hz; first | (have _x := dQ0; first | (have _x := dQ1; first | (have _x := dQ2; first | (have _x := dQ3; first | (have _x := dQ4; have dQ5 := hnQ) | have dQ4 := hnQ) | have dQ3 := hnQ) | have dQ2 := hnQ) | have dQ1 := hnQ) | have dQ0 := hnQ)); (try (have hmQ := Nat.lt_of_succ_lt (Nat.lt_of_succ_le hz); first | (have _x := dQ0; first | (have _x := dQ1; first | (have _x := dQ2; first | (have _x := dQ3; first | (have _x := dQ4; have dQ5 := hmQ) | have dQ4 := hmQ) | have dQ3 := hmQ) | have dQ2 := hmQ) | have dQ1 := hmQ) | have dQ0 := hmQ))) | ((with_reducible refine wp_region_qb ?_ ?_ (fun hq => ?_)); (focus kernel_rfl); (focus kernel_rfl); (repeat (go_big_quiet_step ((first | (go_at_call 76; exact Calls.regrown_of (HBA.out _)))))); refine wpQuiet_nil ?_; intro wq hb; obtain ⟨hc, hf, hz, hy⟩ := bcell hb; clear hq hy; (try simp only [World.size_alloc, World.size_setCell, World.size_drew] at hz); (try have gQ0 : w.heap.size < wq.heap.size := by omega); (try have gQ1 : w.heap.size + 1 < wq.heap.size := by omega); (try have gQ2 : w.heap.size + 1 + 1 < wq.heap.size := by omega); (try have gQ3 : w.heap.size + 1 + 1 + 1 < wq.heap.size := by omega); (try have gQ4 : w.heap.size + 1 + 1 + 1 + 1 < wq.heap.size := by omega); (try have gQ5 : w.heap.size + 1 + 1 + 1 + 1 + 1 < wq.heap.size := by omega); (try have dQ0 : _ < wq.heap.size := Nat.lt_of_lt_of_le dQ0 (by omega)); (try have dQ1 : _ < wq.heap.size := Nat.lt_of_lt_of_le dQ1 (by omega)); (try have dQ2 : _ < wq.heap.size := Nat.lt_of_lt_of_le dQ2 (by omega)); (try have dQ3 : _ < wq.heap.size := Nat.lt_of_lt_of_le dQ3 (by omega)); (try have dQ4 : _ < wq.heap.size := Nat.lt_of_lt_of_le dQ4 (by omega)); (try have dQ5 : _ < wq.heap.size := Nat.lt_of_lt_of_le dQ5 (by omega)); (try (have hnQ := Nat.lt_of_succ_le hz; first | (have _x := dQ0; first | (have _x := dQ1; first | (have _x := dQ2; first | (have _x := dQ3; first | (have _x := dQ4; have dQ5 := hnQ) | have dQ4 := hnQ) | have dQ3 := hnQ) | have dQ2 := hnQ) | have dQ1 := hnQ) | have dQ0 := hnQ)); (try (have hmQ := Nat.lt_of_succ_lt (Nat.lt_of_succ_le hz); first | (have _x := dQ0; first | (have _x := dQ1; first | (have _x := dQ2; first | (have _x := dQ3; first | (have _x := dQ4; have dQ5 := hmQ) | have dQ4 := hmQ) | have dQ3 := hmQ) | have dQ2 := hmQ) | have dQ1 := hmQ) | have dQ0 := hmQ))))
    all_goals go_ret
    all_goals exact ⟨_, rfl, by rw [HF.out]; exact Own.emptyAny _ _ _ _, by (repeat' first | (with_reducible exact Below.refl _ _) | (with_reducible refine Below.alloc ?_ ?_ _) | (with_reducible refine Below.drew ?_) | (with_reducible refine Below.setCell ?_ ?_ _) | (with_reducible refine below_via (by assumption) ?_ ?_) | go_size)⟩
  cases hr : inR r 0 2
  · have HF : Hid (classW a b o r = []) := by show _ = _; simp [classW, h, hr]
    rw [h] at HBA
    clear h
    go_enter Tryz.func112, Tryz.ntmps112
    go_wp2_with fail
    refine wp_loop_once ?_
    go_wp2_with (first | (go_at_call 76; refine (HBA.out _).mono ?_; rintro e w' ⟨rfl, hb⟩; obtain ⟨hc, hf, hz, hy⟩ := bcell hb; clear hy; (try simp only [World.size_alloc, World.size_setCell, World.size_drew] at hz); (try have gQ0 : w.heap.size < w'.heap.size := by omega); (try have gQ1 : w.heap.size + 1 < w'.heap.size := by omega); (try have gQ2 : w.heap.size + 1 + 1 < w'.heap.size := by omega); (try have gQ3 : w.heap.size + 1 + 1 + 1 < w'.heap.size := by omega); (try have gQ4 : w.heap.size + 1 + 1 + 1 + 1 < w'.heap.size := by omega); (try have gQ5 : w.heap.size + 1 + 1 + 1 + 1 + 1 < w'.heap.size := by omega); (try have dQ0 : _ < w'.heap.size := Nat.lt_of_lt_of_le dQ0 (by omega)); (try have dQ1 : _ < w'.heap.size := Nat.lt_of_lt_of_le dQ1 (by omega)); (try have dQ2 : _ < w'.heap.size := Nat.lt_of_lt_of_le dQ2 (by omega)); (try have dQ3 : _ < w'.heap.size := Nat.lt_of_lt_of_le dQ3 (by omega)); (try have dQ4 : _ < w'.heap.size := Nat.lt_of_lt_of_le dQ4 (by omega)); (try have dQ5 : _ < w'.heap.size := Nat.lt_of_lt_of_le dQ5 (by omega)); (try (have hnQ := Nat.lt_of_succ_le hz; first | (have _x := dQ0; first | (have _x := dQ1; first | (have _x := dQ2; first | (have _x := dQ3; first | (have _x := dQ4; have dQ5 := hnQ) | have dQ4 := hnQ) | have dQ3 := hnQ) | have dQ2 := hnQ) | have dQ1 := hnQ) | have dQ0 := hnQ)); (try (have hmQ := Nat.lt_of_succ_lt (Nat.lt_of_succ_le hz); first | (have _x := dQ0; first | (have _x := dQ1; first | (have _x := dQ2; first | (have _x := dQ3; first | (have _x := dQ4; have dQ5 := hmQ) | have dQ4 := hmQ) | have dQ3 := hmQ) | have dQ2 := hmQ) | have dQ1 := hmQ) | have dQ0 := hmQ))) | (go_at_call 63; refine (l01In_r _ _ _ _ hr).mono ?_; rintro e w' ⟨rfl, rfl⟩) | ((with_reducible refine wp_region_qb ?_ ?_ (fun hq => ?_)); (focus kernel_rfl); (focus kernel_rfl); (repeat (go_big_quiet_step ((first | (go_at_call 76; exact Calls.regrown_of (HBA.out _)) | (go_at_call 63; exact calls_qp (l01In_r _ _ _ _ hr)))))); refine wpQuiet_nil ?_; intro wq hb; obtain ⟨hc, hf, hz, hy⟩ := bcell hb; clear hq hy; (try simp only [World.size_alloc, World.size_setCell, World.size_drew] at hz); (try have gQ0 : w.heap.size < wq.heap.size := by omega); (try have gQ1 : w.heap.size + 1 < wq.heap.size := by omega); (try have gQ2 : w.heap.size + 1 + 1 < wq.heap.size := by omega); (try have gQ3 : w.heap.size + 1 + 1 + 1 < wq.heap.size := by omega); (try have gQ4 : w.heap.size + 1 + 1 + 1 + 1 < wq.heap.size := by omega); (try have gQ5 : w.heap.size + 1 + 1 + 1 + 1 + 1 < wq.heap.size := by omega); (try have dQ0 : _ < wq.heap.size := Nat.lt_of_lt_of_le dQ0 (by omega)); (try have dQ1 : _ < wq.heap.size := Nat.lt_of_lt_of_le dQ1 (by omega)); (try have dQ2 : _ < wq.heap.size := Nat.lt_of_lt_of_le dQ2 (by omega)); (try have dQ3 : _ < wq.heap.size := Nat.lt_of_lt_of_le dQ3 (by omega)); (try have dQ4 : _ < wq.heap.size := Nat.lt_of_lt_of_le dQ4 (by omega)); (try have dQ5 : _ < wq.heap.size := Nat.lt_of_lt_of_le dQ5 (by omega)); (try (have hnQ := Nat.lt_of_succ_le hz; first | (have _x := dQ0; first | (have _x := dQ1; first | (have _x := dQ2; first | (have _x := dQ3; first | (have _x := dQ4; have dQ5 := hnQ) | have dQ4 := hnQ) | have dQ3 := hnQ) | have dQ2 := hnQ) | have dQ1 := hnQ) | have dQ0 := hnQ)); (try (have hmQ := Nat.lt_of_succ_lt (Nat.lt_of_succ_le hz); first | (have _x := dQ0; first | (have _x := dQ1; first | (have _x := dQ2; first | (have _x := dQ3; first | (have _x := dQ4; have dQ5 := hmQ) | have dQ4 := hmQ) | have dQ3 := hmQ) | have dQ2 := hmQ) | have dQ1 := hmQ) | have dQ0 := hmQ))))
    all_goals go_ret
    all_goals exact ⟨_, rfl, by rw [HF.out]; exact Own.emptyAny _ _ _ _, by (repeat' first | (with_reducible exact Below.refl _ _) | (with_reducible refine Below.alloc ?_ ?_ _) | (with_reducible refine Below.drew ?_) | (with_reducible refine Below.setCell ?_ ?_ _) | (with_reducible refine below_via (by assumption) ?_ ?_) | go_size)⟩
  have HF := Lib.hid (classW_of h hr)
  obtain ⟨hs1, hs2⟩ := boardOk_sides h
  have ⟨h8, h9⟩ := area hs1 hs2
  obtain ⟨ha1, ha7⟩ := inR_iff.1 hs1
  obtain ⟨hb1', hb7⟩ := inR_iff.1 hs2
  have hrr := inR_iff.1 hr
  have HS := Lib.hid (mapTo_succ (classAt a r))
  have HRD := Lib.hid (fun (k : Nat) (hk : (k : Int) < a * b) => remdiv ha1 ha7 hb7 hk)
  have HLN := Lib.hid (mapTo_len (classAt a r))
  have HCA := Lib.hid (fun k => (rfl : classAt a r k = classAt a r k))
  rw [h] at HBA
  clear h hs1 hs2
  go_enter Tryz.func112, Tryz.ntmps112
  obtain ⟨w3, hw3⟩ : ∃ w3 : World, w3 = w.alloc (.cells #[.int .i64 a, .int .i64 b, .int .i64 o] 25) := ⟨_, rfl⟩
  have hbox0 : ∀ j, w3.cell? ⟨w.heap.size, j, none⟩ = #[Value.int .i64 a, .int .i64 b, .int .i64 o][j]? := fun j => by rw [hw3]; simp
  have HW3 : Hid (Below w.heap.size w w3) := by show Below _ _ _; rw [hw3]; (repeat' first | (with_reducible exact Below.refl _ _) | (with_reducible refine Below.alloc ?_ ?_ _) | (with_reducible refine Below.drew ?_) | (with_reducible refine Below.setCell ?_ ?_ _) | (with_reducible refine below_via (by assumption) ?_ ?_) | go_size)
  have gz3 : w.heap.size < w3.heap.size := by rw [hw3]; simp
  go_wp2_with fail
  rw [← hw3]
  clear hw3
  go_loopw [5, 6] (fun out i wr => ∃ k : Nat, (k : Int) ≤ a * b ∧ i = .int .i64 k ∧ Own EInt wr w3.heap.size out (mapTo (classAt a r) k) ∧ Below w3.heap.size w3 wr) (fun _ i _ => (a * b - intOf i).toNat)
  case atStart => exact ⟨0, by omega, rfl, Own.emptyAny _ _ _ _, by (repeat' first | (with_reducible exact Below.refl _ _) | (with_reducible refine Below.alloc ?_ ?_ _) | (with_reducible refine Below.drew ?_) | (with_reducible refine Below.setCell ?_ ?_ _) | (with_reducible refine below_via (by assumption) ?_ ?_) | go_size)⟩
  case round =>
    obtain ⟨k, hk, rfl, hown, hbw⟩ := hrel
    have hzr := hbw.size
    have hbox : ∀ j, wr.cell? ⟨w.heap.size, j, none⟩ = #[Value.int .i64 a, .int .i64 b, .int .i64 o][j]? := fun j => (hbw.cell (by exact gz3)).trans (hbox0 j)
    have gW0 : w.heap.size < wr.heap.size := by omega
    have HBw := Lib.hid hbw
    have hlen := HLN.out k
    have HSk := Lib.hid (HS.out k)
    have HOw := Lib.hid hown
    clear hbw hown
    by_cases hlt : (k : Int) < a * b
    · obtain ⟨d1, d2, d3, d4⟩ := HRD.out k hlt
      by_cases hc : ((k : Int) % a + (k : Int) / a) % 3 = r
      · have HV : Hid (classAt a r k = 0) := by show _ = _; simp [classAt, hc]
        generalize mapTo (classAt a r) k = P at *
        go_wp2_with (first | (go_at_call 76; refine (HBA.out _).mono ?_; rintro e w4 ⟨rfl, hb4⟩; have hown4 := HOw.out.keep hb4; have hz4 := hb4.size; have gW4 : w.heap.size < w4.heap.size := (by omega); have hbox4 : ∀ j, w4.cell? ⟨w.heap.size, j, none⟩ = #[Value.int .i64 a, .int .i64 b, .int .i64 o][j]? := (fun j => (hb4.cell (by exact gW0)).trans (hbox j)); have HB4 := Lib.hid (HBw.out.trans (hb4.mono hzr)); clear hb4) | (go_at_call 63; refine (l01In_r _ _ _ _ hr).mono ?_; rintro e w' ⟨rfl, rfl⟩) | (at_builtin; (refine append1 (E := EInt) (l := P) rfl rfl _ _ 29 rfl Tryz.underlying29 rfl hownq (0 : Int) rfl (by omega) (by omega) ?_); intro v' w5 hown5 hb5 hg5) | ((with_reducible refine wp_region_qb ?_ ?_ (fun hq => ?_)); (focus kernel_rfl); (focus kernel_rfl); (repeat (go_big_quiet_step (fail))); refine wpQuiet_nil ?_; (intro wq hbq; have hownq := hown4.keep hbq; have HBq := Lib.hid (HB4.out.trans (hbq.mono (by omega))); have hzq := hbq.size; clear hq hbq)))
        all_goals go_roundw
        case rel => exact ⟨k + 1, by omega, by go_num, by rw [HSk.out, HV.out]; exact hown5, HBq.out.trans hb5⟩
        case measure => simp [intOf]; omega
      · have HV : Hid (classAt a r k = 1) := by show _ = _; simp [classAt, hc]
        generalize mapTo (classAt a r) k = P at *
        go_wp2_with (first | (go_at_call 76; refine (HBA.out _).mono ?_; rintro e w4 ⟨rfl, hb4⟩; have hown4 := HOw.out.keep hb4; have hz4 := hb4.size; have gW4 : w.heap.size < w4.heap.size := (by omega); have hbox4 : ∀ j, w4.cell? ⟨w.heap.size, j, none⟩ = #[Value.int .i64 a, .int .i64 b, .int .i64 o][j]? := (fun j => (hb4.cell (by exact gW0)).trans (hbox j)); have HB4 := Lib.hid (HBw.out.trans (hb4.mono hzr)); clear hb4) | (go_at_call 63; refine (l01In_r _ _ _ _ hr).mono ?_; rintro e w' ⟨rfl, rfl⟩) | (at_builtin; (refine append1 (E := EInt) (l := P) rfl rfl _ _ 29 rfl Tryz.underlying29 rfl hownq (1 : Int) rfl (by omega) (by omega) ?_); intro v' w5 hown5 hb5 hg5) | ((with_reducible refine wp_region_qb ?_ ?_ (fun hq => ?_)); (focus kernel_rfl); (focus kernel_rfl); (repeat (go_big_quiet_step (fail))); refine wpQuiet_nil ?_; (intro wq hbq; have hownq := hown4.keep hbq; have HBq := Lib.hid (HB4.out.trans (hbq.mono (by omega))); have hzq := hbq.size; clear hq hbq)))
        all_goals go_roundw
        case rel => exact ⟨k + 1, by omega, by go_num, by rw [HSk.out, HV.out]; exact hown5, HBq.out.trans hb5⟩
        case measure => simp [intOf]; omega
    · have e : (a * b).toNat = k := by omega
      have HE : Hid (classW a b o r = mapTo (classAt a r) k) := by show _ = _; rw [HF.out, e]
      clear e
      go_wp2_with fail
      go_ret
      exact ⟨_, rfl, by rw [HE.out]; exact HOw.out.mono (by omega), HW3.out.trans (HBw.out.mono (by omega))⟩
set_option maxHeartbeats 2000000 in
set_option maxRecDepth 100000 in
theorem ColumnWeights_any (a b o r : Int) (w : World) :
    Calls Tryz.prog 74 #[.agg #[.int .i64 a, .int .i64 b, .int .i64 o], .int .i64 r] w (RetInts w (colW a b o r)) := by
  have HBA : Hid (∀ W, Calls Tryz.prog 86 #[.agg #[.int .i64 a, .int .i64 b, .int .i64 o]] W fun e w' => e = .returned (.bool (boardOk a b o)) ∧ Below W.heap.size W w') := fun W => BoardOk_any a b o W
  cases h : boardOk a b o
  · have HF : Hid (colW a b o r = []) := by show _ = _; simp [colW, h]
    rw [h] at HBA
    clear h
    go_enter Tryz.func74, Tryz.ntmps74
    go_wp2_with (first | (go_at_call 86; refine (HBA.out _).mono ?_; rintro e w' ⟨rfl, hb⟩; obtain ⟨hc, hf, hz, hy⟩ := bcell hb; clear hy; (try simp only [World.size_alloc, World.size_setCell, World.size_drew] at hz); (try have gQ0 : w.heap.size < w'.heap.size := by omega); (try have gQ1 : w.heap.size + 1 < w'.heap.size := by omega); (try have gQ2 : w.heap.size + 1 + 1 < w'.heap.size := by omega); (try have gQ3 : w.heap.size + 1 + 1 + 1 < w'.heap.size := by omega); (try have gQ4 : w.heap.size + 1 + 1 + 1 + 1 < w'.heap.size := by omega); (try have gQ5 : w.heap.size + 1 + 1 + 1 + 1 + 1 < w'.heap.size := by omega); (try have dQ0 : _ < w'.heap.size := Nat.lt_of_lt_of_le dQ0 (by omega)); (try have dQ1 : _ < w'.heap.size := Nat.lt_of_lt_of_le dQ1 (by omega)); (try have dQ2 : _ < w'.heap.size := Nat.lt_of_lt_of_le dQ2 (by omega)); (try have dQ3 : _ < w'.heap.size := Nat.lt_of_lt_of_le dQ3 (by omega)); (try have dQ4 : _ < w'.heap.size := Nat.lt_of_lt_of_le dQ4 (by omega)); (try have dQ5 : _ < w'.heap.size := Nat.lt_of_lt_of_le dQ5 (by omega)); (try (have hnQ := Nat.lt_of_succ_le hz; first | (have _x := dQ0; first | (have _x := dQ1; first | (have _x := dQ2; first | (have _x := dQ3; first | (have _x := dQ4; have dQ5 := hnQ) | have dQ4 := hnQ) | have dQ3 := hnQ) | have dQ2 := hnQ) | have dQ1 := hnQ) | have dQ0 := hnQ)); (try (have hmQ := Nat.lt_of_succ_lt (Nat.lt_of_succ_le hz); first | (have _x := dQ0; first | (have _x := dQ1; first | (have _x := dQ2; first | (have _x := dQ3; first | (have _x := dQ4; have dQ5 := hmQ) | have dQ4 := hmQ) | have dQ3 := hmQ) | have dQ2 := hmQ) | have dQ1 := hmQ) | have dQ0 := hmQ))) | ((with_reducible refine wp_region_qb ?_ ?_ (fun hq => ?_)); (focus kernel_rfl); (focus kernel_rfl); (repeat (go_big_quiet_step ((first | (go_at_call 86; exact Calls.regrown_of (HBA.out _)))))); refine wpQuiet_nil ?_; intro wq hb; obtain ⟨hc, hf, hz, hy⟩ := bcell hb; clear hq hy; (try simp only [World.size_alloc, World.size_setCell, World.size_drew] at hz); (try have gQ0 : w.heap.size < wq.heap.size := by omega); (try have gQ1 : w.heap.size + 1 < wq.heap.size := by omega); (try have gQ2 : w.heap.size + 1 + 1 < wq.heap.size := by omega); (try have gQ3 : w.heap.size + 1 + 1 + 1 < wq.heap.size := by omega); (try have gQ4 : w.heap.size + 1 + 1 + 1 + 1 < wq.heap.size := by omega); (try have gQ5 : w.heap.size + 1 + 1 + 1 + 1 + 1 < wq.heap.size := by omega); (try have dQ0 : _ < wq.heap.size := Nat.lt_of_lt_of_le dQ0 (by omega)); (try have dQ1 : _ < wq.heap.size := Nat.lt_of_lt_of_le dQ1 (by omega)); (try have dQ2 : _ < wq.heap.size := Nat.lt_of_lt_of_le dQ2 (by omega)); (try have dQ3 : _ < wq.heap.size := Nat.lt_of_lt_of_le dQ3 (by omega)); (try have dQ4 : _ < wq.heap.size := Nat.lt_of_lt_of_le dQ4 (by omega)); (try have dQ5 : _ < wq.heap.size := Nat.lt_of_lt_of_le dQ5 (by omega)); (try (have hnQ := Nat.lt_of_succ_le hz; first | (have _x := dQ0; first | (have _x := dQ1; first | (have _x := dQ2; first | (have _x := dQ3; first | (have _x := dQ4; have dQ5 := hnQ) | have dQ4 := hnQ) | have dQ3 := hnQ) | have dQ2 := hnQ) | have dQ1 := hnQ) | have dQ0 := hnQ)); (try (have hmQ := Nat.lt_of_succ_lt (Nat.lt_of_succ_le hz); first | (have _x := dQ0; first | (have _x := dQ1; first | (have _x := dQ2; first | (have _x := dQ3; first | (have _x := dQ4; have dQ5 := hmQ) | have dQ4 := hmQ) | have dQ3 := hmQ) | have dQ2 := hmQ) | have dQ1 := hmQ) | have dQ0 := hmQ))))
    all_goals go_ret
    all_goals exact ⟨_, rfl, by rw [HF.out]; exact Own.emptyAny _ _ _ _, by (repeat' first | (with_reducible exact Below.refl _ _) | (with_reducible refine Below.alloc ?_ ?_ _) | (with_reducible refine Below.drew ?_) | (with_reducible refine Below.setCell ?_ ?_ _) | (with_reducible refine below_via (by assumption) ?_ ?_) | go_size)⟩
  cases hr : inR r 0 6
  · have HF : Hid (colW a b o r = []) := by show _ = _; simp [colW, h, hr]
    rw [h] at HBA
    clear h
    go_enter Tryz.func74, Tryz.ntmps74
    go_wp2_with (first | (go_at_call 86; refine (HBA.out _).mono ?_; rintro e w' ⟨rfl, hb⟩; obtain ⟨hc, hf, hz, hy⟩ := bcell hb; clear hy; (try simp only [World.size_alloc, World.size_setCell, World.size_drew] at hz); (try have gQ0 : w.heap.size < w'.heap.size := by omega); (try have gQ1 : w.heap.size + 1 < w'.heap.size := by omega); (try have gQ2 : w.heap.size + 1 + 1 < w'.heap.size := by omega); (try have gQ3 : w.heap.size + 1 + 1 + 1 < w'.heap.size := by omega); (try have gQ4 : w.heap.size + 1 + 1 + 1 + 1 < w'.heap.size := by omega); (try have gQ5 : w.heap.size + 1 + 1 + 1 + 1 + 1 < w'.heap.size := by omega); (try have dQ0 : _ < w'.heap.size := Nat.lt_of_lt_of_le dQ0 (by omega)); (try have dQ1 : _ < w'.heap.size := Nat.lt_of_lt_of_le dQ1 (by omega)); (try have dQ2 : _ < w'.heap.size := Nat.lt_of_lt_of_le dQ2 (by omega)); (try have dQ3 : _ < w'.heap.size := Nat.lt_of_lt_of_le dQ3 (by omega)); (try have dQ4 : _ < w'.heap.size := Nat.lt_of_lt_of_le dQ4 (by omega)); (try have dQ5 : _ < w'.heap.size := Nat.lt_of_lt_of_le dQ5 (by omega)); (try (have hnQ := Nat.lt_of_succ_le hz; first | (have _x := dQ0; first | (have _x := dQ1; first | (have _x := dQ2; first | (have _x := dQ3; first | (have _x := dQ4; have dQ5 := hnQ) | have dQ4 := hnQ) | have dQ3 := hnQ) | have dQ2 := hnQ) | have dQ1 := hnQ) | have dQ0 := hnQ)); (try (have hmQ := Nat.lt_of_succ_lt (Nat.lt_of_succ_le hz); first | (have _x := dQ0; first | (have _x := dQ1; first | (have _x := dQ2; first | (have _x := dQ3; first | (have _x := dQ4; have dQ5 := hmQ) | have dQ4 := hmQ) | have dQ3 := hmQ) | have dQ2 := hmQ) | have dQ1 := hmQ) | have dQ0 := hmQ))) | (go_at_call 35; refine (within_r _ _ _ _ hr).mono ?_; rintro e w' ⟨rfl, rfl⟩) | ((with_reducible refine wp_region_qb ?_ ?_ (fun hq => ?_)); (focus kernel_rfl); (focus kernel_rfl); (repeat (go_big_quiet_step ((first | (go_at_call 86; exact Calls.regrown_of (HBA.out _)) | (go_at_call 35; exact calls_qp (within_r _ _ _ _ hr)))))); refine wpQuiet_nil ?_; intro wq hb; obtain ⟨hc, hf, hz, hy⟩ := bcell hb; clear hq hy; (try simp only [World.size_alloc, World.size_setCell, World.size_drew] at hz); (try have gQ0 : w.heap.size < wq.heap.size := by omega); (try have gQ1 : w.heap.size + 1 < wq.heap.size := by omega); (try have gQ2 : w.heap.size + 1 + 1 < wq.heap.size := by omega); (try have gQ3 : w.heap.size + 1 + 1 + 1 < wq.heap.size := by omega); (try have gQ4 : w.heap.size + 1 + 1 + 1 + 1 < wq.heap.size := by omega); (try have gQ5 : w.heap.size + 1 + 1 + 1 + 1 + 1 < wq.heap.size := by omega); (try have dQ0 : _ < wq.heap.size := Nat.lt_of_lt_of_le dQ0 (by omega)); (try have dQ1 : _ < wq.heap.size := Nat.lt_of_lt_of_le dQ1 (by omega)); (try have dQ2 : _ < wq.heap.size := Nat.lt_of_lt_of_le dQ2 (by omega)); (try have dQ3 : _ < wq.heap.size := Nat.lt_of_lt_of_le dQ3 (by omega)); (try have dQ4 : _ < wq.heap.size := Nat.lt_of_lt_of_le dQ4 (by omega)); (try have dQ5 : _ < wq.heap.size := Nat.lt_of_lt_of_le dQ5 (by omega)); (try (have hnQ := Nat.lt_of_succ_le hz; first | (have _x := dQ0; first | (have _x := dQ1; first | (have _x := dQ2; first | (have _x := dQ3; first | (have _x := dQ4; have dQ5 := hnQ) | have dQ4 := hnQ) | have dQ3 := hnQ) | have dQ2 := hnQ) | have dQ1 := hnQ) | have dQ0 := hnQ)); (try (have hmQ := Nat.lt_of_succ_lt (Nat.lt_of_succ_le hz); first | (have _x := dQ0; first | (have _x := dQ1; first | (have _x := dQ2; first | (have _x := dQ3; first | (have _x := dQ4; have dQ5 := hmQ) | have dQ4 := hmQ) | have dQ3 := hmQ) | have dQ2 := hmQ) | have dQ1 := hmQ) | have dQ0 := hmQ))))
    all_goals go_ret
    all_goals exact ⟨_, rfl, by rw [HF.out]; exact Own.emptyAny _ _ _ _, by (repeat' first | (with_reducible exact Below.refl _ _) | (with_reducible refine Below.alloc ?_ ?_ _) | (with_reducible refine Below.drew ?_) | (with_reducible refine Below.setCell ?_ ?_ _) | (with_reducible refine below_via (by assumption) ?_ ?_) | go_size)⟩
  have HF := Lib.hid (colW_of h hr)
  obtain ⟨hs1, hs2⟩ := boardOk_sides h
  have ⟨h8, h9⟩ := area hs1 hs2
  obtain ⟨ha1, ha7⟩ := inR_iff.1 hs1
  obtain ⟨hb1', hb7⟩ := inR_iff.1 hs2
  have hrr := inR_iff.1 hr
  have HS := Lib.hid (mapTo_succ (colAt a r))
  have HRD := Lib.hid (fun (k : Nat) (hk : (k : Int) < a * b) => remdiv ha1 ha7 hb7 hk)
  have HLN := Lib.hid (mapTo_len (colAt a r))
  have HCA := Lib.hid (fun k => (rfl : colAt a r k = colAt a r k))
  rw [h] at HBA
  clear h hs1 hs2
  go_enter Tryz.func74, Tryz.ntmps74
  go_wp2_with fail
  refine (HBA.out _).mono ?_
  rintro e w' ⟨rfl, hb⟩
  have hbox0 : ∀ j, w'.cell? ⟨w.heap.size, j, none⟩ = #[Value.int .i64 a, .int .i64 b, .int .i64 o][j]? := fun j => (hb.cell (by simp)).trans (by simp)
  obtain ⟨w3, rfl⟩ : ∃ w3 : World, w3 = w' := ⟨_, rfl⟩
  have HW3 := Lib.hid (show Below w.heap.size w w3 by (repeat' first | (with_reducible exact Below.refl _ _) | (with_reducible refine Below.alloc ?_ ?_ _) | (with_reducible refine Below.drew ?_) | (with_reducible refine Below.setCell ?_ ?_ _) | (with_reducible refine below_via (by assumption) ?_ ?_) | go_size))
  have gz3 : w.heap.size < w3.heap.size := by have := hb.size; simp at this; omega
  clear hb
  go_wp2_with (go_at_call 35; refine (within_r _ _ _ _ hr).mono ?_; rintro e w' ⟨rfl, rfl⟩)
  go_loopw [5, 6] (fun out i wr => ∃ k : Nat, (k : Int) ≤ a * b ∧ i = .int .i64 k ∧ Own EInt wr w3.heap.size out (mapTo (colAt a r) k) ∧ Below w3.heap.size w3 wr) (fun _ i _ => (a * b - intOf i).toNat)
  case atStart => exact ⟨0, by omega, rfl, Own.emptyAny _ _ _ _, by (repeat' first | (with_reducible exact Below.refl _ _) | (with_reducible refine Below.alloc ?_ ?_ _) | (with_reducible refine Below.drew ?_) | (with_reducible refine Below.setCell ?_ ?_ _) | (with_reducible refine below_via (by assumption) ?_ ?_) | go_size)⟩
  case round =>
    obtain ⟨k, hk, rfl, hown, hbw⟩ := hrel
    have hzr := hbw.size
    have hbox : ∀ j, wr.cell? ⟨w.heap.size, j, none⟩ = #[Value.int .i64 a, .int .i64 b, .int .i64 o][j]? := fun j => (hbw.cell (by exact gz3)).trans (hbox0 j)
    have gW0 : w.heap.size < wr.heap.size := by omega
    have HBw := Lib.hid hbw
    have hlen := HLN.out k
    have HSk := Lib.hid (HS.out k)
    have HOw := Lib.hid hown
    clear hbw hown
    by_cases hlt : (k : Int) < a * b
    · obtain ⟨d1, d2, d3, d4⟩ := HRD.out k hlt
      have HV : Hid (fibN (7 - (((((k : Int) % a) - r).natAbs : Nat) : Int)).toNat = colAt a r k) := fibAt_of _ (by omega)
      have hv7 := fibN_bd ((7 - (((((k : Int) % a) - r).natAbs : Nat) : Int)).toNat) (by omega)
      have hnn : ((((k : Int) % a) - r).natAbs : Int) ≤ 6 := by omega
      generalize mapTo (colAt a r) k = P at *
      have HMG : Hid (∀ W, Calls Tryz.prog 106 #[.int .i64 (((k : Int) % a) - r)] W fun e w' => e = .returned (.int .i64 ((((k : Int) % a) - r).natAbs : Int)) ∧ W = w') := fun W => magnitude_small _ (by omega) (by omega) W
      have HFB : Hid (∀ W, Calls Tryz.prog 105 #[.int .i64 (7 - ((((k : Int) % a) - r).natAbs : Int))] W fun e w' => e = .returned (.int .i64 (colAt a r k)) ∧ W = w') := fun W => by rw [← HV.out]; exact fibonacci_z _ (by omega) (by omega) W
      go_wp2_with (first | (go_at_call 106; refine (HMG.out _).mono ?_; rintro e w' ⟨rfl, rfl⟩) | (go_at_call 105; refine (HFB.out _).mono ?_; rintro e w' ⟨rfl, rfl⟩) | (at_builtin; (refine append1 (E := EInt) (l := P) rfl rfl _ _ 29 rfl Tryz.underlying29 rfl HOw.out (colAt a r k) rfl (by omega) (by omega) ?_); intro v' w5 hown5 hb5 hg5))
      all_goals go_roundw
      case rel => exact ⟨k + 1, by omega, by go_num, by rw [HSk.out]; exact hown5, HBw.out.trans hb5⟩
      case measure => simp [intOf]; omega
    · have e : (a * b).toNat = k := by omega
      have HE : Hid (colW a b o r = mapTo (colAt a r) k) := by show _ = _; rw [HF.out, e]
      clear e
      go_wp2_with fail
      go_ret
      exact ⟨_, rfl, by rw [HE.out]; exact HOw.out.mono (by omega), HW3.out.trans (HBw.out.mono (by omega))⟩
set_option maxHeartbeats 2000000 in
set_option maxRecDepth 100000 in
theorem sColumnWeights_any (a b o r : Int) (w : World) :
    Calls Tryz.prog 113 #[.agg #[.int .i64 a, .int .i64 b, .int .i64 o], .int .i64 r] w (RetInts w (colW a b o r)) := by
  have HBA : Hid (∀ W, Calls Tryz.prog 76 #[.agg #[.int .i64 a, .int .i64 b, .int .i64 o]] W fun e w' => e = .returned (.bool (boardOk a b o)) ∧ Below W.heap.size W w') := fun W => sBoardOk_any a b o W
  cases h : boardOk a b o
  · have HF : Hid (colW a b o r = []) := by show _ = _; simp [colW, h]
    rw [h] at HBA
    clear h
    go_enter Tryz.func113, Tryz.ntmps113
    go_wp2_with fail
    refine wp_loop_once ?_
    go_wp2_with (first | (go_at_call 76; refine (HBA.out _).mono ?_; rintro e w' ⟨rfl, hb⟩; obtain ⟨hc, hf, hz, hy⟩ := bcell hb; clear hy; (try simp only [World.size_alloc, World.size_setCell, World.size_drew] at hz); (try have gQ0 : w.heap.size < w'.heap.size := by omega); (try have gQ1 : w.heap.size + 1 < w'.heap.size := by omega); (try have gQ2 : w.heap.size + 1 + 1 < w'.heap.size := by omega); (try have gQ3 : w.heap.size + 1 + 1 + 1 < w'.heap.size := by omega); (try have gQ4 : w.heap.size + 1 + 1 + 1 + 1 < w'.heap.size := by omega); (try have gQ5 : w.heap.size + 1 + 1 + 1 + 1 + 1 < w'.heap.size := by omega); (try have dQ0 : _ < w'.heap.size := Nat.lt_of_lt_of_le dQ0 (by omega)); (try have dQ1 : _ < w'.heap.size := Nat.lt_of_lt_of_le dQ1 (by omega)); (try have dQ2 : _ < w'.heap.size := Nat.lt_of_lt_of_le dQ2 (by omega)); (try have dQ3 : _ < w'.heap.size := Nat.lt_of_lt_of_le dQ3 (by omega)); (try have dQ4 : _ < w'.heap.size := Nat.lt_of_lt_of_le dQ4 (by omega)); (try have dQ5 : _ < w'.heap.size := Nat.lt_of_lt_of_le dQ5 (by omega)); (try (have hnQ := Nat.lt_of_succ_le hz; first | (have _x := dQ0; first | (have _x := dQ1; first | (have _x := dQ2; first | (have _x := dQ3; first | (have _x := dQ4; have dQ5 := hnQ) | have dQ4 := hnQ) | have dQ3 := hnQ) | have dQ2 := hnQ) | have dQ1 := hnQ) | have dQ0 := hnQ)); (try (have hmQ := Nat.lt_of_succ_lt (Nat.lt_of_succ_le hz); first | (have _x := dQ0; first | (have _x := dQ1; first | (have _x := dQ2; first | (have _x := dQ3; first | (have _x := dQ4; have dQ5 := hmQ) | have dQ4 := hmQ) | have dQ3 := hmQ) | have dQ2 := hmQ) | have dQ1 := hmQ) | have dQ0 := hmQ))) | ((with_reducible refine wp_region_qb ?_ ?_ (fun hq => ?_)); (focus kernel_rfl); (focus kernel_rfl); (repeat (go_big_quiet_step ((first | (go_at_call 76; exact Calls.regrown_of (HBA.out _)))))); refine wpQuiet_nil ?_; intro wq hb; obtain ⟨hc, hf, hz, hy⟩ := bcell hb; clear hq hy; (try simp only [World.size_alloc, World.size_setCell, World.size_drew] at hz); (try have gQ0 : w.heap.size < wq.heap.size := by omega); (try have gQ1 : w.heap.size + 1 < wq.heap.size := by omega); (try have gQ2 : w.heap.size + 1 + 1 < wq.heap.size := by omega); (try have gQ3 : w.heap.size + 1 + 1 + 1 < wq.heap.size := by omega); (try have gQ4 : w.heap.size + 1 + 1 + 1 + 1 < wq.heap.size := by omega); (try have gQ5 : w.heap.size + 1 + 1 + 1 + 1 + 1 < wq.heap.size := by omega); (try have dQ0 : _ < wq.heap.size := Nat.lt_of_lt_of_le dQ0 (by omega)); (try have dQ1 : _ < wq.heap.size := Nat.lt_of_lt_of_le dQ1 (by omega)); (try have dQ2 : _ < wq.heap.size := Nat.lt_of_lt_of_le dQ2 (by omega)); (try have dQ3 : _ < wq.heap.size := Nat.lt_of_lt_of_le dQ3 (by omega)); (try have dQ4 : _ < wq.heap.size := Nat.lt_of_lt_of_le dQ4 (by omega)); (try have dQ5 : _ < wq.heap.size := Nat.lt_of_lt_of_le dQ5 (by omega)); (try (have hnQ := Nat.lt_of_succ_le hz; first | (have _x := dQ0; first | (have _x := dQ1; first | (have _x := dQ2; first | (have _x := dQ3; first | (have _x := dQ4; have dQ5 := hnQ) | have dQ4 := hnQ) | have dQ3 := hnQ) | have dQ2 := hnQ) | have dQ1 := hnQ) | have dQ0 := hnQ)); (try (have hmQ := Nat.lt_of_succ_lt (Nat.lt_of_succ_le hz); first | (have _x := dQ0; first | (have _x := dQ1; first | (have _x := dQ2; first | (have _x := dQ3; first | (have _x := dQ4; have dQ5 := hmQ) | have dQ4 := hmQ) | have dQ3 := hmQ) | have dQ2 := hmQ) | have dQ1 := hmQ) | have dQ0 := hmQ))))
    all_goals go_ret
    all_goals exact ⟨_, rfl, by rw [HF.out]; exact Own.emptyAny _ _ _ _, by (repeat' first | (with_reducible exact Below.refl _ _) | (with_reducible refine Below.alloc ?_ ?_ _) | (with_reducible refine Below.drew ?_) | (with_reducible refine Below.setCell ?_ ?_ _) | (with_reducible refine below_via (by assumption) ?_ ?_) | go_size)⟩
  cases hr : inR r 0 6
  · have HF : Hid (colW a b o r = []) := by show _ = _; simp [colW, h, hr]
    rw [h] at HBA
    clear h
    go_enter Tryz.func113, Tryz.ntmps113
    go_wp2_with fail
    refine wp_loop_once ?_
    go_wp2_with (first | (go_at_call 76; refine (HBA.out _).mono ?_; rintro e w' ⟨rfl, hb⟩; obtain ⟨hc, hf, hz, hy⟩ := bcell hb; clear hy; (try simp only [World.size_alloc, World.size_setCell, World.size_drew] at hz); (try have gQ0 : w.heap.size < w'.heap.size := by omega); (try have gQ1 : w.heap.size + 1 < w'.heap.size := by omega); (try have gQ2 : w.heap.size + 1 + 1 < w'.heap.size := by omega); (try have gQ3 : w.heap.size + 1 + 1 + 1 < w'.heap.size := by omega); (try have gQ4 : w.heap.size + 1 + 1 + 1 + 1 < w'.heap.size := by omega); (try have gQ5 : w.heap.size + 1 + 1 + 1 + 1 + 1 < w'.heap.size := by omega); (try have dQ0 : _ < w'.heap.size := Nat.lt_of_lt_of_le dQ0 (by omega)); (try have dQ1 : _ < w'.heap.size := Nat.lt_of_lt_of_le dQ1 (by omega)); (try have dQ2 : _ < w'.heap.size := Nat.lt_of_lt_of_le dQ2 (by omega)); (try have dQ3 : _ < w'.heap.size := Nat.lt_of_lt_of_le dQ3 (by omega)); (try have dQ4 : _ < w'.heap.size := Nat.lt_of_lt_of_le dQ4 (by omega)); (try have dQ5 : _ < w'.heap.size := Nat.lt_of_lt_of_le dQ5 (by omega)); (try (have hnQ := Nat.lt_of_succ_le hz; first | (have _x := dQ0; first | (have _x := dQ1; first | (have _x := dQ2; first | (have _x := dQ3; first | (have _x := dQ4; have dQ5 := hnQ) | have dQ4 := hnQ) | have dQ3 := hnQ) | have dQ2 := hnQ) | have dQ1 := hnQ) | have dQ0 := hnQ)); (try (have hmQ := Nat.lt_of_succ_lt (Nat.lt_of_succ_le hz); first | (have _x := dQ0; first | (have _x := dQ1; first | (have _x := dQ2; first | (have _x := dQ3; first | (have _x := dQ4; have dQ5 := hmQ) | have dQ4 := hmQ) | have dQ3 := hmQ) | have dQ2 := hmQ) | have dQ1 := hmQ) | have dQ0 := hmQ))) | (go_at_call 63; refine (l01In_r _ _ _ _ hr).mono ?_; rintro e w' ⟨rfl, rfl⟩) | ((with_reducible refine wp_region_qb ?_ ?_ (fun hq => ?_)); (focus kernel_rfl); (focus kernel_rfl); (repeat (go_big_quiet_step ((first | (go_at_call 76; exact Calls.regrown_of (HBA.out _)) | (go_at_call 63; exact calls_qp (l01In_r _ _ _ _ hr)))))); refine wpQuiet_nil ?_; intro wq hb; obtain ⟨hc, hf, hz, hy⟩ := bcell hb; clear hq hy; (try simp only [World.size_alloc, World.size_setCell, World.size_drew] at hz); (try have gQ0 : w.heap.size < wq.heap.size := by omega); (try have gQ1 : w.heap.size + 1 < wq.heap.size := by omega); (try have gQ2 : w.heap.size + 1 + 1 < wq.heap.size := by omega); (try have gQ3 : w.heap.size + 1 + 1 + 1 < wq.heap.size := by omega); (try have gQ4 : w.heap.size + 1 + 1 + 1 + 1 < wq.heap.size := by omega); (try have gQ5 : w.heap.size + 1 + 1 + 1 + 1 + 1 < wq.heap.size := by omega); (try have dQ0 : _ < wq.heap.size := Nat.lt_of_lt_of_le dQ0 (by omega)); (try have dQ1 : _ < wq.heap.size := Nat.lt_of_lt_of_le dQ1 (by omega)); (try have dQ2 : _ < wq.heap.size := Nat.lt_of_lt_of_le dQ2 (by omega)); (try have dQ3 : _ < wq.heap.size := Nat.lt_of_lt_of_le dQ3 (by omega)); (try have dQ4 : _ < wq.heap.size := Nat.lt_of_lt_of_le dQ4 (by omega)); (try have dQ5 : _ < wq.heap.size := Nat.lt_of_lt_of_le dQ5 (by omega)); (try (have hnQ := Nat.lt_of_succ_le hz; first | (have _x := dQ0; first | (have _x := dQ1; first | (have _x := dQ2; first | (have _x := dQ3; first | (have _x := dQ4; have dQ5 := hnQ) | have dQ4 := hnQ) | have dQ3 := hnQ) | have dQ2 := hnQ) | have dQ1 := hnQ) | have dQ0 := hnQ)); (try (have hmQ := Nat.lt_of_succ_lt (Nat.lt_of_succ_le hz); first | (have _x := dQ0; first | (have _x := dQ1; first | (have _x := dQ2; first | (have _x := dQ3; first | (have _x := dQ4; have dQ5 := hmQ) | have dQ4 := hmQ) | have dQ3 := hmQ) | have dQ2 := hmQ) | have dQ1 := hmQ) | have dQ0 := hmQ))))
    all_goals go_ret
    all_goals exact ⟨_, rfl, by rw [HF.out]; exact Own.emptyAny _ _ _ _, by (repeat' first | (with_reducible exact Below.refl _ _) | (with_reducible refine Below.alloc ?_ ?_ _) | (with_reducible refine Below.drew ?_) | (with_reducible refine Below.setCell ?_ ?_ _) | (with_reducible refine below_via (by assumption) ?_ ?_) | go_size)⟩
  have HF := Lib.hid (colW_of h hr)
  obtain ⟨hs1, hs2⟩ := boardOk_sides h
  have ⟨h8, h9⟩ := area hs1 hs2
  obtain ⟨ha1, ha7⟩ := inR_iff.1 hs1
  obtain ⟨hb1', hb7⟩ := inR_iff.1 hs2
  have hrr := inR_iff.1 hr
  have HS := Lib.hid (mapTo_succ (colAt a r))
  have HRD := Lib.hid (fun (k : Nat) (hk : (k : Int) < a * b) => remdiv ha1 ha7 hb7 hk)
  have HLN := Lib.hid (mapTo_len (colAt a r))
  have HCA := Lib.hid (fun k => (rfl : colAt a r k = colAt a r k))
  rw [h] at HBA
  clear h hs1 hs2
  go_enter Tryz.func113, Tryz.ntmps113
  obtain ⟨w3, hw3⟩ : ∃ w3 : World, w3 = w.alloc (.cells #[.int .i64 a, .int .i64 b, .int .i64 o] 25) := ⟨_, rfl⟩
  have hbox0 : ∀ j, w3.cell? ⟨w.heap.size, j, none⟩ = #[Value.int .i64 a, .int .i64 b, .int .i64 o][j]? := fun j => by rw [hw3]; simp
  have HW3 : Hid (Below w.heap.size w w3) := by show Below _ _ _; rw [hw3]; (repeat' first | (with_reducible exact Below.refl _ _) | (with_reducible refine Below.alloc ?_ ?_ _) | (with_reducible refine Below.drew ?_) | (with_reducible refine Below.setCell ?_ ?_ _) | (with_reducible refine below_via (by assumption) ?_ ?_) | go_size)
  have gz3 : w.heap.size < w3.heap.size := by rw [hw3]; simp
  go_wp2_with fail
  rw [← hw3]
  clear hw3
  go_loopw [5, 6] (fun out i wr => ∃ k : Nat, (k : Int) ≤ a * b ∧ i = .int .i64 k ∧ Own EInt wr w3.heap.size out (mapTo (colAt a r) k) ∧ Below w3.heap.size w3 wr) (fun _ i _ => (a * b - intOf i).toNat)
  case atStart => exact ⟨0, by omega, rfl, Own.emptyAny _ _ _ _, by (repeat' first | (with_reducible exact Below.refl _ _) | (with_reducible refine Below.alloc ?_ ?_ _) | (with_reducible refine Below.drew ?_) | (with_reducible refine Below.setCell ?_ ?_ _) | (with_reducible refine below_via (by assumption) ?_ ?_) | go_size)⟩
  case round =>
    obtain ⟨k, hk, rfl, hown, hbw⟩ := hrel
    have hzr := hbw.size
    have hbox : ∀ j, wr.cell? ⟨w.heap.size, j, none⟩ = #[Value.int .i64 a, .int .i64 b, .int .i64 o][j]? := fun j => (hbw.cell (by exact gz3)).trans (hbox0 j)
    have gW0 : w.heap.size < wr.heap.size := by omega
    have HBw := Lib.hid hbw
    have hlen := HLN.out k
    have HSk := Lib.hid (HS.out k)
    have HOw := Lib.hid hown
    clear hbw hown
    by_cases hlt : (k : Int) < a * b
    · obtain ⟨d1, d2, d3, d4⟩ := HRD.out k hlt
      have HV : Hid (fibN (7 - (((((k : Int) % a) - r).natAbs : Nat) : Int)).toNat = colAt a r k) := fibAt_of _ (by omega)
      have hv7 := fibN_bd ((7 - (((((k : Int) % a) - r).natAbs : Nat) : Int)).toNat) (by omega)
      have hnn : ((((k : Int) % a) - r).natAbs : Int) ≤ 6 := by omega
      generalize mapTo (colAt a r) k = P at *
      have HFB : Hid (∀ (y : Int) W, y = 7 - ((((k : Int) % a) - r).natAbs : Int) → Calls Tryz.prog 124 #[.int .i64 y] W fun e w' => e = .returned (.int .i64 (colAt a r k)) ∧ W = w') := fun y W hy => by rw [← HV.out, hy]; exact l10Number_z _ (by omega) (by omega) W
      go_wp2_with (first | (go_at_call 76; refine (HBA.out _).mono ?_; rintro e w4 ⟨rfl, hb4⟩; have hown4 := HOw.out.keep hb4; have hz4 := hb4.size; have gW4 : w.heap.size < w4.heap.size := (by omega); have hbox4 : ∀ j, w4.cell? ⟨w.heap.size, j, none⟩ = #[Value.int .i64 a, .int .i64 b, .int .i64 o][j]? := (fun j => (hb4.cell (by exact gW0)).trans (hbox j)); have HB4 := Lib.hid (HBw.out.trans (hb4.mono hzr)); clear hb4) | (go_at_call 63; refine (l01In_r _ _ _ _ hr).mono ?_; rintro e w' ⟨rfl, rfl⟩) | (go_at_call 124; refine (HFB.out _ _ (by omega)).mono ?_; rintro e w' ⟨rfl, rfl⟩) | (at_builtin; (refine append1 (E := EInt) (l := P) rfl rfl _ _ 29 rfl Tryz.underlying29 rfl hown4 (colAt a r k) rfl (by omega) (by omega) ?_); intro v' w5 hown5 hb5 hg5))
      all_goals go_roundw
      all_goals first | (exact ⟨k + 1, by omega, by go_num, by rw [HSk.out]; exact hown5, HB4.out.trans hb5⟩) | (simp [intOf]; omega)
    · have e : (a * b).toNat = k := by omega
      have HE : Hid (colW a b o r = mapTo (colAt a r) k) := by show _ = _; rw [HF.out, e]
      clear e
      go_wp2_with fail
      go_ret
      exact ⟨_, rfl, by rw [HE.out]; exact HOw.out.mono (by omega), HW3.out.trans (HBw.out.mono (by omega))⟩
set_option maxHeartbeats 2000000 in
set_option maxRecDepth 100000 in
theorem RowWeights_any (a b o r : Int) (w : World) :
    Calls Tryz.prog 75 #[.agg #[.int .i64 a, .int .i64 b, .int .i64 o], .int .i64 r] w (RetInts w (rowW a b o r)) := by
  have HBA : Hid (∀ W, Calls Tryz.prog 86 #[.agg #[.int .i64 a, .int .i64 b, .int .i64 o]] W fun e w' => e = .returned (.bool (boardOk a b o)) ∧ Below W.heap.size W w') := fun W => BoardOk_any a b o W
  cases h : boardOk a b o
  · have HF : Hid (rowW a b o r = []) := by show _ = _; simp [rowW, h]
    rw [h] at HBA
    clear h
    go_enter Tryz.func75, Tryz.ntmps75
    go_wp2_with (first | (go_at_call 86; refine (HBA.out _).mono ?_; rintro e w' ⟨rfl, hb⟩; obtain ⟨hc, hf, hz, hy⟩ := bcell hb; clear hy; (try simp only [World.size_alloc, World.size_setCell, World.size_drew] at hz); (try have gQ0 : w.heap.size < w'.heap.size := by omega); (try have gQ1 : w.heap.size + 1 < w'.heap.size := by omega); (try have gQ2 : w.heap.size + 1 + 1 < w'.heap.size := by omega); (try have gQ3 : w.heap.size + 1 + 1 + 1 < w'.heap.size := by omega); (try have gQ4 : w.heap.size + 1 + 1 + 1 + 1 < w'.heap.size := by omega); (try have gQ5 : w.heap.size + 1 + 1 + 1 + 1 + 1 < w'.heap.size := by omega); (try have dQ0 : _ < w'.heap.size := Nat.lt_of_lt_of_le dQ0 (by omega)); (try have dQ1 : _ < w'.heap.size := Nat.lt_of_lt_of_le dQ1 (by omega)); (try have dQ2 : _ < w'.heap.size := Nat.lt_of_lt_of_le dQ2 (by omega)); (try have dQ3 : _ < w'.heap.size := Nat.lt_of_lt_of_le dQ3 (by omega)); (try have dQ4 : _ < w'.heap.size := Nat.lt_of_lt_of_le dQ4 (by omega)); (try have dQ5 : _ < w'.heap.size := Nat.lt_of_lt_of_le dQ5 (by omega)); (try (have hnQ := Nat.lt_of_succ_le hz; first | (have _x := dQ0; first | (have _x := dQ1; first | (have _x := dQ2; first | (have _x := dQ3; first | (have _x := dQ4; have dQ5 := hnQ) | have dQ4 := hnQ) | have dQ3 := hnQ) | have dQ2 := hnQ) | have dQ1 := hnQ) | have dQ0 := hnQ)); (try (have hmQ := Nat.lt_of_succ_lt (Nat.lt_of_succ_le hz); first | (have _x := dQ0; first | (have _x := dQ1; first | (have _x := dQ2; first | (have _x := dQ3; first | (have _x := dQ4; have dQ5 := hmQ) | have dQ4 := hmQ) | have dQ3 := hmQ) | have dQ2 := hmQ) | have dQ1 := hmQ) | have dQ0 := hmQ))) | ((with_reducible refine wp_region_qb ?_ ?_ (fun hq => ?_)); (focus kernel_rfl); (focus kernel_rfl); (repeat (go_big_quiet_step ((first | (go_at_call 86; exact Calls.regrown_of (HBA.out _)))))); refine wpQuiet_nil ?_; intro wq hb; obtain ⟨hc, hf, hz, hy⟩ := bcell hb; clear hq hy; (try simp only [World.size_alloc, World.size_setCell, World.size_drew] at hz); (try have gQ0 : w.heap.size < wq.heap.size := by omega); (try have gQ1 : w.heap.size + 1 < wq.heap.size := by omega); (try have gQ2 : w.heap.size + 1 + 1 < wq.heap.size := by omega); (try have gQ3 : w.heap.size + 1 + 1 + 1 < wq.heap.size := by omega); (try have gQ4 : w.heap.size + 1 + 1 + 1 + 1 < wq.heap.size := by omega); (try have gQ5 : w.heap.size + 1 + 1 + 1 + 1 + 1 < wq.heap.size := by omega); (try have dQ0 : _ < wq.heap.size := Nat.lt_of_lt_of_le dQ0 (by omega)); (try have dQ1 : _ < wq.heap.size := Nat.lt_of_lt_of_le dQ1 (by omega)); (try have dQ2 : _ < wq.heap.size := Nat.lt_of_lt_of_le dQ2 (by omega)); (try have dQ3 : _ < wq.heap.size := Nat.lt_of_lt_of_le dQ3 (by omega)); (try have dQ4 : _ < wq.heap.size := Nat.lt_of_lt_of_le dQ4 (by omega)); (try have dQ5 : _ < wq.heap.size := Nat.lt_of_lt_of_le dQ5 (by omega)); (try (have hnQ := Nat.lt_of_succ_le hz; first | (have _x := dQ0; first | (have _x := dQ1; first | (have _x := dQ2; first | (have _x := dQ3; first | (have _x := dQ4; have dQ5 := hnQ) | have dQ4 := hnQ) | have dQ3 := hnQ) | have dQ2 := hnQ) | have dQ1 := hnQ) | have dQ0 := hnQ)); (try (have hmQ := Nat.lt_of_succ_lt (Nat.lt_of_succ_le hz); first | (have _x := dQ0; first | (have _x := dQ1; first | (have _x := dQ2; first | (have _x := dQ3; first | (have _x := dQ4; have dQ5 := hmQ) | have dQ4 := hmQ) | have dQ3 := hmQ) | have dQ2 := hmQ) | have dQ1 := hmQ) | have dQ0 := hmQ))))
    all_goals go_ret
    all_goals exact ⟨_, rfl, by rw [HF.out]; exact Own.emptyAny _ _ _ _, by (repeat' first | (with_reducible exact Below.refl _ _) | (with_reducible refine Below.alloc ?_ ?_ _) | (with_reducible refine Below.drew ?_) | (with_reducible refine Below.setCell ?_ ?_ _) | (with_reducible refine below_via (by assumption) ?_ ?_) | go_size)⟩
  cases hr : inR r 0 6
  · have HF : Hid (rowW a b o r = []) := by show _ = _; simp [rowW, h, hr]
    rw [h] at HBA
    clear h
    go_enter Tryz.func75, Tryz.ntmps75
    go_wp2_with (first | (go_at_call 86; refine (HBA.out _).mono ?_; rintro e w' ⟨rfl, hb⟩; obtain ⟨hc, hf, hz, hy⟩ := bcell hb; clear hy; (try simp only [World.size_alloc, World.size_setCell, World.size_drew] at hz); (try have gQ0 : w.heap.size < w'.heap.size := by omega); (try have gQ1 : w.heap.size + 1 < w'.heap.size := by omega); (try have gQ2 : w.heap.size + 1 + 1 < w'.heap.size := by omega); (try have gQ3 : w.heap.size + 1 + 1 + 1 < w'.heap.size := by omega); (try have gQ4 : w.heap.size + 1 + 1 + 1 + 1 < w'.heap.size := by omega); (try have gQ5 : w.heap.size + 1 + 1 + 1 + 1 + 1 < w'.heap.size := by omega); (try have dQ0 : _ < w'.heap.size := Nat.lt_of_lt_of_le dQ0 (by omega)); (try have dQ1 : _ < w'.heap.size := Nat.lt_of_lt_of_le dQ1 (by omega)); (try have dQ2 : _ < w'.heap.size := Nat.lt_of_lt_of_le dQ2 (by omega)); (try have dQ3 : _ < w'.heap.size := Nat.lt_of_lt_of_le dQ3 (by omega)); (try have dQ4 : _ < w'.heap.size := Nat.lt_of_lt_of_le dQ4 (by omega)); (try have dQ5 : _ < w'.heap.size := Nat.lt_of_lt_of_le dQ5 (by omega)); (try (have hnQ := Nat.lt_of_succ_le hz; first | (have _x := dQ0; first | (have _x := dQ1; first | (have _x := dQ2; first | (have _x := dQ3; first | (have _x := dQ4; have dQ5 := hnQ) | have dQ4 := hnQ) | have dQ3 := hnQ) | have dQ2 := hnQ) | have dQ1 := hnQ) | have dQ0 := hnQ)); (try (have hmQ := Nat.lt_of_succ_lt (Nat.lt_of_succ_le hz); first | (have _x := dQ0; first | (have _x := dQ1; first | (have _x := dQ2; first | (have _x := dQ3; first | (have _x := dQ4; have dQ5 := hmQ) | have dQ4 := hmQ) | have dQ3 := hmQ) | have dQ2 := hmQ) | have dQ1 := hmQ) | have dQ0 := hmQ))) | (go_at_call 35; refine (within_r _ _ _ _ hr).mono ?_; rintro e w' ⟨rfl, rfl⟩) | ((with_reducible refine wp_region_qb ?_ ?_ (fun hq => ?_)); (focus kernel_rfl); (focus kernel_rfl); (repeat (go_big_quiet_step ((first | (go_at_call 86; exact Calls.regrown_of (HBA.out _)) | (go_at_call 35; exact calls_qp (within_r _ _ _ _ hr)))))); refine wpQuiet_nil ?_; intro wq hb; obtain ⟨hc, hf, hz, hy⟩ := bcell hb; clear hq hy; (try simp only [World.size_alloc, World.size_setCell, World.size_drew] at hz); (try have gQ0 : w.heap.size < wq.heap.size := by omega); (try have gQ1 : w.heap.size + 1 < wq.heap.size := by omega); (try have gQ2 : w.heap.size + 1 + 1 < wq.heap.size := by omega); (try have gQ3 : w.heap.size + 1 + 1 + 1 < wq.heap.size := by omega); (try have gQ4 : w.heap.size + 1 + 1 + 1 + 1 < wq.heap.size := by omega); (try have gQ5 : w.heap.size + 1 + 1 + 1 + 1 + 1 < wq.heap.size := by omega); (try have dQ0 : _ < wq.heap.size := Nat.lt_of_lt_of_le dQ0 (by omega)); (try have dQ1 : _ < wq.heap.size := Nat.lt_of_lt_of_le dQ1 (by omega)); (try have dQ2 : _ < wq.heap.size := Nat.lt_of_lt_of_le dQ2 (by omega)); (try have dQ3 : _ < wq.heap.size := Nat.lt_of_lt_of_le dQ3 (by omega)); (try have dQ4 : _ < wq.heap.size := Nat.lt_of_lt_of_le dQ4 (by omega)); (try have dQ5 : _ < wq.heap.size := Nat.lt_of_lt_of_le dQ5 (by omega)); (try (have hnQ := Nat.lt_of_succ_le hz; first | (have _x := dQ0; first | (have _x := dQ1; first | (have _x := dQ2; first | (have _x := dQ3; first | (have _x := dQ4; have dQ5 := hnQ) | have dQ4 := hnQ) | have dQ3 := hnQ) | have dQ2 := hnQ) | have dQ1 := hnQ) | have dQ0 := hnQ)); (try (have hmQ := Nat.lt_of_succ_lt (Nat.lt_of_succ_le hz); first | (have _x := dQ0; first | (have _x := dQ1; first | (have _x := dQ2; first | (have _x := dQ3; first | (have _x := dQ4; have dQ5 := hmQ) | have dQ4 := hmQ) | have dQ3 := hmQ) | have dQ2 := hmQ) | have dQ1 := hmQ) | have dQ0 := hmQ))))
    all_goals go_ret
    all_goals exact ⟨_, rfl, by rw [HF.out]; exact Own.emptyAny _ _ _ _, by (repeat' first | (with_reducible exact Below.refl _ _) | (with_reducible refine Below.alloc ?_ ?_ _) | (with_reducible refine Below.drew ?_) | (with_reducible refine Below.setCell ?_ ?_ _) | (with_reducible refine below_via (by assumption) ?_ ?_) | go_size)⟩
  have HF := Lib.hid (rowW_of h hr)
  obtain ⟨hs1, hs2⟩ := boardOk_sides h
  have ⟨h8, h9⟩ := area hs1 hs2
  obtain ⟨ha1, ha7⟩ := inR_iff.1 hs1
  obtain ⟨hb1', hb7⟩ := inR_iff.1 hs2
  have hrr := inR_iff.1 hr
  have HS := Lib.hid (mapTo_succ (rowAtW a r))
  have HRD := Lib.hid (fun (k : Nat) (hk : (k : Int) < a * b) => remdiv ha1 ha7 hb7 hk)
  have HLN := Lib.hid (mapTo_len (rowAtW a r))
  have HCA := Lib.hid (fun k => (rfl : rowAtW a r k = rowAtW a r k))
  rw [h] at HBA
  clear h hs1 hs2
  go_enter Tryz.func75, Tryz.ntmps75
  go_wp2_with fail
  refine (HBA.out _).mono ?_
  rintro e w' ⟨rfl, hb⟩
  have hbox0 : ∀ j, w'.cell? ⟨w.heap.size, j, none⟩ = #[Value.int .i64 a, .int .i64 b, .int .i64 o][j]? := fun j => (hb.cell (by simp)).trans (by simp)
  obtain ⟨w3, rfl⟩ : ∃ w3 : World, w3 = w' := ⟨_, rfl⟩
  have HW3 := Lib.hid (show Below w.heap.size w w3 by (repeat' first | (with_reducible exact Below.refl _ _) | (with_reducible refine Below.alloc ?_ ?_ _) | (with_reducible refine Below.drew ?_) | (with_reducible refine Below.setCell ?_ ?_ _) | (with_reducible refine below_via (by assumption) ?_ ?_) | go_size))
  have gz3 : w.heap.size < w3.heap.size := by have := hb.size; simp at this; omega
  clear hb
  go_wp2_with (go_at_call 35; refine (within_r _ _ _ _ hr).mono ?_; rintro e w' ⟨rfl, rfl⟩)
  go_loopw [5, 6] (fun out i wr => ∃ k : Nat, (k : Int) ≤ a * b ∧ i = .int .i64 k ∧ Own EInt wr w3.heap.size out (mapTo (rowAtW a r) k) ∧ Below w3.heap.size w3 wr) (fun _ i _ => (a * b - intOf i).toNat)
  case atStart => exact ⟨0, by omega, rfl, Own.emptyAny _ _ _ _, by (repeat' first | (with_reducible exact Below.refl _ _) | (with_reducible refine Below.alloc ?_ ?_ _) | (with_reducible refine Below.drew ?_) | (with_reducible refine Below.setCell ?_ ?_ _) | (with_reducible refine below_via (by assumption) ?_ ?_) | go_size)⟩
  case round =>
    obtain ⟨k, hk, rfl, hown, hbw⟩ := hrel
    have hzr := hbw.size
    have hbox : ∀ j, wr.cell? ⟨w.heap.size, j, none⟩ = #[Value.int .i64 a, .int .i64 b, .int .i64 o][j]? := fun j => (hbw.cell (by exact gz3)).trans (hbox0 j)
    have gW0 : w.heap.size < wr.heap.size := by omega
    have HBw := Lib.hid hbw
    have hlen := HLN.out k
    have HSk := Lib.hid (HS.out k)
    have HOw := Lib.hid hown
    clear hbw hown
    by_cases hlt : (k : Int) < a * b
    · obtain ⟨d1, d2, d3, d4⟩ := HRD.out k hlt
      have HV : Hid (fibN (7 - (((((k : Int) / a) - r).natAbs : Nat) : Int)).toNat = rowAtW a r k) := fibAt_of _ (by omega)
      have hv7 := fibN_bd ((7 - (((((k : Int) / a) - r).natAbs : Nat) : Int)).toNat) (by omega)
      have hnn : ((((k : Int) / a) - r).natAbs : Int) ≤ 6 := by omega
      generalize mapTo (rowAtW a r) k = P at *
      have HMG : Hid (∀ W, Calls Tryz.prog 106 #[.int .i64 (((k : Int) / a) - r)] W fun e w' => e = .returned (.int .i64 ((((k : Int) / a) - r).natAbs : Int)) ∧ W = w') := fun W => magnitude_small _ (by omega) (by omega) W
      have HFB : Hid (∀ W, Calls Tryz.prog 105 #[.int .i64 (7 - ((((k : Int) / a) - r).natAbs : Int))] W fun e w' => e = .returned (.int .i64 (rowAtW a r k)) ∧ W = w') := fun W => by rw [← HV.out]; exact fibonacci_z _ (by omega) (by omega) W
      go_wp2_with (first | (go_at_call 106; refine (HMG.out _).mono ?_; rintro e w' ⟨rfl, rfl⟩) | (go_at_call 105; refine (HFB.out _).mono ?_; rintro e w' ⟨rfl, rfl⟩) | (at_builtin; (refine append1 (E := EInt) (l := P) rfl rfl _ _ 29 rfl Tryz.underlying29 rfl HOw.out (rowAtW a r k) rfl (by omega) (by omega) ?_); intro v' w5 hown5 hb5 hg5))
      all_goals go_roundw
      case rel => exact ⟨k + 1, by omega, by go_num, by rw [HSk.out]; exact hown5, HBw.out.trans hb5⟩
      case measure => simp [intOf]; omega
    · have e : (a * b).toNat = k := by omega
      have HE : Hid (rowW a b o r = mapTo (rowAtW a r) k) := by show _ = _; rw [HF.out, e]
      clear e
      go_wp2_with fail
      go_ret
      exact ⟨_, rfl, by rw [HE.out]; exact HOw.out.mono (by omega), HW3.out.trans (HBw.out.mono (by omega))⟩
set_option maxHeartbeats 2000000 in
set_option maxRecDepth 100000 in
theorem sRowWeights_any (a b o r : Int) (w : World) :
    Calls Tryz.prog 114 #[.agg #[.int .i64 a, .int .i64 b, .int .i64 o], .int .i64 r] w (RetInts w (rowW a b o r)) := by
  have HBA : Hid (∀ W, Calls Tryz.prog 76 #[.agg #[.int .i64 a, .int .i64 b, .int .i64 o]] W fun e w' => e = .returned (.bool (boardOk a b o)) ∧ Below W.heap.size W w') := fun W => sBoardOk_any a b o W
  cases h : boardOk a b o
  · have HF : Hid (rowW a b o r = []) := by show _ = _; simp [rowW, h]
    rw [h] at HBA
    clear h
    go_enter Tryz.func114, Tryz.ntmps114
    go_wp2_with fail
    refine wp_loop_once ?_
    go_wp2_with (first | (go_at_call 76; refine (HBA.out _).mono ?_; rintro e w' ⟨rfl, hb⟩; obtain ⟨hc, hf, hz, hy⟩ := bcell hb; clear hy; (try simp only [World.size_alloc, World.size_setCell, World.size_drew] at hz); (try have gQ0 : w.heap.size < w'.heap.size := by omega); (try have gQ1 : w.heap.size + 1 < w'.heap.size := by omega); (try have gQ2 : w.heap.size + 1 + 1 < w'.heap.size := by omega); (try have gQ3 : w.heap.size + 1 + 1 + 1 < w'.heap.size := by omega); (try have gQ4 : w.heap.size + 1 + 1 + 1 + 1 < w'.heap.size := by omega); (try have gQ5 : w.heap.size + 1 + 1 + 1 + 1 + 1 < w'.heap.size := by omega); (try have dQ0 : _ < w'.heap.size := Nat.lt_of_lt_of_le dQ0 (by omega)); (try have dQ1 : _ < w'.heap.size := Nat.lt_of_lt_of_le dQ1 (by omega)); (try have dQ2 : _ < w'.heap.size := Nat.lt_of_lt_of_le dQ2 (by omega)); (try have dQ3 : _ < w'.heap.size := Nat.lt_of_lt_of_le dQ3 (by omega)); (try have dQ4 : _ < w'.heap.size := Nat.lt_of_lt_of_le dQ4 (by omega)); (try have dQ5 : _ < w'.heap.size := Nat.lt_of_lt_of_le dQ5 (by omega)); (try (have hnQ := Nat.lt_of_succ_le hz; first | (have _x := dQ0; first | (have _x := dQ1; first | (have _x := dQ2; first | (have _x := dQ3; first | (have _x := dQ4; have dQ5 := hnQ) | have dQ4 := hnQ) | have dQ3 := hnQ) | have dQ2 := hnQ) | have dQ1 := hnQ) | have dQ0 := hnQ)); (try (have hmQ := Nat.lt_of_succ_lt (Nat.lt_of_succ_le hz); first | (have _x := dQ0; first | (have _x := dQ1; first | (have _x := dQ2; first | (have _x := dQ3; first | (have _x := dQ4; have dQ5 := hmQ) | have dQ4 := hmQ) | have dQ3 := hmQ) | have dQ2 := hmQ) | have dQ1 := hmQ) | have dQ0 := hmQ))) | ((with_reducible refine wp_region_qb ?_ ?_ (fun hq => ?_)); (focus kernel_rfl); (focus kernel_rfl); (repeat (go_big_quiet_step ((first | (go_at_call 76; exact Calls.regrown_of (HBA.out _)))))); refine wpQuiet_nil ?_; intro wq hb; obtain ⟨hc, hf, hz, hy⟩ := bcell hb; clear hq hy; (try simp only [World.size_alloc, World.size_setCell, World.size_drew] at hz); (try have gQ0 : w.heap.size < wq.heap.size := by omega); (try have gQ1 : w.heap.size + 1 < wq.heap.size := by omega); (try have gQ2 : w.heap.size + 1 + 1 < wq.heap.size := by omega); (try have gQ3 : w.heap.size + 1 + 1 + 1 < wq.heap.size := by omega); (try have gQ4 : w.heap.size + 1 + 1 + 1 + 1 < wq.heap.size := by omega); (try have gQ5 : w.heap.size + 1 + 1 + 1 + 1 + 1 < wq.heap.size := by omega); (try have dQ0 : _ < wq.heap.size := Nat.lt_of_lt_of_le dQ0 (by omega)); (try have dQ1 : _ < wq.heap.size := Nat.lt_of_lt_of_le dQ1 (by omega)); (try have dQ2 : _ < wq.heap.size := Nat.lt_of_lt_of_le dQ2 (by omega)); (try have dQ3 : _ < wq.heap.size := Nat.lt_of_lt_of_le dQ3 (by omega)); (try have dQ4 : _ < wq.heap.size := Nat.lt_of_lt_of_le dQ4 (by omega)); (try have dQ5 : _ < wq.heap.size := Nat.lt_of_lt_of_le dQ5 (by omega)); (try (have hnQ := Nat.lt_of_succ_le hz; first | (have _x := dQ0; first | (have _x := dQ1; first | (have _x := dQ2; first | (have _x := dQ3; first | (have _x := dQ4; have dQ5 := hnQ) | have dQ4 := hnQ) | have dQ3 := hnQ) | have dQ2 := hnQ) | have dQ1 := hnQ) | have dQ0 := hnQ)); (try (have hmQ := Nat.lt_of_succ_lt (Nat.lt_of_succ_le hz); first | (have _x := dQ0; first | (have _x := dQ1; first | (have _x := dQ2; first | (have _x := dQ3; first | (have _x := dQ4; have dQ5 := hmQ) | have dQ4 := hmQ) | have dQ3 := hmQ) | have dQ2 := hmQ) | have dQ1 := hmQ) | have dQ0 := hmQ))))
    all_goals go_ret
    all_goals exact ⟨_, rfl, by rw [HF.out]; exact Own.emptyAny _ _ _ _, by (repeat' first | (with_reducible exact Below.refl _ _) | (with_reducible refine Below.alloc ?_ ?_ _) | (with_reducible refine Below.drew ?_) | (with_reducible refine Below.setCell ?_ ?_ _) | (with_reducible refine below_via (by assumption) ?_ ?_) | go_size)⟩
  cases hr : inR r 0 6
  · have HF : Hid (rowW a b o r = []) := by show _ = _; simp [rowW, h, hr]
    rw [h] at HBA
    clear h
    go_enter Tryz.func114, Tryz.ntmps114
    go_wp2_with fail
    refine wp_loop_once ?_
    go_wp2_with (first | (go_at_call 76; refine (HBA.out _).mono ?_; rintro e w' ⟨rfl, hb⟩; obtain ⟨hc, hf, hz, hy⟩ := bcell hb; clear hy; (try simp only [World.size_alloc, World.size_setCell, World.size_drew] at hz); (try have gQ0 : w.heap.size < w'.heap.size := by omega); (try have gQ1 : w.heap.size + 1 < w'.heap.size := by omega); (try have gQ2 : w.heap.size + 1 + 1 < w'.heap.size := by omega); (try have gQ3 : w.heap.size + 1 + 1 + 1 < w'.heap.size := by omega); (try have gQ4 : w.heap.size + 1 + 1 + 1 + 1 < w'.heap.size := by omega); (try have gQ5 : w.heap.size + 1 + 1 + 1 + 1 + 1 < w'.heap.size := by omega); (try have dQ0 : _ < w'.heap.size := Nat.lt_of_lt_of_le dQ0 (by omega)); (try have dQ1 : _ < w'.heap.size := Nat.lt_of_lt_of_le dQ1 (by omega)); (try have dQ2 : _ < w'.heap.size := Nat.lt_of_lt_of_le dQ2 (by omega)); (try have dQ3 : _ < w'.heap.size := Nat.lt_of_lt_of_le dQ3 (by omega)); (try have dQ4 : _ < w'.heap.size := Nat.lt_of_lt_of_le dQ4 (by omega)); (try have dQ5 : _ < w'.heap.size := Nat.lt_of_lt_of_le dQ5 (by omega)); (try (have hnQ := Nat.lt_of_succ_le hz; first | (have _x := dQ0; first | (have _x := dQ1; first | (have _x := dQ2; first | (have _x := dQ3; first | (have _x := dQ4; have dQ5 := hnQ) | have dQ4 := hnQ) | have dQ3 := hnQ) | have dQ2 := hnQ) | have dQ1 := hnQ) | have dQ0 := hnQ)); (try (have hmQ := Nat.lt_of_succ_lt (Nat.lt_of_succ_le hz); first | (have _x := dQ0; first | (have _x := dQ1; first | (have _x := dQ2; first | (have _x := dQ3; first | (have _x := dQ4; have dQ5 := hmQ) | have dQ4 := hmQ) | have dQ3 := hmQ) | have dQ2 := hmQ) | have dQ1 := hmQ) | have dQ0 := hmQ))) | (go_at_call 63; refine (l01In_r _ _ _ _ hr).mono ?_; rintro e w' ⟨rfl, rfl⟩) | ((with_reducible refine wp_region_qb ?_ ?_ (fun hq => ?_)); (focus kernel_rfl); (focus kernel_rfl); (repeat (go_big_quiet_step ((first | (go_at_call 76; exact Calls.regrown_of (HBA.out _)) | (go_at_call 63; exact calls_qp (l01In_r _ _ _ _ hr)))))); refine wpQuiet_nil ?_; intro wq hb; obtain ⟨hc, hf, hz, hy⟩ := bcell hb; clear hq hy; (try simp only [World.size_alloc, World.size_setCell, World.size_drew] at hz); (try have gQ0 : w.heap.size < wq.heap.size := by omega); (try have gQ1 : w.heap.size + 1 < wq.heap.size := by omega); (try have gQ2 : w.heap.size + 1 + 1 < wq.heap.size := by omega); (try have gQ3 : w.heap.size + 1 + 1 + 1 < wq.heap.size := by omega); (try have gQ4 : w.heap.size + 1 + 1 + 1 + 1 < wq.heap.size := by omega); (try have gQ5 : w.heap.size + 1 + 1 + 1 + 1 + 1 < wq.heap.size := by omega); (try have dQ0 : _ < wq.heap.size := Nat.lt_of_lt_of_le dQ0 (by omega)); (try have dQ1 : _ < wq.heap.size := Nat.lt_of_lt_of_le dQ1 (by omega)); (try have dQ2 : _ < wq.heap.size := Nat.lt_of_lt_of_le dQ2 (by omega)); (try have dQ3 : _ < wq.heap.size := Nat.lt_of_lt_of_le dQ3 (by omega)); (try have dQ4 : _ < wq.heap.size := Nat.lt_of_lt_of_le dQ4 (by omega)); (try have dQ5 : _ < wq.heap.size := Nat.lt_of_lt_of_le dQ5 (by omega)); (try (have hnQ := Nat.lt_of_succ_le hz; first | (have _x := dQ0; first | (have _x := dQ1; first | (have _x := dQ2; first | (have _x := dQ3; first | (have _x := dQ4; have dQ5 := hnQ) | have dQ4 := hnQ) | have dQ3 := hnQ) | have dQ2 := hnQ) | have dQ1 := hnQ) | have dQ0 := hnQ)); (try (have hmQ := Nat.lt_of_succ_lt (Nat.lt_of_succ_le hz); first | (have _x := dQ0; first | (have _x := dQ1; first | (have _x := dQ2; first | (have _x := dQ3; first | (have _x := dQ4; have dQ5 := hmQ) | have dQ4 := hmQ) | have dQ3 := hmQ) | have dQ2 := hmQ) | have dQ1 := hmQ) | have dQ0 := hmQ))))
    all_goals go_ret
    all_goals exact ⟨_, rfl, by rw [HF.out]; exact Own.emptyAny _ _ _ _, by (repeat' first | (with_reducible exact Below.refl _ _) | (with_reducible refine Below.alloc ?_ ?_ _) | (with_reducible refine Below.drew ?_) | (with_reducible refine Below.setCell ?_ ?_ _) | (with_reducible refine below_via (by assumption) ?_ ?_) | go_size)⟩
  have HF := Lib.hid (rowW_of h hr)
  obtain ⟨hs1, hs2⟩ := boardOk_sides h
  have ⟨h8, h9⟩ := area hs1 hs2
  obtain ⟨ha1, ha7⟩ := inR_iff.1 hs1
  obtain ⟨hb1', hb7⟩ := inR_iff.1 hs2
  have hrr := inR_iff.1 hr
  have HS := Lib.hid (mapTo_succ (rowAtW a r))
  have HRD := Lib.hid (fun (k : Nat) (hk : (k : Int) < a * b) => remdiv ha1 ha7 hb7 hk)
  have HLN := Lib.hid (mapTo_len (rowAtW a r))
  have HCA := Lib.hid (fun k => (rfl : rowAtW a r k = rowAtW a r k))
  rw [h] at HBA
  clear h hs1 hs2
  go_enter Tryz.func114, Tryz.ntmps114
  obtain ⟨w3, hw3⟩ : ∃ w3 : World, w3 = w.alloc (.cells #[.int .i64 a, .int .i64 b, .int .i64 o] 25) := ⟨_, rfl⟩
  have hbox0 : ∀ j, w3.cell? ⟨w.heap.size, j, none⟩ = #[Value.int .i64 a, .int .i64 b, .int .i64 o][j]? := fun j => by rw [hw3]; simp
  have HW3 : Hid (Below w.heap.size w w3) := by show Below _ _ _; rw [hw3]; (repeat' first | (with_reducible exact Below.refl _ _) | (with_reducible refine Below.alloc ?_ ?_ _) | (with_reducible refine Below.drew ?_) | (with_reducible refine Below.setCell ?_ ?_ _) | (with_reducible refine below_via (by assumption) ?_ ?_) | go_size)
  have gz3 : w.heap.size < w3.heap.size := by rw [hw3]; simp
  go_wp2_with fail
  rw [← hw3]
  clear hw3
  go_loopw [5, 6] (fun out i wr => ∃ k : Nat, (k : Int) ≤ a * b ∧ i = .int .i64 k ∧ Own EInt wr w3.heap.size out (mapTo (rowAtW a r) k) ∧ Below w3.heap.size w3 wr) (fun _ i _ => (a * b - intOf i).toNat)
  case atStart => exact ⟨0, by omega, rfl, Own.emptyAny _ _ _ _, by (repeat' first | (with_reducible exact Below.refl _ _) | (with_reducible refine Below.alloc ?_ ?_ _) | (with_reducible refine Below.drew ?_) | (with_reducible refine Below.setCell ?_ ?_ _) | (with_reducible refine below_via (by assumption) ?_ ?_) | go_size)⟩
  case round =>
    obtain ⟨k, hk, rfl, hown, hbw⟩ := hrel
    have hzr := hbw.size
    have hbox : ∀ j, wr.cell? ⟨w.heap.size, j, none⟩ = #[Value.int .i64 a, .int .i64 b, .int .i64 o][j]? := fun j => (hbw.cell (by exact gz3)).trans (hbox0 j)
    have gW0 : w.heap.size < wr.heap.size := by omega
    have HBw := Lib.hid hbw
    have hlen := HLN.out k
    have HSk := Lib.hid (HS.out k)
    have HOw := Lib.hid hown
    clear hbw hown
    by_cases hlt : (k : Int) < a * b
    · obtain ⟨d1, d2, d3, d4⟩ := HRD.out k hlt
      have HV : Hid (fibN (7 - (((((k : Int) / a) - r).natAbs : Nat) : Int)).toNat = rowAtW a r k) := fibAt_of _ (by omega)
      have hv7 := fibN_bd ((7 - (((((k : Int) / a) - r).natAbs : Nat) : Int)).toNat) (by omega)
      have hnn : ((((k : Int) / a) - r).natAbs : Int) ≤ 6 := by omega
      generalize mapTo (rowAtW a r) k = P at *
      have HFB : Hid (∀ (y : Int) W, y = 7 - ((((k : Int) / a) - r).natAbs : Int) → Calls Tryz.prog 124 #[.int .i64 y] W fun e w' => e = .returned (.int .i64 (rowAtW a r k)) ∧ W = w') := fun y W hy => by rw [← HV.out, hy]; exact l10Number_z _ (by omega) (by omega) W
      go_wp2_with (first | (go_at_call 76; refine (HBA.out _).mono ?_; rintro e w4 ⟨rfl, hb4⟩; have hown4 := HOw.out.keep hb4; have hz4 := hb4.size; have gW4 : w.heap.size < w4.heap.size := (by omega); have hbox4 : ∀ j, w4.cell? ⟨w.heap.size, j, none⟩ = #[Value.int .i64 a, .int .i64 b, .int .i64 o][j]? := (fun j => (hb4.cell (by exact gW0)).trans (hbox j)); have HB4 := Lib.hid (HBw.out.trans (hb4.mono hzr)); clear hb4) | (go_at_call 63; refine (l01In_r _ _ _ _ hr).mono ?_; rintro e w' ⟨rfl, rfl⟩) | (go_at_call 124; refine (HFB.out _ _ (by omega)).mono ?_; rintro e w' ⟨rfl, rfl⟩) | (at_builtin; (refine append1 (E := EInt) (l := P) rfl rfl _ _ 29 rfl Tryz.underlying29 rfl hown4 (rowAtW a r k) rfl (by omega) (by omega) ?_); intro v' w5 hown5 hb5 hg5))
      all_goals go_roundw
      all_goals first | (exact ⟨k + 1, by omega, by go_num, by rw [HSk.out]; exact hown5, HB4.out.trans hb5⟩) | (simp [intOf]; omega)
    · have e : (a * b).toNat = k := by omega
      have HE : Hid (rowW a b o r = mapTo (rowAtW a r) k) := by show _ = _; rw [HF.out, e]
      clear e
      go_wp2_with fail
      go_ret
      exact ⟨_, rfl, by rw [HE.out]; exact HOw.out.mono (by omega), HW3.out.trans (HBw.out.mono (by omega))⟩
end Go.Proofs.YtfmplmlilmalpaaGreat
namespace Go.Proofs.YtfmplmlilmalpaaGreat
open Go.ChangeShapes Go.WideShapes Go.ChangeAt Go.RowKit Peg Go.Sort
theorem wts_col2 (a b o : Int) {k : Nat} (h : k < 7) : wtsAt a b o (3 + k) = colW a b o ((k : Int) % 7) := by
  rw [wts_col _ _ _ (by omega) (by omega)]
  congr 1
  omega
theorem wts_row2 (a b o : Int) {k : Nat} (h : ¬ k < 7) (h2 : k < 14) : wtsAt a b o (3 + k) = rowW a b o ((k : Int) % 7) := by
  rw [wts_row _ _ _ (by omega)]
  congr 1
  omega
def RetFind (w : World) (a b o p g : Int) (e : Ending) (w' : World) : Prop := ∃ v, e = .returned (.tuple #[v, .bool (findProof a b o p g).isSome]) ∧ Own EInt w' w.heap.size v (findW a b o p g) ∧ Below w.heap.size w w'
set_option maxHeartbeats 2000000 in
set_option maxRecDepth 100000 in
theorem FindProof_any (a b o p g : Int) (hp : p ≤ 9223372036854775807) (hg : g ≤ 9223372036854775807) (w : World) :
    Calls Tryz.prog 37 #[.agg #[.int .i64 a, .int .i64 b, .int .i64 o], .int .i64 p, .int .i64 g] w (RetFind w a b o p g) := by
  have HC := Lib.hid (fun r W => ClassWeights_any a b o r W)
  have HK := Lib.hid (fun r W => ColumnWeights_any a b o r W)
  have HR := Lib.hid (fun r W => RowWeights_any a b o r W)
  have HP : Hid (∀ (W : List Int) (v : Value) (B : Nat) (wx : World), Own EInt wx B v W → Calls Tryz.prog 19 #[.agg #[.int .i64 a, .int .i64 b, .int .i64 o], v, .int .i64 p, .int .i64 g] wx fun e w' => e = .returned (.bool (isProof a b o W p g)) ∧ Below wx.heap.size wx w') := fun W v B wx hW => IsProof_any a b o W p g v hp hg wx hW
  have HWC := Lib.hid (fun i (h : i < 3) => wts_class a b o h)
  have HWK := Lib.hid (fun i (h : ¬ i < 3) (h2 : i < 10) => wts_col a b o h h2)
  have HWR := Lib.hid (fun i (h2 : ¬ i < 10) => wts_row a b o h2)
  have HY := Lib.hid (fun i (h : i < 17) (h0 : (List.range i).find? (proofAt a b o p g) = none) (h1 : isProof a b o (wtsAt a b o i) p g = true) => find_yes h h0 h1)
  have HN := Lib.hid (fun (h0 : (List.range 17).find? (proofAt a b o p g) = none) => find_no h0)
  have HNX := Lib.hid (fun i (h0 : (List.range i).find? (proofAt a b o p g) = none) (h1 : isProof a b o (wtsAt a b o i) p g = false) => rfindW_no h0 (show proofAt a b o p g i = false from h1))
  have H0 : Hid ((List.range 0).find? (proofAt a b o p g) = none) := rfl
  obtain ⟨w3, hw3⟩ : ∃ w3 : World, w3 = w.alloc (.cells #[.int .i64 a, .int .i64 b, .int .i64 o] 25) := ⟨_, rfl⟩
  have hbox0 : ∀ j, w3.cell? ⟨w.heap.size, j, none⟩ = #[Value.int .i64 a, .int .i64 b, .int .i64 o][j]? := fun j => by rw [hw3]; simp
  have HW3 : Hid (Below w.heap.size w w3) := by show Below _ _ _; rw [hw3]; (repeat' first | (with_reducible exact Below.refl _ _) | (with_reducible refine Below.alloc ?_ ?_ _) | (with_reducible refine Below.drew ?_) | (with_reducible refine Below.setCell ?_ ?_ _) | (with_reducible refine below_via (by assumption) ?_ ?_) | go_size)
  have gz3 : w.heap.size < w3.heap.size := by rw [hw3]; simp
  go_enter Tryz.func37, Tryz.ntmps37
  go_wp2_with fail
  rw [← hw3]
  clear hw3
  go_loopw [8] (fun i wr => ∃ k : Nat, k ≤ 17 ∧ i = .int .i64 k ∧ Hid ((List.range k).find? (proofAt a b o p g) = none) ∧ Below w3.heap.size w3 wr) (fun i _ => 17 - (intOf i).toNat)
  case atStart => exact ⟨0, by omega, rfl, H0, by (repeat' first | (with_reducible exact Below.refl _ _) | (with_reducible refine Below.alloc ?_ ?_ _) | (with_reducible refine Below.drew ?_) | (with_reducible refine Below.setCell ?_ ?_ _) | (with_reducible refine below_via (by assumption) ?_ ?_) | go_size)⟩
  case round =>
    obtain ⟨k, hk, rfl, HF, hbw⟩ := hrel
    have hzr := hbw.size
    have hbox : ∀ j, wr.cell? ⟨w.heap.size, j, none⟩ = #[Value.int .i64 a, .int .i64 b, .int .i64 o][j]? := fun j => (hbw.cell (by exact gz3)).trans (hbox0 j)
    have gW0 : w.heap.size < wr.heap.size := by omega
    have HBw := Lib.hid hbw
    clear hbw
    by_cases hlt : k < 17
    · have HYk := Lib.hid (HY.out k hlt HF.out)
      have HNk := Lib.hid (HNX.out k HF.out)
      have key : Hid (∀ (v : Value) (w4 : World), Own EInt w4 wr.heap.size v (wtsAt a b o k) → Below wr.heap.size wr w4 → (Own EInt w4 w3.heap.size v (wtsAt a b o k)) ∧ Hid (Below w3.heap.size w3 w4) ∧ w.heap.size < w4.heap.size ∧ (∀ j, w4.cell? ⟨w.heap.size, j, none⟩ = #[Value.int .i64 a, .int .i64 b, .int .i64 o][j]?)) := fun v w4 h1 h2 => ⟨h1.mono hzr, HBw.out.trans (h2.mono hzr), by have := h2.size; omega, fun j => (h2.cell (show w.heap.size < wr.heap.size from gW0)).trans (hbox j)⟩
      have HW : Hid ((k < 3 → wtsAt a b o k = classW a b o k) ∧ (¬ k < 3 → k < 10 → wtsAt a b o k = colW a b o ((k : Int) - 3)) ∧ (¬ k < 10 → wtsAt a b o k = rowW a b o ((k : Int) - 10))) := ⟨HWC.out k, HWK.out k, HWR.out k⟩
      generalize wtsAt a b o k = V at *
      have fin : Hid (∀ (v : Value) (w4 : World), Own EInt w4 w3.heap.size v V → Calls Tryz.prog 19 #[.agg #[.int .i64 a, .int .i64 b, .int .i64 o], v, .int .i64 p, .int .i64 g] w4 fun e w' => e = .returned (.bool (isProof a b o V p g)) ∧ Below w4.heap.size w4 w') := fun v w4 h => HP.out V v _ w4 h
      clear HC HK HR HP HWC HWK HWR HY HNX
      cases hz : isProof a b o V p g
      all_goals
        rw [hz] at fin
        by_cases h3 : k < 3
        · have hV := HW.out.1 h3
          go_wp2_with fail
          refine (ClassWeights_any a b o k _).mono ?_
          rintro e w4 ⟨v, rfl, hown, hb4⟩
          rw [← hV] at hown
          obtain ⟨hown4, HB4, gz4, hbox4⟩ := key.out v w4 hown hb4
          obtain ⟨aV, cV, rfl, -⟩ := hown4.form
          have HO4 := Lib.hid hown4
          clear hown hb4 hown4 hV
          go_wp2_with fail
          refine (fin.out _ w4 HO4.out).mono ?_
          rintro e w5 ⟨rfl, hb5⟩
          have HB5 := Lib.hid (HB4.out.trans (hb5.mono HB4.out.size))
          have HO5 := Lib.hid (HO4.out.keep hb5)
          clear hb5
          go_wp2_with fail
          first | (go_roundw; (case rel => exact ⟨k + 1, by omega, by go_num, HNk.out hz, HB5.out⟩); (case measure => simp [intOf]; omega)) | (go_ret2; exact ⟨_, by rw [(HYk.out hz).1]; rfl, by rw [(HYk.out hz).2]; exact HO5.out.mono (by omega), HW3.out.trans (HB5.out.mono (by omega))⟩)
        · by_cases h10 : k < 10
          · have hV := HW.out.2.1 h3 h10
            go_wp2_with fail
            refine (ColumnWeights_any a b o ((k : Int) - 3) _).mono ?_
            rintro e w4 ⟨v, rfl, hown, hb4⟩
            rw [← hV] at hown
            obtain ⟨hown4, HB4, gz4, hbox4⟩ := key.out v w4 hown hb4
            obtain ⟨aV, cV, rfl, -⟩ := hown4.form
            have HO4 := Lib.hid hown4
            clear hown hb4 hown4 hV
            go_wp2_with fail
            refine (fin.out _ w4 HO4.out).mono ?_
            rintro e w5 ⟨rfl, hb5⟩
            have HB5 := Lib.hid (HB4.out.trans (hb5.mono HB4.out.size))
            have HO5 := Lib.hid (HO4.out.keep hb5)
            clear hb5
            go_wp2_with fail
            first | (go_roundw; (case rel => exact ⟨k + 1, by omega, by go_num, HNk.out hz, HB5.out⟩); (case measure => simp [intOf]; omega)) | (go_ret2; exact ⟨_, by rw [(HYk.out hz).1]; rfl, by rw [(HYk.out hz).2]; exact HO5.out.mono (by omega), HW3.out.trans (HB5.out.mono (by omega))⟩)
          · have hV := HW.out.2.2 h10
            go_wp2_with fail
            refine (RowWeights_any a b o ((k : Int) - 10) _).mono ?_
            rintro e w4 ⟨v, rfl, hown, hb4⟩
            rw [← hV] at hown
            obtain ⟨hown4, HB4, gz4, hbox4⟩ := key.out v w4 hown hb4
            obtain ⟨aV, cV, rfl, -⟩ := hown4.form
            have HO4 := Lib.hid hown4
            clear hown hb4 hown4 hV
            go_wp2_with fail
            refine (fin.out _ w4 HO4.out).mono ?_
            rintro e w5 ⟨rfl, hb5⟩
            have HB5 := Lib.hid (HB4.out.trans (hb5.mono HB4.out.size))
            have HO5 := Lib.hid (HO4.out.keep hb5)
            clear hb5
            go_wp2_with fail
            first | (go_roundw; (case rel => exact ⟨k + 1, by omega, by go_num, HNk.out hz, HB5.out⟩); (case measure => simp [intOf]; omega)) | (go_ret2; exact ⟨_, by rw [(HYk.out hz).1]; rfl, by rw [(HYk.out hz).2]; exact HO5.out.mono (by omega), HW3.out.trans (HB5.out.mono (by omega))⟩)
    · obtain rfl : k = 17 := by omega
      obtain ⟨e1, e2⟩ := HN.out HF.out
      have HE := Lib.hid e1
      have HE2 := Lib.hid e2
      clear e1 e2
      go_wp2_with fail
      go_ret2
      exact ⟨_, by rw [HE.out]; rfl, by rw [HE2.out]; exact Own.emptyAny _ _ _ _, HW3.out.trans (HBw.out.mono (by omega))⟩
set_option maxHeartbeats 2000000 in
set_option maxRecDepth 100000 in
theorem sFindProof_any (a b o p g : Int) (hp : p ≤ 9223372036854775807) (hg : g ≤ 9223372036854775807) (w : World) :
    Calls Tryz.prog 84 #[.agg #[.int .i64 a, .int .i64 b, .int .i64 o], .int .i64 p, .int .i64 g] w (RetFind w a b o p g) := by
  have HP : Hid (∀ (W : List Int) (v : Value) (B : Nat) (wx : World), Own EInt wx B v W → Calls Tryz.prog 28 #[.agg #[.int .i64 a, .int .i64 b, .int .i64 o], v, .int .i64 p, .int .i64 g] wx fun e w' => e = .returned (.bool (isProof a b o W p g)) ∧ Below wx.heap.size wx w') := fun W v B wx hW => sIsProof_any a b o W p g v hp hg wx hW
  have HWC := Lib.hid (fun i (h : i < 3) => wts_class a b o h)
  have HWK := Lib.hid (fun i (h : i < 7) => wts_col2 a b o h)
  have HWR := Lib.hid (fun i (h : ¬ i < 7) (h2 : i < 14) => wts_row2 a b o h h2)
  have HY := Lib.hid (fun i (h : i < 17) (h0 : (List.range i).find? (proofAt a b o p g) = none) (h1 : isProof a b o (wtsAt a b o i) p g = true) => find_yes h h0 h1)
  have HN := Lib.hid (fun (h0 : (List.range 17).find? (proofAt a b o p g) = none) => find_no h0)
  have HNX := Lib.hid (fun i (h0 : (List.range i).find? (proofAt a b o p g) = none) (h1 : isProof a b o (wtsAt a b o i) p g = false) => rfindW_no h0 (show proofAt a b o p g i = false from h1))
  have H0 : Hid ((List.range 0).find? (proofAt a b o p g) = none) := rfl
  obtain ⟨w3, hw3⟩ : ∃ w3 : World, w3 = w.alloc (.cells #[.int .i64 a, .int .i64 b, .int .i64 o] 25) := ⟨_, rfl⟩
  have hbox0 : ∀ j, w3.cell? ⟨w.heap.size, j, none⟩ = #[Value.int .i64 a, .int .i64 b, .int .i64 o][j]? := fun j => by rw [hw3]; simp
  have HW3 : Hid (Below w.heap.size w w3) := by show Below _ _ _; rw [hw3]; (repeat' first | (with_reducible exact Below.refl _ _) | (with_reducible refine Below.alloc ?_ ?_ _) | (with_reducible refine Below.drew ?_) | (with_reducible refine Below.setCell ?_ ?_ _) | (with_reducible refine below_via (by assumption) ?_ ?_) | go_size)
  have gz3 : w.heap.size < w3.heap.size := by rw [hw3]; simp
  go_enter Tryz.func84, Tryz.ntmps84
  go_wp2_with fail
  rw [← hw3]
  clear hw3
  go_loopw [8] (fun i wr => ∃ k : Nat, k ≤ 3 ∧ i = .int .i64 k ∧ Hid ((List.range k).find? (proofAt a b o p g) = none) ∧ Below w3.heap.size w3 wr) (fun i _ => 3 - (intOf i).toNat)
  case atStart => exact ⟨0, by omega, rfl, H0, by (repeat' first | (with_reducible exact Below.refl _ _) | (with_reducible refine Below.alloc ?_ ?_ _) | (with_reducible refine Below.drew ?_) | (with_reducible refine Below.setCell ?_ ?_ _) | (with_reducible refine below_via (by assumption) ?_ ?_) | go_size)⟩
  case round =>
    obtain ⟨k, hk, rfl, HF, hbw⟩ := hrel
    have hzr := hbw.size
    have hbox : ∀ j, wr.cell? ⟨w.heap.size, j, none⟩ = #[Value.int .i64 a, .int .i64 b, .int .i64 o][j]? := fun j => (hbw.cell (by exact gz3)).trans (hbox0 j)
    have gW0 : w.heap.size < wr.heap.size := by omega
    have HBw := Lib.hid hbw
    clear hbw
    by_cases hlt : k < 3
    · have HYk := Lib.hid (HY.out k (by omega) HF.out)
      have HNk := Lib.hid (HNX.out k HF.out)
      have hV := HWC.out k hlt
      cases hz : isProof a b o (wtsAt a b o k) p g
      all_goals
        go_wp2_with fail
        refine (sClassWeights_any a b o k _).mono ?_
        rintro e w4 ⟨v, rfl, hown, hb4⟩
        rw [← hV] at hown
        obtain ⟨hown4, HB4, gz4, hbox4⟩ : (Own EInt w4 w3.heap.size v (wtsAt a b o k)) ∧ Hid (Below w3.heap.size w3 w4) ∧ w.heap.size < w4.heap.size ∧ (∀ j, w4.cell? ⟨w.heap.size, j, none⟩ = #[Value.int .i64 a, .int .i64 b, .int .i64 o][j]?) := ⟨hown.mono hzr, HBw.out.trans (hb4.mono hzr), by have := hb4.size; omega, fun j => (hb4.cell (show w.heap.size < wr.heap.size from gW0)).trans (hbox j)⟩
        obtain ⟨aV, cV, rfl, -⟩ := hown4.form
        have HO4 := Lib.hid hown4
        have HPk := Lib.hid (HP.out _ _ _ w4 HO4.out)
        rw [hz] at HPk
        clear hown hb4 hown4 hV
        generalize wtsAt a b o k = V at *
        go_wp2_with fail
        refine HPk.out.mono ?_
        rintro e w5 ⟨rfl, hb5⟩
        have HB5 := Lib.hid (HB4.out.trans (hb5.mono HB4.out.size))
        have HO5 := Lib.hid (HO4.out.keep hb5)
        clear hb5
        go_wp2_with fail
        first | (go_roundw; (case rel => exact ⟨k + 1, by omega, by go_num, HNk.out hz, HB5.out⟩); (case measure => simp [intOf]; omega)) | (go_ret2; exact ⟨_, by rw [(HYk.out hz).1]; rfl, by rw [(HYk.out hz).2]; exact HO5.out.mono (by omega), HW3.out.trans (HB5.out.mono (by omega))⟩)
    · obtain rfl : k = 3 := by omega
      rw [show ((3 : Nat) : Int) = 3 from rfl]
      have hzw := hzr
      obtain ⟨w6, rfl⟩ : ∃ w6 : World, w6 = wr := ⟨_, rfl⟩
      go_wp2_with fail
      go_loopw [10] (fun i wr => ∃ k : Nat, k ≤ 14 ∧ i = .int .i64 k ∧ Hid ((List.range (3 + k)).find? (proofAt a b o p g) = none) ∧ Below w3.heap.size w3 wr) (fun i _ => 14 - (intOf i).toNat)
      case atStart => exact ⟨0, by omega, rfl, HF, HBw.out⟩
      case round =>
        clear hbox HF hzr hzw gW0 HBw
        obtain ⟨k, hk, rfl, HF, hbw⟩ := hrel
        have hzr := hbw.size
        have hbox : ∀ j, wr.cell? ⟨w.heap.size, j, none⟩ = #[Value.int .i64 a, .int .i64 b, .int .i64 o][j]? := fun j => (hbw.cell (by exact gz3)).trans (hbox0 j)
        have gW0 : w.heap.size < wr.heap.size := by omega
        have HBw := Lib.hid hbw
        clear hbw
        by_cases hlt : k < 14
        · have HYk := Lib.hid (HY.out (3 + k) (by omega) HF.out)
          have HNk := Lib.hid (HNX.out (3 + k) HF.out)
          have HCOL := Lib.hid (HWK.out k)
          have HROW := Lib.hid (fun h => HWR.out k h hlt)
          generalize wtsAt a b o (3 + k) = V at *
          cases hz : isProof a b o V p g
          all_goals
            go_wp2_with fail
            refine (sColumnWeights_any a b o ((k : Int) % 7) _).mono ?_
            rintro e w4 ⟨v, rfl, hown, hb4⟩
            obtain ⟨hown4, HB4, gz4, hbox4⟩ : (Own EInt w4 w3.heap.size v (colW a b o ((k : Int) % 7))) ∧ Hid (Below w3.heap.size w3 w4) ∧ w.heap.size < w4.heap.size ∧ (∀ j, w4.cell? ⟨w.heap.size, j, none⟩ = #[Value.int .i64 a, .int .i64 b, .int .i64 o][j]?) := ⟨hown.mono hzr, HBw.out.trans (hb4.mono hzr), by have := hb4.size; omega, fun j => (hb4.cell (show w.heap.size < wr.heap.size from gW0)).trans (hbox j)⟩
            obtain ⟨aV, cV, rfl, -⟩ := hown4.form
            clear hown hb4
            by_cases h7 : k < 7
            · rw [← HCOL.out h7] at hown4
              have HO4 := Lib.hid hown4
              have HPk := Lib.hid (HP.out _ _ _ w4 HO4.out)
              rw [hz] at HPk
              have e1 : (colW a b o ((k : Int) % 7)).length = V.length := by rw [HCOL.out h7]
              rw [e1]
              clear hown4 e1
              go_wp2_with fail
              refine HPk.out.mono ?_
              rintro e w5 ⟨rfl, hb5⟩
              have HB5 := Lib.hid (HB4.out.trans (hb5.mono HB4.out.size))
              have HO5 := Lib.hid (HO4.out.keep hb5)
              clear hb5
              go_wp2_with fail
              first | (go_roundw; (case rel => exact ⟨k + 1, by omega, by go_num, HNk.out hz, HB5.out⟩); (case measure => simp [intOf]; omega)) | (go_ret2; exact ⟨_, by rw [(HYk.out hz).1]; rfl, by rw [(HYk.out hz).2]; exact HO5.out.mono (by omega), HW3.out.trans (HB5.out.mono (by omega))⟩)
            · have HV7 := HROW.out h7
              have hz4 := HB4.out.size
              go_wp2_with fail
              refine (sRowWeights_any a b o ((k : Int) % 7) _).mono ?_
              rintro e w6 ⟨v, rfl, hown6, hb6⟩
              have hz6 := hb6.size
              rw [← HV7] at hown6
              obtain ⟨hown7, HB7, gz7, hbox7⟩ : (Own EInt w6 w3.heap.size v V) ∧ Hid (Below w3.heap.size w3 w6) ∧ w.heap.size < w6.heap.size ∧ (∀ j, w6.cell? ⟨w.heap.size, j, none⟩ = #[Value.int .i64 a, .int .i64 b, .int .i64 o][j]?) := ⟨hown6.mono hz4, HB4.out.trans (hb6.mono hz4), by omega, fun j => (hb6.cell (show w.heap.size < w4.heap.size from gz4)).trans (hbox4 j)⟩
              obtain ⟨aR, cR, rfl, -⟩ := hown7.form
              have HO7 := Lib.hid hown7
              have HPk := Lib.hid (HP.out _ _ _ w6 HO7.out)
              rw [hz] at HPk
              clear hown6 hb6 hown7 hown4 HV7
              go_wp2_with fail
              refine HPk.out.mono ?_
              rintro e w5 ⟨rfl, hb5⟩
              have HB5 := Lib.hid (HB7.out.trans (hb5.mono HB7.out.size))
              have HO5 := Lib.hid (HO7.out.keep hb5)
              clear hb5
              go_wp2_with fail
              first | (go_roundw; (case rel => exact ⟨k + 1, by omega, by go_num, HNk.out hz, HB5.out⟩); (case measure => simp [intOf]; omega)) | (go_ret2; exact ⟨_, by rw [(HYk.out hz).1]; rfl, by rw [(HYk.out hz).2]; exact HO5.out.mono (by omega), HW3.out.trans (HB5.out.mono (by omega))⟩)
        · obtain rfl : k = 14 := by omega
          obtain ⟨e1, e2⟩ := HN.out HF.out
          have HE := Lib.hid e1
          have HE2 := Lib.hid e2
          clear e1 e2
          go_wp2_with fail
          go_ret2
          exact ⟨_, by rw [HE.out]; rfl, by rw [HE2.out]; exact Own.emptyAny _ _ _ _, by have := HW3.out.trans (HBw.out.mono (by omega)); (repeat' first | (with_reducible exact Below.refl _ _) | (with_reducible refine Below.alloc ?_ ?_ _) | (with_reducible refine Below.drew ?_) | (with_reducible refine Below.setCell ?_ ?_ _) | (with_reducible refine below_via (by assumption) ?_ ?_) | (with_reducible assumption) | ((try simp only [World.size_alloc, World.size_setCell, World.size_drew] at *); omega) | go_size)⟩
end Go.Proofs.YtfmplmlilmalpaaGreat
namespace Go.Proofs.YtfmplmlilmalpaaGreat
open Go.ChangeShapes Go.WideShapes Go.ChangeAt Go.RowKit Peg Go.Sort
theorem grown_any {w w' : World} {row : Option Nat} (h : w.grownBy w' none) : w.grownBy w' row := ⟨h.os, h.tape, h.output, h.size, fun b hb _ => h.block b hb (by simp)⟩
theorem Own.boxFar {α : Type} {E : Elt α} {w w' : World} {B : Nat} {v : Value} {l : List α} {cs : Array Value} {t : TypeId} (h : Own E w B v l) (hg : (w.alloc (.cells cs t)).grownBy w' (rowOf v l)) (j : Nat) : w'.cell? ⟨w.heap.size, j, none⟩ = cs[j]? := by
  have h1 := hg.cell_far ⟨w.heap.size, j, none⟩ (by simp) (fun e => by have := h.blockGe _ e.symm; simp at this)
  rw [h1]; simp
end Go.Proofs.YtfmplmlilmalpaaGreat
