/- WtsA: contracts of the weights of classes, columns and rows, of FindProof, and of markClaim and heldClaim at claims of which at most one slice holds anything. Conditions: numbers in range. -/
import Derived.Test.YtfpofhkggojaoaaProof
import Derived.Test.YtfpofhkggojaoaaHoles
import Derived.Test.YtfpofhkggojaoaaClaimL
import Derived.Test.YtfpofhkggojaoaaArgL
import Derived.Test.YtfpofhkggojaoaaArgI
import Derived.Deep.AppendLies
set_option linter.unusedVariables false
set_option linter.unusedSimpArgs false
namespace Peg
def fibN : Nat → Int
  | 0 => 0
  | 1 => 1
  | n + 2 => fibN n + fibN (n + 1)
theorem fibN_bd : ∀ n : Nat, n ≤ 8 → 0 ≤ fibN n ∧ fibN n ≤ 21 := by
  intro n h
  match n, h with
  | 0, _ => decide
  | 1, _ => decide
  | 2, _ => decide
  | 3, _ => decide
  | 4, _ => decide
  | 5, _ => decide
  | 6, _ => decide
  | 7, _ => decide
  | 8, _ => decide
/-- the number of a distance -/
def fibAt (x : Int) : Int := fibN (7 - x.natAbs)
def classAt (a r : Int) (k : Nat) : Int := if ((k : Int) % a + (k : Int) / a) % 3 = r then 0 else 1
def colAt (a t : Int) (k : Nat) : Int := fibAt ((k : Int) % a - t)
def rowAtW (a t : Int) (k : Nat) : Int := fibAt ((k : Int) / a - t)
def mapTo (f : Nat → Int) (n : Nat) : List Int := (List.range n).map f
theorem mapTo_succ (f : Nat → Int) (n : Nat) : mapTo f (n + 1) = mapTo f n ++ [f n] := by simp [mapTo, List.range_succ]
theorem mapTo_zero (f : Nat → Int) : mapTo f 0 = [] := rfl
theorem mapTo_len (f : Nat → Int) (n : Nat) : (mapTo f n).length = n := by simp [mapTo]
def classW (a b o r : Int) : List Int := if boardOk a b o && inR r 0 2 then mapTo (classAt a r) (a * b).toNat else []
def colW (a b o t : Int) : List Int := if boardOk a b o && inR t 0 6 then mapTo (colAt a t) (a * b).toNat else []
def rowW (a b o t : Int) : List Int := if boardOk a b o && inR t 0 6 then mapTo (rowAtW a t) (a * b).toNat else []
def wtsAt (a b o : Int) (i : Nat) : List Int := if i < 3 then classW a b o i else if i < 10 then colW a b o ((i : Int) - 3) else rowW a b o ((i : Int) - 10)
def proofAt (a b o p g : Int) (i : Nat) : Bool := isProof a b o (wtsAt a b o i) p g
def findProof (a b o p g : Int) : Option Nat := (List.range 17).find? (proofAt a b o p g)
def findW (a b o p g : Int) : List Int := match findProof a b o p g with | some i => wtsAt a b o i | none => []
theorem rfindW_yes {P : Nat → Bool} {k n : Nat} (hk : k < n) (h0 : (List.range k).find? P = none) (h1 : P k = true) : (List.range n).find? P = some k := by
  rw [List.find?_range_eq_some]
  refine ⟨h1, List.mem_range.2 hk, fun j hj => ?_⟩
  rw [List.find?_eq_none] at h0
  have := h0 j (List.mem_range.2 hj)
  simpa using this
theorem rfindW_no {P : Nat → Bool} {k : Nat} (h0 : (List.range k).find? P = none) (h1 : P k = false) : (List.range (k + 1)).find? P = none := by
  rw [List.find?_eq_none] at h0 ⊢
  intro j hj
  by_cases e : j = k
  · subst e; simp [h1]
  · exact h0 j (List.mem_range.2 (by have := List.mem_range.1 hj; omega))
theorem find_yes {a b o p g : Int} {i : Nat} (hi : i < 17) (h0 : (List.range i).find? (proofAt a b o p g) = none) (h1 : isProof a b o (wtsAt a b o i) p g = true) : findProof a b o p g = some i ∧ findW a b o p g = wtsAt a b o i := by
  have h := rfindW_yes (n := 17) hi h0 (show proofAt a b o p g i = true from h1)
  have h' : findProof a b o p g = some i := h
  exact ⟨h', by simp [findW, h']⟩
theorem find_no {a b o p g : Int} (h0 : (List.range 17).find? (proofAt a b o p g) = none) : findProof a b o p g = none ∧ findW a b o p g = [] := by
  have h' : findProof a b o p g = none := h0
  exact ⟨h', by simp [findW, h']⟩
theorem wts_class (a b o : Int) {i : Nat} (h : i < 3) : wtsAt a b o i = classW a b o i := by simp [wtsAt, h]
theorem wts_col (a b o : Int) {i : Nat} (h : ¬ i < 3) (h2 : i < 10) : wtsAt a b o i = colW a b o ((i : Int) - 3) := by simp [wtsAt, h, h2]
theorem wts_row (a b o : Int) {i : Nat} (h2 : ¬ i < 10) : wtsAt a b o i = rowW a b o ((i : Int) - 10) := by
  have : ¬ i < 3 := by omega
  simp [wtsAt, this, h2]
theorem classW_of {a b o r : Int} (h : boardOk a b o = true) (h2 : inR r 0 2 = true) : classW a b o r = mapTo (classAt a r) (a * b).toNat := by simp [classW, h, h2]
theorem colW_of {a b o r : Int} (h : boardOk a b o = true) (h2 : inR r 0 6 = true) : colW a b o r = mapTo (colAt a r) (a * b).toNat := by simp [colW, h, h2]
theorem rowW_of {a b o r : Int} (h : boardOk a b o = true) (h2 : inR r 0 6 = true) : rowW a b o r = mapTo (rowAtW a r) (a * b).toNat := by simp [rowW, h, h2]
end Peg
namespace Go.Proofs.Ytfpofhkggojaoaa
open Go.ChangeShapes Go.WideShapes Go.ChangeAt Go.RowKit Peg Go.Sort
theorem fibN_two (k : Nat) : fibN (k + 1 + 1) = fibN k + fibN (k + 1) := rfl
theorem magnitude_small (x : Int) (h0 : -100 ≤ x) (h1 : x ≤ 100) (w : World) : Calls Try.prog 214 #[.int .i64 x] w fun e w' => e = .returned (.int .i64 x.natAbs) ∧ w = w' := by
  go_enter Try.func214, Try.ntmps214
  by_cases h : x < 0
  · have e : (x.natAbs : Int) = -x := by omega
    go_wp2
    all_goals go_ret
    all_goals exact ⟨by rw [e]; (try go_num), rfl⟩
  · have e : (x.natAbs : Int) = x := by omega
    go_wp2
    all_goals go_ret
    all_goals exact ⟨by first | rfl | (rw [e]; rfl), rfl⟩
set_option maxRecDepth 100000 in
theorem fibonacci_small (n : Nat) (h : n ≤ 7) (w : World) : Calls Try.prog 213 #[.int .i64 n] w fun e w' => e = .returned (.int .i64 (fibN n)) ∧ w = w' := by
  go_enter Try.func213, Try.ntmps213
  go_wp2_with fail
  go_loopw [3, 4, 5] (fun x y i wr => ∃ k : Nat, k ≤ n ∧ x = .int .i64 (fibN k) ∧ y = .int .i64 (fibN (k + 1)) ∧ i = .int .i64 k ∧ wr = w) (fun _ _ i _ => n - (intOf i).toNat)
  case atStart => exact ⟨0, by omega, rfl, rfl, rfl, rfl⟩
  case round =>
    obtain ⟨k, hk, rfl, rfl, rfl, rfl⟩ := hrel
    have hb1 := fibN_bd k (by omega)
    have hb2 := fibN_bd (k + 1) (by omega)
    have H2 := Lib.hid (fibN_two k)
    by_cases hlt : k < n
    · go_wp2_with fail
      go_roundw
      case rel => exact ⟨k + 1, by omega, rfl, by rw [H2.out]; (try go_num), by go_num, (by simp)⟩
      case measure => simp [intOf]; omega
    · obtain rfl : k = n := by omega
      go_wp2_with fail
      go_ret
      exact (by simp)
set_option maxRecDepth 100000 in
theorem l10Number_small (n : Nat) (h : n ≤ 7) (w : World) : Calls Try.prog 212 #[.int .i64 n] w fun e w' => e = .returned (.int .i64 (fibN n)) ∧ w = w' := by
  go_enter Try.func212, Try.ntmps212
  go_wp2_with fail
  go_loopw [3, 4, 5] (fun x y i wr => ∃ k : Nat, k ≤ n ∧ x = .int .i64 (fibN k) ∧ y = .int .i64 (fibN (k + 1)) ∧ i = .int .i64 k ∧ wr = w) (fun _ _ i _ => n - (intOf i).toNat)
  case atStart => exact ⟨0, by omega, rfl, rfl, rfl, rfl⟩
  case round =>
    obtain ⟨k, hk, rfl, rfl, rfl, rfl⟩ := hrel
    have hb1 := fibN_bd k (by omega)
    have hb2 := fibN_bd (k + 1) (by omega)
    have H2 := Lib.hid (fibN_two k)
    by_cases hlt : k < n
    · go_wp2_with fail
      go_roundw
      case rel => exact ⟨k + 1, by omega, rfl, by rw [H2.out]; (try go_num), by go_num, (by simp)⟩
      case measure => simp [intOf]; omega
    · obtain rfl : k = n := by omega
      go_wp2_with fail
      go_ret
      exact (by simp)
theorem fibonacci_z (y : Int) (h0 : 0 ≤ y) (h1 : y ≤ 7) (w : World) : Calls Try.prog 213 #[.int .i64 y] w fun e w' => e = .returned (.int .i64 (fibN y.toNat)) ∧ w = w' := by
  have h := fibonacci_small y.toNat (by omega) w
  rwa [show ((y.toNat : Nat) : Int) = y from by omega] at h
theorem l10Number_z (y : Int) (h0 : 0 ≤ y) (h1 : y ≤ 7) (w : World) : Calls Try.prog 212 #[.int .i64 y] w fun e w' => e = .returned (.int .i64 (fibN y.toNat)) ∧ w = w' := by
  have h := l10Number_small y.toNat (by omega) w
  rwa [show ((y.toNat : Nat) : Int) = y from by omega] at h
theorem fibAt_of (x : Int) (h : (x.natAbs : Int) ≤ 7) : fibN (7 - (x.natAbs : Int)).toNat = fibAt x := by
  unfold fibAt
  congr 1
  omega
theorem remdiv {a b : Int} {k : Nat} (ha : 1 ≤ a) (ha7 : a ≤ 7) (hb7 : b ≤ 7) (hk : (k : Int) < a * b) : 0 ≤ (k : Int) % a ∧ (k : Int) % a ≤ 6 ∧ 0 ≤ (k : Int) / a ∧ (k : Int) / a ≤ 6 := by
  have h1 := Int.emod_nonneg (k : Int) (show a ≠ 0 by omega)
  have h2 := Int.emod_lt_of_pos (k : Int) (show 0 < a by omega)
  have h3 := Int.ediv_nonneg (show 0 ≤ (k : Int) by omega) (show 0 ≤ a by omega)
  have h4 : (k : Int) / a < b := Int.ediv_lt_of_lt_mul (by omega) (by rw [Int.mul_comm] at hk; exact hk)
  omega
set_option maxHeartbeats 2000000 in
set_option maxRecDepth 100000 in
theorem ClassWeights_any (a b o r : Int) (w : World) :
    Calls Try.prog 173 #[.agg #[.int .i64 a, .int .i64 b, .int .i64 o], .int .i64 r] w (RetInts w (classW a b o r)) := by
  have HBA : Hid (∀ W, Calls Try.prog 183 #[.agg #[.int .i64 a, .int .i64 b, .int .i64 o]] W fun e w' => e = .returned (.bool (boardOk a b o)) ∧ Below W.heap.size W w') := fun W => BoardOk_any a b o W
  cases h : boardOk a b o
  · have HF : Hid (classW a b o r = []) := by show _ = _; simp [classW, h]
    rw [h] at HBA
    clear h
    go_enter Try.func173, Try.ntmps173
    go_wp2_with (first | (go_at_call 183; refine (HBA.out _).mono ?_; rintro e w' ⟨rfl, hb⟩; obtain ⟨hc, hf, hz, hy⟩ := bcell hb; clear hy; (try simp only [World.size_alloc, World.size_setCell, World.size_drew] at hz); (try have gQ0 : w.heap.size < w'.heap.size := by omega); (try have gQ1 : w.heap.size + 1 < w'.heap.size := by omega); (try have gQ2 : w.heap.size + 1 + 1 < w'.heap.size := by omega); (try have gQ3 : w.heap.size + 1 + 1 + 1 < w'.heap.size := by omega); (try have gQ4 : w.heap.size + 1 + 1 + 1 + 1 < w'.heap.size := by omega); (try have gQ5 : w.heap.size + 1 + 1 + 1 + 1 + 1 < w'.heap.size := by omega); (try have dQ0 : _ < w'.heap.size := Nat.lt_of_lt_of_le dQ0 (by omega)); (try have dQ1 : _ < w'.heap.size := Nat.lt_of_lt_of_le dQ1 (by omega)); (try have dQ2 : _ < w'.heap.size := Nat.lt_of_lt_of_le dQ2 (by omega)); (try have dQ3 : _ < w'.heap.size := Nat.lt_of_lt_of_le dQ3 (by omega)); (try have dQ4 : _ < w'.heap.size := Nat.lt_of_lt_of_le dQ4 (by omega)); (try have dQ5 : _ < w'.heap.size := Nat.lt_of_lt_of_le dQ5 (by omega)); (try (have hnQ := Nat.lt_of_succ_le hz; first | (have _x := dQ0; first | (have _x := dQ1; first | (have _x := dQ2; first | (have _x := dQ3; first | (have _x := dQ4; have dQ5 := hnQ) | have dQ4 := hnQ) | have dQ3 := hnQ) | have dQ2 := hnQ) | have dQ1 := hnQ) | have dQ0 := hnQ)); (try (have hmQ := Nat.lt_of_succ_lt (Nat.lt_of_succ_le hz); first | (have _x := dQ0; first | (have _x := dQ1; first | (have _x := dQ2; first | (have _x := dQ3; first | (have _x := dQ4; have dQ5 := hmQ) | have dQ4 := hmQ) | have dQ3 := hmQ) | have dQ2 := hmQ) | have dQ1 := hmQ) | have dQ0 := hmQ))) | ((with_reducible refine wp_region_qb ?_ ?_ (fun hq => ?_)); (focus kernel_rfl); (focus kernel_rfl); (repeat (go_big_quiet_step ((first | (go_at_call 183; exact Calls.regrown_of (HBA.out _)))))); refine wpQuiet_nil ?_; intro wq hb; obtain ⟨hc, hf, hz, hy⟩ := bcell hb; clear hq hy; (try simp only [World.size_alloc, World.size_setCell, World.size_drew] at hz); (try have gQ0 : w.heap.size < wq.heap.size := by omega); (try have gQ1 : w.heap.size + 1 < wq.heap.size := by omega); (try have gQ2 : w.heap.size + 1 + 1 < wq.heap.size := by omega); (try have gQ3 : w.heap.size + 1 + 1 + 1 < wq.heap.size := by omega); (try have gQ4 : w.heap.size + 1 + 1 + 1 + 1 < wq.heap.size := by omega); (try have gQ5 : w.heap.size + 1 + 1 + 1 + 1 + 1 < wq.heap.size := by omega); (try have dQ0 : _ < wq.heap.size := Nat.lt_of_lt_of_le dQ0 (by omega)); (try have dQ1 : _ < wq.heap.size := Nat.lt_of_lt_of_le dQ1 (by omega)); (try have dQ2 : _ < wq.heap.size := Nat.lt_of_lt_of_le dQ2 (by omega)); (try have dQ3 : _ < wq.heap.size := Nat.lt_of_lt_of_le dQ3 (by omega)); (try have dQ4 : _ < wq.heap.size := Nat.lt_of_lt_of_le dQ4 (by omega)); (try have dQ5 : _ < wq.heap.size := Nat.lt_of_lt_of_le dQ5 (by omega)); (try (have hnQ := Nat.lt_of_succ_le hz; first | (have _x := dQ0; first | (have _x := dQ1; first | (have _x := dQ2; first | (have _x := dQ3; first | (have _x := dQ4; have dQ5 := hnQ) | have dQ4 := hnQ) | have dQ3 := hnQ) | have dQ2 := hnQ) | have dQ1 := hnQ) | have dQ0 := hnQ)); (try (have hmQ := Nat.lt_of_succ_lt (Nat.lt_of_succ_le hz); first | (have _x := dQ0; first | (have _x := dQ1; first | (have _x := dQ2; first | (have _x := dQ3; first | (have _x := dQ4; have dQ5 := hmQ) | have dQ4 := hmQ) | have dQ3 := hmQ) | have dQ2 := hmQ) | have dQ1 := hmQ) | have dQ0 := hmQ))))
    all_goals go_ret
    all_goals exact ⟨_, rfl, by rw [HF.out]; exact Own.emptyAny _ _ _ _, by (repeat' first | (with_reducible exact Below.refl _ _) | (with_reducible refine Below.alloc ?_ ?_ _) | (with_reducible refine Below.drew ?_) | (with_reducible refine Below.setCell ?_ ?_ _) | (with_reducible refine below_via (by assumption) ?_ ?_) | go_size)⟩
  cases hr : inR r 0 2
  · have HF : Hid (classW a b o r = []) := by show _ = _; simp [classW, h, hr]
    rw [h] at HBA
    clear h
    go_enter Try.func173, Try.ntmps173
    go_wp2_with (first | (go_at_call 183; refine (HBA.out _).mono ?_; rintro e w' ⟨rfl, hb⟩; obtain ⟨hc, hf, hz, hy⟩ := bcell hb; clear hy; (try simp only [World.size_alloc, World.size_setCell, World.size_drew] at hz); (try have gQ0 : w.heap.size < w'.heap.size := by omega); (try have gQ1 : w.heap.size + 1 < w'.heap.size := by omega); (try have gQ2 : w.heap.size + 1 + 1 < w'.heap.size := by omega); (try have gQ3 : w.heap.size + 1 + 1 + 1 < w'.heap.size := by omega); (try have gQ4 : w.heap.size + 1 + 1 + 1 + 1 < w'.heap.size := by omega); (try have gQ5 : w.heap.size + 1 + 1 + 1 + 1 + 1 < w'.heap.size := by omega); (try have dQ0 : _ < w'.heap.size := Nat.lt_of_lt_of_le dQ0 (by omega)); (try have dQ1 : _ < w'.heap.size := Nat.lt_of_lt_of_le dQ1 (by omega)); (try have dQ2 : _ < w'.heap.size := Nat.lt_of_lt_of_le dQ2 (by omega)); (try have dQ3 : _ < w'.heap.size := Nat.lt_of_lt_of_le dQ3 (by omega)); (try have dQ4 : _ < w'.heap.size := Nat.lt_of_lt_of_le dQ4 (by omega)); (try have dQ5 : _ < w'.heap.size := Nat.lt_of_lt_of_le dQ5 (by omega)); (try (have hnQ := Nat.lt_of_succ_le hz; first | (have _x := dQ0; first | (have _x := dQ1; first | (have _x := dQ2; first | (have _x := dQ3; first | (have _x := dQ4; have dQ5 := hnQ) | have dQ4 := hnQ) | have dQ3 := hnQ) | have dQ2 := hnQ) | have dQ1 := hnQ) | have dQ0 := hnQ)); (try (have hmQ := Nat.lt_of_succ_lt (Nat.lt_of_succ_le hz); first | (have _x := dQ0; first | (have _x := dQ1; first | (have _x := dQ2; first | (have _x := dQ3; first | (have _x := dQ4; have dQ5 := hmQ) | have dQ4 := hmQ) | have dQ3 := hmQ) | have dQ2 := hmQ) | have dQ1 := hmQ) | have dQ0 := hmQ))) | (go_at_call 125; refine (within_r _ _ _ _ hr).mono ?_; rintro e w' ⟨rfl, rfl⟩) | ((with_reducible refine wp_region_qb ?_ ?_ (fun hq => ?_)); (focus kernel_rfl); (focus kernel_rfl); (repeat (go_big_quiet_step ((first | (go_at_call 183; exact Calls.regrown_of (HBA.out _)) | (go_at_call 125; exact calls_qp (within_r _ _ _ _ hr)))))); refine wpQuiet_nil ?_; intro wq hb; obtain ⟨hc, hf, hz, hy⟩ := bcell hb; clear hq hy; (try simp only [World.size_alloc, World.size_setCell, World.size_drew] at hz); (try have gQ0 : w.heap.size < wq.heap.size := by omega); (try have gQ1 : w.heap.size + 1 < wq.heap.size := by omega); (try have gQ2 : w.heap.size + 1 + 1 < wq.heap.size := by omega); (try have gQ3 : w.heap.size + 1 + 1 + 1 < wq.heap.size := by omega); (try have gQ4 : w.heap.size + 1 + 1 + 1 + 1 < wq.heap.size := by omega); (try have gQ5 : w.heap.size + 1 + 1 + 1 + 1 + 1 < wq.heap.size := by omega); (try have dQ0 : _ < wq.heap.size := Nat.lt_of_lt_of_le dQ0 (by omega)); (try have dQ1 : _ < wq.heap.size := Nat.lt_of_lt_of_le dQ1 (by omega)); (try have dQ2 : _ < wq.heap.size := Nat.lt_of_lt_of_le dQ2 (by omega)); (try have dQ3 : _ < wq.heap.size := Nat.lt_of_lt_of_le dQ3 (by omega)); (try have dQ4 : _ < wq.heap.size := Nat.lt_of_lt_of_le dQ4 (by omega)); (try have dQ5 : _ < wq.heap.size := Nat.lt_of_lt_of_le dQ5 (by omega)); (try (have hnQ := Nat.lt_of_succ_le hz; first | (have _x := dQ0; first | (have _x := dQ1; first | (have _x := dQ2; first | (have _x := dQ3; first | (have _x := dQ4; have dQ5 := hnQ) | have dQ4 := hnQ) | have dQ3 := hnQ) | have dQ2 := hnQ) | have dQ1 := hnQ) | have dQ0 := hnQ)); (try (have hmQ := Nat.lt_of_succ_lt (Nat.lt_of_succ_le hz); first | (have _x := dQ0; first | (have _x := dQ1; first | (have _x := dQ2; first | (have _x := dQ3; first | (have _x := dQ4; have dQ5 := hmQ) | have dQ4 := hmQ) | have dQ3 := hmQ) | have dQ2 := hmQ) | have dQ1 := hmQ) | have dQ0 := hmQ))))
    all_goals go_ret
    all_goals exact ⟨_, rfl, by rw [HF.out]; exact Own.emptyAny _ _ _ _, by (repeat' first | (with_reducible exact Below.refl _ _) | (with_reducible refine Below.alloc ?_ ?_ _) | (with_reducible refine Below.drew ?_) | (with_reducible refine Below.setCell ?_ ?_ _) | (with_reducible refine below_via (by assumption) ?_ ?_) | go_size)⟩
  have HF := Lib.hid (classW_of h hr)
  obtain ⟨hs1, hs2⟩ := boardOk_sides h
  have ⟨h8, h9⟩ := area hs1 hs2
  obtain ⟨ha1, ha7⟩ := inR_iff.1 hs1
  obtain ⟨hb1', hb7⟩ := inR_iff.1 hs2
  have hrr := inR_iff.1 hr
  have HS := Lib.hid (mapTo_succ (classAt a r))
  have HRD := Lib.hid (fun (k : Nat) (hk : (k : Int) < a * b) => remdiv ha1 ha7 hb7 hk)
  have HLN := Lib.hid (mapTo_len (classAt a r))
  have HCA := Lib.hid (fun k => (rfl : classAt a r k = classAt a r k))
  rw [h] at HBA
  clear h hs1 hs2
  go_enter Try.func173, Try.ntmps173
  go_wp2_with fail
  refine (HBA.out _).mono ?_
  rintro e w' ⟨rfl, hb⟩
  have hbox0 : ∀ j, w'.cell? ⟨w.heap.size, j, none⟩ = #[Value.int .i64 a, .int .i64 b, .int .i64 o][j]? := fun j => (hb.cell (by simp)).trans (by simp)
  obtain ⟨w3, rfl⟩ : ∃ w3 : World, w3 = w' := ⟨_, rfl⟩
  have HW3 := Lib.hid (show Below w.heap.size w w3 by (repeat' first | (with_reducible exact Below.refl _ _) | (with_reducible refine Below.alloc ?_ ?_ _) | (with_reducible refine Below.drew ?_) | (with_reducible refine Below.setCell ?_ ?_ _) | (with_reducible refine below_via (by assumption) ?_ ?_) | go_size))
  have gz3 : w.heap.size < w3.heap.size := by have := hb.size; simp at this; omega
  clear hb
  go_wp2_with (go_at_call 125; refine (within_r _ _ _ _ hr).mono ?_; rintro e w' ⟨rfl, rfl⟩)
  go_loopw [5, 6] (fun out i wr => ∃ k : Nat, (k : Int) ≤ a * b ∧ i = .int .i64 k ∧ Own EInt wr w3.heap.size out (mapTo (classAt a r) k) ∧ Below w3.heap.size w3 wr) (fun _ i _ => (a * b - intOf i).toNat)
  case atStart => exact ⟨0, by omega, rfl, Own.emptyAny _ _ _ _, by (repeat' first | (with_reducible exact Below.refl _ _) | (with_reducible refine Below.alloc ?_ ?_ _) | (with_reducible refine Below.drew ?_) | (with_reducible refine Below.setCell ?_ ?_ _) | (with_reducible refine below_via (by assumption) ?_ ?_) | go_size)⟩
  case round =>
    obtain ⟨k, hk, rfl, hown, hbw⟩ := hrel
    have hzr := hbw.size
    have hbox : ∀ j, wr.cell? ⟨w.heap.size, j, none⟩ = #[Value.int .i64 a, .int .i64 b, .int .i64 o][j]? := fun j => (hbw.cell (by exact gz3)).trans (hbox0 j)
    have gW0 : w.heap.size < wr.heap.size := by omega
    have HBw := Lib.hid hbw
    have hlen := HLN.out k
    have HSk := Lib.hid (HS.out k)
    have HOw := Lib.hid hown
    clear hbw hown
    by_cases hlt : (k : Int) < a * b
    · obtain ⟨d1, d2, d3, d4⟩ := HRD.out k hlt
      by_cases hc : ((k : Int) % a + (k : Int) / a) % 3 = r
      · have HV : Hid (classAt a r k = 0) := by show _ = _; simp [classAt, hc]
        generalize mapTo (classAt a r) k = P at *
        go_wp2_with (first | (at_builtin; (refine append1 (E := EInt) (l := P) rfl rfl _ _ 33 rfl Try.underlying33 rfl hownq (0 : Int) rfl (by omega) (by omega) ?_); intro v' w5 hown5 hb5 hg5) | ((with_reducible refine wp_region_qb ?_ ?_ (fun hq => ?_)); (focus kernel_rfl); (focus kernel_rfl); (repeat (go_big_quiet_step (fail))); refine wpQuiet_nil ?_; (intro wq hbq; have hownq := HOw.out.keep hbq; have HBq := Lib.hid (HBw.out.trans (hbq.mono (by omega))); have hzq := hbq.size; clear hq hbq)))
        all_goals go_roundw
        case rel => exact ⟨k + 1, by omega, by go_num, by rw [HSk.out, HV.out]; exact hown5, HBq.out.trans hb5⟩
        case measure => simp [intOf]; omega
      · have HV : Hid (classAt a r k = 1) := by show _ = _; simp [classAt, hc]
        generalize mapTo (classAt a r) k = P at *
        go_wp2_with (first | (at_builtin; (refine append1 (E := EInt) (l := P) rfl rfl _ _ 33 rfl Try.underlying33 rfl hownq (1 : Int) rfl (by omega) (by omega) ?_); intro v' w5 hown5 hb5 hg5) | ((with_reducible refine wp_region_qb ?_ ?_ (fun hq => ?_)); (focus kernel_rfl); (focus kernel_rfl); (repeat (go_big_quiet_step (fail))); refine wpQuiet_nil ?_; (intro wq hbq; have hownq := HOw.out.keep hbq; have HBq := Lib.hid (HBw.out.trans (hbq.mono (by omega))); have hzq := hbq.size; clear hq hbq)))
        all_goals go_roundw
        case rel => exact ⟨k + 1, by omega, by go_num, by rw [HSk.out, HV.out]; exact hown5, HBq.out.trans hb5⟩
        case measure => simp [intOf]; omega
    · have e : (a * b).toNat = k := by omega
      have HE : Hid (classW a b o r = mapTo (classAt a r) k) := by show _ = _; rw [HF.out, e]
      clear e
      go_wp2_with fail
      go_ret
      exact ⟨_, rfl, by rw [HE.out]; exact HOw.out.mono (by omega), HW3.out.trans (HBw.out.mono (by omega))⟩
set_option maxHeartbeats 2000000 in
set_option maxRecDepth 100000 in
theorem sClassWeights_any (a b o r : Int) (w : World) :
    Calls Try.prog 170 #[.agg #[.int .i64 a, .int .i64 b, .int .i64 o], .int .i64 r] w (RetInts w (classW a b o r)) := by
  have HBA : Hid (∀ W, Calls Try.prog 118 #[.agg #[.int .i64 a, .int .i64 b, .int .i64 o]] W fun e w' => e = .returned (.bool (boardOk a b o)) ∧ Below W.heap.size W w') := fun W => sBoardOk_any a b o W
  cases h : boardOk a b o
  · have HF : Hid (classW a b o r = []) := by show _ = _; simp [classW, h]
    rw [h] at HBA
    clear h
    go_enter Try.func170, Try.ntmps170
    go_wp2_with fail
    refine wp_loop_once ?_
    go_wp2_with (first | (go_at_call 118; refine (HBA.out _).mono ?_; rintro e w' ⟨rfl, hb⟩; obtain ⟨hc, hf, hz, hy⟩ := bcell hb; clear hy; (try simp only [World.size_alloc, World.size_setCell, World.size_drew] at hz); (try have gQ0 : w.heap.size < w'.heap.size := by omega); (try have gQ1 : w.heap.size + 1 < w'.heap.size := by omega); (try have gQ2 : w.heap.size + 1 + 1 < w'.heap.size := by omega); (try have gQ3 : w.heap.size + 1 + 1 + 1 < w'.heap.size := by omega); (try have gQ4 : w.heap.size + 1 + 1 + 1 + 1 < w'.heap.size := by omega); (try have gQ5 : w.heap.size + 1 + 1 + 1 + 1 + 1 < w'.heap.size := by omega); (try have dQ0 : _ < w'.heap.size := Nat.lt_of_lt_of_le dQ0 (by omega)); (try have dQ1 : _ < w'.heap.size := Nat.lt_of_lt_of_le dQ1 (by omega)); (try have dQ2 : _ < w'.heap.size := Nat.lt_of_lt_of_le dQ2 (by omega)); (try have dQ3 : _ < w'.heap.size := Nat.lt_of_lt_of_le dQ3 (by omega)); (try have dQ4 : _ < w'.heap.size := Nat.lt_of_lt_of_le dQ4 (by omega)); (try have dQ5 : _ < w'.heap.size := Nat.lt_of_lt_of_le dQ5 (by omega)); (try (have hnQ := Nat.lt_of_succ_le hz; first | (have _x := dQ0; first | (have _x := dQ1; first | (have _x := dQ2; first | (have _x := dQ3; first | (have _x := dQ4; have dQ5 := hnQ) | have dQ4 := hnQ) | have dQ3 := hnQ) | have dQ2 := hnQ) | have dQ1 := hnQ) | have dQ0 := hnQ)); (try (have hmQ := Nat.lt_of_succ_lt (Nat.lt_of_succ_le hz); first | (have _x := dQ0; first | (have _x := dQ1; first | (have _x := dQ2; first | (have _x := dQ3; first | (have _x := dQ4; have dQ5 := hmQ) | have dQ4 := hmQ) | have dQ3 := hmQ) | have dQ2 := hmQ) | have dQ1 := hmQ) | have dQ0 := hmQ))) | ((with_reducible refine wp_region_qb ?_ ?_ (fun hq => ?_)); (focus kernel_rfl); (focus kernel_rfl); (repeat (go_big_quiet_step ((first | (go_at_call 118; exact Calls.regrown_of (HBA.out _)))))); refine wpQuiet_nil ?_; intro wq hb; obtain ⟨hc, hf, hz, hy⟩ := bcell hb; clear hq hy; (try simp only [World.size_alloc, World.size_setCell, World.size_drew] at hz); (try have gQ0 : w.heap.size < wq.heap.size := by omega); (try have gQ1 : w.heap.size + 1 < wq.heap.size := by omega); (try have gQ2 : w.heap.size + 1 + 1 < wq.heap.size := by omega); (try have gQ3 : w.heap.size + 1 + 1 + 1 < wq.heap.size := by omega); (try have gQ4 : w.heap.size + 1 + 1 + 1 + 1 < wq.heap.size := by omega); (try have gQ5 : w.heap.size + 1 + 1 + 1 + 1 + 1 < wq.heap.size := by omega); (try have dQ0 : _ < wq.heap.size := Nat.lt_of_lt_of_le dQ0 (by omega)); (try have dQ1 : _ < wq.heap.size := Nat.lt_of_lt_of_le dQ1 (by omega)); (try have dQ2 : _ < wq.heap.size := Nat.lt_of_lt_of_le dQ2 (by omega)); (try have dQ3 : _ < wq.heap.size := Nat.lt_of_lt_of_le dQ3 (by omega)); (try have dQ4 : _ < wq.heap.size := Nat.lt_of_lt_of_le dQ4 (by omega)); (try have dQ5 : _ < wq.heap.size := Nat.lt_of_lt_of_le dQ5 (by omega)); (try (have hnQ := Nat.lt_of_succ_le hz; first | (have _x := dQ0; first | (have _x := dQ1; first | (have _x := dQ2; first | (have _x := dQ3; first | (have _x := dQ4; have dQ5 := hnQ) | have dQ4 := hnQ) | have dQ3 := hnQ) | have dQ2 := hnQ) | have dQ1 := hnQ) | have dQ0 := hnQ)); (try (have hmQ := Nat.lt_of_succ_lt (Nat.lt_of_succ_le hz); first | (have _x := dQ0; first | (have _x := dQ1; first | (have _x := dQ2; first | (have _x := dQ3; first | (have _x := dQ4; have dQ5 := hmQ) | have dQ4 := hmQ) | have dQ3 := hmQ) | have dQ2 := hmQ) | have dQ1 := hmQ) | have dQ0 := hmQ))))
    all_goals go_ret
    all_goals exact ⟨_, rfl, by rw [HF.out]; exact Own.emptyAny _ _ _ _, by (repeat' first | (with_reducible exact Below.refl _ _) | (with_reducible refine Below.alloc ?_ ?_ _) | (with_reducible refine Below.drew ?_) | (with_reducible refine Below.setCell ?_ ?_ _) | (with_reducible refine below_via (by assumption) ?_ ?_) | go_size)⟩
  cases hr : inR r 0 2
  · have HF : Hid (classW a b o r = []) := by show _ = _; simp [classW, h, hr]
    rw [h] at HBA
    clear h
    go_enter Try.func170, Try.ntmps170
    go_wp2_with fail
    refine wp_loop_once ?_
    go_wp2_with (first | (go_at_call 118; refine (HBA.out _).mono ?_; rintro e w' ⟨rfl, hb⟩; obtain ⟨hc, hf, hz, hy⟩ := bcell hb; clear hy; (try simp only [World.size_alloc, World.size_setCell, World.size_drew] at hz); (try have gQ0 : w.heap.size < w'.heap.size := by omega); (try have gQ1 : w.heap.size + 1 < w'.heap.size := by omega); (try have gQ2 : w.heap.size + 1 + 1 < w'.heap.size := by omega); (try have gQ3 : w.heap.size + 1 + 1 + 1 < w'.heap.size := by omega); (try have gQ4 : w.heap.size + 1 + 1 + 1 + 1 < w'.heap.size := by omega); (try have gQ5 : w.heap.size + 1 + 1 + 1 + 1 + 1 < w'.heap.size := by omega); (try have dQ0 : _ < w'.heap.size := Nat.lt_of_lt_of_le dQ0 (by omega)); (try have dQ1 : _ < w'.heap.size := Nat.lt_of_lt_of_le dQ1 (by omega)); (try have dQ2 : _ < w'.heap.size := Nat.lt_of_lt_of_le dQ2 (by omega)); (try have dQ3 : _ < w'.heap.size := Nat.lt_of_lt_of_le dQ3 (by omega)); (try have dQ4 : _ < w'.heap.size := Nat.lt_of_lt_of_le dQ4 (by omega)); (try have dQ5 : _ < w'.heap.size := Nat.lt_of_lt_of_le dQ5 (by omega)); (try (have hnQ := Nat.lt_of_succ_le hz; first | (have _x := dQ0; first | (have _x := dQ1; first | (have _x := dQ2; first | (have _x := dQ3; first | (have _x := dQ4; have dQ5 := hnQ) | have dQ4 := hnQ) | have dQ3 := hnQ) | have dQ2 := hnQ) | have dQ1 := hnQ) | have dQ0 := hnQ)); (try (have hmQ := Nat.lt_of_succ_lt (Nat.lt_of_succ_le hz); first | (have _x := dQ0; first | (have _x := dQ1; first | (have _x := dQ2; first | (have _x := dQ3; first | (have _x := dQ4; have dQ5 := hmQ) | have dQ4 := hmQ) | have dQ3 := hmQ) | have dQ2 := hmQ) | have dQ1 := hmQ) | have dQ0 := hmQ))) | (go_at_call 133; refine (l01In_r _ _ _ _ hr).mono ?_; rintro e w' ⟨rfl, rfl⟩) | ((with_reducible refine wp_region_qb ?_ ?_ (fun hq => ?_)); (focus kernel_rfl); (focus kernel_rfl); (repeat (go_big_quiet_step ((first | (go_at_call 118; exact Calls.regrown_of (HBA.out _)) | (go_at_call 133; exact calls_qp (l01In_r _ _ _ _ hr)))))); refine wpQuiet_nil ?_; intro wq hb; obtain ⟨hc, hf, hz, hy⟩ := bcell hb; clear hq hy; (try simp only [World.size_alloc, World.size_setCell, World.size_drew] at hz); (try have gQ0 : w.heap.size < wq.heap.size := by omega); (try have gQ1 : w.heap.size + 1 < wq.heap.size := by omega); (try have gQ2 : w.heap.size + 1 + 1 < wq.heap.size := by omega); (try have gQ3 : w.heap.size + 1 + 1 + 1 < wq.heap.size := by omega); (try have gQ4 : w.heap.size + 1 + 1 + 1 + 1 < wq.heap.size := by omega); (try have gQ5 : w.heap.size + 1 + 1 + 1 + 1 + 1 < wq.heap.size := by omega); (try have dQ0 : _ < wq.heap.size := Nat.lt_of_lt_of_le dQ0 (by omega)); (try have dQ1 : _ < wq.heap.size := Nat.lt_of_lt_of_le dQ1 (by omega)); (try have dQ2 : _ < wq.heap.size := Nat.lt_of_lt_of_le dQ2 (by omega)); (try have dQ3 : _ < wq.heap.size := Nat.lt_of_lt_of_le dQ3 (by omega)); (try have dQ4 : _ < wq.heap.size := Nat.lt_of_lt_of_le dQ4 (by omega)); (try have dQ5 : _ < wq.heap.size := Nat.lt_of_lt_of_le dQ5 (by omega)); (try (have hnQ := Nat.lt_of_succ_le hz; first | (have _x := dQ0; first | (have _x := dQ1; first | (have _x := dQ2; first | (have _x := dQ3; first | (have _x := dQ4; have dQ5 := hnQ) | have dQ4 := hnQ) | have dQ3 := hnQ) | have dQ2 := hnQ) | have dQ1 := hnQ) | have dQ0 := hnQ)); (try (have hmQ := Nat.lt_of_succ_lt (Nat.lt_of_succ_le hz); first | (have _x := dQ0; first | (have _x := dQ1; first | (have _x := dQ2; first | (have _x := dQ3; first | (have _x := dQ4; have dQ5 := hmQ) | have dQ4 := hmQ) | have dQ3 := hmQ) | have dQ2 := hmQ) | have dQ1 := hmQ) | have dQ0 := hmQ))))
    all_goals go_ret
    all_goals exact ⟨_, rfl, by rw [HF.out]; exact Own.emptyAny _ _ _ _, by (repeat' first | (with_reducible exact Below.refl _ _) | (with_reducible refine Below.alloc ?_ ?_ _) | (with_reducible refine Below.drew ?_) | (with_reducible refine Below.setCell ?_ ?_ _) | (with_reducible refine below_via (by assumption) ?_ ?_) | go_size)⟩
  have HF := Lib.hid (classW_of h hr)
  obtain ⟨hs1, hs2⟩ := boardOk_sides h
  have ⟨h8, h9⟩ := area hs1 hs2
  obtain ⟨ha1, ha7⟩ := inR_iff.1 hs1
  obtain ⟨hb1', hb7⟩ := inR_iff.1 hs2
  have hrr := inR_iff.1 hr
  have HS := Lib.hid (mapTo_succ (classAt a r))
  have HRD := Lib.hid (fun (k : Nat) (hk : (k : Int) < a * b) => remdiv ha1 ha7 hb7 hk)
  have HLN := Lib.hid (mapTo_len (classAt a r))
  have HCA := Lib.hid (fun k => (rfl : classAt a r k = classAt a r k))
  rw [h] at HBA
  clear h hs1 hs2
  go_enter Try.func170, Try.ntmps170
  obtain ⟨w3, hw3⟩ : ∃ w3 : World, w3 = w.alloc (.cells #[.int .i64 a, .int .i64 b, .int .i64 o] 27) := ⟨_, rfl⟩
  have hbox0 : ∀ j, w3.cell? ⟨w.heap.size, j, none⟩ = #[Value.int .i64 a, .int .i64 b, .int .i64 o][j]? := fun j => by rw [hw3]; simp
  have HW3 : Hid (Below w.heap.size w w3) := by show Below _ _ _; rw [hw3]; (repeat' first | (with_reducible exact Below.refl _ _) | (with_reducible refine Below.alloc ?_ ?_ _) | (with_reducible refine Below.drew ?_) | (with_reducible refine Below.setCell ?_ ?_ _) | (with_reducible refine below_via (by assumption) ?_ ?_) | go_size)
  have gz3 : w.heap.size < w3.heap.size := by rw [hw3]; simp
  go_wp2_with fail
  rw [← hw3]
  clear hw3
  go_loopw [5, 6] (fun out i wr => ∃ k : Nat, (k : Int) ≤ a * b ∧ i = .int .i64 k ∧ Own EInt wr w3.heap.size out (mapTo (classAt a r) k) ∧ Below w3.heap.size w3 wr) (fun _ i _ => (a * b - intOf i).toNat)
  case atStart => exact ⟨0, by omega, rfl, Own.emptyAny _ _ _ _, by (repeat' first | (with_reducible exact Below.refl _ _) | (with_reducible refine Below.alloc ?_ ?_ _) | (with_reducible refine Below.drew ?_) | (with_reducible refine Below.setCell ?_ ?_ _) | (with_reducible refine below_via (by assumption) ?_ ?_) | go_size)⟩
  case round =>
    obtain ⟨k, hk, rfl, hown, hbw⟩ := hrel
    have hzr := hbw.size
    have hbox : ∀ j, wr.cell? ⟨w.heap.size, j, none⟩ = #[Value.int .i64 a, .int .i64 b, .int .i64 o][j]? := fun j => (hbw.cell (by exact gz3)).trans (hbox0 j)
    have gW0 : w.heap.size < wr.heap.size := by omega
    have HBw := Lib.hid hbw
    have hlen := HLN.out k
    have HSk := Lib.hid (HS.out k)
    have HOw := Lib.hid hown
    clear hbw hown
    by_cases hlt : (k : Int) < a * b
    · obtain ⟨d1, d2, d3, d4⟩ := HRD.out k hlt
      by_cases hc : ((k : Int) % a + (k : Int) / a) % 3 = r
      · have HV : Hid (classAt a r k = 0) := by show _ = _; simp [classAt, hc]
        generalize mapTo (classAt a r) k = P at *
        go_wp2_with (first | (go_at_call 118; refine (HBA.out _).mono ?_; rintro e w4 ⟨rfl, hb4⟩; have hown4 := HOw.out.keep hb4; have hz4 := hb4.size; have gW4 : w.heap.size < w4.heap.size := (by omega); have hbox4 : ∀ j, w4.cell? ⟨w.heap.size, j, none⟩ = #[Value.int .i64 a, .int .i64 b, .int .i64 o][j]? := (fun j => (hb4.cell (by exact gW0)).trans (hbox j)); have HB4 := Lib.hid (HBw.out.trans (hb4.mono hzr)); clear hb4) | (go_at_call 133; refine (l01In_r _ _ _ _ hr).mono ?_; rintro e w' ⟨rfl, rfl⟩) | (at_builtin; (refine append1 (E := EInt) (l := P) rfl rfl _ _ 33 rfl Try.underlying33 rfl hownq (0 : Int) rfl (by omega) (by omega) ?_); intro v' w5 hown5 hb5 hg5) | ((with_reducible refine wp_region_qb ?_ ?_ (fun hq => ?_)); (focus kernel_rfl); (focus kernel_rfl); (repeat (go_big_quiet_step (fail))); refine wpQuiet_nil ?_; (intro wq hbq; have hownq := hown4.keep hbq; have HBq := Lib.hid (HB4.out.trans (hbq.mono (by omega))); have hzq := hbq.size; clear hq hbq)))
        all_goals go_roundw
        case rel => exact ⟨k + 1, by omega, by go_num, by rw [HSk.out, HV.out]; exact hown5, HBq.out.trans hb5⟩
        case measure => simp [intOf]; omega
      · have HV : Hid (classAt a r k = 1) := by show _ = _; simp [classAt, hc]
        generalize mapTo (classAt a r) k = P at *
        go_wp2_with (first | (go_at_call 118; refine (HBA.out _).mono ?_; rintro e w4 ⟨rfl, hb4⟩; have hown4 := HOw.out.keep hb4; have hz4 := hb4.size; have gW4 : w.heap.size < w4.heap.size := (by omega); have hbox4 : ∀ j, w4.cell? ⟨w.heap.size, j, none⟩ = #[Value.int .i64 a, .int .i64 b, .int .i64 o][j]? := (fun j => (hb4.cell (by exact gW0)).trans (hbox j)); have HB4 := Lib.hid (HBw.out.trans (hb4.mono hzr)); clear hb4) | (go_at_call 133; refine (l01In_r _ _ _ _ hr).mono ?_; rintro e w' ⟨rfl, rfl⟩) | (at_builtin; (refine append1 (E := EInt) (l := P) rfl rfl _ _ 33 rfl Try.underlying33 rfl hownq (1 : Int) rfl (by omega) (by omega) ?_); intro v' w5 hown5 hb5 hg5) | ((with_reducible refine wp_region_qb ?_ ?_ (fun hq => ?_)); (focus kernel_rfl); (focus kernel_rfl); (repeat (go_big_quiet_step (fail))); refine wpQuiet_nil ?_; (intro wq hbq; have hownq := hown4.keep hbq; have HBq := Lib.hid (HB4.out.trans (hbq.mono (by omega))); have hzq := hbq.size; clear hq hbq)))
        all_goals go_roundw
        case rel => exact ⟨k + 1, by omega, by go_num, by rw [HSk.out, HV.out]; exact hown5, HBq.out.trans hb5⟩
        case measure => simp [intOf]; omega
    · have e : (a * b).toNat = k := by omega
      have HE : Hid (classW a b o r = mapTo (classAt a r) k) := by show _ = _; rw [HF.out, e]
      clear e
      go_wp2_with fail
      go_ret
      exact ⟨_, rfl, by rw [HE.out]; exact HOw.out.mono (by omega), HW3.out.trans (HBw.out.mono (by omega))⟩
set_option maxHeartbeats 2000000 in
set_option maxRecDepth 100000 in
theorem ColumnWeights_any (a b o r : Int) (w : World) :
    Calls Try.prog 174 #[.agg #[.int .i64 a, .int .i64 b, .int .i64 o], .int .i64 r] w (RetInts w (colW a b o r)) := by
  have HBA : Hid (∀ W, Calls Try.prog 183 #[.agg #[.int .i64 a, .int .i64 b, .int .i64 o]] W fun e w' => e = .returned (.bool (boardOk a b o)) ∧ Below W.heap.size W w') := fun W => BoardOk_any a b o W
  cases h : boardOk a b o
  · have HF : Hid (colW a b o r = []) := by show _ = _; simp [colW, h]
    rw [h] at HBA
    clear h
    go_enter Try.func174, Try.ntmps174
    go_wp2_with (first | (go_at_call 183; refine (HBA.out _).mono ?_; rintro e w' ⟨rfl, hb⟩; obtain ⟨hc, hf, hz, hy⟩ := bcell hb; clear hy; (try simp only [World.size_alloc, World.size_setCell, World.size_drew] at hz); (try have gQ0 : w.heap.size < w'.heap.size := by omega); (try have gQ1 : w.heap.size + 1 < w'.heap.size := by omega); (try have gQ2 : w.heap.size + 1 + 1 < w'.heap.size := by omega); (try have gQ3 : w.heap.size + 1 + 1 + 1 < w'.heap.size := by omega); (try have gQ4 : w.heap.size + 1 + 1 + 1 + 1 < w'.heap.size := by omega); (try have gQ5 : w.heap.size + 1 + 1 + 1 + 1 + 1 < w'.heap.size := by omega); (try have dQ0 : _ < w'.heap.size := Nat.lt_of_lt_of_le dQ0 (by omega)); (try have dQ1 : _ < w'.heap.size := Nat.lt_of_lt_of_le dQ1 (by omega)); (try have dQ2 : _ < w'.heap.size := Nat.lt_of_lt_of_le dQ2 (by omega)); (try have dQ3 : _ < w'.heap.size := Nat.lt_of_lt_of_le dQ3 (by omega)); (try have dQ4 : _ < w'.heap.size := Nat.lt_of_lt_of_le dQ4 (by omega)); (try have dQ5 : _ < w'.heap.size := Nat.lt_of_lt_of_le dQ5 (by omega)); (try (have hnQ := Nat.lt_of_succ_le hz; first | (have _x := dQ0; first | (have _x := dQ1; first | (have _x := dQ2; first | (have _x := dQ3; first | (have _x := dQ4; have dQ5 := hnQ) | have dQ4 := hnQ) | have dQ3 := hnQ) | have dQ2 := hnQ) | have dQ1 := hnQ) | have dQ0 := hnQ)); (try (have hmQ := Nat.lt_of_succ_lt (Nat.lt_of_succ_le hz); first | (have _x := dQ0; first | (have _x := dQ1; first | (have _x := dQ2; first | (have _x := dQ3; first | (have _x := dQ4; have dQ5 := hmQ) | have dQ4 := hmQ) | have dQ3 := hmQ) | have dQ2 := hmQ) | have dQ1 := hmQ) | have dQ0 := hmQ))) | ((with_reducible refine wp_region_qb ?_ ?_ (fun hq => ?_)); (focus kernel_rfl); (focus kernel_rfl); (repeat (go_big_quiet_step ((first | (go_at_call 183; exact Calls.regrown_of (HBA.out _)))))); refine wpQuiet_nil ?_; intro wq hb; obtain ⟨hc, hf, hz, hy⟩ := bcell hb; clear hq hy; (try simp only [World.size_alloc, World.size_setCell, World.size_drew] at hz); (try have gQ0 : w.heap.size < wq.heap.size := by omega); (try have gQ1 : w.heap.size + 1 < wq.heap.size := by omega); (try have gQ2 : w.heap.size + 1 + 1 < wq.heap.size := by omega); (try have gQ3 : w.heap.size + 1 + 1 + 1 < wq.heap.size := by omega); (try have gQ4 : w.heap.size + 1 + 1 + 1 + 1 < wq.heap.size := by omega); (try have gQ5 : w.heap.size + 1 + 1 + 1 + 1 + 1 < wq.heap.size := by omega); (try have dQ0 : _ < wq.heap.size := Nat.lt_of_lt_of_le dQ0 (by omega)); (try have dQ1 : _ < wq.heap.size := Nat.lt_of_lt_of_le dQ1 (by omega)); (try have dQ2 : _ < wq.heap.size := Nat.lt_of_lt_of_le dQ2 (by omega)); (try have dQ3 : _ < wq.heap.size := Nat.lt_of_lt_of_le dQ3 (by omega)); (try have dQ4 : _ < wq.heap.size := Nat.lt_of_lt_of_le dQ4 (by omega)); (try have dQ5 : _ < wq.heap.size := Nat.lt_of_lt_of_le dQ5 (by omega)); (try (have hnQ := Nat.lt_of_succ_le hz; first | (have _x := dQ0; first | (have _x := dQ1; first | (have _x := dQ2; first | (have _x := dQ3; first | (have _x := dQ4; have dQ5 := hnQ) | have dQ4 := hnQ) | have dQ3 := hnQ) | have dQ2 := hnQ) | have dQ1 := hnQ) | have dQ0 := hnQ)); (try (have hmQ := Nat.lt_of_succ_lt (Nat.lt_of_succ_le hz); first | (have _x := dQ0; first | (have _x := dQ1; first | (have _x := dQ2; first | (have _x := dQ3; first | (have _x := dQ4; have dQ5 := hmQ) | have dQ4 := hmQ) | have dQ3 := hmQ) | have dQ2 := hmQ) | have dQ1 := hmQ) | have dQ0 := hmQ))))
    all_goals go_ret
    all_goals exact ⟨_, rfl, by rw [HF.out]; exact Own.emptyAny _ _ _ _, by (repeat' first | (with_reducible exact Below.refl _ _) | (with_reducible refine Below.alloc ?_ ?_ _) | (with_reducible refine Below.drew ?_) | (with_reducible refine Below.setCell ?_ ?_ _) | (with_reducible refine below_via (by assumption) ?_ ?_) | go_size)⟩
  cases hr : inR r 0 6
  · have HF : Hid (colW a b o r = []) := by show _ = _; simp [colW, h, hr]
    rw [h] at HBA
    clear h
    go_enter Try.func174, Try.ntmps174
    go_wp2_with (first | (go_at_call 183; refine (HBA.out _).mono ?_; rintro e w' ⟨rfl, hb⟩; obtain ⟨hc, hf, hz, hy⟩ := bcell hb; clear hy; (try simp only [World.size_alloc, World.size_setCell, World.size_drew] at hz); (try have gQ0 : w.heap.size < w'.heap.size := by omega); (try have gQ1 : w.heap.size + 1 < w'.heap.size := by omega); (try have gQ2 : w.heap.size + 1 + 1 < w'.heap.size := by omega); (try have gQ3 : w.heap.size + 1 + 1 + 1 < w'.heap.size := by omega); (try have gQ4 : w.heap.size + 1 + 1 + 1 + 1 < w'.heap.size := by omega); (try have gQ5 : w.heap.size + 1 + 1 + 1 + 1 + 1 < w'.heap.size := by omega); (try have dQ0 : _ < w'.heap.size := Nat.lt_of_lt_of_le dQ0 (by omega)); (try have dQ1 : _ < w'.heap.size := Nat.lt_of_lt_of_le dQ1 (by omega)); (try have dQ2 : _ < w'.heap.size := Nat.lt_of_lt_of_le dQ2 (by omega)); (try have dQ3 : _ < w'.heap.size := Nat.lt_of_lt_of_le dQ3 (by omega)); (try have dQ4 : _ < w'.heap.size := Nat.lt_of_lt_of_le dQ4 (by omega)); (try have dQ5 : _ < w'.heap.size := Nat.lt_of_lt_of_le dQ5 (by omega)); (try (have hnQ := Nat.lt_of_succ_le hz; first | (have _x := dQ0; first | (have _x := dQ1; first | (have _x := dQ2; first | (have _x := dQ3; first | (have _x := dQ4; have dQ5 := hnQ) | have dQ4 := hnQ) | have dQ3 := hnQ) | have dQ2 := hnQ) | have dQ1 := hnQ) | have dQ0 := hnQ)); (try (have hmQ := Nat.lt_of_succ_lt (Nat.lt_of_succ_le hz); first | (have _x := dQ0; first | (have _x := dQ1; first | (have _x := dQ2; first | (have _x := dQ3; first | (have _x := dQ4; have dQ5 := hmQ) | have dQ4 := hmQ) | have dQ3 := hmQ) | have dQ2 := hmQ) | have dQ1 := hmQ) | have dQ0 := hmQ))) | (go_at_call 125; refine (within_r _ _ _ _ hr).mono ?_; rintro e w' ⟨rfl, rfl⟩) | ((with_reducible refine wp_region_qb ?_ ?_ (fun hq => ?_)); (focus kernel_rfl); (focus kernel_rfl); (repeat (go_big_quiet_step ((first | (go_at_call 183; exact Calls.regrown_of (HBA.out _)) | (go_at_call 125; exact calls_qp (within_r _ _ _ _ hr)))))); refine wpQuiet_nil ?_; intro wq hb; obtain ⟨hc, hf, hz, hy⟩ := bcell hb; clear hq hy; (try simp only [World.size_alloc, World.size_setCell, World.size_drew] at hz); (try have gQ0 : w.heap.size < wq.heap.size := by omega); (try have gQ1 : w.heap.size + 1 < wq.heap.size := by omega); (try have gQ2 : w.heap.size + 1 + 1 < wq.heap.size := by omega); (try have gQ3 : w.heap.size + 1 + 1 + 1 < wq.heap.size := by omega); (try have gQ4 : w.heap.size + 1 + 1 + 1 + 1 < wq.heap.size := by omega); (try have gQ5 : w.heap.size + 1 + 1 + 1 + 1 + 1 < wq.heap.size := by omega); (try have dQ0 : _ < wq.heap.size := Nat.lt_of_lt_of_le dQ0 (by omega)); (try have dQ1 : _ < wq.heap.size := Nat.lt_of_lt_of_le dQ1 (by omega)); (try have dQ2 : _ < wq.heap.size := Nat.lt_of_lt_of_le dQ2 (by omega)); (try have dQ3 : _ < wq.heap.size := Nat.lt_of_lt_of_le dQ3 (by omega)); (try have dQ4 : _ < wq.heap.size := Nat.lt_of_lt_of_le dQ4 (by omega)); (try have dQ5 : _ < wq.heap.size := Nat.lt_of_lt_of_le dQ5 (by omega)); (try (have hnQ := Nat.lt_of_succ_le hz; first | (have _x := dQ0; first | (have _x := dQ1; first | (have _x := dQ2; first | (have _x := dQ3; first | (have _x := dQ4; have dQ5 := hnQ) | have dQ4 := hnQ) | have dQ3 := hnQ) | have dQ2 := hnQ) | have dQ1 := hnQ) | have dQ0 := hnQ)); (try (have hmQ := Nat.lt_of_succ_lt (Nat.lt_of_succ_le hz); first | (have _x := dQ0; first | (have _x := dQ1; first | (have _x := dQ2; first | (have _x := dQ3; first | (have _x := dQ4; have dQ5 := hmQ) | have dQ4 := hmQ) | have dQ3 := hmQ) | have dQ2 := hmQ) | have dQ1 := hmQ) | have dQ0 := hmQ))))
    all_goals go_ret
    all_goals exact ⟨_, rfl, by rw [HF.out]; exact Own.emptyAny _ _ _ _, by (repeat' first | (with_reducible exact Below.refl _ _) | (with_reducible refine Below.alloc ?_ ?_ _) | (with_reducible refine Below.drew ?_) | (with_reducible refine Below.setCell ?_ ?_ _) | (with_reducible refine below_via (by assumption) ?_ ?_) | go_size)⟩
  have HF := Lib.hid (colW_of h hr)
  obtain ⟨hs1, hs2⟩ := boardOk_sides h
  have ⟨h8, h9⟩ := area hs1 hs2
  obtain ⟨ha1, ha7⟩ := inR_iff.1 hs1
  obtain ⟨hb1', hb7⟩ := inR_iff.1 hs2
  have hrr := inR_iff.1 hr
  have HS := Lib.hid (mapTo_succ (colAt a r))
  have HRD := Lib.hid (fun (k : Nat) (hk : (k : Int) < a * b) => remdiv ha1 ha7 hb7 hk)
  have HLN := Lib.hid (mapTo_len (colAt a r))
  have HCA := Lib.hid (fun k => (rfl : colAt a r k = colAt a r k))
  rw [h] at HBA
  clear h hs1 hs2
  go_enter Try.func174, Try.ntmps174
  go_wp2_with fail
  refine (HBA.out _).mono ?_
  rintro e w' ⟨rfl, hb⟩
  have hbox0 : ∀ j, w'.cell? ⟨w.heap.size, j, none⟩ = #[Value.int .i64 a, .int .i64 b, .int .i64 o][j]? := fun j => (hb.cell (by simp)).trans (by simp)
  obtain ⟨w3, rfl⟩ : ∃ w3 : World, w3 = w' := ⟨_, rfl⟩
  have HW3 := Lib.hid (show Below w.heap.size w w3 by (repeat' first | (with_reducible exact Below.refl _ _) | (with_reducible refine Below.alloc ?_ ?_ _) | (with_reducible refine Below.drew ?_) | (with_reducible refine Below.setCell ?_ ?_ _) | (with_reducible refine below_via (by assumption) ?_ ?_) | go_size))
  have gz3 : w.heap.size < w3.heap.size := by have := hb.size; simp at this; omega
  clear hb
  go_wp2_with (go_at_call 125; refine (within_r _ _ _ _ hr).mono ?_; rintro e w' ⟨rfl, rfl⟩)
  go_loopw [5, 6] (fun out i wr => ∃ k : Nat, (k : Int) ≤ a * b ∧ i = .int .i64 k ∧ Own EInt wr w3.heap.size out (mapTo (colAt a r) k) ∧ Below w3.heap.size w3 wr) (fun _ i _ => (a * b - intOf i).toNat)
  case atStart => exact ⟨0, by omega, rfl, Own.emptyAny _ _ _ _, by (repeat' first | (with_reducible exact Below.refl _ _) | (with_reducible refine Below.alloc ?_ ?_ _) | (with_reducible refine Below.drew ?_) | (with_reducible refine Below.setCell ?_ ?_ _) | (with_reducible refine below_via (by assumption) ?_ ?_) | go_size)⟩
  case round =>
    obtain ⟨k, hk, rfl, hown, hbw⟩ := hrel
    have hzr := hbw.size
    have hbox : ∀ j, wr.cell? ⟨w.heap.size, j, none⟩ = #[Value.int .i64 a, .int .i64 b, .int .i64 o][j]? := fun j => (hbw.cell (by exact gz3)).trans (hbox0 j)
    have gW0 : w.heap.size < wr.heap.size := by omega
    have HBw := Lib.hid hbw
    have hlen := HLN.out k
    have HSk := Lib.hid (HS.out k)
    have HOw := Lib.hid hown
    clear hbw hown
    by_cases hlt : (k : Int) < a * b
    · obtain ⟨d1, d2, d3, d4⟩ := HRD.out k hlt
      have HV : Hid (fibN (7 - (((((k : Int) % a) - r).natAbs : Nat) : Int)).toNat = colAt a r k) := fibAt_of _ (by omega)
      have hv7 := fibN_bd ((7 - (((((k : Int) % a) - r).natAbs : Nat) : Int)).toNat) (by omega)
      have hnn : ((((k : Int) % a) - r).natAbs : Int) ≤ 6 := by omega
      generalize mapTo (colAt a r) k = P at *
      have HMG : Hid (∀ W, Calls Try.prog 214 #[.int .i64 (((k : Int) % a) - r)] W fun e w' => e = .returned (.int .i64 ((((k : Int) % a) - r).natAbs : Int)) ∧ W = w') := fun W => magnitude_small _ (by omega) (by omega) W
      have HFB : Hid (∀ W, Calls Try.prog 213 #[.int .i64 (7 - ((((k : Int) % a) - r).natAbs : Int))] W fun e w' => e = .returned (.int .i64 (colAt a r k)) ∧ W = w') := fun W => by rw [← HV.out]; exact fibonacci_z _ (by omega) (by omega) W
      go_wp2_with (first | (go_at_call 214; refine (HMG.out _).mono ?_; rintro e w' ⟨rfl, rfl⟩) | (go_at_call 213; refine (HFB.out _).mono ?_; rintro e w' ⟨rfl, rfl⟩) | (at_builtin; (refine append1 (E := EInt) (l := P) rfl rfl _ _ 33 rfl Try.underlying33 rfl HOw.out (colAt a r k) rfl (by omega) (by omega) ?_); intro v' w5 hown5 hb5 hg5))
      all_goals go_roundw
      case rel => exact ⟨k + 1, by omega, by go_num, by rw [HSk.out]; exact hown5, HBw.out.trans hb5⟩
      case measure => simp [intOf]; omega
    · have e : (a * b).toNat = k := by omega
      have HE : Hid (colW a b o r = mapTo (colAt a r) k) := by show _ = _; rw [HF.out, e]
      clear e
      go_wp2_with fail
      go_ret
      exact ⟨_, rfl, by rw [HE.out]; exact HOw.out.mono (by omega), HW3.out.trans (HBw.out.mono (by omega))⟩
set_option maxHeartbeats 2000000 in
set_option maxRecDepth 100000 in
theorem sColumnWeights_any (a b o r : Int) (w : World) :
    Calls Try.prog 171 #[.agg #[.int .i64 a, .int .i64 b, .int .i64 o], .int .i64 r] w (RetInts w (colW a b o r)) := by
  have HBA : Hid (∀ W, Calls Try.prog 118 #[.agg #[.int .i64 a, .int .i64 b, .int .i64 o]] W fun e w' => e = .returned (.bool (boardOk a b o)) ∧ Below W.heap.size W w') := fun W => sBoardOk_any a b o W
  cases h : boardOk a b o
  · have HF : Hid (colW a b o r = []) := by show _ = _; simp [colW, h]
    rw [h] at HBA
    clear h
    go_enter Try.func171, Try.ntmps171
    go_wp2_with fail
    refine wp_loop_once ?_
    go_wp2_with (first | (go_at_call 118; refine (HBA.out _).mono ?_; rintro e w' ⟨rfl, hb⟩; obtain ⟨hc, hf, hz, hy⟩ := bcell hb; clear hy; (try simp only [World.size_alloc, World.size_setCell, World.size_drew] at hz); (try have gQ0 : w.heap.size < w'.heap.size := by omega); (try have gQ1 : w.heap.size + 1 < w'.heap.size := by omega); (try have gQ2 : w.heap.size + 1 + 1 < w'.heap.size := by omega); (try have gQ3 : w.heap.size + 1 + 1 + 1 < w'.heap.size := by omega); (try have gQ4 : w.heap.size + 1 + 1 + 1 + 1 < w'.heap.size := by omega); (try have gQ5 : w.heap.size + 1 + 1 + 1 + 1 + 1 < w'.heap.size := by omega); (try have dQ0 : _ < w'.heap.size := Nat.lt_of_lt_of_le dQ0 (by omega)); (try have dQ1 : _ < w'.heap.size := Nat.lt_of_lt_of_le dQ1 (by omega)); (try have dQ2 : _ < w'.heap.size := Nat.lt_of_lt_of_le dQ2 (by omega)); (try have dQ3 : _ < w'.heap.size := Nat.lt_of_lt_of_le dQ3 (by omega)); (try have dQ4 : _ < w'.heap.size := Nat.lt_of_lt_of_le dQ4 (by omega)); (try have dQ5 : _ < w'.heap.size := Nat.lt_of_lt_of_le dQ5 (by omega)); (try (have hnQ := Nat.lt_of_succ_le hz; first | (have _x := dQ0; first | (have _x := dQ1; first | (have _x := dQ2; first | (have _x := dQ3; first | (have _x := dQ4; have dQ5 := hnQ) | have dQ4 := hnQ) | have dQ3 := hnQ) | have dQ2 := hnQ) | have dQ1 := hnQ) | have dQ0 := hnQ)); (try (have hmQ := Nat.lt_of_succ_lt (Nat.lt_of_succ_le hz); first | (have _x := dQ0; first | (have _x := dQ1; first | (have _x := dQ2; first | (have _x := dQ3; first | (have _x := dQ4; have dQ5 := hmQ) | have dQ4 := hmQ) | have dQ3 := hmQ) | have dQ2 := hmQ) | have dQ1 := hmQ) | have dQ0 := hmQ))) | ((with_reducible refine wp_region_qb ?_ ?_ (fun hq => ?_)); (focus kernel_rfl); (focus kernel_rfl); (repeat (go_big_quiet_step ((first | (go_at_call 118; exact Calls.regrown_of (HBA.out _)))))); refine wpQuiet_nil ?_; intro wq hb; obtain ⟨hc, hf, hz, hy⟩ := bcell hb; clear hq hy; (try simp only [World.size_alloc, World.size_setCell, World.size_drew] at hz); (try have gQ0 : w.heap.size < wq.heap.size := by omega); (try have gQ1 : w.heap.size + 1 < wq.heap.size := by omega); (try have gQ2 : w.heap.size + 1 + 1 < wq.heap.size := by omega); (try have gQ3 : w.heap.size + 1 + 1 + 1 < wq.heap.size := by omega); (try have gQ4 : w.heap.size + 1 + 1 + 1 + 1 < wq.heap.size := by omega); (try have gQ5 : w.heap.size + 1 + 1 + 1 + 1 + 1 < wq.heap.size := by omega); (try have dQ0 : _ < wq.heap.size := Nat.lt_of_lt_of_le dQ0 (by omega)); (try have dQ1 : _ < wq.heap.size := Nat.lt_of_lt_of_le dQ1 (by omega)); (try have dQ2 : _ < wq.heap.size := Nat.lt_of_lt_of_le dQ2 (by omega)); (try have dQ3 : _ < wq.heap.size := Nat.lt_of_lt_of_le dQ3 (by omega)); (try have dQ4 : _ < wq.heap.size := Nat.lt_of_lt_of_le dQ4 (by omega)); (try have dQ5 : _ < wq.heap.size := Nat.lt_of_lt_of_le dQ5 (by omega)); (try (have hnQ := Nat.lt_of_succ_le hz; first | (have _x := dQ0; first | (have _x := dQ1; first | (have _x := dQ2; first | (have _x := dQ3; first | (have _x := dQ4; have dQ5 := hnQ) | have dQ4 := hnQ) | have dQ3 := hnQ) | have dQ2 := hnQ) | have dQ1 := hnQ) | have dQ0 := hnQ)); (try (have hmQ := Nat.lt_of_succ_lt (Nat.lt_of_succ_le hz); first | (have _x := dQ0; first | (have _x := dQ1; first | (have _x := dQ2; first | (have _x := dQ3; first | (have _x := dQ4; have dQ5 := hmQ) | have dQ4 := hmQ) | have dQ3 := hmQ) | have dQ2 := hmQ) | have dQ1 := hmQ) | have dQ0 := hmQ))))
    all_goals go_ret
    all_goals exact ⟨_, rfl, by rw [HF.out]; exact Own.emptyAny _ _ _ _, by (repeat' first | (with_reducible exact Below.refl _ _) | (with_reducible refine Below.alloc ?_ ?_ _) | (with_reducible refine Below.drew ?_) | (with_reducible refine Below.setCell ?_ ?_ _) | (with_reducible refine below_via (by assumption) ?_ ?_) | go_size)⟩
  cases hr : inR r 0 6
  · have HF : Hid (colW a b o r = []) := by show _ = _; simp [colW, h, hr]
    rw [h] at HBA
    clear h
    go_enter Try.func171, Try.ntmps171
    go_wp2_with fail
    refine wp_loop_once ?_
    go_wp2_with (first | (go_at_call 118; refine (HBA.out _).mono ?_; rintro e w' ⟨rfl, hb⟩; obtain ⟨hc, hf, hz, hy⟩ := bcell hb; clear hy; (try simp only [World.size_alloc, World.size_setCell, World.size_drew] at hz); (try have gQ0 : w.heap.size < w'.heap.size := by omega); (try have gQ1 : w.heap.size + 1 < w'.heap.size := by omega); (try have gQ2 : w.heap.size + 1 + 1 < w'.heap.size := by omega); (try have gQ3 : w.heap.size + 1 + 1 + 1 < w'.heap.size := by omega); (try have gQ4 : w.heap.size + 1 + 1 + 1 + 1 < w'.heap.size := by omega); (try have gQ5 : w.heap.size + 1 + 1 + 1 + 1 + 1 < w'.heap.size := by omega); (try have dQ0 : _ < w'.heap.size := Nat.lt_of_lt_of_le dQ0 (by omega)); (try have dQ1 : _ < w'.heap.size := Nat.lt_of_lt_of_le dQ1 (by omega)); (try have dQ2 : _ < w'.heap.size := Nat.lt_of_lt_of_le dQ2 (by omega)); (try have dQ3 : _ < w'.heap.size := Nat.lt_of_lt_of_le dQ3 (by omega)); (try have dQ4 : _ < w'.heap.size := Nat.lt_of_lt_of_le dQ4 (by omega)); (try have dQ5 : _ < w'.heap.size := Nat.lt_of_lt_of_le dQ5 (by omega)); (try (have hnQ := Nat.lt_of_succ_le hz; first | (have _x := dQ0; first | (have _x := dQ1; first | (have _x := dQ2; first | (have _x := dQ3; first | (have _x := dQ4; have dQ5 := hnQ) | have dQ4 := hnQ) | have dQ3 := hnQ) | have dQ2 := hnQ) | have dQ1 := hnQ) | have dQ0 := hnQ)); (try (have hmQ := Nat.lt_of_succ_lt (Nat.lt_of_succ_le hz); first | (have _x := dQ0; first | (have _x := dQ1; first | (have _x := dQ2; first | (have _x := dQ3; first | (have _x := dQ4; have dQ5 := hmQ) | have dQ4 := hmQ) | have dQ3 := hmQ) | have dQ2 := hmQ) | have dQ1 := hmQ) | have dQ0 := hmQ))) | (go_at_call 133; refine (l01In_r _ _ _ _ hr).mono ?_; rintro e w' ⟨rfl, rfl⟩) | ((with_reducible refine wp_region_qb ?_ ?_ (fun hq => ?_)); (focus kernel_rfl); (focus kernel_rfl); (repeat (go_big_quiet_step ((first | (go_at_call 118; exact Calls.regrown_of (HBA.out _)) | (go_at_call 133; exact calls_qp (l01In_r _ _ _ _ hr)))))); refine wpQuiet_nil ?_; intro wq hb; obtain ⟨hc, hf, hz, hy⟩ := bcell hb; clear hq hy; (try simp only [World.size_alloc, World.size_setCell, World.size_drew] at hz); (try have gQ0 : w.heap.size < wq.heap.size := by omega); (try have gQ1 : w.heap.size + 1 < wq.heap.size := by omega); (try have gQ2 : w.heap.size + 1 + 1 < wq.heap.size := by omega); (try have gQ3 : w.heap.size + 1 + 1 + 1 < wq.heap.size := by omega); (try have gQ4 : w.heap.size + 1 + 1 + 1 + 1 < wq.heap.size := by omega); (try have gQ5 : w.heap.size + 1 + 1 + 1 + 1 + 1 < wq.heap.size := by omega); (try have dQ0 : _ < wq.heap.size := Nat.lt_of_lt_of_le dQ0 (by omega)); (try have dQ1 : _ < wq.heap.size := Nat.lt_of_lt_of_le dQ1 (by omega)); (try have dQ2 : _ < wq.heap.size := Nat.lt_of_lt_of_le dQ2 (by omega)); (try have dQ3 : _ < wq.heap.size := Nat.lt_of_lt_of_le dQ3 (by omega)); (try have dQ4 : _ < wq.heap.size := Nat.lt_of_lt_of_le dQ4 (by omega)); (try have dQ5 : _ < wq.heap.size := Nat.lt_of_lt_of_le dQ5 (by omega)); (try (have hnQ := Nat.lt_of_succ_le hz; first | (have _x := dQ0; first | (have _x := dQ1; first | (have _x := dQ2; first | (have _x := dQ3; first | (have _x := dQ4; have dQ5 := hnQ) | have dQ4 := hnQ) | have dQ3 := hnQ) | have dQ2 := hnQ) | have dQ1 := hnQ) | have dQ0 := hnQ)); (try (have hmQ := Nat.lt_of_succ_lt (Nat.lt_of_succ_le hz); first | (have _x := dQ0; first | (have _x := dQ1; first | (have _x := dQ2; first | (have _x := dQ3; first | (have _x := dQ4; have dQ5 := hmQ) | have dQ4 := hmQ) | have dQ3 := hmQ) | have dQ2 := hmQ) | have dQ1 := hmQ) | have dQ0 := hmQ))))
    all_goals go_ret
    all_goals exact ⟨_, rfl, by rw [HF.out]; exact Own.emptyAny _ _ _ _, by (repeat' first | (with_reducible exact Below.refl _ _) | (with_reducible refine Below.alloc ?_ ?_ _) | (with_reducible refine Below.drew ?_) | (with_reducible refine Below.setCell ?_ ?_ _) | (with_reducible refine below_via (by assumption) ?_ ?_) | go_size)⟩
  have HF := Lib.hid (colW_of h hr)
  obtain ⟨hs1, hs2⟩ := boardOk_sides h
  have ⟨h8, h9⟩ := area hs1 hs2
  obtain ⟨ha1, ha7⟩ := inR_iff.1 hs1
  obtain ⟨hb1', hb7⟩ := inR_iff.1 hs2
  have hrr := inR_iff.1 hr
  have HS := Lib.hid (mapTo_succ (colAt a r))
  have HRD := Lib.hid (fun (k : Nat) (hk : (k : Int) < a * b) => remdiv ha1 ha7 hb7 hk)
  have HLN := Lib.hid (mapTo_len (colAt a r))
  have HCA := Lib.hid (fun k => (rfl : colAt a r k = colAt a r k))
  rw [h] at HBA
  clear h hs1 hs2
  go_enter Try.func171, Try.ntmps171
  obtain ⟨w3, hw3⟩ : ∃ w3 : World, w3 = w.alloc (.cells #[.int .i64 a, .int .i64 b, .int .i64 o] 27) := ⟨_, rfl⟩
  have hbox0 : ∀ j, w3.cell? ⟨w.heap.size, j, none⟩ = #[Value.int .i64 a, .int .i64 b, .int .i64 o][j]? := fun j => by rw [hw3]; simp
  have HW3 : Hid (Below w.heap.size w w3) := by show Below _ _ _; rw [hw3]; (repeat' first | (with_reducible exact Below.refl _ _) | (with_reducible refine Below.alloc ?_ ?_ _) | (with_reducible refine Below.drew ?_) | (with_reducible refine Below.setCell ?_ ?_ _) | (with_reducible refine below_via (by assumption) ?_ ?_) | go_size)
  have gz3 : w.heap.size < w3.heap.size := by rw [hw3]; simp
  go_wp2_with fail
  rw [← hw3]
  clear hw3
  go_loopw [5, 6] (fun out i wr => ∃ k : Nat, (k : Int) ≤ a * b ∧ i = .int .i64 k ∧ Own EInt wr w3.heap.size out (mapTo (colAt a r) k) ∧ Below w3.heap.size w3 wr) (fun _ i _ => (a * b - intOf i).toNat)
  case atStart => exact ⟨0, by omega, rfl, Own.emptyAny _ _ _ _, by (repeat' first | (with_reducible exact Below.refl _ _) | (with_reducible refine Below.alloc ?_ ?_ _) | (with_reducible refine Below.drew ?_) | (with_reducible refine Below.setCell ?_ ?_ _) | (with_reducible refine below_via (by assumption) ?_ ?_) | go_size)⟩
  case round =>
    obtain ⟨k, hk, rfl, hown, hbw⟩ := hrel
    have hzr := hbw.size
    have hbox : ∀ j, wr.cell? ⟨w.heap.size, j, none⟩ = #[Value.int .i64 a, .int .i64 b, .int .i64 o][j]? := fun j => (hbw.cell (by exact gz3)).trans (hbox0 j)
    have gW0 : w.heap.size < wr.heap.size := by omega
    have HBw := Lib.hid hbw
    have hlen := HLN.out k
    have HSk := Lib.hid (HS.out k)
    have HOw := Lib.hid hown
    clear hbw hown
    by_cases hlt : (k : Int) < a * b
    · obtain ⟨d1, d2, d3, d4⟩ := HRD.out k hlt
      have HV : Hid (fibN (7 - (((((k : Int) % a) - r).natAbs : Nat) : Int)).toNat = colAt a r k) := fibAt_of _ (by omega)
      have hv7 := fibN_bd ((7 - (((((k : Int) % a) - r).natAbs : Nat) : Int)).toNat) (by omega)
      have hnn : ((((k : Int) % a) - r).natAbs : Int) ≤ 6 := by omega
      generalize mapTo (colAt a r) k = P at *
      have HFB : Hid (∀ (y : Int) W, y = 7 - ((((k : Int) % a) - r).natAbs : Int) → Calls Try.prog 212 #[.int .i64 y] W fun e w' => e = .returned (.int .i64 (colAt a r k)) ∧ W = w') := fun y W hy => by rw [← HV.out, hy]; exact l10Number_z _ (by omega) (by omega) W
      go_wp2_with (first | (go_at_call 118; refine (HBA.out _).mono ?_; rintro e w4 ⟨rfl, hb4⟩; have hown4 := HOw.out.keep hb4; have hz4 := hb4.size; have gW4 : w.heap.size < w4.heap.size := (by omega); have hbox4 : ∀ j, w4.cell? ⟨w.heap.size, j, none⟩ = #[Value.int .i64 a, .int .i64 b, .int .i64 o][j]? := (fun j => (hb4.cell (by exact gW0)).trans (hbox j)); have HB4 := Lib.hid (HBw.out.trans (hb4.mono hzr)); clear hb4) | (go_at_call 133; refine (l01In_r _ _ _ _ hr).mono ?_; rintro e w' ⟨rfl, rfl⟩) | (go_at_call 212; refine (HFB.out _ _ (by omega)).mono ?_; rintro e w' ⟨rfl, rfl⟩) | (at_builtin; (refine append1 (E := EInt) (l := P) rfl rfl _ _ 33 rfl Try.underlying33 rfl hown4 (colAt a r k) rfl (by omega) (by omega) ?_); intro v' w5 hown5 hb5 hg5))
      all_goals go_roundw
      all_goals first | (exact ⟨k + 1, by omega, by go_num, by rw [HSk.out]; exact hown5, HB4.out.trans hb5⟩) | (simp [intOf]; omega)
    · have e : (a * b).toNat = k := by omega
      have HE : Hid (colW a b o r = mapTo (colAt a r) k) := by show _ = _; rw [HF.out, e]
      clear e
      go_wp2_with fail
      go_ret
      exact ⟨_, rfl, by rw [HE.out]; exact HOw.out.mono (by omega), HW3.out.trans (HBw.out.mono (by omega))⟩
set_option maxHeartbeats 2000000 in
set_option maxRecDepth 100000 in
theorem RowWeights_any (a b o r : Int) (w : World) :
    Calls Try.prog 175 #[.agg #[.int .i64 a, .int .i64 b, .int .i64 o], .int .i64 r] w (RetInts w (rowW a b o r)) := by
  have HBA : Hid (∀ W, Calls Try.prog 183 #[.agg #[.int .i64 a, .int .i64 b, .int .i64 o]] W fun e w' => e = .returned (.bool (boardOk a b o)) ∧ Below W.heap.size W w') := fun W => BoardOk_any a b o W
  cases h : boardOk a b o
  · have HF : Hid (rowW a b o r = []) := by show _ = _; simp [rowW, h]
    rw [h] at HBA
    clear h
    go_enter Try.func175, Try.ntmps175
    go_wp2_with (first | (go_at_call 183; refine (HBA.out _).mono ?_; rintro e w' ⟨rfl, hb⟩; obtain ⟨hc, hf, hz, hy⟩ := bcell hb; clear hy; (try simp only [World.size_alloc, World.size_setCell, World.size_drew] at hz); (try have gQ0 : w.heap.size < w'.heap.size := by omega); (try have gQ1 : w.heap.size + 1 < w'.heap.size := by omega); (try have gQ2 : w.heap.size + 1 + 1 < w'.heap.size := by omega); (try have gQ3 : w.heap.size + 1 + 1 + 1 < w'.heap.size := by omega); (try have gQ4 : w.heap.size + 1 + 1 + 1 + 1 < w'.heap.size := by omega); (try have gQ5 : w.heap.size + 1 + 1 + 1 + 1 + 1 < w'.heap.size := by omega); (try have dQ0 : _ < w'.heap.size := Nat.lt_of_lt_of_le dQ0 (by omega)); (try have dQ1 : _ < w'.heap.size := Nat.lt_of_lt_of_le dQ1 (by omega)); (try have dQ2 : _ < w'.heap.size := Nat.lt_of_lt_of_le dQ2 (by omega)); (try have dQ3 : _ < w'.heap.size := Nat.lt_of_lt_of_le dQ3 (by omega)); (try have dQ4 : _ < w'.heap.size := Nat.lt_of_lt_of_le dQ4 (by omega)); (try have dQ5 : _ < w'.heap.size := Nat.lt_of_lt_of_le dQ5 (by omega)); (try (have hnQ := Nat.lt_of_succ_le hz; first | (have _x := dQ0; first | (have _x := dQ1; first | (have _x := dQ2; first | (have _x := dQ3; first | (have _x := dQ4; have dQ5 := hnQ) | have dQ4 := hnQ) | have dQ3 := hnQ) | have dQ2 := hnQ) | have dQ1 := hnQ) | have dQ0 := hnQ)); (try (have hmQ := Nat.lt_of_succ_lt (Nat.lt_of_succ_le hz); first | (have _x := dQ0; first | (have _x := dQ1; first | (have _x := dQ2; first | (have _x := dQ3; first | (have _x := dQ4; have dQ5 := hmQ) | have dQ4 := hmQ) | have dQ3 := hmQ) | have dQ2 := hmQ) | have dQ1 := hmQ) | have dQ0 := hmQ))) | ((with_reducible refine wp_region_qb ?_ ?_ (fun hq => ?_)); (focus kernel_rfl); (focus kernel_rfl); (repeat (go_big_quiet_step ((first | (go_at_call 183; exact Calls.regrown_of (HBA.out _)))))); refine wpQuiet_nil ?_; intro wq hb; obtain ⟨hc, hf, hz, hy⟩ := bcell hb; clear hq hy; (try simp only [World.size_alloc, World.size_setCell, World.size_drew] at hz); (try have gQ0 : w.heap.size < wq.heap.size := by omega); (try have gQ1 : w.heap.size + 1 < wq.heap.size := by omega); (try have gQ2 : w.heap.size + 1 + 1 < wq.heap.size := by omega); (try have gQ3 : w.heap.size + 1 + 1 + 1 < wq.heap.size := by omega); (try have gQ4 : w.heap.size + 1 + 1 + 1 + 1 < wq.heap.size := by omega); (try have gQ5 : w.heap.size + 1 + 1 + 1 + 1 + 1 < wq.heap.size := by omega); (try have dQ0 : _ < wq.heap.size := Nat.lt_of_lt_of_le dQ0 (by omega)); (try have dQ1 : _ < wq.heap.size := Nat.lt_of_lt_of_le dQ1 (by omega)); (try have dQ2 : _ < wq.heap.size := Nat.lt_of_lt_of_le dQ2 (by omega)); (try have dQ3 : _ < wq.heap.size := Nat.lt_of_lt_of_le dQ3 (by omega)); (try have dQ4 : _ < wq.heap.size := Nat.lt_of_lt_of_le dQ4 (by omega)); (try have dQ5 : _ < wq.heap.size := Nat.lt_of_lt_of_le dQ5 (by omega)); (try (have hnQ := Nat.lt_of_succ_le hz; first | (have _x := dQ0; first | (have _x := dQ1; first | (have _x := dQ2; first | (have _x := dQ3; first | (have _x := dQ4; have dQ5 := hnQ) | have dQ4 := hnQ) | have dQ3 := hnQ) | have dQ2 := hnQ) | have dQ1 := hnQ) | have dQ0 := hnQ)); (try (have hmQ := Nat.lt_of_succ_lt (Nat.lt_of_succ_le hz); first | (have _x := dQ0; first | (have _x := dQ1; first | (have _x := dQ2; first | (have _x := dQ3; first | (have _x := dQ4; have dQ5 := hmQ) | have dQ4 := hmQ) | have dQ3 := hmQ) | have dQ2 := hmQ) | have dQ1 := hmQ) | have dQ0 := hmQ))))
    all_goals go_ret
    all_goals exact ⟨_, rfl, by rw [HF.out]; exact Own.emptyAny _ _ _ _, by (repeat' first | (with_reducible exact Below.refl _ _) | (with_reducible refine Below.alloc ?_ ?_ _) | (with_reducible refine Below.drew ?_) | (with_reducible refine Below.setCell ?_ ?_ _) | (with_reducible refine below_via (by assumption) ?_ ?_) | go_size)⟩
  cases hr : inR r 0 6
  · have HF : Hid (rowW a b o r = []) := by show _ = _; simp [rowW, h, hr]
    rw [h] at HBA
    clear h
    go_enter Try.func175, Try.ntmps175
    go_wp2_with (first | (go_at_call 183; refine (HBA.out _).mono ?_; rintro e w' ⟨rfl, hb⟩; obtain ⟨hc, hf, hz, hy⟩ := bcell hb; clear hy; (try simp only [World.size_alloc, World.size_setCell, World.size_drew] at hz); (try have gQ0 : w.heap.size < w'.heap.size := by omega); (try have gQ1 : w.heap.size + 1 < w'.heap.size := by omega); (try have gQ2 : w.heap.size + 1 + 1 < w'.heap.size := by omega); (try have gQ3 : w.heap.size + 1 + 1 + 1 < w'.heap.size := by omega); (try have gQ4 : w.heap.size + 1 + 1 + 1 + 1 < w'.heap.size := by omega); (try have gQ5 : w.heap.size + 1 + 1 + 1 + 1 + 1 < w'.heap.size := by omega); (try have dQ0 : _ < w'.heap.size := Nat.lt_of_lt_of_le dQ0 (by omega)); (try have dQ1 : _ < w'.heap.size := Nat.lt_of_lt_of_le dQ1 (by omega)); (try have dQ2 : _ < w'.heap.size := Nat.lt_of_lt_of_le dQ2 (by omega)); (try have dQ3 : _ < w'.heap.size := Nat.lt_of_lt_of_le dQ3 (by omega)); (try have dQ4 : _ < w'.heap.size := Nat.lt_of_lt_of_le dQ4 (by omega)); (try have dQ5 : _ < w'.heap.size := Nat.lt_of_lt_of_le dQ5 (by omega)); (try (have hnQ := Nat.lt_of_succ_le hz; first | (have _x := dQ0; first | (have _x := dQ1; first | (have _x := dQ2; first | (have _x := dQ3; first | (have _x := dQ4; have dQ5 := hnQ) | have dQ4 := hnQ) | have dQ3 := hnQ) | have dQ2 := hnQ) | have dQ1 := hnQ) | have dQ0 := hnQ)); (try (have hmQ := Nat.lt_of_succ_lt (Nat.lt_of_succ_le hz); first | (have _x := dQ0; first | (have _x := dQ1; first | (have _x := dQ2; first | (have _x := dQ3; first | (have _x := dQ4; have dQ5 := hmQ) | have dQ4 := hmQ) | have dQ3 := hmQ) | have dQ2 := hmQ) | have dQ1 := hmQ) | have dQ0 := hmQ))) | (go_at_call 125; refine (within_r _ _ _ _ hr).mono ?_; rintro e w' ⟨rfl, rfl⟩) | ((with_reducible refine wp_region_qb ?_ ?_ (fun hq => ?_)); (focus kernel_rfl); (focus kernel_rfl); (repeat (go_big_quiet_step ((first | (go_at_call 183; exact Calls.regrown_of (HBA.out _)) | (go_at_call 125; exact calls_qp (within_r _ _ _ _ hr)))))); refine wpQuiet_nil ?_; intro wq hb; obtain ⟨hc, hf, hz, hy⟩ := bcell hb; clear hq hy; (try simp only [World.size_alloc, World.size_setCell, World.size_drew] at hz); (try have gQ0 : w.heap.size < wq.heap.size := by omega); (try have gQ1 : w.heap.size + 1 < wq.heap.size := by omega); (try have gQ2 : w.heap.size + 1 + 1 < wq.heap.size := by omega); (try have gQ3 : w.heap.size + 1 + 1 + 1 < wq.heap.size := by omega); (try have gQ4 : w.heap.size + 1 + 1 + 1 + 1 < wq.heap.size := by omega); (try have gQ5 : w.heap.size + 1 + 1 + 1 + 1 + 1 < wq.heap.size := by omega); (try have dQ0 : _ < wq.heap.size := Nat.lt_of_lt_of_le dQ0 (by omega)); (try have dQ1 : _ < wq.heap.size := Nat.lt_of_lt_of_le dQ1 (by omega)); (try have dQ2 : _ < wq.heap.size := Nat.lt_of_lt_of_le dQ2 (by omega)); (try have dQ3 : _ < wq.heap.size := Nat.lt_of_lt_of_le dQ3 (by omega)); (try have dQ4 : _ < wq.heap.size := Nat.lt_of_lt_of_le dQ4 (by omega)); (try have dQ5 : _ < wq.heap.size := Nat.lt_of_lt_of_le dQ5 (by omega)); (try (have hnQ := Nat.lt_of_succ_le hz; first | (have _x := dQ0; first | (have _x := dQ1; first | (have _x := dQ2; first | (have _x := dQ3; first | (have _x := dQ4; have dQ5 := hnQ) | have dQ4 := hnQ) | have dQ3 := hnQ) | have dQ2 := hnQ) | have dQ1 := hnQ) | have dQ0 := hnQ)); (try (have hmQ := Nat.lt_of_succ_lt (Nat.lt_of_succ_le hz); first | (have _x := dQ0; first | (have _x := dQ1; first | (have _x := dQ2; first | (have _x := dQ3; first | (have _x := dQ4; have dQ5 := hmQ) | have dQ4 := hmQ) | have dQ3 := hmQ) | have dQ2 := hmQ) | have dQ1 := hmQ) | have dQ0 := hmQ))))
    all_goals go_ret
    all_goals exact ⟨_, rfl, by rw [HF.out]; exact Own.emptyAny _ _ _ _, by (repeat' first | (with_reducible exact Below.refl _ _) | (with_reducible refine Below.alloc ?_ ?_ _) | (with_reducible refine Below.drew ?_) | (with_reducible refine Below.setCell ?_ ?_ _) | (with_reducible refine below_via (by assumption) ?_ ?_) | go_size)⟩
  have HF := Lib.hid (rowW_of h hr)
  obtain ⟨hs1, hs2⟩ := boardOk_sides h
  have ⟨h8, h9⟩ := area hs1 hs2
  obtain ⟨ha1, ha7⟩ := inR_iff.1 hs1
  obtain ⟨hb1', hb7⟩ := inR_iff.1 hs2
  have hrr := inR_iff.1 hr
  have HS := Lib.hid (mapTo_succ (rowAtW a r))
  have HRD := Lib.hid (fun (k : Nat) (hk : (k : Int) < a * b) => remdiv ha1 ha7 hb7 hk)
  have HLN := Lib.hid (mapTo_len (rowAtW a r))
  have HCA := Lib.hid (fun k => (rfl : rowAtW a r k = rowAtW a r k))
  rw [h] at HBA
  clear h hs1 hs2
  go_enter Try.func175, Try.ntmps175
  go_wp2_with fail
  refine (HBA.out _).mono ?_
  rintro e w' ⟨rfl, hb⟩
  have hbox0 : ∀ j, w'.cell? ⟨w.heap.size, j, none⟩ = #[Value.int .i64 a, .int .i64 b, .int .i64 o][j]? := fun j => (hb.cell (by simp)).trans (by simp)
  obtain ⟨w3, rfl⟩ : ∃ w3 : World, w3 = w' := ⟨_, rfl⟩
  have HW3 := Lib.hid (show Below w.heap.size w w3 by (repeat' first | (with_reducible exact Below.refl _ _) | (with_reducible refine Below.alloc ?_ ?_ _) | (with_reducible refine Below.drew ?_) | (with_reducible refine Below.setCell ?_ ?_ _) | (with_reducible refine below_via (by assumption) ?_ ?_) | go_size))
  have gz3 : w.heap.size < w3.heap.size := by have := hb.size; simp at this; omega
  clear hb
  go_wp2_with (go_at_call 125; refine (within_r _ _ _ _ hr).mono ?_; rintro e w' ⟨rfl, rfl⟩)
  go_loopw [5, 6] (fun out i wr => ∃ k : Nat, (k : Int) ≤ a * b ∧ i = .int .i64 k ∧ Own EInt wr w3.heap.size out (mapTo (rowAtW a r) k) ∧ Below w3.heap.size w3 wr) (fun _ i _ => (a * b - intOf i).toNat)
  case atStart => exact ⟨0, by omega, rfl, Own.emptyAny _ _ _ _, by (repeat' first | (with_reducible exact Below.refl _ _) | (with_reducible refine Below.alloc ?_ ?_ _) | (with_reducible refine Below.drew ?_) | (with_reducible refine Below.setCell ?_ ?_ _) | (with_reducible refine below_via (by assumption) ?_ ?_) | go_size)⟩
  case round =>
    obtain ⟨k, hk, rfl, hown, hbw⟩ := hrel
    have hzr := hbw.size
    have hbox : ∀ j, wr.cell? ⟨w.heap.size, j, none⟩ = #[Value.int .i64 a, .int .i64 b, .int .i64 o][j]? := fun j => (hbw.cell (by exact gz3)).trans (hbox0 j)
    have gW0 : w.heap.size < wr.heap.size := by omega
    have HBw := Lib.hid hbw
    have hlen := HLN.out k
    have HSk := Lib.hid (HS.out k)
    have HOw := Lib.hid hown
    clear hbw hown
    by_cases hlt : (k : Int) < a * b
    · obtain ⟨d1, d2, d3, d4⟩ := HRD.out k hlt
      have HV : Hid (fibN (7 - (((((k : Int) / a) - r).natAbs : Nat) : Int)).toNat = rowAtW a r k) := fibAt_of _ (by omega)
      have hv7 := fibN_bd ((7 - (((((k : Int) / a) - r).natAbs : Nat) : Int)).toNat) (by omega)
      have hnn : ((((k : Int) / a) - r).natAbs : Int) ≤ 6 := by omega
      generalize mapTo (rowAtW a r) k = P at *
      have HMG : Hid (∀ W, Calls Try.prog 214 #[.int .i64 (((k : Int) / a) - r)] W fun e w' => e = .returned (.int .i64 ((((k : Int) / a) - r).natAbs : Int)) ∧ W = w') := fun W => magnitude_small _ (by omega) (by omega) W
      have HFB : Hid (∀ W, Calls Try.prog 213 #[.int .i64 (7 - ((((k : Int) / a) - r).natAbs : Int))] W fun e w' => e = .returned (.int .i64 (rowAtW a r k)) ∧ W = w') := fun W => by rw [← HV.out]; exact fibonacci_z _ (by omega) (by omega) W
      go_wp2_with (first | (go_at_call 214; refine (HMG.out _).mono ?_; rintro e w' ⟨rfl, rfl⟩) | (go_at_call 213; refine (HFB.out _).mono ?_; rintro e w' ⟨rfl, rfl⟩) | (at_builtin; (refine append1 (E := EInt) (l := P) rfl rfl _ _ 33 rfl Try.underlying33 rfl HOw.out (rowAtW a r k) rfl (by omega) (by omega) ?_); intro v' w5 hown5 hb5 hg5))
      all_goals go_roundw
      case rel => exact ⟨k + 1, by omega, by go_num, by rw [HSk.out]; exact hown5, HBw.out.trans hb5⟩
      case measure => simp [intOf]; omega
    · have e : (a * b).toNat = k := by omega
      have HE : Hid (rowW a b o r = mapTo (rowAtW a r) k) := by show _ = _; rw [HF.out, e]
      clear e
      go_wp2_with fail
      go_ret
      exact ⟨_, rfl, by rw [HE.out]; exact HOw.out.mono (by omega), HW3.out.trans (HBw.out.mono (by omega))⟩
set_option maxHeartbeats 2000000 in
set_option maxRecDepth 100000 in
theorem sRowWeights_any (a b o r : Int) (w : World) :
    Calls Try.prog 172 #[.agg #[.int .i64 a, .int .i64 b, .int .i64 o], .int .i64 r] w (RetInts w (rowW a b o r)) := by
  have HBA : Hid (∀ W, Calls Try.prog 118 #[.agg #[.int .i64 a, .int .i64 b, .int .i64 o]] W fun e w' => e = .returned (.bool (boardOk a b o)) ∧ Below W.heap.size W w') := fun W => sBoardOk_any a b o W
  cases h : boardOk a b o
  · have HF : Hid (rowW a b o r = []) := by show _ = _; simp [rowW, h]
    rw [h] at HBA
    clear h
    go_enter Try.func172, Try.ntmps172
    go_wp2_with fail
    refine wp_loop_once ?_
    go_wp2_with (first | (go_at_call 118; refine (HBA.out _).mono ?_; rintro e w' ⟨rfl, hb⟩; obtain ⟨hc, hf, hz, hy⟩ := bcell hb; clear hy; (try simp only [World.size_alloc, World.size_setCell, World.size_drew] at hz); (try have gQ0 : w.heap.size < w'.heap.size := by omega); (try have gQ1 : w.heap.size + 1 < w'.heap.size := by omega); (try have gQ2 : w.heap.size + 1 + 1 < w'.heap.size := by omega); (try have gQ3 : w.heap.size + 1 + 1 + 1 < w'.heap.size := by omega); (try have gQ4 : w.heap.size + 1 + 1 + 1 + 1 < w'.heap.size := by omega); (try have gQ5 : w.heap.size + 1 + 1 + 1 + 1 + 1 < w'.heap.size := by omega); (try have dQ0 : _ < w'.heap.size := Nat.lt_of_lt_of_le dQ0 (by omega)); (try have dQ1 : _ < w'.heap.size := Nat.lt_of_lt_of_le dQ1 (by omega)); (try have dQ2 : _ < w'.heap.size := Nat.lt_of_lt_of_le dQ2 (by omega)); (try have dQ3 : _ < w'.heap.size := Nat.lt_of_lt_of_le dQ3 (by omega)); (try have dQ4 : _ < w'.heap.size := Nat.lt_of_lt_of_le dQ4 (by omega)); (try have dQ5 : _ < w'.heap.size := Nat.lt_of_lt_of_le dQ5 (by omega)); (try (have hnQ := Nat.lt_of_succ_le hz; first | (have _x := dQ0; first | (have _x := dQ1; first | (have _x := dQ2; first | (have _x := dQ3; first | (have _x := dQ4; have dQ5 := hnQ) | have dQ4 := hnQ) | have dQ3 := hnQ) | have dQ2 := hnQ) | have dQ1 := hnQ) | have dQ0 := hnQ)); (try (have hmQ := Nat.lt_of_succ_lt (Nat.lt_of_succ_le hz); first | (have _x := dQ0; first | (have _x := dQ1; first | (have _x := dQ2; first | (have _x := dQ3; first | (have _x := dQ4; have dQ5 := hmQ) | have dQ4 := hmQ) | have dQ3 := hmQ) | have dQ2 := hmQ) | have dQ1 := hmQ) | have dQ0 := hmQ))) | ((with_reducible refine wp_region_qb ?_ ?_ (fun hq => ?_)); (focus kernel_rfl); (focus kernel_rfl); (repeat (go_big_quiet_step ((first | (go_at_call 118; exact Calls.regrown_of (HBA.out _)))))); refine wpQuiet_nil ?_; intro wq hb; obtain ⟨hc, hf, hz, hy⟩ := bcell hb; clear hq hy; (try simp only [World.size_alloc, World.size_setCell, World.size_drew] at hz); (try have gQ0 : w.heap.size < wq.heap.size := by omega); (try have gQ1 : w.heap.size + 1 < wq.heap.size := by omega); (try have gQ2 : w.heap.size + 1 + 1 < wq.heap.size := by omega); (try have gQ3 : w.heap.size + 1 + 1 + 1 < wq.heap.size := by omega); (try have gQ4 : w.heap.size + 1 + 1 + 1 + 1 < wq.heap.size := by omega); (try have gQ5 : w.heap.size + 1 + 1 + 1 + 1 + 1 < wq.heap.size := by omega); (try have dQ0 : _ < wq.heap.size := Nat.lt_of_lt_of_le dQ0 (by omega)); (try have dQ1 : _ < wq.heap.size := Nat.lt_of_lt_of_le dQ1 (by omega)); (try have dQ2 : _ < wq.heap.size := Nat.lt_of_lt_of_le dQ2 (by omega)); (try have dQ3 : _ < wq.heap.size := Nat.lt_of_lt_of_le dQ3 (by omega)); (try have dQ4 : _ < wq.heap.size := Nat.lt_of_lt_of_le dQ4 (by omega)); (try have dQ5 : _ < wq.heap.size := Nat.lt_of_lt_of_le dQ5 (by omega)); (try (have hnQ := Nat.lt_of_succ_le hz; first | (have _x := dQ0; first | (have _x := dQ1; first | (have _x := dQ2; first | (have _x := dQ3; first | (have _x := dQ4; have dQ5 := hnQ) | have dQ4 := hnQ) | have dQ3 := hnQ) | have dQ2 := hnQ) | have dQ1 := hnQ) | have dQ0 := hnQ)); (try (have hmQ := Nat.lt_of_succ_lt (Nat.lt_of_succ_le hz); first | (have _x := dQ0; first | (have _x := dQ1; first | (have _x := dQ2; first | (have _x := dQ3; first | (have _x := dQ4; have dQ5 := hmQ) | have dQ4 := hmQ) | have dQ3 := hmQ) | have dQ2 := hmQ) | have dQ1 := hmQ) | have dQ0 := hmQ))))
    all_goals go_ret
    all_goals exact ⟨_, rfl, by rw [HF.out]; exact Own.emptyAny _ _ _ _, by (repeat' first | (with_reducible exact Below.refl _ _) | (with_reducible refine Below.alloc ?_ ?_ _) | (with_reducible refine Below.drew ?_) | (with_reducible refine Below.setCell ?_ ?_ _) | (with_reducible refine below_via (by assumption) ?_ ?_) | go_size)⟩
  cases hr : inR r 0 6
  · have HF : Hid (rowW a b o r = []) := by show _ = _; simp [rowW, h, hr]
    rw [h] at HBA
    clear h
    go_enter Try.func172, Try.ntmps172
    go_wp2_with fail
    refine wp_loop_once ?_
    go_wp2_with (first | (go_at_call 118; refine (HBA.out _).mono ?_; rintro e w' ⟨rfl, hb⟩; obtain ⟨hc, hf, hz, hy⟩ := bcell hb; clear hy; (try simp only [World.size_alloc, World.size_setCell, World.size_drew] at hz); (try have gQ0 : w.heap.size < w'.heap.size := by omega); (try have gQ1 : w.heap.size + 1 < w'.heap.size := by omega); (try have gQ2 : w.heap.size + 1 + 1 < w'.heap.size := by omega); (try have gQ3 : w.heap.size + 1 + 1 + 1 < w'.heap.size := by omega); (try have gQ4 : w.heap.size + 1 + 1 + 1 + 1 < w'.heap.size := by omega); (try have gQ5 : w.heap.size + 1 + 1 + 1 + 1 + 1 < w'.heap.size := by omega); (try have dQ0 : _ < w'.heap.size := Nat.lt_of_lt_of_le dQ0 (by omega)); (try have dQ1 : _ < w'.heap.size := Nat.lt_of_lt_of_le dQ1 (by omega)); (try have dQ2 : _ < w'.heap.size := Nat.lt_of_lt_of_le dQ2 (by omega)); (try have dQ3 : _ < w'.heap.size := Nat.lt_of_lt_of_le dQ3 (by omega)); (try have dQ4 : _ < w'.heap.size := Nat.lt_of_lt_of_le dQ4 (by omega)); (try have dQ5 : _ < w'.heap.size := Nat.lt_of_lt_of_le dQ5 (by omega)); (try (have hnQ := Nat.lt_of_succ_le hz; first | (have _x := dQ0; first | (have _x := dQ1; first | (have _x := dQ2; first | (have _x := dQ3; first | (have _x := dQ4; have dQ5 := hnQ) | have dQ4 := hnQ) | have dQ3 := hnQ) | have dQ2 := hnQ) | have dQ1 := hnQ) | have dQ0 := hnQ)); (try (have hmQ := Nat.lt_of_succ_lt (Nat.lt_of_succ_le hz); first | (have _x := dQ0; first | (have _x := dQ1; first | (have _x := dQ2; first | (have _x := dQ3; first | (have _x := dQ4; have dQ5 := hmQ) | have dQ4 := hmQ) | have dQ3 := hmQ) | have dQ2 := hmQ) | have dQ1 := hmQ) | have dQ0 := hmQ))) | (go_at_call 133; refine (l01In_r _ _ _ _ hr).mono ?_; rintro e w' ⟨rfl, rfl⟩) | ((with_reducible refine wp_region_qb ?_ ?_ (fun hq => ?_)); (focus kernel_rfl); (focus kernel_rfl); (repeat (go_big_quiet_step ((first | (go_at_call 118; exact Calls.regrown_of (HBA.out _)) | (go_at_call 133; exact calls_qp (l01In_r _ _ _ _ hr)))))); refine wpQuiet_nil ?_; intro wq hb; obtain ⟨hc, hf, hz, hy⟩ := bcell hb; clear hq hy; (try simp only [World.size_alloc, World.size_setCell, World.size_drew] at hz); (try have gQ0 : w.heap.size < wq.heap.size := by omega); (try have gQ1 : w.heap.size + 1 < wq.heap.size := by omega); (try have gQ2 : w.heap.size + 1 + 1 < wq.heap.size := by omega); (try have gQ3 : w.heap.size + 1 + 1 + 1 < wq.heap.size := by omega); (try have gQ4 : w.heap.size + 1 + 1 + 1 + 1 < wq.heap.size := by omega); (try have gQ5 : w.heap.size + 1 + 1 + 1 + 1 + 1 < wq.heap.size := by omega); (try have dQ0 : _ < wq.heap.size := Nat.lt_of_lt_of_le dQ0 (by omega)); (try have dQ1 : _ < wq.heap.size := Nat.lt_of_lt_of_le dQ1 (by omega)); (try have dQ2 : _ < wq.heap.size := Nat.lt_of_lt_of_le dQ2 (by omega)); (try have dQ3 : _ < wq.heap.size := Nat.lt_of_lt_of_le dQ3 (by omega)); (try have dQ4 : _ < wq.heap.size := Nat.lt_of_lt_of_le dQ4 (by omega)); (try have dQ5 : _ < wq.heap.size := Nat.lt_of_lt_of_le dQ5 (by omega)); (try (have hnQ := Nat.lt_of_succ_le hz; first | (have _x := dQ0; first | (have _x := dQ1; first | (have _x := dQ2; first | (have _x := dQ3; first | (have _x := dQ4; have dQ5 := hnQ) | have dQ4 := hnQ) | have dQ3 := hnQ) | have dQ2 := hnQ) | have dQ1 := hnQ) | have dQ0 := hnQ)); (try (have hmQ := Nat.lt_of_succ_lt (Nat.lt_of_succ_le hz); first | (have _x := dQ0; first | (have _x := dQ1; first | (have _x := dQ2; first | (have _x := dQ3; first | (have _x := dQ4; have dQ5 := hmQ) | have dQ4 := hmQ) | have dQ3 := hmQ) | have dQ2 := hmQ) | have dQ1 := hmQ) | have dQ0 := hmQ))))
    all_goals go_ret
    all_goals exact ⟨_, rfl, by rw [HF.out]; exact Own.emptyAny _ _ _ _, by (repeat' first | (with_reducible exact Below.refl _ _) | (with_reducible refine Below.alloc ?_ ?_ _) | (with_reducible refine Below.drew ?_) | (with_reducible refine Below.setCell ?_ ?_ _) | (with_reducible refine below_via (by assumption) ?_ ?_) | go_size)⟩
  have HF := Lib.hid (rowW_of h hr)
  obtain ⟨hs1, hs2⟩ := boardOk_sides h
  have ⟨h8, h9⟩ := area hs1 hs2
  obtain ⟨ha1, ha7⟩ := inR_iff.1 hs1
  obtain ⟨hb1', hb7⟩ := inR_iff.1 hs2
  have hrr := inR_iff.1 hr
  have HS := Lib.hid (mapTo_succ (rowAtW a r))
  have HRD := Lib.hid (fun (k : Nat) (hk : (k : Int) < a * b) => remdiv ha1 ha7 hb7 hk)
  have HLN := Lib.hid (mapTo_len (rowAtW a r))
  have HCA := Lib.hid (fun k => (rfl : rowAtW a r k = rowAtW a r k))
  rw [h] at HBA
  clear h hs1 hs2
  go_enter Try.func172, Try.ntmps172
  obtain ⟨w3, hw3⟩ : ∃ w3 : World, w3 = w.alloc (.cells #[.int .i64 a, .int .i64 b, .int .i64 o] 27) := ⟨_, rfl⟩
  have hbox0 : ∀ j, w3.cell? ⟨w.heap.size, j, none⟩ = #[Value.int .i64 a, .int .i64 b, .int .i64 o][j]? := fun j => by rw [hw3]; simp
  have HW3 : Hid (Below w.heap.size w w3) := by show Below _ _ _; rw [hw3]; (repeat' first | (with_reducible exact Below.refl _ _) | (with_reducible refine Below.alloc ?_ ?_ _) | (with_reducible refine Below.drew ?_) | (with_reducible refine Below.setCell ?_ ?_ _) | (with_reducible refine below_via (by assumption) ?_ ?_) | go_size)
  have gz3 : w.heap.size < w3.heap.size := by rw [hw3]; simp
  go_wp2_with fail
  rw [← hw3]
  clear hw3
  go_loopw [5, 6] (fun out i wr => ∃ k : Nat, (k : Int) ≤ a * b ∧ i = .int .i64 k ∧ Own EInt wr w3.heap.size out (mapTo (rowAtW a r) k) ∧ Below w3.heap.size w3 wr) (fun _ i _ => (a * b - intOf i).toNat)
  case atStart => exact ⟨0, by omega, rfl, Own.emptyAny _ _ _ _, by (repeat' first | (with_reducible exact Below.refl _ _) | (with_reducible refine Below.alloc ?_ ?_ _) | (with_reducible refine Below.drew ?_) | (with_reducible refine Below.setCell ?_ ?_ _) | (with_reducible refine below_via (by assumption) ?_ ?_) | go_size)⟩
  case round =>
    obtain ⟨k, hk, rfl, hown, hbw⟩ := hrel
    have hzr := hbw.size
    have hbox : ∀ j, wr.cell? ⟨w.heap.size, j, none⟩ = #[Value.int .i64 a, .int .i64 b, .int .i64 o][j]? := fun j => (hbw.cell (by exact gz3)).trans (hbox0 j)
    have gW0 : w.heap.size < wr.heap.size := by omega
    have HBw := Lib.hid hbw
    have hlen := HLN.out k
    have HSk := Lib.hid (HS.out k)
    have HOw := Lib.hid hown
    clear hbw hown
    by_cases hlt : (k : Int) < a * b
    · obtain ⟨d1, d2, d3, d4⟩ := HRD.out k hlt
      have HV : Hid (fibN (7 - (((((k : Int) / a) - r).natAbs : Nat) : Int)).toNat = rowAtW a r k) := fibAt_of _ (by omega)
      have hv7 := fibN_bd ((7 - (((((k : Int) / a) - r).natAbs : Nat) : Int)).toNat) (by omega)
      have hnn : ((((k : Int) / a) - r).natAbs : Int) ≤ 6 := by omega
      generalize mapTo (rowAtW a r) k = P at *
      have HFB : Hid (∀ (y : Int) W, y = 7 - ((((k : Int) / a) - r).natAbs : Int) → Calls Try.prog 212 #[.int .i64 y] W fun e w' => e = .returned (.int .i64 (rowAtW a r k)) ∧ W = w') := fun y W hy => by rw [← HV.out, hy]; exact l10Number_z _ (by omega) (by omega) W
      go_wp2_with (first | (go_at_call 118; refine (HBA.out _).mono ?_; rintro e w4 ⟨rfl, hb4⟩; have hown4 := HOw.out.keep hb4; have hz4 := hb4.size; have gW4 : w.heap.size < w4.heap.size := (by omega); have hbox4 : ∀ j, w4.cell? ⟨w.heap.size, j, none⟩ = #[Value.int .i64 a, .int .i64 b, .int .i64 o][j]? := (fun j => (hb4.cell (by exact gW0)).trans (hbox j)); have HB4 := Lib.hid (HBw.out.trans (hb4.mono hzr)); clear hb4) | (go_at_call 133; refine (l01In_r _ _ _ _ hr).mono ?_; rintro e w' ⟨rfl, rfl⟩) | (go_at_call 212; refine (HFB.out _ _ (by omega)).mono ?_; rintro e w' ⟨rfl, rfl⟩) | (at_builtin; (refine append1 (E := EInt) (l := P) rfl rfl _ _ 33 rfl Try.underlying33 rfl hown4 (rowAtW a r k) rfl (by omega) (by omega) ?_); intro v' w5 hown5 hb5 hg5))
      all_goals go_roundw
      all_goals first | (exact ⟨k + 1, by omega, by go_num, by rw [HSk.out]; exact hown5, HB4.out.trans hb5⟩) | (simp [intOf]; omega)
    · have e : (a * b).toNat = k := by omega
      have HE : Hid (rowW a b o r = mapTo (rowAtW a r) k) := by show _ = _; rw [HF.out, e]
      clear e
      go_wp2_with fail
      go_ret
      exact ⟨_, rfl, by rw [HE.out]; exact HOw.out.mono (by omega), HW3.out.trans (HBw.out.mono (by omega))⟩
end Go.Proofs.Ytfpofhkggojaoaa
namespace Go.Proofs.Ytfpofhkggojaoaa
open Go.ChangeShapes Go.WideShapes Go.ChangeAt Go.RowKit Peg Go.Sort
theorem wts_col2 (a b o : Int) {k : Nat} (h : k < 7) : wtsAt a b o (3 + k) = colW a b o ((k : Int) % 7) := by
  rw [wts_col _ _ _ (by omega) (by omega)]
  congr 1
  omega
theorem wts_row2 (a b o : Int) {k : Nat} (h : ¬ k < 7) (h2 : k < 14) : wtsAt a b o (3 + k) = rowW a b o ((k : Int) % 7) := by
  rw [wts_row _ _ _ (by omega)]
  congr 1
  omega
def RetFind (w : World) (a b o p g : Int) (e : Ending) (w' : World) : Prop := ∃ v, e = .returned (.tuple #[v, .bool (findProof a b o p g).isSome]) ∧ Own EInt w' w.heap.size v (findW a b o p g) ∧ Below w.heap.size w w'
set_option maxHeartbeats 2000000 in
set_option maxRecDepth 100000 in
theorem FindProof_any (a b o p g : Int) (hp : p ≤ 9223372036854775807) (hg : g ≤ 9223372036854775807) (w : World) :
    Calls Try.prog 91 #[.agg #[.int .i64 a, .int .i64 b, .int .i64 o], .int .i64 p, .int .i64 g] w (RetFind w a b o p g) := by
  have HC := Lib.hid (fun r W => ClassWeights_any a b o r W)
  have HK := Lib.hid (fun r W => ColumnWeights_any a b o r W)
  have HR := Lib.hid (fun r W => RowWeights_any a b o r W)
  have HP : Hid (∀ (W : List Int) (v : Value) (B : Nat) (wx : World), Own EInt wx B v W → Calls Try.prog 176 #[.agg #[.int .i64 a, .int .i64 b, .int .i64 o], v, .int .i64 p, .int .i64 g] wx fun e w' => e = .returned (.bool (isProof a b o W p g)) ∧ Below wx.heap.size wx w') := fun W v B wx hW => IsProof_any a b o W p g v hp hg wx hW
  have HWC := Lib.hid (fun i (h : i < 3) => wts_class a b o h)
  have HWK := Lib.hid (fun i (h : ¬ i < 3) (h2 : i < 10) => wts_col a b o h h2)
  have HWR := Lib.hid (fun i (h2 : ¬ i < 10) => wts_row a b o h2)
  have HY := Lib.hid (fun i (h : i < 17) (h0 : (List.range i).find? (proofAt a b o p g) = none) (h1 : isProof a b o (wtsAt a b o i) p g = true) => find_yes h h0 h1)
  have HN := Lib.hid (fun (h0 : (List.range 17).find? (proofAt a b o p g) = none) => find_no h0)
  have HNX := Lib.hid (fun i (h0 : (List.range i).find? (proofAt a b o p g) = none) (h1 : isProof a b o (wtsAt a b o i) p g = false) => rfindW_no h0 (show proofAt a b o p g i = false from h1))
  have H0 : Hid ((List.range 0).find? (proofAt a b o p g) = none) := rfl
  obtain ⟨w3, hw3⟩ : ∃ w3 : World, w3 = w.alloc (.cells #[.int .i64 a, .int .i64 b, .int .i64 o] 27) := ⟨_, rfl⟩
  have hbox0 : ∀ j, w3.cell? ⟨w.heap.size, j, none⟩ = #[Value.int .i64 a, .int .i64 b, .int .i64 o][j]? := fun j => by rw [hw3]; simp
  have HW3 : Hid (Below w.heap.size w w3) := by show Below _ _ _; rw [hw3]; (repeat' first | (with_reducible exact Below.refl _ _) | (with_reducible refine Below.alloc ?_ ?_ _) | (with_reducible refine Below.drew ?_) | (with_reducible refine Below.setCell ?_ ?_ _) | (with_reducible refine below_via (by assumption) ?_ ?_) | go_size)
  have gz3 : w.heap.size < w3.heap.size := by rw [hw3]; simp
  go_enter Try.func91, Try.ntmps91
  go_wp2_with fail
  rw [← hw3]
  clear hw3
  go_loopw [8] (fun i wr => ∃ k : Nat, k ≤ 17 ∧ i = .int .i64 k ∧ Hid ((List.range k).find? (proofAt a b o p g) = none) ∧ Below w3.heap.size w3 wr) (fun i _ => 17 - (intOf i).toNat)
  case atStart => exact ⟨0, by omega, rfl, H0, by (repeat' first | (with_reducible exact Below.refl _ _) | (with_reducible refine Below.alloc ?_ ?_ _) | (with_reducible refine Below.drew ?_) | (with_reducible refine Below.setCell ?_ ?_ _) | (with_reducible refine below_via (by assumption) ?_ ?_) | go_size)⟩
  case round =>
    obtain ⟨k, hk, rfl, HF, hbw⟩ := hrel
    have hzr := hbw.size
    have hbox : ∀ j, wr.cell? ⟨w.heap.size, j, none⟩ = #[Value.int .i64 a, .int .i64 b, .int .i64 o][j]? := fun j => (hbw.cell (by exact gz3)).trans (hbox0 j)
    have gW0 : w.heap.size < wr.heap.size := by omega
    have HBw := Lib.hid hbw
    clear hbw
    by_cases hlt : k < 17
    · have HYk := Lib.hid (HY.out k hlt HF.out)
      have HNk := Lib.hid (HNX.out k HF.out)
      have key : Hid (∀ (v : Value) (w4 : World), Own EInt w4 wr.heap.size v (wtsAt a b o k) → Below wr.heap.size wr w4 → (Own EInt w4 w3.heap.size v (wtsAt a b o k)) ∧ Hid (Below w3.heap.size w3 w4) ∧ w.heap.size < w4.heap.size ∧ (∀ j, w4.cell? ⟨w.heap.size, j, none⟩ = #[Value.int .i64 a, .int .i64 b, .int .i64 o][j]?)) := fun v w4 h1 h2 => ⟨h1.mono hzr, HBw.out.trans (h2.mono hzr), by have := h2.size; omega, fun j => (h2.cell (show w.heap.size < wr.heap.size from gW0)).trans (hbox j)⟩
      have HW : Hid ((k < 3 → wtsAt a b o k = classW a b o k) ∧ (¬ k < 3 → k < 10 → wtsAt a b o k = colW a b o ((k : Int) - 3)) ∧ (¬ k < 10 → wtsAt a b o k = rowW a b o ((k : Int) - 10))) := ⟨HWC.out k, HWK.out k, HWR.out k⟩
      generalize wtsAt a b o k = V at *
      have fin : Hid (∀ (v : Value) (w4 : World), Own EInt w4 w3.heap.size v V → Calls Try.prog 176 #[.agg #[.int .i64 a, .int .i64 b, .int .i64 o], v, .int .i64 p, .int .i64 g] w4 fun e w' => e = .returned (.bool (isProof a b o V p g)) ∧ Below w4.heap.size w4 w') := fun v w4 h => HP.out V v _ w4 h
      clear HC HK HR HP HWC HWK HWR HY HNX
      cases hz : isProof a b o V p g
      all_goals
        rw [hz] at fin
        by_cases h3 : k < 3
        · have hV := HW.out.1 h3
          go_wp2_with fail
          refine (ClassWeights_any a b o k _).mono ?_
          rintro e w4 ⟨v, rfl, hown, hb4⟩
          rw [← hV] at hown
          obtain ⟨hown4, HB4, gz4, hbox4⟩ := key.out v w4 hown hb4
          obtain ⟨aV, cV, rfl, -⟩ := hown4.form
          have HO4 := Lib.hid hown4
          clear hown hb4 hown4 hV
          go_wp2_with fail
          refine (fin.out _ w4 HO4.out).mono ?_
          rintro e w5 ⟨rfl, hb5⟩
          have HB5 := Lib.hid (HB4.out.trans (hb5.mono HB4.out.size))
          have HO5 := Lib.hid (HO4.out.keep hb5)
          clear hb5
          go_wp2_with fail
          first | (go_roundw; (case rel => exact ⟨k + 1, by omega, by go_num, HNk.out hz, HB5.out⟩); (case measure => simp [intOf]; omega)) | (go_ret2; exact ⟨_, by rw [(HYk.out hz).1]; rfl, by rw [(HYk.out hz).2]; exact HO5.out.mono (by omega), HW3.out.trans (HB5.out.mono (by omega))⟩)
        · by_cases h10 : k < 10
          · have hV := HW.out.2.1 h3 h10
            go_wp2_with fail
            refine (ColumnWeights_any a b o ((k : Int) - 3) _).mono ?_
            rintro e w4 ⟨v, rfl, hown, hb4⟩
            rw [← hV] at hown
            obtain ⟨hown4, HB4, gz4, hbox4⟩ := key.out v w4 hown hb4
            obtain ⟨aV, cV, rfl, -⟩ := hown4.form
            have HO4 := Lib.hid hown4
            clear hown hb4 hown4 hV
            go_wp2_with fail
            refine (fin.out _ w4 HO4.out).mono ?_
            rintro e w5 ⟨rfl, hb5⟩
            have HB5 := Lib.hid (HB4.out.trans (hb5.mono HB4.out.size))
            have HO5 := Lib.hid (HO4.out.keep hb5)
            clear hb5
            go_wp2_with fail
            first | (go_roundw; (case rel => exact ⟨k + 1, by omega, by go_num, HNk.out hz, HB5.out⟩); (case measure => simp [intOf]; omega)) | (go_ret2; exact ⟨_, by rw [(HYk.out hz).1]; rfl, by rw [(HYk.out hz).2]; exact HO5.out.mono (by omega), HW3.out.trans (HB5.out.mono (by omega))⟩)
          · have hV := HW.out.2.2 h10
            go_wp2_with fail
            refine (RowWeights_any a b o ((k : Int) - 10) _).mono ?_
            rintro e w4 ⟨v, rfl, hown, hb4⟩
            rw [← hV] at hown
            obtain ⟨hown4, HB4, gz4, hbox4⟩ := key.out v w4 hown hb4
            obtain ⟨aV, cV, rfl, -⟩ := hown4.form
            have HO4 := Lib.hid hown4
            clear hown hb4 hown4 hV
            go_wp2_with fail
            refine (fin.out _ w4 HO4.out).mono ?_
            rintro e w5 ⟨rfl, hb5⟩
            have HB5 := Lib.hid (HB4.out.trans (hb5.mono HB4.out.size))
            have HO5 := Lib.hid (HO4.out.keep hb5)
            clear hb5
            go_wp2_with fail
            first | (go_roundw; (case rel => exact ⟨k + 1, by omega, by go_num, HNk.out hz, HB5.out⟩); (case measure => simp [intOf]; omega)) | (go_ret2; exact ⟨_, by rw [(HYk.out hz).1]; rfl, by rw [(HYk.out hz).2]; exact HO5.out.mono (by omega), HW3.out.trans (HB5.out.mono (by omega))⟩)
    · obtain rfl : k = 17 := by omega
      obtain ⟨e1, e2⟩ := HN.out HF.out
      have HE := Lib.hid e1
      have HE2 := Lib.hid e2
      clear e1 e2
      go_wp2_with fail
      go_ret2
      exact ⟨_, by rw [HE.out]; rfl, by rw [HE2.out]; exact Own.emptyAny _ _ _ _, HW3.out.trans (HBw.out.mono (by omega))⟩
set_option maxHeartbeats 2000000 in
set_option maxRecDepth 100000 in
theorem sFindProof_any (a b o p g : Int) (hp : p ≤ 9223372036854775807) (hg : g ≤ 9223372036854775807) (w : World) :
    Calls Try.prog 90 #[.agg #[.int .i64 a, .int .i64 b, .int .i64 o], .int .i64 p, .int .i64 g] w (RetFind w a b o p g) := by
  have HP : Hid (∀ (W : List Int) (v : Value) (B : Nat) (wx : World), Own EInt wx B v W → Calls Try.prog 168 #[.agg #[.int .i64 a, .int .i64 b, .int .i64 o], v, .int .i64 p, .int .i64 g] wx fun e w' => e = .returned (.bool (isProof a b o W p g)) ∧ Below wx.heap.size wx w') := fun W v B wx hW => sIsProof_any a b o W p g v hp hg wx hW
  have HWC := Lib.hid (fun i (h : i < 3) => wts_class a b o h)
  have HWK := Lib.hid (fun i (h : i < 7) => wts_col2 a b o h)
  have HWR := Lib.hid (fun i (h : ¬ i < 7) (h2 : i < 14) => wts_row2 a b o h h2)
  have HY := Lib.hid (fun i (h : i < 17) (h0 : (List.range i).find? (proofAt a b o p g) = none) (h1 : isProof a b o (wtsAt a b o i) p g = true) => find_yes h h0 h1)
  have HN := Lib.hid (fun (h0 : (List.range 17).find? (proofAt a b o p g) = none) => find_no h0)
  have HNX := Lib.hid (fun i (h0 : (List.range i).find? (proofAt a b o p g) = none) (h1 : isProof a b o (wtsAt a b o i) p g = false) => rfindW_no h0 (show proofAt a b o p g i = false from h1))
  have H0 : Hid ((List.range 0).find? (proofAt a b o p g) = none) := rfl
  obtain ⟨w3, hw3⟩ : ∃ w3 : World, w3 = w.alloc (.cells #[.int .i64 a, .int .i64 b, .int .i64 o] 27) := ⟨_, rfl⟩
  have hbox0 : ∀ j, w3.cell? ⟨w.heap.size, j, none⟩ = #[Value.int .i64 a, .int .i64 b, .int .i64 o][j]? := fun j => by rw [hw3]; simp
  have HW3 : Hid (Below w.heap.size w w3) := by show Below _ _ _; rw [hw3]; (repeat' first | (with_reducible exact Below.refl _ _) | (with_reducible refine Below.alloc ?_ ?_ _) | (with_reducible refine Below.drew ?_) | (with_reducible refine Below.setCell ?_ ?_ _) | (with_reducible refine below_via (by assumption) ?_ ?_) | go_size)
  have gz3 : w.heap.size < w3.heap.size := by rw [hw3]; simp
  go_enter Try.func90, Try.ntmps90
  go_wp2_with fail
  rw [← hw3]
  clear hw3
  go_loopw [8] (fun i wr => ∃ k : Nat, k ≤ 3 ∧ i = .int .i64 k ∧ Hid ((List.range k).find? (proofAt a b o p g) = none) ∧ Below w3.heap.size w3 wr) (fun i _ => 3 - (intOf i).toNat)
  case atStart => exact ⟨0, by omega, rfl, H0, by (repeat' first | (with_reducible exact Below.refl _ _) | (with_reducible refine Below.alloc ?_ ?_ _) | (with_reducible refine Below.drew ?_) | (with_reducible refine Below.setCell ?_ ?_ _) | (with_reducible refine below_via (by assumption) ?_ ?_) | go_size)⟩
  case round =>
    obtain ⟨k, hk, rfl, HF, hbw⟩ := hrel
    have hzr := hbw.size
    have hbox : ∀ j, wr.cell? ⟨w.heap.size, j, none⟩ = #[Value.int .i64 a, .int .i64 b, .int .i64 o][j]? := fun j => (hbw.cell (by exact gz3)).trans (hbox0 j)
    have gW0 : w.heap.size < wr.heap.size := by omega
    have HBw := Lib.hid hbw
    clear hbw
    by_cases hlt : k < 3
    · have HYk := Lib.hid (HY.out k (by omega) HF.out)
      have HNk := Lib.hid (HNX.out k HF.out)
      have hV := HWC.out k hlt
      cases hz : isProof a b o (wtsAt a b o k) p g
      all_goals
        go_wp2_with fail
        refine (sClassWeights_any a b o k _).mono ?_
        rintro e w4 ⟨v, rfl, hown, hb4⟩
        rw [← hV] at hown
        obtain ⟨hown4, HB4, gz4, hbox4⟩ : (Own EInt w4 w3.heap.size v (wtsAt a b o k)) ∧ Hid (Below w3.heap.size w3 w4) ∧ w.heap.size < w4.heap.size ∧ (∀ j, w4.cell? ⟨w.heap.size, j, none⟩ = #[Value.int .i64 a, .int .i64 b, .int .i64 o][j]?) := ⟨hown.mono hzr, HBw.out.trans (hb4.mono hzr), by have := hb4.size; omega, fun j => (hb4.cell (show w.heap.size < wr.heap.size from gW0)).trans (hbox j)⟩
        obtain ⟨aV, cV, rfl, -⟩ := hown4.form
        have HO4 := Lib.hid hown4
        have HPk := Lib.hid (HP.out _ _ _ w4 HO4.out)
        rw [hz] at HPk
        clear hown hb4 hown4 hV
        generalize wtsAt a b o k = V at *
        go_wp2_with fail
        refine HPk.out.mono ?_
        rintro e w5 ⟨rfl, hb5⟩
        have HB5 := Lib.hid (HB4.out.trans (hb5.mono HB4.out.size))
        have HO5 := Lib.hid (HO4.out.keep hb5)
        clear hb5
        go_wp2_with fail
        first | (go_roundw; (case rel => exact ⟨k + 1, by omega, by go_num, HNk.out hz, HB5.out⟩); (case measure => simp [intOf]; omega)) | (go_ret2; exact ⟨_, by rw [(HYk.out hz).1]; rfl, by rw [(HYk.out hz).2]; exact HO5.out.mono (by omega), HW3.out.trans (HB5.out.mono (by omega))⟩)
    · obtain rfl : k = 3 := by omega
      rw [show ((3 : Nat) : Int) = 3 from rfl]
      have hzw := hzr
      obtain ⟨w6, rfl⟩ : ∃ w6 : World, w6 = wr := ⟨_, rfl⟩
      go_wp2_with fail
      go_loopw [10] (fun i wr => ∃ k : Nat, k ≤ 14 ∧ i = .int .i64 k ∧ Hid ((List.range (3 + k)).find? (proofAt a b o p g) = none) ∧ Below w3.heap.size w3 wr) (fun i _ => 14 - (intOf i).toNat)
      case atStart => exact ⟨0, by omega, rfl, HF, HBw.out⟩
      case round =>
        clear hbox HF hzr hzw gW0 HBw
        obtain ⟨k, hk, rfl, HF, hbw⟩ := hrel
        have hzr := hbw.size
        have hbox : ∀ j, wr.cell? ⟨w.heap.size, j, none⟩ = #[Value.int .i64 a, .int .i64 b, .int .i64 o][j]? := fun j => (hbw.cell (by exact gz3)).trans (hbox0 j)
        have gW0 : w.heap.size < wr.heap.size := by omega
        have HBw := Lib.hid hbw
        clear hbw
        by_cases hlt : k < 14
        · have HYk := Lib.hid (HY.out (3 + k) (by omega) HF.out)
          have HNk := Lib.hid (HNX.out (3 + k) HF.out)
          have HCOL := Lib.hid (HWK.out k)
          have HROW := Lib.hid (fun h => HWR.out k h hlt)
          generalize wtsAt a b o (3 + k) = V at *
          cases hz : isProof a b o V p g
          all_goals
            go_wp2_with fail
            refine (sColumnWeights_any a b o ((k : Int) % 7) _).mono ?_
            rintro e w4 ⟨v, rfl, hown, hb4⟩
            obtain ⟨hown4, HB4, gz4, hbox4⟩ : (Own EInt w4 w3.heap.size v (colW a b o ((k : Int) % 7))) ∧ Hid (Below w3.heap.size w3 w4) ∧ w.heap.size < w4.heap.size ∧ (∀ j, w4.cell? ⟨w.heap.size, j, none⟩ = #[Value.int .i64 a, .int .i64 b, .int .i64 o][j]?) := ⟨hown.mono hzr, HBw.out.trans (hb4.mono hzr), by have := hb4.size; omega, fun j => (hb4.cell (show w.heap.size < wr.heap.size from gW0)).trans (hbox j)⟩
            obtain ⟨aV, cV, rfl, -⟩ := hown4.form
            clear hown hb4
            by_cases h7 : k < 7
            · rw [← HCOL.out h7] at hown4
              have HO4 := Lib.hid hown4
              have HPk := Lib.hid (HP.out _ _ _ w4 HO4.out)
              rw [hz] at HPk
              have e1 : (colW a b o ((k : Int) % 7)).length = V.length := by rw [HCOL.out h7]
              rw [e1]
              clear hown4 e1
              go_wp2_with fail
              refine HPk.out.mono ?_
              rintro e w5 ⟨rfl, hb5⟩
              have HB5 := Lib.hid (HB4.out.trans (hb5.mono HB4.out.size))
              have HO5 := Lib.hid (HO4.out.keep hb5)
              clear hb5
              go_wp2_with fail
              first | (go_roundw; (case rel => exact ⟨k + 1, by omega, by go_num, HNk.out hz, HB5.out⟩); (case measure => simp [intOf]; omega)) | (go_ret2; exact ⟨_, by rw [(HYk.out hz).1]; rfl, by rw [(HYk.out hz).2]; exact HO5.out.mono (by omega), HW3.out.trans (HB5.out.mono (by omega))⟩)
            · have HV7 := HROW.out h7
              have hz4 := HB4.out.size
              go_wp2_with fail
              refine (sRowWeights_any a b o ((k : Int) % 7) _).mono ?_
              rintro e w6 ⟨v, rfl, hown6, hb6⟩
              have hz6 := hb6.size
              rw [← HV7] at hown6
              obtain ⟨hown7, HB7, gz7, hbox7⟩ : (Own EInt w6 w3.heap.size v V) ∧ Hid (Below w3.heap.size w3 w6) ∧ w.heap.size < w6.heap.size ∧ (∀ j, w6.cell? ⟨w.heap.size, j, none⟩ = #[Value.int .i64 a, .int .i64 b, .int .i64 o][j]?) := ⟨hown6.mono hz4, HB4.out.trans (hb6.mono hz4), by omega, fun j => (hb6.cell (show w.heap.size < w4.heap.size from gz4)).trans (hbox4 j)⟩
              obtain ⟨aR, cR, rfl, -⟩ := hown7.form
              have HO7 := Lib.hid hown7
              have HPk := Lib.hid (HP.out _ _ _ w6 HO7.out)
              rw [hz] at HPk
              clear hown6 hb6 hown7 hown4 HV7
              go_wp2_with fail
              refine HPk.out.mono ?_
              rintro e w5 ⟨rfl, hb5⟩
              have HB5 := Lib.hid (HB7.out.trans (hb5.mono HB7.out.size))
              have HO5 := Lib.hid (HO7.out.keep hb5)
              clear hb5
              go_wp2_with fail
              first | (go_roundw; (case rel => exact ⟨k + 1, by omega, by go_num, HNk.out hz, HB5.out⟩); (case measure => simp [intOf]; omega)) | (go_ret2; exact ⟨_, by rw [(HYk.out hz).1]; rfl, by rw [(HYk.out hz).2]; exact HO5.out.mono (by omega), HW3.out.trans (HB5.out.mono (by omega))⟩)
        · obtain rfl : k = 14 := by omega
          obtain ⟨e1, e2⟩ := HN.out HF.out
          have HE := Lib.hid e1
          have HE2 := Lib.hid e2
          clear e1 e2
          go_wp2_with fail
          go_ret2
          exact ⟨_, by rw [HE.out]; rfl, by rw [HE2.out]; exact Own.emptyAny _ _ _ _, by have := HW3.out.trans (HBw.out.mono (by omega)); (repeat' first | (with_reducible exact Below.refl _ _) | (with_reducible refine Below.alloc ?_ ?_ _) | (with_reducible refine Below.drew ?_) | (with_reducible refine Below.setCell ?_ ?_ _) | (with_reducible refine below_via (by assumption) ?_ ?_) | (with_reducible assumption) | ((try simp only [World.size_alloc, World.size_setCell, World.size_drew] at *); omega) | go_size)⟩
end Go.Proofs.Ytfpofhkggojaoaa
namespace Go.Proofs.Ytfpofhkggojaoaa
open Go.ChangeShapes Go.WideShapes Go.ChangeAt Go.RowKit Peg Go.Sort
theorem grown_any {w w' : World} {row : Option Nat} (h : w.grownBy w' none) : w.grownBy w' row := ⟨h.os, h.tape, h.output, h.size, fun b hb _ => h.block b hb (by simp)⟩
theorem Own.boxFar {α : Type} {E : Elt α} {w w' : World} {B : Nat} {v : Value} {l : List α} {cs : Array Value} {t : TypeId} (h : Own E w B v l) (hg : (w.alloc (.cells cs t)).grownBy w' (rowOf v l)) (j : Nat) : w'.cell? ⟨w.heap.size, j, none⟩ = cs[j]? := by
  have h1 := hg.cell_far ⟨w.heap.size, j, none⟩ (by simp) (fun e => by have := h.blockGe _ e.symm; simp at this)
  rw [h1]; simp
set_option maxRecDepth 100000 in
theorem markClaim_L (k n : Int) (J : List Ln) (vj : Value) (m : Int) (h0 : 0 ≤ m) (h1 : m ≤ 1000000) (hl : J.length ≤ 1048576) (w : World) {B : Nat} (hj : Own ELine w B vj J) :
    Calls Try.prog 17 #[.agg #[.int .i64 k, .int .i64 n, vj, .slice none 0 0], .int .i64 m] w fun e w' => e = .returned (.int .i64 (m + 3 * J.length)) ∧ Own ELine w' B vj (marksL m J.length) ∧ w.grownBy w' (rowOf vj J) := by
  have HJ := Lib.hid hj
  have HA := Lib.hid (hj.alloc (.cells #[.int .i64 k, .int .i64 n, vj, .slice none 0 0] 35))
  clear hj
  go_enter Try.func17, Try.ntmps17
  go_wp2_with fail
  refine (markLineS_any _ _ _ h0 (by omega) (by omega) _ HA.out).mono ?_
  rintro e w1 ⟨rfl, own1, hg1⟩
  have hX1 : ∀ j, w1.cell? ⟨w.heap.size, j, none⟩ = #[Value.int .i64 k, .int .i64 n, vj, .slice none 0 0][j]? := fun j => HJ.out.boxFar hg1 j
  have O1 := Lib.hid own1
  have HG1 := Lib.hid hg1
  have hz1 := hg1.size
  simp only [World.size_alloc] at hz1
  clear own1 hg1
  go_wp2_with fail
  refine (markIntS_any (.slice none 0 0) [] _ (by omega) (by omega) (by simp) _ (Own.nil EInt w1 0)).mono ?_
  rintro e w2 ⟨rfl, -, hg2⟩
  have hg2' : w1.grownBy w2 none := hg2
  go_wp2_with fail
  go_ret
  exact ⟨by simp, O1.out.grown hg2' (.inr (by simp)), ((World.grownBy_alloc w _ _).trans HG1.out).trans (grown_any hg2')⟩
set_option maxRecDepth 100000 in
theorem markClaim_I (k n : Int) (L : List Int) (vw : Value) (m : Int) (h0 : 0 ≤ m) (h1 : m ≤ 1000000) (hl : L.length ≤ 1048576) (w : World) {B : Nat} (hw : Own EInt w B vw L) :
    Calls Try.prog 17 #[.agg #[.int .i64 k, .int .i64 n, .slice none 0 0, vw], .int .i64 m] w fun e w' => e = .returned (.int .i64 (m + L.length)) ∧ Own EInt w' B vw (marksInt m L.length) ∧ w.grownBy w' (rowOf vw L) := by
  have HJ := Lib.hid hw
  have HA := Lib.hid (hw.alloc (.cells #[.int .i64 k, .int .i64 n, .slice none 0 0, vw] 35))
  clear hw
  go_enter Try.func17, Try.ntmps17
  go_wp2_with fail
  refine (markLineS_any (.slice none 0 0) [] _ h0 (by omega) (by simp) _ (Own.nil ELine _ 0)).mono ?_
  rintro e w1 ⟨rfl, -, hg1⟩
  have hg1' : (w.alloc (.cells #[.int .i64 k, .int .i64 n, .slice none 0 0, vw] 35)).grownBy w1 none := hg1
  have hX1 : ∀ j, w1.cell? ⟨w.heap.size, j, none⟩ = #[Value.int .i64 k, .int .i64 n, .slice none 0 0, vw][j]? := fun j => (hg1'.cell_far ⟨w.heap.size, j, none⟩ (by simp) (by simp)).trans (by simp)
  have O1 := Lib.hid (HA.out.grown hg1' (.inr (by simp)))
  have HG1 := Lib.hid hg1'
  have hz1 := hg1.size
  simp only [World.size_alloc] at hz1
  clear hg1 hg1'
  go_wp2_with fail
  refine (markIntS_any _ _ _ (by first | omega | (simp; omega)) (by first | omega | (simp; omega)) (by omega) _ O1.out).mono ?_
  rintro e w2 ⟨rfl, own2, hg2⟩
  go_wp2_with fail
  go_ret
  exact ⟨by simp, own2, ((World.grownBy_alloc w _ _).trans (grown_any HG1.out)).trans hg2⟩
set_option maxRecDepth 100000 in
theorem heldClaim_L (k n : Int) (c : Nat) (vj : Value) (m : Int) (h0 : 0 ≤ m) (h1 : m ≤ 1000000) (hl : c ≤ 1048576) (w : World) {B : Nat} (hj : Own ELine w B vj (marksL m c)) :
    Calls Try.prog 18 #[.agg #[.int .i64 k, .int .i64 n, vj, .slice none 0 0], .int .i64 m] w fun e w' => e = .returned (.int .i64 (m + 3 * c)) ∧ Below w.heap.size w w' := by
  have HA := Lib.hid (hj.alloc (.cells #[.int .i64 k, .int .i64 n, vj, .slice none 0 0] 35))
  clear hj
  go_enter Try.func18, Try.ntmps18
  go_wp2_with fail
  refine (heldLineS_same _ _ _ h0 (by omega) (by omega) _ HA.out).mono ?_
  rintro e w1 ⟨rfl, rfl⟩
  go_wp2_with fail
  refine (heldIntS_same (.slice none 0 0) 0 _ (by omega) (by omega) (by omega) _ (Own.nil EInt _ 0)).mono ?_
  rintro e w2 ⟨rfl, rfl⟩
  go_wp2_with fail
  go_ret
  exact ⟨by simp, by (repeat' first | (with_reducible exact Below.refl _ _) | (with_reducible refine Below.alloc ?_ ?_ _) | (with_reducible refine Below.drew ?_) | (with_reducible refine Below.setCell ?_ ?_ _) | (with_reducible refine below_via (by assumption) ?_ ?_) | go_size)⟩
set_option maxRecDepth 100000 in
theorem heldClaim_I (k n : Int) (c : Nat) (vw : Value) (m : Int) (h0 : 0 ≤ m) (h1 : m ≤ 1000000) (hl : c ≤ 1048576) (w : World) {B : Nat} (hw : Own EInt w B vw (marksInt m c)) :
    Calls Try.prog 18 #[.agg #[.int .i64 k, .int .i64 n, .slice none 0 0, vw], .int .i64 m] w fun e w' => e = .returned (.int .i64 (m + c)) ∧ Below w.heap.size w w' := by
  have HA := Lib.hid (hw.alloc (.cells #[.int .i64 k, .int .i64 n, .slice none 0 0, vw] 35))
  clear hw
  go_enter Try.func18, Try.ntmps18
  go_wp2_with fail
  refine (heldLineS_same (.slice none 0 0) 0 _ h0 (by omega) (by omega) _ (Own.nil ELine _ 0)).mono ?_
  rintro e w1 ⟨rfl, rfl⟩
  go_wp2_with fail
  refine (heldIntS_same _ c _ (by first | omega | (simp; omega)) (by first | omega | (simp; omega)) (by omega) _ (by simpa using HA.out)).mono ?_
  rintro e w2 ⟨rfl, rfl⟩
  go_wp2_with fail
  go_ret
  exact ⟨by simp, by (repeat' first | (with_reducible exact Below.refl _ _) | (with_reducible refine Below.alloc ?_ ?_ _) | (with_reducible refine Below.drew ?_) | (with_reducible refine Below.setCell ?_ ?_ _) | (with_reducible refine below_via (by assumption) ?_ ?_) | go_size)⟩
end Go.Proofs.Ytfpofhkggojaoaa
