/- ClaimL: contracts of ClaimOk and the reference's; of the laws' own functions on one claim. Conditions: lengths in range. -/
import Derived.Test.YtfpofhkggojaoaaArgI
import Derived.Test.YtfpofhkggojaoaaOpenE
set_option linter.unusedVariables false
set_option linter.unusedSimpArgs false
namespace Peg
def claimOk (k n : Int) (len : Nat) : Bool := inR k 1 4 && inR n 0 60 && decide (len ≤ 60)
end Peg
namespace Go.Proofs.Ytfpofhkggojaoaa
open Go.ChangeShapes Go.WideShapes Go.ChangeAt Go.RowKit Peg Go.Sort
def szTwo (x y : Nat) (left : Int) : Int := if (x : Int) ≤ left then if (y : Int) ≤ left - x then left - x - y else -1 else -1
def RetClaim (w : World) (c : ClaimP) (en : Ending) (w' : World) : Prop := ∃ vj vw, en = .returned (.agg #[.int .i64 c.kind, .int .i64 c.num, vj, vw]) ∧ Own ELine w' w.heap.size vj c.js ∧ Own EInt w' w.heap.size vw c.ws ∧ Below w.heap.size w w'
set_option maxRecDepth 100000 in
theorem ClaimOk_any (k n : Int) (js : List Ln) (vj vw : Value) (w : World) {B : Nat} (hj : Own ELine w B vj js) :
    Calls Try.prog 177 #[.agg #[.int .i64 k, .int .i64 n, vj, vw]] w fun e w' => e = .returned (.bool (claimOk k n js.length)) ∧ Below w.heap.size w w' := by
  obtain ⟨a, cap, rfl, hl, _⟩ := hj.lineG
  clear hj
  have HN : Hid (∀ W, Calls Try.prog 125 #[.int .i64 k, .int .i64 1, .int .i64 4] W fun e w' => e = .returned (.bool (inR k 1 4)) ∧ W = w') := fun W => within_any k 1 4 W
  have HS : Hid (∀ W, Calls Try.prog 125 #[.int .i64 n, .int .i64 0, .int .i64 60] W fun e w' => e = .returned (.bool (inR n 0 60)) ∧ W = w') := fun W => within_any n 0 60 W
  have HC : Hid (claimOk k n js.length = (inR k 1 4 && inR n 0 60 && decide (js.length ≤ 60))) := rfl
  cases h1 : inR k 1 4
  · rw [h1] at HN
    have HE : Hid (claimOk k n js.length = false) := by show _ = _; rw [HC.out, h1]; rfl
    clear h1
    go_enter Try.func177, Try.ntmps177
    go_wp2_with (go_at_call 125; (with_reducible refine (HN.out _).mono ?_); rintro e w' ⟨rfl, rfl⟩)
    all_goals go_ret
    all_goals exact ⟨by rw [HE.out]; rfl, by (repeat' first | (with_reducible exact Below.refl _ _) | (with_reducible refine Below.alloc ?_ ?_ _) | (with_reducible refine Below.drew ?_) | (with_reducible refine Below.setCell ?_ ?_ _) | (with_reducible refine below_via (by assumption) ?_ ?_) | go_size)⟩
  cases h2 : inR n 0 60
  · rw [h1] at HN; rw [h2] at HS
    have HE : Hid (claimOk k n js.length = false) := by show _ = _; rw [HC.out, h1, h2]; rfl
    clear h1 h2
    go_enter Try.func177, Try.ntmps177
    go_wp2_with (first | (go_at_call 125; (with_reducible refine (HN.out _).mono ?_); rintro e w' ⟨rfl, rfl⟩) | (go_at_call 125; (with_reducible refine (HS.out _).mono ?_); rintro e w' ⟨rfl, rfl⟩))
    all_goals go_ret
    all_goals exact ⟨by rw [HE.out]; rfl, by (repeat' first | (with_reducible exact Below.refl _ _) | (with_reducible refine Below.alloc ?_ ?_ _) | (with_reducible refine Below.drew ?_) | (with_reducible refine Below.setCell ?_ ?_ _) | (with_reducible refine below_via (by assumption) ?_ ?_) | go_size)⟩
  rw [h1] at HN; rw [h2] at HS
  have HE : Hid (claimOk k n js.length = decide (js.length ≤ 60)) := by show _ = _; rw [HC.out, h1, h2]; rfl
  clear h1 h2
  go_enter Try.func177, Try.ntmps177
  go_wp2_with (first | (go_at_call 125; (with_reducible refine (HN.out _).mono ?_); rintro e w' ⟨rfl, rfl⟩) | (go_at_call 125; (with_reducible refine (HS.out _).mono ?_); rintro e w' ⟨rfl, rfl⟩))
  all_goals go_ret
  all_goals exact ⟨by rw [HE.out]; simp; try omega, by (repeat' first | (with_reducible exact Below.refl _ _) | (with_reducible refine Below.alloc ?_ ?_ _) | (with_reducible refine Below.drew ?_) | (with_reducible refine Below.setCell ?_ ?_ _) | (with_reducible refine below_via (by assumption) ?_ ?_) | go_size)⟩
set_option maxRecDepth 100000 in
theorem sClaimOk_any (k n : Int) (js : List Ln) (vj vw : Value) (w : World) {B : Nat} (hj : Own ELine w B vj js) :
    Calls Try.prog 166 #[.agg #[.int .i64 k, .int .i64 n, vj, vw]] w fun e w' => e = .returned (.bool (claimOk k n js.length)) ∧ Below w.heap.size w w' := by
  obtain ⟨a, cap, rfl, hl, _⟩ := hj.lineG
  clear hj
  have HN : Hid (∀ W, Calls Try.prog 133 #[.int .i64 k, .int .i64 1, .int .i64 4] W fun e w' => e = .returned (.bool (inR k 1 4)) ∧ W = w') := fun W => l01In_any k 1 4 W
  have HS : Hid (∀ W, Calls Try.prog 133 #[.int .i64 n, .int .i64 0, .int .i64 60] W fun e w' => e = .returned (.bool (inR n 0 60)) ∧ W = w') := fun W => l01In_any n 0 60 W
  have HC : Hid (claimOk k n js.length = (inR k 1 4 && inR n 0 60 && decide (js.length ≤ 60))) := rfl
  cases h1 : inR k 1 4
  · rw [h1] at HN
    have HE : Hid (claimOk k n js.length = false) := by show _ = _; rw [HC.out, h1]; rfl
    clear h1
    go_enter Try.func166, Try.ntmps166
    go_wp2_with (go_at_call 133; (with_reducible refine (HN.out _).mono ?_); rintro e w' ⟨rfl, rfl⟩)
    all_goals go_ret
    all_goals exact ⟨by rw [HE.out]; rfl, by (repeat' first | (with_reducible exact Below.refl _ _) | (with_reducible refine Below.alloc ?_ ?_ _) | (with_reducible refine Below.drew ?_) | (with_reducible refine Below.setCell ?_ ?_ _) | (with_reducible refine below_via (by assumption) ?_ ?_) | go_size)⟩
  cases h2 : inR n 0 60
  · rw [h1] at HN; rw [h2] at HS
    have HE : Hid (claimOk k n js.length = false) := by show _ = _; rw [HC.out, h1, h2]; rfl
    clear h1 h2
    go_enter Try.func166, Try.ntmps166
    go_wp2_with (first | (go_at_call 133; (with_reducible refine (HN.out _).mono ?_); rintro e w' ⟨rfl, rfl⟩) | (go_at_call 133; (with_reducible refine (HS.out _).mono ?_); rintro e w' ⟨rfl, rfl⟩))
    all_goals go_ret
    all_goals exact ⟨by rw [HE.out]; rfl, by (repeat' first | (with_reducible exact Below.refl _ _) | (with_reducible refine Below.alloc ?_ ?_ _) | (with_reducible refine Below.drew ?_) | (with_reducible refine Below.setCell ?_ ?_ _) | (with_reducible refine below_via (by assumption) ?_ ?_) | go_size)⟩
  rw [h1] at HN; rw [h2] at HS
  have HE : Hid (claimOk k n js.length = decide (js.length ≤ 60)) := by show _ = _; rw [HC.out, h1, h2]; rfl
  clear h1 h2
  go_enter Try.func166, Try.ntmps166
  go_wp2_with (first | (go_at_call 133; (with_reducible refine (HN.out _).mono ?_); rintro e w' ⟨rfl, rfl⟩) | (go_at_call 133; (with_reducible refine (HS.out _).mono ?_); rintro e w' ⟨rfl, rfl⟩))
  all_goals go_ret
  all_goals exact ⟨by rw [HE.out]; simp; try omega, by (repeat' first | (with_reducible exact Below.refl _ _) | (with_reducible refine Below.alloc ?_ ?_ _) | (with_reducible refine Below.drew ?_) | (with_reducible refine Below.setCell ?_ ?_ _) | (with_reducible refine below_via (by assumption) ?_ ?_) | go_size)⟩
set_option maxRecDepth 100000 in
theorem eqClaim_same (k n : Int) (js : List Ln) (ws : List Int) (v1 v2 u1 u2 : Value) (w : World) {B1 B2 B3 B4 : Nat} (h1 : Own ELine w B1 v1 js) (h2 : Own ELine w B2 v2 js) (h3 : Own EInt w B3 u1 ws) (h4 : Own EInt w B4 u2 ws) :
    Calls Try.prog 16 #[.agg #[.int .i64 k, .int .i64 n, v1, u1], .agg #[.int .i64 k, .int .i64 n, v2, u2]] w fun e w' => e = .returned (.bool true) ∧ Below w.heap.size w w' := by
  have hb0 : Below w.heap.size w ((w.alloc (.cells #[.int .i64 k, .int .i64 n, v1, u1] 35)).alloc (.cells #[.int .i64 k, .int .i64 n, v2, u2] 35)) := by (repeat' first | (with_reducible exact Below.refl _ _) | (with_reducible refine Below.alloc ?_ ?_ _) | (with_reducible refine Below.drew ?_) | (with_reducible refine Below.setCell ?_ ?_ _) | (with_reducible refine below_via (by assumption) ?_ ?_) | go_size)
  have H1 := Lib.hid (h1.keep hb0)
  have H2 := Lib.hid (h2.keep hb0)
  have H3 := Lib.hid (h3.keep hb0)
  have H4 := Lib.hid (h4.keep hb0)
  clear h1 h2 h3 h4 hb0
  go_enter Try.func16, Try.ntmps16
  go_wp2_with (first | (go_at_call 93; refine (eqLineS_same _ _ _ _ H1.out H2.out).mono ?_; rintro e w' ⟨rfl, hb⟩; have H3 := Lib.hid (H3.out.keep hb); have H4 := Lib.hid (H4.out.keep hb); obtain ⟨hc, hf, hz, hy⟩ := bcell hb; clear hy; (try simp only [World.size_alloc, World.size_setCell, World.size_drew] at hz); (try have gQ0 : w.heap.size < w'.heap.size := by omega); (try have gQ1 : w.heap.size + 1 < w'.heap.size := by omega); (try have gQ2 : w.heap.size + 1 + 1 < w'.heap.size := by omega); (try have gQ3 : w.heap.size + 1 + 1 + 1 < w'.heap.size := by omega); (try have gQ4 : w.heap.size + 1 + 1 + 1 + 1 < w'.heap.size := by omega); (try have gQ5 : w.heap.size + 1 + 1 + 1 + 1 + 1 < w'.heap.size := by omega); (try have dQ0 : _ < w'.heap.size := Nat.lt_of_lt_of_le dQ0 (by omega)); (try have dQ1 : _ < w'.heap.size := Nat.lt_of_lt_of_le dQ1 (by omega)); (try have dQ2 : _ < w'.heap.size := Nat.lt_of_lt_of_le dQ2 (by omega)); (try have dQ3 : _ < w'.heap.size := Nat.lt_of_lt_of_le dQ3 (by omega)); (try have dQ4 : _ < w'.heap.size := Nat.lt_of_lt_of_le dQ4 (by omega)); (try have dQ5 : _ < w'.heap.size := Nat.lt_of_lt_of_le dQ5 (by omega)); (try (have hnQ := Nat.lt_of_succ_le hz; first | (have _x := dQ0; first | (have _x := dQ1; first | (have _x := dQ2; first | (have _x := dQ3; first | (have _x := dQ4; have dQ5 := hnQ) | have dQ4 := hnQ) | have dQ3 := hnQ) | have dQ2 := hnQ) | have dQ1 := hnQ) | have dQ0 := hnQ)); (try (have hmQ := Nat.lt_of_succ_lt (Nat.lt_of_succ_le hz); first | (have _x := dQ0; first | (have _x := dQ1; first | (have _x := dQ2; first | (have _x := dQ3; first | (have _x := dQ4; have dQ5 := hmQ) | have dQ4 := hmQ) | have dQ3 := hmQ) | have dQ2 := hmQ) | have dQ1 := hmQ) | have dQ0 := hmQ))) | (go_at_call 94; refine (eqIntS_same _ _ _ _ H3.out H4.out).mono ?_; rintro e w' ⟨rfl, hb⟩; obtain ⟨hc, hf, hz, hy⟩ := bcell hb; clear hy; (try simp only [World.size_alloc, World.size_setCell, World.size_drew] at hz); (try have gQ0 : w.heap.size < w'.heap.size := by omega); (try have gQ1 : w.heap.size + 1 < w'.heap.size := by omega); (try have gQ2 : w.heap.size + 1 + 1 < w'.heap.size := by omega); (try have gQ3 : w.heap.size + 1 + 1 + 1 < w'.heap.size := by omega); (try have gQ4 : w.heap.size + 1 + 1 + 1 + 1 < w'.heap.size := by omega); (try have gQ5 : w.heap.size + 1 + 1 + 1 + 1 + 1 < w'.heap.size := by omega); (try have dQ0 : _ < w'.heap.size := Nat.lt_of_lt_of_le dQ0 (by omega)); (try have dQ1 : _ < w'.heap.size := Nat.lt_of_lt_of_le dQ1 (by omega)); (try have dQ2 : _ < w'.heap.size := Nat.lt_of_lt_of_le dQ2 (by omega)); (try have dQ3 : _ < w'.heap.size := Nat.lt_of_lt_of_le dQ3 (by omega)); (try have dQ4 : _ < w'.heap.size := Nat.lt_of_lt_of_le dQ4 (by omega)); (try have dQ5 : _ < w'.heap.size := Nat.lt_of_lt_of_le dQ5 (by omega)); (try (have hnQ := Nat.lt_of_succ_le hz; first | (have _x := dQ0; first | (have _x := dQ1; first | (have _x := dQ2; first | (have _x := dQ3; first | (have _x := dQ4; have dQ5 := hnQ) | have dQ4 := hnQ) | have dQ3 := hnQ) | have dQ2 := hnQ) | have dQ1 := hnQ) | have dQ0 := hnQ)); (try (have hmQ := Nat.lt_of_succ_lt (Nat.lt_of_succ_le hz); first | (have _x := dQ0; first | (have _x := dQ1; first | (have _x := dQ2; first | (have _x := dQ3; first | (have _x := dQ4; have dQ5 := hmQ) | have dQ4 := hmQ) | have dQ3 := hmQ) | have dQ2 := hmQ) | have dQ1 := hmQ) | have dQ0 := hmQ))))
  all_goals go_ret
  all_goals exact ⟨by simp, by (repeat' first | (with_reducible exact Below.refl _ _) | (with_reducible refine Below.alloc ?_ ?_ _) | (with_reducible refine Below.drew ?_) | (with_reducible refine Below.setCell ?_ ?_ _) | (with_reducible refine below_via (by assumption) ?_ ?_) | go_size)⟩
end Go.Proofs.Ytfpofhkggojaoaa
