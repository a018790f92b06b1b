/- Reach: contracts of has, CanReach, l15Back and the reference's; IsSolvable. Conditions: numbers in range. -/
import Derived.Test.YtfmplmlilmalpaaGreatSpread
import Derived.Test.YtfmplmlilmalpaaGreatSSpread
set_option linter.unusedVariables false
set_option linter.unusedSimpArgs false
namespace Peg
def hasB (l : List Bool) (p : Int) : Bool := decide (0 ≤ p) && decide (p < l.length) && l.getD p.toNat false
theorem visits_size (back : Bool) (p : Int) : ∀ (ls : List Ln) (s : St), (visits back p ls s).seen.length = s.seen.length := by
  intro ls
  induction ls with
  | nil => intro s; rfl
  | cons l r ih =>
    intro s
    show (visits back p r (visit back p s l)).seen.length = _
    rw [ih]
    unfold visit
    split
    · split <;> simp
    · rfl
theorem seenOf_length (back : Bool) (ls : List Ln) (N : Nat) (p : Int) : (seenOf back ls N p).length = N := by
  unfold seenOf
  have : ∀ i, (stAt back ls (st0 N p) i).seen.length = N := by
    intro i
    induction i with
    | zero => simp [stAt, st0]
    | succ i ih =>
      unfold stAt
      split
      · rw [visits_size, ih]
      · exact ih
  exact this _
theorem spreadOf_length {a b o p : Int} {back : Bool} (h : isSmall a b o = true) (h2 : posOk a b o p = true) : (spreadOf a b o p back).length = boardN a b := by
  simp [spreadOf, h, h2, seenOf_length]
/-- whether the position q is reached from p, where both are positions -/
def reach (a b o p q : Int) (back : Bool) : Bool := hasB (spreadOf a b o p back) q
theorem reach_pos {a b o p q : Int} {back : Bool} (h : isSmall a b o = true) (h2 : posOk a b o p = true) (h3 : posOk a b o q = true) : reach a b o p q back = (spreadOf a b o p back).getD q.toNat false := by
  have h4 := pos_N h3
  simp only [reach, hasB, spreadOf_length h h2, h4.1, h4.2, decide_true, Bool.true_and]
def isSolvable (a b o s g : Int) : Bool := puzzleOk a b o s g && reach a b o s g false
end Peg
namespace Go.Proofs.YtfmplmlilmalpaaGreat
open Go.ChangeShapes Go.WideShapes Go.ChangeAt Go.RowKit Peg Go.Sort
theorem Own.boolsSmall {w : World} {base : Nat} {v : Value} {l : List Bool} (h : Own EBool w base v l) : ∃ a cap, v = .slice a l.length cap ∧ l.length ≤ 9223372036854775807 := by
  obtain ⟨a, cap, hv, h1, _⟩ := h.bool
  exact ⟨a, cap, hv, h1⟩
set_option maxRecDepth 100000 in
theorem has_any (l : List Bool) (p : Int) (base : Nat) (v : Value) (w : World) (h : Own EBool w base v l) :
    Calls Tryz.prog 59 #[v, .int .i64 p] w fun e w' => e = .returned (.bool (hasB l p)) ∧ Below w.heap.size w w' := by
  obtain ⟨a, cap, rfl, h1, hg⟩ := h.bool
  by_cases p0 : 0 ≤ p
  · by_cases p1 : p < l.length
    · obtain ⟨b, rfl, hb1, hb2, hcell⟩ := hg p.toNat (by omega)
      have hr : hasB l p = l.getD p.toNat false := by simp [hasB, p0, p1]
      rw [hr]
      clear hg hr
      generalize l.getD p.toNat false = y at *
      go_enter Tryz.func59, Tryz.ntmps59
      go_wp2_with fail
      go_ret
      exact ⟨by simp, by (repeat' first | (with_reducible exact Below.refl _ _) | (with_reducible refine Below.alloc ?_ ?_ _) | (with_reducible refine Below.drew ?_) | (with_reducible refine Below.setCell ?_ ?_ _) | (with_reducible refine below_via (by assumption) ?_ ?_) | go_size)⟩
    · have hr : hasB l p = false := by simp [hasB, p1]
      rw [hr]
      clear hg
      go_enter Tryz.func59, Tryz.ntmps59
      go_wp2_with fail
      go_ret
      exact ⟨by simp, by (repeat' first | (with_reducible exact Below.refl _ _) | (with_reducible refine Below.alloc ?_ ?_ _) | (with_reducible refine Below.drew ?_) | (with_reducible refine Below.setCell ?_ ?_ _) | (with_reducible refine below_via (by assumption) ?_ ?_) | go_size)⟩
  · have hr : hasB l p = false := by simp [hasB, p0]
    rw [hr]
    clear hg
    go_enter Tryz.func59, Tryz.ntmps59
    go_wp2_with fail
    go_ret
    exact ⟨by simp, by (repeat' first | (with_reducible exact Below.refl _ _) | (with_reducible refine Below.alloc ?_ ?_ _) | (with_reducible refine Below.drew ?_) | (with_reducible refine Below.setCell ?_ ?_ _) | (with_reducible refine below_via (by assumption) ?_ ?_) | go_size)⟩
set_option maxRecDepth 100000 in
theorem CanReach_any (a b o p q : Int) (hp : p ≤ 9223372036854775807) (w : World) :
    Calls Tryz.prog 24 #[.agg #[.int .i64 a, .int .i64 b, .int .i64 o], .int .i64 p, .int .i64 q] w fun e w' => e = .returned (.bool (reach a b o p q false)) ∧ Below w.heap.size w w' := by
  have HR : Hid (reach a b o p q false = hasB (spreadOf a b o p false) q) := rfl
  go_enter Tryz.func24, Tryz.ntmps24
  go_wp2_with fail
  refine (spreadOf_any _ _ _ _ _ hp _).mono ?_
  rintro e w' ⟨vL, rfl, hown, hb⟩
  obtain ⟨hc, hf, hz, hy⟩ := bcell hb; clear hy; (try simp only [World.size_alloc, World.size_setCell, World.size_drew] at hz); (try have gQ0 : w.heap.size < w'.heap.size := by omega); (try have gQ1 : w.heap.size + 1 < w'.heap.size := by omega); (try have gQ2 : w.heap.size + 1 + 1 < w'.heap.size := by omega); (try have gQ3 : w.heap.size + 1 + 1 + 1 < w'.heap.size := by omega); (try have gQ4 : w.heap.size + 1 + 1 + 1 + 1 < w'.heap.size := by omega); (try have gQ5 : w.heap.size + 1 + 1 + 1 + 1 + 1 < w'.heap.size := by omega); (try have dQ0 : _ < w'.heap.size := Nat.lt_of_lt_of_le dQ0 (by omega)); (try have dQ1 : _ < w'.heap.size := Nat.lt_of_lt_of_le dQ1 (by omega)); (try have dQ2 : _ < w'.heap.size := Nat.lt_of_lt_of_le dQ2 (by omega)); (try have dQ3 : _ < w'.heap.size := Nat.lt_of_lt_of_le dQ3 (by omega)); (try have dQ4 : _ < w'.heap.size := Nat.lt_of_lt_of_le dQ4 (by omega)); (try have dQ5 : _ < w'.heap.size := Nat.lt_of_lt_of_le dQ5 (by omega)); (try (have hnQ := Nat.lt_of_succ_le hz; first | (have _x := dQ0; first | (have _x := dQ1; first | (have _x := dQ2; first | (have _x := dQ3; first | (have _x := dQ4; have dQ5 := hnQ) | have dQ4 := hnQ) | have dQ3 := hnQ) | have dQ2 := hnQ) | have dQ1 := hnQ) | have dQ0 := hnQ)); (try (have hmQ := Nat.lt_of_succ_lt (Nat.lt_of_succ_le hz); first | (have _x := dQ0; first | (have _x := dQ1; first | (have _x := dQ2; first | (have _x := dQ3; first | (have _x := dQ4; have dQ5 := hmQ) | have dQ4 := hmQ) | have dQ3 := hmQ) | have dQ2 := hmQ) | have dQ1 := hmQ) | have dQ0 := hmQ))
  obtain ⟨w3, rfl⟩ : ∃ w3 : World, w3 = w' := ⟨_, rfl⟩
  have HW := Lib.hid (show Below w.heap.size w w3 by (repeat' first | (with_reducible exact Below.refl _ _) | (with_reducible refine Below.alloc ?_ ?_ _) | (with_reducible refine Below.drew ?_) | (with_reducible refine Below.setCell ?_ ?_ _) | (with_reducible refine below_via (by assumption) ?_ ?_) | go_size))
  obtain ⟨aL, capL, rfl, _⟩ := hown.boolsSmall
  go_wp2_with fail
  refine (has_any _ q _ _ _ hown).mono ?_
  rintro e w' ⟨rfl, hb⟩
  go_wp2_with fail
  go_ret
  exact ⟨by rw [HR.out]; rfl, HW.out.trans (hb.mono (by omega))⟩
set_option maxRecDepth 100000 in
theorem sCanReach_ok (a b o p q : Int) (hp : p ≤ 9223372036854775807) (hq : q ≤ 9223372036854775807) (hsm : isSmall a b o = true) (hpo : posOk a b o p = true) (hqo : posOk a b o q = true) (w : World) :
    Calls Tryz.prog 13 #[.agg #[.int .i64 a, .int .i64 b, .int .i64 o], .int .i64 p, .int .i64 q] w fun e w' => e = .returned (.bool (reach a b o p q false)) ∧ Below w.heap.size w w' := by
  have hlen := spreadOf_length (back := false) hsm hpo
  have hqN := pos_N hqo
  generalize hy : reach a b o p q false = y
  rw [reach_pos hsm hpo hqo] at hy
  have HY := Lib.hid hy
  clear hy
  go_enter Tryz.func13, Tryz.ntmps13
  go_wp2_with (first | (go_at_call 39; refine (sIsSmall_any _ _ _ _).mono ?_; rintro e w' ⟨rfl, hb⟩; obtain ⟨hc, hf, hz, hy⟩ := bcell hb; clear hy; (try simp only [World.size_alloc, World.size_setCell, World.size_drew] at hz); (try have gQ0 : w.heap.size < w'.heap.size := by omega); (try have gQ1 : w.heap.size + 1 < w'.heap.size := by omega); (try have gQ2 : w.heap.size + 1 + 1 < w'.heap.size := by omega); (try have gQ3 : w.heap.size + 1 + 1 + 1 < w'.heap.size := by omega); (try have gQ4 : w.heap.size + 1 + 1 + 1 + 1 < w'.heap.size := by omega); (try have gQ5 : w.heap.size + 1 + 1 + 1 + 1 + 1 < w'.heap.size := by omega); (try have dQ0 : _ < w'.heap.size := Nat.lt_of_lt_of_le dQ0 (by omega)); (try have dQ1 : _ < w'.heap.size := Nat.lt_of_lt_of_le dQ1 (by omega)); (try have dQ2 : _ < w'.heap.size := Nat.lt_of_lt_of_le dQ2 (by omega)); (try have dQ3 : _ < w'.heap.size := Nat.lt_of_lt_of_le dQ3 (by omega)); (try have dQ4 : _ < w'.heap.size := Nat.lt_of_lt_of_le dQ4 (by omega)); (try have dQ5 : _ < w'.heap.size := Nat.lt_of_lt_of_le dQ5 (by omega)); (try (have hnQ := Nat.lt_of_succ_le hz; first | (have _x := dQ0; first | (have _x := dQ1; first | (have _x := dQ2; first | (have _x := dQ3; first | (have _x := dQ4; have dQ5 := hnQ) | have dQ4 := hnQ) | have dQ3 := hnQ) | have dQ2 := hnQ) | have dQ1 := hnQ) | have dQ0 := hnQ)); (try (have hmQ := Nat.lt_of_succ_lt (Nat.lt_of_succ_le hz); first | (have _x := dQ0; first | (have _x := dQ1; first | (have _x := dQ2; first | (have _x := dQ3; first | (have _x := dQ4; have dQ5 := hmQ) | have dQ4 := hmQ) | have dQ3 := hmQ) | have dQ2 := hmQ) | have dQ1 := hmQ) | have dQ0 := hmQ))) | (go_at_call 40; refine (sPositionOk_any _ _ _ _ (by omega) _).mono ?_; rintro e w' ⟨rfl, hb⟩; obtain ⟨hc, hf, hz, hy⟩ := bcell hb; clear hy; (try simp only [World.size_alloc, World.size_setCell, World.size_drew] at hz); (try have gQ0 : w.heap.size < w'.heap.size := by omega); (try have gQ1 : w.heap.size + 1 < w'.heap.size := by omega); (try have gQ2 : w.heap.size + 1 + 1 < w'.heap.size := by omega); (try have gQ3 : w.heap.size + 1 + 1 + 1 < w'.heap.size := by omega); (try have gQ4 : w.heap.size + 1 + 1 + 1 + 1 < w'.heap.size := by omega); (try have gQ5 : w.heap.size + 1 + 1 + 1 + 1 + 1 < w'.heap.size := by omega); (try have dQ0 : _ < w'.heap.size := Nat.lt_of_lt_of_le dQ0 (by omega)); (try have dQ1 : _ < w'.heap.size := Nat.lt_of_lt_of_le dQ1 (by omega)); (try have dQ2 : _ < w'.heap.size := Nat.lt_of_lt_of_le dQ2 (by omega)); (try have dQ3 : _ < w'.heap.size := Nat.lt_of_lt_of_le dQ3 (by omega)); (try have dQ4 : _ < w'.heap.size := Nat.lt_of_lt_of_le dQ4 (by omega)); (try have dQ5 : _ < w'.heap.size := Nat.lt_of_lt_of_le dQ5 (by omega)); (try (have hnQ := Nat.lt_of_succ_le hz; first | (have _x := dQ0; first | (have _x := dQ1; first | (have _x := dQ2; first | (have _x := dQ3; first | (have _x := dQ4; have dQ5 := hnQ) | have dQ4 := hnQ) | have dQ3 := hnQ) | have dQ2 := hnQ) | have dQ1 := hnQ) | have dQ0 := hnQ)); (try (have hmQ := Nat.lt_of_succ_lt (Nat.lt_of_succ_le hz); first | (have _x := dQ0; first | (have _x := dQ1; first | (have _x := dQ2; first | (have _x := dQ3; first | (have _x := dQ4; have dQ5 := hmQ) | have dQ4 := hmQ) | have dQ3 := hmQ) | have dQ2 := hmQ) | have dQ1 := hmQ) | have dQ0 := hmQ))) | ((with_reducible refine wp_region_qb ?_ ?_ (fun hq => ?_)); (focus kernel_rfl); (focus kernel_rfl); (repeat (go_big_quiet_step ((first | (go_at_call 39; exact Calls.regrown_of (sIsSmall_any _ _ _ _)) | (go_at_call 40; exact Calls.regrown_of (sPositionOk_any _ _ _ _ (by omega) _)))))); refine wpQuiet_nil ?_; intro wq hb; obtain ⟨hc, hf, hz, hy⟩ := bcell hb; clear hq hy; (try simp only [World.size_alloc, World.size_setCell, World.size_drew] at hz); (try have gQ0 : w.heap.size < wq.heap.size := by omega); (try have gQ1 : w.heap.size + 1 < wq.heap.size := by omega); (try have gQ2 : w.heap.size + 1 + 1 < wq.heap.size := by omega); (try have gQ3 : w.heap.size + 1 + 1 + 1 < wq.heap.size := by omega); (try have gQ4 : w.heap.size + 1 + 1 + 1 + 1 < wq.heap.size := by omega); (try have gQ5 : w.heap.size + 1 + 1 + 1 + 1 + 1 < wq.heap.size := by omega); (try have dQ0 : _ < wq.heap.size := Nat.lt_of_lt_of_le dQ0 (by omega)); (try have dQ1 : _ < wq.heap.size := Nat.lt_of_lt_of_le dQ1 (by omega)); (try have dQ2 : _ < wq.heap.size := Nat.lt_of_lt_of_le dQ2 (by omega)); (try have dQ3 : _ < wq.heap.size := Nat.lt_of_lt_of_le dQ3 (by omega)); (try have dQ4 : _ < wq.heap.size := Nat.lt_of_lt_of_le dQ4 (by omega)); (try have dQ5 : _ < wq.heap.size := Nat.lt_of_lt_of_le dQ5 (by omega)); (try (have hnQ := Nat.lt_of_succ_le hz; first | (have _x := dQ0; first | (have _x := dQ1; first | (have _x := dQ2; first | (have _x := dQ3; first | (have _x := dQ4; have dQ5 := hnQ) | have dQ4 := hnQ) | have dQ3 := hnQ) | have dQ2 := hnQ) | have dQ1 := hnQ) | have dQ0 := hnQ)); (try (have hmQ := Nat.lt_of_succ_lt (Nat.lt_of_succ_le hz); first | (have _x := dQ0; first | (have _x := dQ1; first | (have _x := dQ2; first | (have _x := dQ3; first | (have _x := dQ4; have dQ5 := hmQ) | have dQ4 := hmQ) | have dQ3 := hmQ) | have dQ2 := hmQ) | have dQ1 := hmQ) | have dQ0 := hmQ))))
  refine (l14Seen_any _ _ _ _ _ hp hsm hpo _).mono ?_
  rintro e w' ⟨vL, rfl, hown, hb⟩
  obtain ⟨hc, hf, hz, hy⟩ := bcell hb; clear hy; (try simp only [World.size_alloc, World.size_setCell, World.size_drew] at hz); (try have gQ0 : w.heap.size < w'.heap.size := by omega); (try have gQ1 : w.heap.size + 1 < w'.heap.size := by omega); (try have gQ2 : w.heap.size + 1 + 1 < w'.heap.size := by omega); (try have gQ3 : w.heap.size + 1 + 1 + 1 < w'.heap.size := by omega); (try have gQ4 : w.heap.size + 1 + 1 + 1 + 1 < w'.heap.size := by omega); (try have gQ5 : w.heap.size + 1 + 1 + 1 + 1 + 1 < w'.heap.size := by omega); (try have dQ0 : _ < w'.heap.size := Nat.lt_of_lt_of_le dQ0 (by omega)); (try have dQ1 : _ < w'.heap.size := Nat.lt_of_lt_of_le dQ1 (by omega)); (try have dQ2 : _ < w'.heap.size := Nat.lt_of_lt_of_le dQ2 (by omega)); (try have dQ3 : _ < w'.heap.size := Nat.lt_of_lt_of_le dQ3 (by omega)); (try have dQ4 : _ < w'.heap.size := Nat.lt_of_lt_of_le dQ4 (by omega)); (try have dQ5 : _ < w'.heap.size := Nat.lt_of_lt_of_le dQ5 (by omega)); (try (have hnQ := Nat.lt_of_succ_le hz; first | (have _x := dQ0; first | (have _x := dQ1; first | (have _x := dQ2; first | (have _x := dQ3; first | (have _x := dQ4; have dQ5 := hnQ) | have dQ4 := hnQ) | have dQ3 := hnQ) | have dQ2 := hnQ) | have dQ1 := hnQ) | have dQ0 := hnQ)); (try (have hmQ := Nat.lt_of_succ_lt (Nat.lt_of_succ_le hz); first | (have _x := dQ0; first | (have _x := dQ1; first | (have _x := dQ2; first | (have _x := dQ3; first | (have _x := dQ4; have dQ5 := hmQ) | have dQ4 := hmQ) | have dQ3 := hmQ) | have dQ2 := hmQ) | have dQ1 := hmQ) | have dQ0 := hmQ))
  obtain ⟨w3, rfl⟩ : ∃ w3 : World, w3 = w' := ⟨_, rfl⟩
  have HW := Lib.hid (show Below w.heap.size w w3 by (repeat' first | (with_reducible exact Below.refl _ _) | (with_reducible refine Below.alloc ?_ ?_ _) | (with_reducible refine Below.drew ?_) | (with_reducible refine Below.setCell ?_ ?_ _) | (with_reducible refine below_via (by assumption) ?_ ?_) | go_size))
  rw [← hlen] at hqN
  obtain ⟨aL, capL, rfl, hnL, hg⟩ := hown.bool
  obtain ⟨b, rfl, hb1, hb2, hcell⟩ := hg q.toNat (by omega)
  clear hg
  rw [HY.out] at hcell
  go_wp2_with fail
  go_ret
  exact ⟨by simp, HW.out⟩
end Go.Proofs.YtfmplmlilmalpaaGreat
