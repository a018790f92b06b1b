/- Spread: contract of spreadOf. Conditions: numbers in range. -/
import Derived.Test.YtledmebhlmpjaaaJump
import Derived.Test.YtledmebhlmpjaaaBfs0
import Derived.Test.YtledmebhlmpjaaaPzB
set_option linter.unusedVariables false
set_option linter.unusedSimpArgs false
namespace Peg
def boardN (a b : Int) : Nat := 2 ^ (a * b).toNat
theorem pwN {a b : Int} (h : 0 ≤ a * b) : pw (a * b) = (boardN a b : Int) := by
  unfold boardN
  rw [← pw_nat, Int.toNat_of_nonneg h]
def spreadOf (a b o p : Int) (back : Bool) : List Bool := if isSmall a b o = true then if posOk a b o p = true then seenOf back (linesOf a b o) (boardN a b) p else [] else []
def jumpTo (p : Int) (l : Ln) : Int := if canJ p l = true then flip p l else p
def undoTo (p : Int) (l : Ln) : Int := if canU p l = true then flip p l else p
theorem leads_of {a b o : Int} (h : boardOk a b o = true) : Leads (boardN a b) (linesOf a b o) := by
  intro l hl p h0 hp
  have h1 := area (boardOk_sides h).1 (boardOk_sides h).2
  obtain ⟨k1, k2, k3, k4⟩ := linesOf_in hl
  have e : ((boardN a b : Nat) : Int) = pw (((a * b).toNat : Nat) : Int) := by rw [pw_nat]; rfl
  rw [e] at hp ⊢
  exact flip_lt h0 hp k1 (by omega) (by omega) (by omega)
theorem small_N {a b o : Int} (h : isSmall a b o = true) : boardOk a b o = true ∧ 1 ≤ a * b ∧ a * b ≤ 16 ∧ boardN a b ≤ 65536 ∧ 1 ≤ boardN a b := by
  simp only [isSmall, Bool.and_eq_true, decide_eq_true_eq] at h
  have h1 := area (boardOk_sides h.1).1 (boardOk_sides h.1).2
  have h2 : boardN a b ≤ 2 ^ 16 := Nat.pow_le_pow_right (by omega) (by omega)
  have h3 : 1 ≤ boardN a b := Nat.one_le_two_pow
  exact ⟨h.1, h1.1, h.2, by simpa using h2, h3⟩
theorem pos_N {a b o p : Int} (h : posOk a b o p = true) : 0 ≤ p ∧ p < boardN a b := by
  obtain ⟨h1, h2, h3⟩ := posOk_bd h
  have h4 := boardOk_holes h1
  have h5 := band_le_right p o (by omega)
  have h6 := area (boardOk_sides h1).1 (boardOk_sides h1).2
  rw [← pwN (by omega)]
  omega
end Peg
namespace Go.Proofs.Ytledmebhlmpjaaa
open Go.ChangeShapes Go.WideShapes Go.ChangeAt Go.RowKit Peg Go.Sort
theorem Own.boolAt {w : World} {base b n cap : Nat} {l : List Bool} (h : Own EBool w base (.slice (some ⟨b, 0, none⟩) n cap) l) (i : Nat) (hi : i < l.length) : w.cell? ⟨b, i, none⟩ = some (.bool (l.getD i false)) ∧ b < w.heap.size ∧ n = l.length := by
  obtain ⟨a, cap', hv, _, hg⟩ := h.bool
  obtain ⟨b', hb', h1, h2, h3⟩ := hg i hi
  simp only [Value.slice.injEq] at hv
  obtain ⟨rfl, rfl, rfl⟩ := hv
  simp only [Option.some.injEq, Addr.mk.injEq, and_true] at hb'
  subst hb'
  exact ⟨h3, h2, rfl⟩
theorem visit_cases (back : Bool) (p : Int) (s : St) (l : Ln) : (can back p l = false ∧ visit back p s l = s) ∨ (can back p l = true ∧ s.seen.getD (Peg.flip p l).toNat false = true ∧ visit back p s l = s) ∨ (can back p l = true ∧ s.seen.getD (Peg.flip p l).toNat false = false ∧ visit back p s l = ⟨s.seen.set (Peg.flip p l).toNat true, s.list ++ [Peg.flip p l]⟩) := by
  unfold visit
  cases h : can back p l
  · exact .inl ⟨rfl, by simp⟩
  · cases h2 : s.seen.getD (Peg.flip p l).toNat false
    · exact .inr (.inr ⟨rfl, rfl, by simp⟩)
    · exact .inr (.inl ⟨rfl, rfl, by simp⟩)
theorem jumpFrom_any (p : Int) (l : Ln) (hl : LnOk l) (hp : 0 ≤ p) (hp2 : p < 562949953421312) (w : World) :
    Calls Try.prog 40 #[.int .i64 p, .agg #[.int .i64 l.f, .int .i64 l.o, .int .i64 l.t]] w fun e w' => e = .returned (.tuple #[.int .i64 (jumpTo p l), .bool (canJ p l)]) ∧ Below w.heap.size w w' := by
  cases h : canJ p l
  · have e : jumpTo p l = p := by simp [jumpTo, h]
    rw [e]; exact jumpFrom_no p l.f l.o l.t hl hp hp2 h w
  · have e : jumpTo p l = flip p l := by simp [jumpTo, h]
    rw [e]; exact jumpFrom_yes p l.f l.o l.t hl hp hp2 h w
theorem undoFrom_any (p : Int) (l : Ln) (hl : LnOk l) (hp : 0 ≤ p) (hp2 : p < 562949953421312) (w : World) :
    Calls Try.prog 73 #[.int .i64 p, .agg #[.int .i64 l.f, .int .i64 l.o, .int .i64 l.t]] w fun e w' => e = .returned (.tuple #[.int .i64 (undoTo p l), .bool (canU p l)]) ∧ Below w.heap.size w w' := by
  cases h : canU p l
  · have e : undoTo p l = p := by simp [undoTo, h]
    rw [e]; exact undoFrom_no p l.f l.o l.t hl hp hp2 h w
  · have e : undoTo p l = flip p l := by simp [undoTo, h]
    rw [e]; exact undoFrom_yes p l.f l.o l.t hl hp hp2 h w
set_option maxHeartbeats 1000000 in
set_option maxRecDepth 100000 in
theorem spreadOf_any (a b o p : Int) (back : Bool) (hp9 : p ≤ 9223372036854775807) (w : World) :
    Calls Try.prog 37 #[.agg #[.int .i64 a, .int .i64 b, .int .i64 o], .int .i64 p, .bool back] w (RetBools w (spreadOf a b o p back)) := by
  by_cases hsm : isSmall a b o = true
  rotate_left
  · have HF : Hid (spreadOf a b o p back = []) := by show _ = _; simp [spreadOf, hsm]
    go_enter Try.func37, Try.ntmps37
    go_wp2_with (first | (go_at_call 46; refine (IsSmall_any _ _ _ _).mono ?_; rintro e w' ⟨rfl, hb⟩; obtain ⟨hc, hf, hz, hy⟩ := bcell hb; clear hy; (try simp only [World.size_alloc, World.size_setCell, World.size_drew] at hz); (try have gQ0 : w.heap.size < w'.heap.size := by omega); (try have gQ1 : w.heap.size + 1 < w'.heap.size := by omega); (try have gQ2 : w.heap.size + 1 + 1 < w'.heap.size := by omega); (try have gQ3 : w.heap.size + 1 + 1 + 1 < w'.heap.size := by omega); (try have gQ4 : w.heap.size + 1 + 1 + 1 + 1 < w'.heap.size := by omega); (try have gQ5 : w.heap.size + 1 + 1 + 1 + 1 + 1 < w'.heap.size := by omega); (try have dQ0 : _ < w'.heap.size := Nat.lt_of_lt_of_le dQ0 (by omega)); (try have dQ1 : _ < w'.heap.size := Nat.lt_of_lt_of_le dQ1 (by omega)); (try have dQ2 : _ < w'.heap.size := Nat.lt_of_lt_of_le dQ2 (by omega)); (try have dQ3 : _ < w'.heap.size := Nat.lt_of_lt_of_le dQ3 (by omega)); (try have dQ4 : _ < w'.heap.size := Nat.lt_of_lt_of_le dQ4 (by omega)); (try have dQ5 : _ < w'.heap.size := Nat.lt_of_lt_of_le dQ5 (by omega)); (try (have hnQ := Nat.lt_of_succ_le hz; first | (have _x := dQ0; first | (have _x := dQ1; first | (have _x := dQ2; first | (have _x := dQ3; first | (have _x := dQ4; have dQ5 := hnQ) | have dQ4 := hnQ) | have dQ3 := hnQ) | have dQ2 := hnQ) | have dQ1 := hnQ) | have dQ0 := hnQ)); (try (have hmQ := Nat.lt_of_succ_lt (Nat.lt_of_succ_le hz); first | (have _x := dQ0; first | (have _x := dQ1; first | (have _x := dQ2; first | (have _x := dQ3; first | (have _x := dQ4; have dQ5 := hmQ) | have dQ4 := hmQ) | have dQ3 := hmQ) | have dQ2 := hmQ) | have dQ1 := hmQ) | have dQ0 := hmQ))) | ((with_reducible refine wp_region_qb ?_ ?_ (fun hq => ?_)); (focus kernel_rfl); (focus kernel_rfl); (repeat (go_big_quiet_step ((first | (go_at_call 46; exact Calls.regrown_of (IsSmall_any _ _ _ _)))))); refine wpQuiet_nil ?_; intro wq hb; obtain ⟨hc, hf, hz, hy⟩ := bcell hb; clear hq hy; (try simp only [World.size_alloc, World.size_setCell, World.size_drew] at hz); (try have gQ0 : w.heap.size < wq.heap.size := by omega); (try have gQ1 : w.heap.size + 1 < wq.heap.size := by omega); (try have gQ2 : w.heap.size + 1 + 1 < wq.heap.size := by omega); (try have gQ3 : w.heap.size + 1 + 1 + 1 < wq.heap.size := by omega); (try have gQ4 : w.heap.size + 1 + 1 + 1 + 1 < wq.heap.size := by omega); (try have gQ5 : w.heap.size + 1 + 1 + 1 + 1 + 1 < wq.heap.size := by omega); (try have dQ0 : _ < wq.heap.size := Nat.lt_of_lt_of_le dQ0 (by omega)); (try have dQ1 : _ < wq.heap.size := Nat.lt_of_lt_of_le dQ1 (by omega)); (try have dQ2 : _ < wq.heap.size := Nat.lt_of_lt_of_le dQ2 (by omega)); (try have dQ3 : _ < wq.heap.size := Nat.lt_of_lt_of_le dQ3 (by omega)); (try have dQ4 : _ < wq.heap.size := Nat.lt_of_lt_of_le dQ4 (by omega)); (try have dQ5 : _ < wq.heap.size := Nat.lt_of_lt_of_le dQ5 (by omega)); (try (have hnQ := Nat.lt_of_succ_le hz; first | (have _x := dQ0; first | (have _x := dQ1; first | (have _x := dQ2; first | (have _x := dQ3; first | (have _x := dQ4; have dQ5 := hnQ) | have dQ4 := hnQ) | have dQ3 := hnQ) | have dQ2 := hnQ) | have dQ1 := hnQ) | have dQ0 := hnQ)); (try (have hmQ := Nat.lt_of_succ_lt (Nat.lt_of_succ_le hz); first | (have _x := dQ0; first | (have _x := dQ1; first | (have _x := dQ2; first | (have _x := dQ3; first | (have _x := dQ4; have dQ5 := hmQ) | have dQ4 := hmQ) | have dQ3 := hmQ) | have dQ2 := hmQ) | have dQ1 := hmQ) | have dQ0 := hmQ))))
    go_ret
    exact ⟨_, rfl, by rw [HF.out]; exact Own.emptyAny _ _ _ _, by (repeat' first | (with_reducible exact Below.refl _ _) | (with_reducible refine Below.alloc ?_ ?_ _) | (with_reducible refine Below.drew ?_) | (with_reducible refine Below.setCell ?_ ?_ _) | (with_reducible refine below_via (by assumption) ?_ ?_) | go_size)⟩
  by_cases hpo : posOk a b o p = true
  rotate_left
  · have HF : Hid (spreadOf a b o p back = []) := by show _ = _; simp [spreadOf, hpo]
    go_enter Try.func37, Try.ntmps37
    go_wp2_with (first | (go_at_call 46; refine (IsSmall_any _ _ _ _).mono ?_; rintro e w' ⟨rfl, hb⟩; obtain ⟨hc, hf, hz, hy⟩ := bcell hb; clear hy; (try simp only [World.size_alloc, World.size_setCell, World.size_drew] at hz); (try have gQ0 : w.heap.size < w'.heap.size := by omega); (try have gQ1 : w.heap.size + 1 < w'.heap.size := by omega); (try have gQ2 : w.heap.size + 1 + 1 < w'.heap.size := by omega); (try have gQ3 : w.heap.size + 1 + 1 + 1 < w'.heap.size := by omega); (try have gQ4 : w.heap.size + 1 + 1 + 1 + 1 < w'.heap.size := by omega); (try have gQ5 : w.heap.size + 1 + 1 + 1 + 1 + 1 < w'.heap.size := by omega); (try have dQ0 : _ < w'.heap.size := Nat.lt_of_lt_of_le dQ0 (by omega)); (try have dQ1 : _ < w'.heap.size := Nat.lt_of_lt_of_le dQ1 (by omega)); (try have dQ2 : _ < w'.heap.size := Nat.lt_of_lt_of_le dQ2 (by omega)); (try have dQ3 : _ < w'.heap.size := Nat.lt_of_lt_of_le dQ3 (by omega)); (try have dQ4 : _ < w'.heap.size := Nat.lt_of_lt_of_le dQ4 (by omega)); (try have dQ5 : _ < w'.heap.size := Nat.lt_of_lt_of_le dQ5 (by omega)); (try (have hnQ := Nat.lt_of_succ_le hz; first | (have _x := dQ0; first | (have _x := dQ1; first | (have _x := dQ2; first | (have _x := dQ3; first | (have _x := dQ4; have dQ5 := hnQ) | have dQ4 := hnQ) | have dQ3 := hnQ) | have dQ2 := hnQ) | have dQ1 := hnQ) | have dQ0 := hnQ)); (try (have hmQ := Nat.lt_of_succ_lt (Nat.lt_of_succ_le hz); first | (have _x := dQ0; first | (have _x := dQ1; first | (have _x := dQ2; first | (have _x := dQ3; first | (have _x := dQ4; have dQ5 := hmQ) | have dQ4 := hmQ) | have dQ3 := hmQ) | have dQ2 := hmQ) | have dQ1 := hmQ) | have dQ0 := hmQ))) | (go_at_call 47; refine (PositionOk_any _ _ _ _ (by omega) _).mono ?_; rintro e w' ⟨rfl, hb⟩; obtain ⟨hc, hf, hz, hy⟩ := bcell hb; clear hy; (try simp only [World.size_alloc, World.size_setCell, World.size_drew] at hz); (try have gQ0 : w.heap.size < w'.heap.size := by omega); (try have gQ1 : w.heap.size + 1 < w'.heap.size := by omega); (try have gQ2 : w.heap.size + 1 + 1 < w'.heap.size := by omega); (try have gQ3 : w.heap.size + 1 + 1 + 1 < w'.heap.size := by omega); (try have gQ4 : w.heap.size + 1 + 1 + 1 + 1 < w'.heap.size := by omega); (try have gQ5 : w.heap.size + 1 + 1 + 1 + 1 + 1 < w'.heap.size := by omega); (try have dQ0 : _ < w'.heap.size := Nat.lt_of_lt_of_le dQ0 (by omega)); (try have dQ1 : _ < w'.heap.size := Nat.lt_of_lt_of_le dQ1 (by omega)); (try have dQ2 : _ < w'.heap.size := Nat.lt_of_lt_of_le dQ2 (by omega)); (try have dQ3 : _ < w'.heap.size := Nat.lt_of_lt_of_le dQ3 (by omega)); (try have dQ4 : _ < w'.heap.size := Nat.lt_of_lt_of_le dQ4 (by omega)); (try have dQ5 : _ < w'.heap.size := Nat.lt_of_lt_of_le dQ5 (by omega)); (try (have hnQ := Nat.lt_of_succ_le hz; first | (have _x := dQ0; first | (have _x := dQ1; first | (have _x := dQ2; first | (have _x := dQ3; first | (have _x := dQ4; have dQ5 := hnQ) | have dQ4 := hnQ) | have dQ3 := hnQ) | have dQ2 := hnQ) | have dQ1 := hnQ) | have dQ0 := hnQ)); (try (have hmQ := Nat.lt_of_succ_lt (Nat.lt_of_succ_le hz); first | (have _x := dQ0; first | (have _x := dQ1; first | (have _x := dQ2; first | (have _x := dQ3; first | (have _x := dQ4; have dQ5 := hmQ) | have dQ4 := hmQ) | have dQ3 := hmQ) | have dQ2 := hmQ) | have dQ1 := hmQ) | have dQ0 := hmQ))) | ((with_reducible refine wp_region_qb ?_ ?_ (fun hq => ?_)); (focus kernel_rfl); (focus kernel_rfl); (repeat (go_big_quiet_step ((first | (go_at_call 46; exact Calls.regrown_of (IsSmall_any _ _ _ _)) | (go_at_call 47; exact Calls.regrown_of (PositionOk_any _ _ _ _ (by omega) _)))))); refine wpQuiet_nil ?_; intro wq hb; obtain ⟨hc, hf, hz, hy⟩ := bcell hb; clear hq hy; (try simp only [World.size_alloc, World.size_setCell, World.size_drew] at hz); (try have gQ0 : w.heap.size < wq.heap.size := by omega); (try have gQ1 : w.heap.size + 1 < wq.heap.size := by omega); (try have gQ2 : w.heap.size + 1 + 1 < wq.heap.size := by omega); (try have gQ3 : w.heap.size + 1 + 1 + 1 < wq.heap.size := by omega); (try have gQ4 : w.heap.size + 1 + 1 + 1 + 1 < wq.heap.size := by omega); (try have gQ5 : w.heap.size + 1 + 1 + 1 + 1 + 1 < wq.heap.size := by omega); (try have dQ0 : _ < wq.heap.size := Nat.lt_of_lt_of_le dQ0 (by omega)); (try have dQ1 : _ < wq.heap.size := Nat.lt_of_lt_of_le dQ1 (by omega)); (try have dQ2 : _ < wq.heap.size := Nat.lt_of_lt_of_le dQ2 (by omega)); (try have dQ3 : _ < wq.heap.size := Nat.lt_of_lt_of_le dQ3 (by omega)); (try have dQ4 : _ < wq.heap.size := Nat.lt_of_lt_of_le dQ4 (by omega)); (try have dQ5 : _ < wq.heap.size := Nat.lt_of_lt_of_le dQ5 (by omega)); (try (have hnQ := Nat.lt_of_succ_le hz; first | (have _x := dQ0; first | (have _x := dQ1; first | (have _x := dQ2; first | (have _x := dQ3; first | (have _x := dQ4; have dQ5 := hnQ) | have dQ4 := hnQ) | have dQ3 := hnQ) | have dQ2 := hnQ) | have dQ1 := hnQ) | have dQ0 := hnQ)); (try (have hmQ := Nat.lt_of_succ_lt (Nat.lt_of_succ_le hz); first | (have _x := dQ0; first | (have _x := dQ1; first | (have _x := dQ2; first | (have _x := dQ3; first | (have _x := dQ4; have dQ5 := hmQ) | have dQ4 := hmQ) | have dQ3 := hmQ) | have dQ2 := hmQ) | have dQ1 := hmQ) | have dQ0 := hmQ))))
    go_ret
    exact ⟨_, rfl, by rw [HF.out]; exact Own.emptyAny _ _ _ _, by (repeat' first | (with_reducible exact Below.refl _ _) | (with_reducible refine Below.alloc ?_ ?_ _) | (with_reducible refine Below.drew ?_) | (with_reducible refine Below.setCell ?_ ?_ _) | (with_reducible refine below_via (by assumption) ?_ ?_) | go_size)⟩
  obtain ⟨hbo, ab1, ab16, hN, hN1⟩ := small_N hsm
  obtain ⟨p0, pN⟩ := pos_N hpo
  have HF : Hid (spreadOf a b o p back = seenOf back (linesOf a b o) (boardN a b) p) := by show _ = _; simp [spreadOf, hsm, hpo]
  have hLd := leads_of hbo
  have HI : Hid (∀ l ∈ linesOf a b o, LnIn a b l) := fun l hl => linesOf_in hl
  have hpw := pw_wrap (n := a * b) (by omega) (by omega)
  rw [pwN (by omega)] at hpw
  generalize boardN a b = N at *
  have HK0 := st0_ok (N := N) p0 pN
  have hmk := run_make_bools 59 Try.underlying59 (N : Int) (by omega) (by omega)
  have hw : IntKind.i64.wrap (a * b) = a * b := IntWalk.i64_in _ (by omega)
  go_enter Try.func37, Try.ntmps37
  go_wp2_with (first | (go_at_call 46; refine (IsSmall_any _ _ _ _).mono ?_; rintro e w' ⟨rfl, hb⟩; obtain ⟨hc, hf, hz, hy⟩ := bcell hb; clear hy; (try simp only [World.size_alloc, World.size_setCell, World.size_drew] at hz); (try have gQ0 : w.heap.size < w'.heap.size := by omega); (try have gQ1 : w.heap.size + 1 < w'.heap.size := by omega); (try have gQ2 : w.heap.size + 1 + 1 < w'.heap.size := by omega); (try have gQ3 : w.heap.size + 1 + 1 + 1 < w'.heap.size := by omega); (try have gQ4 : w.heap.size + 1 + 1 + 1 + 1 < w'.heap.size := by omega); (try have gQ5 : w.heap.size + 1 + 1 + 1 + 1 + 1 < w'.heap.size := by omega); (try have dQ0 : _ < w'.heap.size := Nat.lt_of_lt_of_le dQ0 (by omega)); (try have dQ1 : _ < w'.heap.size := Nat.lt_of_lt_of_le dQ1 (by omega)); (try have dQ2 : _ < w'.heap.size := Nat.lt_of_lt_of_le dQ2 (by omega)); (try have dQ3 : _ < w'.heap.size := Nat.lt_of_lt_of_le dQ3 (by omega)); (try have dQ4 : _ < w'.heap.size := Nat.lt_of_lt_of_le dQ4 (by omega)); (try have dQ5 : _ < w'.heap.size := Nat.lt_of_lt_of_le dQ5 (by omega)); (try (have hnQ := Nat.lt_of_succ_le hz; first | (have _x := dQ0; first | (have _x := dQ1; first | (have _x := dQ2; first | (have _x := dQ3; first | (have _x := dQ4; have dQ5 := hnQ) | have dQ4 := hnQ) | have dQ3 := hnQ) | have dQ2 := hnQ) | have dQ1 := hnQ) | have dQ0 := hnQ)); (try (have hmQ := Nat.lt_of_succ_lt (Nat.lt_of_succ_le hz); first | (have _x := dQ0; first | (have _x := dQ1; first | (have _x := dQ2; first | (have _x := dQ3; first | (have _x := dQ4; have dQ5 := hmQ) | have dQ4 := hmQ) | have dQ3 := hmQ) | have dQ2 := hmQ) | have dQ1 := hmQ) | have dQ0 := hmQ))) | (go_at_call 47; refine (PositionOk_any _ _ _ _ (by omega) _).mono ?_; rintro e w' ⟨rfl, hb⟩; obtain ⟨hc, hf, hz, hy⟩ := bcell hb; clear hy; (try simp only [World.size_alloc, World.size_setCell, World.size_drew] at hz); (try have gQ0 : w.heap.size < w'.heap.size := by omega); (try have gQ1 : w.heap.size + 1 < w'.heap.size := by omega); (try have gQ2 : w.heap.size + 1 + 1 < w'.heap.size := by omega); (try have gQ3 : w.heap.size + 1 + 1 + 1 < w'.heap.size := by omega); (try have gQ4 : w.heap.size + 1 + 1 + 1 + 1 < w'.heap.size := by omega); (try have gQ5 : w.heap.size + 1 + 1 + 1 + 1 + 1 < w'.heap.size := by omega); (try have dQ0 : _ < w'.heap.size := Nat.lt_of_lt_of_le dQ0 (by omega)); (try have dQ1 : _ < w'.heap.size := Nat.lt_of_lt_of_le dQ1 (by omega)); (try have dQ2 : _ < w'.heap.size := Nat.lt_of_lt_of_le dQ2 (by omega)); (try have dQ3 : _ < w'.heap.size := Nat.lt_of_lt_of_le dQ3 (by omega)); (try have dQ4 : _ < w'.heap.size := Nat.lt_of_lt_of_le dQ4 (by omega)); (try have dQ5 : _ < w'.heap.size := Nat.lt_of_lt_of_le dQ5 (by omega)); (try (have hnQ := Nat.lt_of_succ_le hz; first | (have _x := dQ0; first | (have _x := dQ1; first | (have _x := dQ2; first | (have _x := dQ3; first | (have _x := dQ4; have dQ5 := hnQ) | have dQ4 := hnQ) | have dQ3 := hnQ) | have dQ2 := hnQ) | have dQ1 := hnQ) | have dQ0 := hnQ)); (try (have hmQ := Nat.lt_of_succ_lt (Nat.lt_of_succ_le hz); first | (have _x := dQ0; first | (have _x := dQ1; first | (have _x := dQ2; first | (have _x := dQ3; first | (have _x := dQ4; have dQ5 := hmQ) | have dQ4 := hmQ) | have dQ3 := hmQ) | have dQ2 := hmQ) | have dQ1 := hmQ) | have dQ0 := hmQ))))
  refine (LinesOf_any _ _ _ _).mono ?_
  rintro e w' ⟨vL, rfl, hownL, hb⟩
  obtain ⟨hc, hf, hz, hy⟩ := bcell hb; clear hy; (try simp only [World.size_alloc, World.size_setCell, World.size_drew] at hz); (try have gQ0 : w.heap.size < w'.heap.size := by omega); (try have gQ1 : w.heap.size + 1 < w'.heap.size := by omega); (try have gQ2 : w.heap.size + 1 + 1 < w'.heap.size := by omega); (try have gQ3 : w.heap.size + 1 + 1 + 1 < w'.heap.size := by omega); (try have gQ4 : w.heap.size + 1 + 1 + 1 + 1 < w'.heap.size := by omega); (try have gQ5 : w.heap.size + 1 + 1 + 1 + 1 + 1 < w'.heap.size := by omega); (try have dQ0 : _ < w'.heap.size := Nat.lt_of_lt_of_le dQ0 (by omega)); (try have dQ1 : _ < w'.heap.size := Nat.lt_of_lt_of_le dQ1 (by omega)); (try have dQ2 : _ < w'.heap.size := Nat.lt_of_lt_of_le dQ2 (by omega)); (try have dQ3 : _ < w'.heap.size := Nat.lt_of_lt_of_le dQ3 (by omega)); (try have dQ4 : _ < w'.heap.size := Nat.lt_of_lt_of_le dQ4 (by omega)); (try have dQ5 : _ < w'.heap.size := Nat.lt_of_lt_of_le dQ5 (by omega)); (try (have hnQ := Nat.lt_of_succ_le hz; first | (have _x := dQ0; first | (have _x := dQ1; first | (have _x := dQ2; first | (have _x := dQ3; first | (have _x := dQ4; have dQ5 := hnQ) | have dQ4 := hnQ) | have dQ3 := hnQ) | have dQ2 := hnQ) | have dQ1 := hnQ) | have dQ0 := hnQ)); (try (have hmQ := Nat.lt_of_succ_lt (Nat.lt_of_succ_le hz); first | (have _x := dQ0; first | (have _x := dQ1; first | (have _x := dQ2; first | (have _x := dQ3; first | (have _x := dQ4; have dQ5 := hmQ) | have dQ4 := hmQ) | have dQ3 := hmQ) | have dQ2 := hmQ) | have dQ1 := hmQ) | have dQ0 := hmQ))
  obtain ⟨w3, rfl⟩ : ∃ w3 : World, w3 = w' := ⟨_, rfl⟩
  have hfill : (fillCells (.bool false) N)[p.toNat]? = some (.bool false) := by
    have : p.toNat < N := by omega
    simp [fillCells, this]
  have HW := Lib.hid (show Below w.heap.size w w3 by (repeat' first | (with_reducible exact Below.refl _ _) | (with_reducible refine Below.alloc ?_ ?_ _) | (with_reducible refine Below.drew ?_) | (with_reducible refine Below.setCell ?_ ?_ _) | (with_reducible refine below_via (by assumption) ?_ ?_) | go_size))
  go_wp2_with fail
  have hS0 : Own EBool (w3.alloc (.cells ((fillCells (.bool false) N).setIfInBounds p.toNat (.bool true)) 4)) w3.heap.size (.slice (some ⟨w3.heap.size, 0, none⟩) N N) (st0 N p).seen := by
    have h1 := (Own.fill (E := EBool) rfl false (.bool false) rfl w3 N (by unfold maxLen; omega)).store rfl p.toNat (by simp; omega) true (.bool true) rfl
    have h2 := h1.1
    rwa [show (w3.alloc (.cells (fillCells (.bool false) N) EBool.e)).setCell ⟨w3.heap.size, p.toNat, none⟩ (.bool true) = w3.alloc (.cells ((fillCells (.bool false) N).setIfInBounds p.toNat (.bool true)) 4) from World.setCell_alloc_new _ _ _ _] at h2
  obtain ⟨aL, capL, rfl, hnL, hgetL⟩ := hownL.line
  have HG := Lib.hid hgetL
  clear hgetL
  have hL196 : (linesOf a b o).length ≤ 196 := by
    have h1 := linesFrom_le a b o (holesOf a b o)
    have h2 := holesOf_length a b o
    have e : linesOf a b o = (holesOf a b o).flatMap (linesFrom a b o) := rfl
    rw [← e] at h1
    omega
  generalize linesOf a b o = L at *
  clear hpw hmk hw hfill
  go_loopw [9, 10] (fun v i wr => ∃ k : Nat, k ≤ (stAt back L (st0 N p) k).list.length ∧ i = .int .i64 k ∧ Own EBool wr w3.heap.size (.slice (some ⟨w3.heap.size, 0, none⟩) N N) (stAt back L (st0 N p) k).seen ∧ Own EInt wr (w3.heap.size + 1) v (stAt back L (st0 N p) k).list ∧ Below w3.heap.size w3 wr ∧ w3.heap.size < wr.heap.size) (fun _ i _ => N + 1 - (intOf i).toNat)
  case atStart => exact ⟨0, by omega, rfl, hS0.alloc _, by
    have := Own.single (E := EInt) p (w3.alloc (.cells ((fillCells (.bool false) N).setIfInBounds p.toNat (.bool true)) 4)) (w3.heap.size + 1) (by simp)
    simpa [EInt, st0, stAt] using this, by (repeat' first | (with_reducible exact Below.refl _ _) | (with_reducible refine Below.alloc ?_ ?_ _) | (with_reducible refine Below.drew ?_) | (with_reducible refine Below.setCell ?_ ?_ _) | (with_reducible refine below_via (by assumption) ?_ ?_) | go_size), by simp; omega⟩
  case round =>
    obtain ⟨k, hk, rfl, hS, hLs, hbw, hSz⟩ := hrel
    obtain ⟨wo, rfl⟩ : ∃ wo : World, wo = wr := ⟨_, rfl⟩
    have hok := stAt_ok (back := back) HK0 hLd k
    have hle := hok.le
    have HR := Lib.hid hok.range
    have HE : Hid (k < (stAt back L (st0 N p) k).list.length → stAt back L (st0 N p) (k + 1) = visits back ((stAt back L (st0 N p) k).list.getD k 0) L (stAt back L (st0 N p) k)) := stAt_succ
    have HZ : Hid ((stAt back L (st0 N p) k).list.length = k → (stAt back L (st0 N p) k).seen = seenOf back L N p) := seenOf_end p0 pN hLd
    have HOK := Lib.hid hok
    clear hok
    have HS1 : Hid (∃ s, stAt back L (st0 N p) (k + 1) = s) := ⟨_, rfl⟩
    by_cases hlt : k < (stAt back L (st0 N p) k).list.length
    · have HE2 := Lib.hid (HE.out hlt)
      have hkr := HR.out _ (getD_mem _ k 0 hlt)
      generalize stAt back L (st0 N p) k = s at *
      obtain ⟨aK, capK, rfl, hnK, hgetK⟩ := hLs.int
      obtain ⟨bK, rfl, hbK1, hbK2, hcK⟩ := hgetK k hlt
      clear hgetK
      go_wp2_with fail
      generalize hpk : s.list.getD k 0 = pk at *
      have HPK := Lib.hid hpk
      clear hpk
      clear hcK
      go_loopw [9, 46] (fun v i wr => ∃ j : Nat, j ≤ L.length ∧ i = .int .i64 j ∧ Own EBool wr w3.heap.size (.slice (some ⟨w3.heap.size, 0, none⟩) N N) (visits back pk (L.take j) s).seen ∧ Own EInt wr (w3.heap.size + 1) v (visits back pk (L.take j) s).list ∧ Below w3.heap.size w3 wr ∧ w3.heap.size < wr.heap.size) (fun _ i _ => L.length - (intOf i).toNat)
      case atStart => exact ⟨0, by omega, rfl, hS, hLs, hbw, hSz⟩
      case round =>
        obtain ⟨j, hj, rfl, hS2, hL2, hbw2, hSz2⟩ := hrel
        by_cases hjt : j < L.length
        · obtain ⟨bL, rfl, hbL1, hbL2, hl1, hl2, hl3⟩ := HG.out j hjt
          have hin := HI.out _ (getD_mem L j Ln0 hjt)
          have HT : Hid (visits back pk (L.take (j + 1)) s = visit back pk (visits back pk (L.take j) s) (L.getD j Ln0)) := visits_take _ _ _ _ _ _ hjt
          have hok2 : StOk N (visits back pk (L.take j) s) := visits_ok _ _ HOK.out (fun x hx => hLd x (List.mem_of_mem_take hx) pk hkr.1 hkr.2)
          have hpre := visits_prefix back pk (L.take j) s
          have hqN := hLd _ (getD_mem L j Ln0 hjt) pk hkr.1 hkr.2
          have hm1 : wr.cell? ⟨bL, j * 3, none⟩ = some (.int .i64 (L.getD j Ln0).f) := (hbw2.cell (p := ⟨bL, j * 3, none⟩) hbL2).trans hl1
          have hm2 : wr.cell? ⟨bL, j * 3 + 1, none⟩ = some (.int .i64 (L.getD j Ln0).o) := (hbw2.cell (p := ⟨bL, j * 3 + 1, none⟩) hbL2).trans hl2
          have hm3 : wr.cell? ⟨bL, j * 3 + 2, none⟩ = some (.int .i64 (L.getD j Ln0).t) := (hbw2.cell (p := ⟨bL, j * 3 + 2, none⟩) hbL2).trans hl3
          clear hl1 hl2 hl3
          generalize L.getD j Ln0 = l at *
          generalize visits back pk (L.take j) s = s' at *
          have hks : k < s'.list.length ∧ s'.list.getD k 0 = pk := by
            obtain ⟨t, ht⟩ := hpre
            rw [ht]
            refine ⟨by simp; omega, ?_⟩
            rw [← HPK.out]
            simp [List.getElem?_append_left hlt]
          clear hpre
          obtain ⟨hk2, hpk2⟩ := hks
          obtain ⟨aK2, capK2, rfl, hnK2, hgetK2⟩ := hL2.int
          obtain ⟨bK2, rfl, hbK3, hbK4, hcK2⟩ := hgetK2 k hk2
          rw [hpk2] at hcK2
          clear hgetK2 hpk2
          have hle2 := hok2.le
          have dQ0 : w3.heap.size < wr.heap.size := hSz2
          have dQ1 : bK2 < wr.heap.size := hbK4
          have dQ2 : bL < wr.heap.size := by omega
          have HCJ : Hid (∀ W, Calls Try.prog 40 #[.int .i64 pk, .agg #[.int .i64 l.f, .int .i64 l.o, .int .i64 l.t]] W fun e w' => e = .returned (.tuple #[.int .i64 (jumpTo pk l), .bool (canJ pk l)]) ∧ Below W.heap.size W w') := fun W => jumpFrom_any pk l hin.1 hkr.1 (by omega) W
          have HCU : Hid (∀ W, Calls Try.prog 73 #[.int .i64 pk, .agg #[.int .i64 l.f, .int .i64 l.o, .int .i64 l.t]] W fun e w' => e = .returned (.tuple #[.int .i64 (undoTo pk l), .bool (canU pk l)]) ∧ Below W.heap.size W w') := fun W => undoFrom_any pk l hin.1 hkr.1 (by omega) W
          have hq0 := flip_nonneg pk l
          have hV := visit_cases back pk s' l
          cases back
          · have hV' : _ := hV
            simp only [show can false pk l = canJ pk l from rfl] at hV'
            clear hV
            rcases hV' with ⟨hcan, hV⟩ | ⟨hcan, hsn, hV⟩ | ⟨hcan, hsn, hV⟩
            · rw [hV] at HT
              simp only [show jumpTo pk l = pk from by simp [jumpTo, hcan], hcan] at HCJ
              clear hV
              go_wp2_with fail
              (with_reducible refine wp_region_qb ?_ ?_ (fun hq => ?_)); (focus kernel_rfl); (focus kernel_rfl); (repeat (go_big_quiet_step ((go_at_call 40; exact Calls.regrown_of (HCJ.out _))))); refine wpQuiet_nil ?_; intro wq hb; obtain ⟨hc, hf, hz, hy⟩ := bcell hb; clear hq hy; (try simp only [World.size_alloc, World.size_setCell, World.size_drew] at hz); (try have gQ0 : w.heap.size < wq.heap.size := by omega); (try have gQ1 : w.heap.size + 1 < wq.heap.size := by omega); (try have gQ2 : w.heap.size + 1 + 1 < wq.heap.size := by omega); (try have gQ3 : w.heap.size + 1 + 1 + 1 < wq.heap.size := by omega); (try have gQ4 : w.heap.size + 1 + 1 + 1 + 1 < wq.heap.size := by omega); (try have gQ5 : w.heap.size + 1 + 1 + 1 + 1 + 1 < wq.heap.size := by omega); (try have dQ0 : _ < wq.heap.size := Nat.lt_of_lt_of_le dQ0 (by omega)); (try have dQ1 : _ < wq.heap.size := Nat.lt_of_lt_of_le dQ1 (by omega)); (try have dQ2 : _ < wq.heap.size := Nat.lt_of_lt_of_le dQ2 (by omega)); (try have dQ3 : _ < wq.heap.size := Nat.lt_of_lt_of_le dQ3 (by omega)); (try have dQ4 : _ < wq.heap.size := Nat.lt_of_lt_of_le dQ4 (by omega)); (try have dQ5 : _ < wq.heap.size := Nat.lt_of_lt_of_le dQ5 (by omega)); (try (have hnQ := Nat.lt_of_succ_le hz; first | (have _x := dQ0; first | (have _x := dQ1; first | (have _x := dQ2; first | (have _x := dQ3; first | (have _x := dQ4; have dQ5 := hnQ) | have dQ4 := hnQ) | have dQ3 := hnQ) | have dQ2 := hnQ) | have dQ1 := hnQ) | have dQ0 := hnQ)); (try (have hmQ := Nat.lt_of_succ_lt (Nat.lt_of_succ_le hz); first | (have _x := dQ0; first | (have _x := dQ1; first | (have _x := dQ2; first | (have _x := dQ3; first | (have _x := dQ4; have dQ5 := hmQ) | have dQ4 := hmQ) | have dQ3 := hmQ) | have dQ2 := hmQ) | have dQ1 := hmQ) | have dQ0 := hmQ))
              have hSq := (hS2.alloc (.cells #[.int .i64 l.f, .int .i64 l.o, .int .i64 l.t] 47)).keep hb
              have hLq := (hL2.alloc (.cells #[.int .i64 l.f, .int .i64 l.o, .int .i64 l.t] 47)).keep hb
              have hBq := below_via hb (hbw2.alloc (by omega) _) (by simp; omega)
              have hSzq : w3.heap.size < wq.heap.size := by omega
              go_wp2_with fail
              go_roundw
              case rel => exact ⟨j + 1, by omega, by go_num, by rw [HT.out]; exact hSq, by rw [HT.out]; exact hLq, hBq, hSzq⟩
              case measure => simp [intOf]; omega
            · rw [hV] at HT
              simp only [show jumpTo pk l = Peg.flip pk l from by simp [jumpTo, hcan], hcan] at HCJ
              clear hV
              generalize Peg.flip pk l = q at *
              go_wp2_with fail
              (with_reducible refine wp_region_qb ?_ ?_ (fun hq => ?_)); (focus kernel_rfl); (focus kernel_rfl); (repeat (go_big_quiet_step ((go_at_call 40; exact Calls.regrown_of (HCJ.out _))))); refine wpQuiet_nil ?_; intro wq hb; obtain ⟨hc, hf, hz, hy⟩ := bcell hb; clear hq hy; (try simp only [World.size_alloc, World.size_setCell, World.size_drew] at hz); (try have gQ0 : w.heap.size < wq.heap.size := by omega); (try have gQ1 : w.heap.size + 1 < wq.heap.size := by omega); (try have gQ2 : w.heap.size + 1 + 1 < wq.heap.size := by omega); (try have gQ3 : w.heap.size + 1 + 1 + 1 < wq.heap.size := by omega); (try have gQ4 : w.heap.size + 1 + 1 + 1 + 1 < wq.heap.size := by omega); (try have gQ5 : w.heap.size + 1 + 1 + 1 + 1 + 1 < wq.heap.size := by omega); (try have dQ0 : _ < wq.heap.size := Nat.lt_of_lt_of_le dQ0 (by omega)); (try have dQ1 : _ < wq.heap.size := Nat.lt_of_lt_of_le dQ1 (by omega)); (try have dQ2 : _ < wq.heap.size := Nat.lt_of_lt_of_le dQ2 (by omega)); (try have dQ3 : _ < wq.heap.size := Nat.lt_of_lt_of_le dQ3 (by omega)); (try have dQ4 : _ < wq.heap.size := Nat.lt_of_lt_of_le dQ4 (by omega)); (try have dQ5 : _ < wq.heap.size := Nat.lt_of_lt_of_le dQ5 (by omega)); (try (have hnQ := Nat.lt_of_succ_le hz; first | (have _x := dQ0; first | (have _x := dQ1; first | (have _x := dQ2; first | (have _x := dQ3; first | (have _x := dQ4; have dQ5 := hnQ) | have dQ4 := hnQ) | have dQ3 := hnQ) | have dQ2 := hnQ) | have dQ1 := hnQ) | have dQ0 := hnQ)); (try (have hmQ := Nat.lt_of_succ_lt (Nat.lt_of_succ_le hz); first | (have _x := dQ0; first | (have _x := dQ1; first | (have _x := dQ2; first | (have _x := dQ3; first | (have _x := dQ4; have dQ5 := hmQ) | have dQ4 := hmQ) | have dQ3 := hmQ) | have dQ2 := hmQ) | have dQ1 := hmQ) | have dQ0 := hmQ))
              have hSq := (hS2.alloc (.cells #[.int .i64 l.f, .int .i64 l.o, .int .i64 l.t] 47)).keep hb
              have hLq := (hL2.alloc (.cells #[.int .i64 l.f, .int .i64 l.o, .int .i64 l.t] 47)).keep hb
              have hBq := below_via hb (hbw2.alloc (by omega) _) (by simp; omega)
              have hSzq : w3.heap.size < wq.heap.size := by omega
              have hm5 := (Own.boolAt hS2 q.toNat (by rw [hok2.size]; omega)).1
              rw [hsn] at hm5
              go_wp2_with fail
              go_roundw
              case rel => exact ⟨j + 1, by omega, by go_num, by rw [HT.out]; exact hSq, by rw [HT.out]; exact hLq, hBq, hSzq⟩
              case measure => simp [intOf]; omega
            · rw [hV] at HT
              simp only [show jumpTo pk l = Peg.flip pk l from by simp [jumpTo, hcan], hcan] at HCJ
              clear hV
              generalize Peg.flip pk l = q at *
              go_wp2_with fail
              (with_reducible refine wp_region_qb ?_ ?_ (fun hq => ?_)); (focus kernel_rfl); (focus kernel_rfl); (repeat (go_big_quiet_step ((go_at_call 40; exact Calls.regrown_of (HCJ.out _))))); refine wpQuiet_nil ?_; intro wq hb; obtain ⟨hc, hf, hz, hy⟩ := bcell hb; clear hq hy; (try simp only [World.size_alloc, World.size_setCell, World.size_drew] at hz); (try have gQ0 : w.heap.size < wq.heap.size := by omega); (try have gQ1 : w.heap.size + 1 < wq.heap.size := by omega); (try have gQ2 : w.heap.size + 1 + 1 < wq.heap.size := by omega); (try have gQ3 : w.heap.size + 1 + 1 + 1 < wq.heap.size := by omega); (try have gQ4 : w.heap.size + 1 + 1 + 1 + 1 < wq.heap.size := by omega); (try have gQ5 : w.heap.size + 1 + 1 + 1 + 1 + 1 < wq.heap.size := by omega); (try have dQ0 : _ < wq.heap.size := Nat.lt_of_lt_of_le dQ0 (by omega)); (try have dQ1 : _ < wq.heap.size := Nat.lt_of_lt_of_le dQ1 (by omega)); (try have dQ2 : _ < wq.heap.size := Nat.lt_of_lt_of_le dQ2 (by omega)); (try have dQ3 : _ < wq.heap.size := Nat.lt_of_lt_of_le dQ3 (by omega)); (try have dQ4 : _ < wq.heap.size := Nat.lt_of_lt_of_le dQ4 (by omega)); (try have dQ5 : _ < wq.heap.size := Nat.lt_of_lt_of_le dQ5 (by omega)); (try (have hnQ := Nat.lt_of_succ_le hz; first | (have _x := dQ0; first | (have _x := dQ1; first | (have _x := dQ2; first | (have _x := dQ3; first | (have _x := dQ4; have dQ5 := hnQ) | have dQ4 := hnQ) | have dQ3 := hnQ) | have dQ2 := hnQ) | have dQ1 := hnQ) | have dQ0 := hnQ)); (try (have hmQ := Nat.lt_of_succ_lt (Nat.lt_of_succ_le hz); first | (have _x := dQ0; first | (have _x := dQ1; first | (have _x := dQ2; first | (have _x := dQ3; first | (have _x := dQ4; have dQ5 := hmQ) | have dQ4 := hmQ) | have dQ3 := hmQ) | have dQ2 := hmQ) | have dQ1 := hmQ) | have dQ0 := hmQ))
              have hSq := (hS2.alloc (.cells #[.int .i64 l.f, .int .i64 l.o, .int .i64 l.t] 47)).keep hb
              have hLq := (hL2.alloc (.cells #[.int .i64 l.f, .int .i64 l.o, .int .i64 l.t] 47)).keep hb
              have hBq := below_via hb (hbw2.alloc (by omega) _) (by simp; omega)
              have hSzq : w3.heap.size < wq.heap.size := by omega
              have hm5 := (Own.boolAt hS2 q.toNat (by rw [hok2.size]; omega)).1
              rw [hsn] at hm5
              have hst := (Own.store hSq rfl q.toNat (by rw [hok2.size]; omega) true (.bool true) rfl).1
              obtain ⟨_, hsome, hfro⟩ := Own.store hS2 rfl q.toNat (by rw [hok2.size]; omega) true (.bool true) rfl
              have hLq2 := hLq.setCell (a := ⟨w3.heap.size, q.toNat, none⟩) (by simp [Value.ownBlock]; omega) (.bool true)
              have hllQ : s'.list.length ≤ 1099511627776 := by omega
              go_wp2_with (at_builtin; (refine append1 (E := EInt) (c := 1) (v := .slice (some ⟨bK2, 0, none⟩) s'.list.length capK2) (l := s'.list) rfl rfl _ _ 61 rfl Try.underlying61 rfl hLq2 q (by simp only [World.size_setCell]; rfl) hllQ (by simp; omega) ?_); intro v' w2 hown2 hb2 hg2)
              have hS5 := (hst.alloc (.cells (EInt.enc q).toArray EInt.e)).grown hg2 (.inl (by simp [Value.ownBlock]; omega))
              have hz5 := hb2.size
              simp at hz5
              go_roundw
              case rel => exact ⟨j + 1, by omega, by go_num, by rw [HT.out]; exact hS5, by rw [HT.out]; exact hown2, (hBq.setCell (by simp) _).trans (hb2.mono (by omega)), by omega⟩
              case measure => simp [intOf]; omega
          · have hV' : _ := hV
            simp only [show can true pk l = canU pk l from rfl] at hV'
            clear hV
            generalize jumpTo pk l = q1 at *
            generalize canJ pk l = c1 at *
            rcases hV' with ⟨hcan, hV⟩ | ⟨hcan, hsn, hV⟩ | ⟨hcan, hsn, hV⟩
            · rw [hV] at HT
              simp only [show undoTo pk l = pk from by simp [undoTo, hcan], hcan] at HCU
              clear hV
              go_wp2_with fail
              (with_reducible refine wp_region_qb ?_ ?_ (fun hq => ?_)); (focus kernel_rfl); (focus kernel_rfl); (repeat (go_big_quiet_step ((go_at_call 40; exact Calls.regrown_of (HCJ.out _))))); refine wpQuiet_nil ?_; intro wq hb; obtain ⟨hc, hf, hz, hy⟩ := bcell hb; clear hq hy; (try simp only [World.size_alloc, World.size_setCell, World.size_drew] at hz); (try have gQ0 : w.heap.size < wq.heap.size := by omega); (try have gQ1 : w.heap.size + 1 < wq.heap.size := by omega); (try have gQ2 : w.heap.size + 1 + 1 < wq.heap.size := by omega); (try have gQ3 : w.heap.size + 1 + 1 + 1 < wq.heap.size := by omega); (try have gQ4 : w.heap.size + 1 + 1 + 1 + 1 < wq.heap.size := by omega); (try have gQ5 : w.heap.size + 1 + 1 + 1 + 1 + 1 < wq.heap.size := by omega); (try have dQ0 : _ < wq.heap.size := Nat.lt_of_lt_of_le dQ0 (by omega)); (try have dQ1 : _ < wq.heap.size := Nat.lt_of_lt_of_le dQ1 (by omega)); (try have dQ2 : _ < wq.heap.size := Nat.lt_of_lt_of_le dQ2 (by omega)); (try have dQ3 : _ < wq.heap.size := Nat.lt_of_lt_of_le dQ3 (by omega)); (try have dQ4 : _ < wq.heap.size := Nat.lt_of_lt_of_le dQ4 (by omega)); (try have dQ5 : _ < wq.heap.size := Nat.lt_of_lt_of_le dQ5 (by omega)); (try (have hnQ := Nat.lt_of_succ_le hz; first | (have _x := dQ0; first | (have _x := dQ1; first | (have _x := dQ2; first | (have _x := dQ3; first | (have _x := dQ4; have dQ5 := hnQ) | have dQ4 := hnQ) | have dQ3 := hnQ) | have dQ2 := hnQ) | have dQ1 := hnQ) | have dQ0 := hnQ)); (try (have hmQ := Nat.lt_of_succ_lt (Nat.lt_of_succ_le hz); first | (have _x := dQ0; first | (have _x := dQ1; first | (have _x := dQ2; first | (have _x := dQ3; first | (have _x := dQ4; have dQ5 := hmQ) | have dQ4 := hmQ) | have dQ3 := hmQ) | have dQ2 := hmQ) | have dQ1 := hmQ) | have dQ0 := hmQ))
              have hSq1 := (hS2.alloc (.cells #[.int .i64 l.f, .int .i64 l.o, .int .i64 l.t] 47)).keep hb
              have hLq1 := (hL2.alloc (.cells #[.int .i64 l.f, .int .i64 l.o, .int .i64 l.t] 47)).keep hb
              have hBq1 := below_via hb (hbw2.alloc (by omega) _) (by simp; omega)
              obtain ⟨wq1, rfl⟩ : ∃ wq1 : World, wq1 = wq := ⟨_, rfl⟩
              go_wp2_with fail
              (with_reducible refine wp_region_qb ?_ ?_ (fun hq => ?_)); (focus kernel_rfl); (focus kernel_rfl); (repeat (go_big_quiet_step ((go_at_call 73; exact Calls.regrown_of (HCU.out _))))); refine wpQuiet_nil ?_; intro wq hb; obtain ⟨hc, hf, hz, hy⟩ := bcell hb; clear hq hy; (try simp only [World.size_alloc, World.size_setCell, World.size_drew] at hz); (try have gQ0 : w.heap.size < wq.heap.size := by omega); (try have gQ1 : w.heap.size + 1 < wq.heap.size := by omega); (try have gQ2 : w.heap.size + 1 + 1 < wq.heap.size := by omega); (try have gQ3 : w.heap.size + 1 + 1 + 1 < wq.heap.size := by omega); (try have gQ4 : w.heap.size + 1 + 1 + 1 + 1 < wq.heap.size := by omega); (try have gQ5 : w.heap.size + 1 + 1 + 1 + 1 + 1 < wq.heap.size := by omega); (try have dQ0 : _ < wq.heap.size := Nat.lt_of_lt_of_le dQ0 (by omega)); (try have dQ1 : _ < wq.heap.size := Nat.lt_of_lt_of_le dQ1 (by omega)); (try have dQ2 : _ < wq.heap.size := Nat.lt_of_lt_of_le dQ2 (by omega)); (try have dQ3 : _ < wq.heap.size := Nat.lt_of_lt_of_le dQ3 (by omega)); (try have dQ4 : _ < wq.heap.size := Nat.lt_of_lt_of_le dQ4 (by omega)); (try have dQ5 : _ < wq.heap.size := Nat.lt_of_lt_of_le dQ5 (by omega)); (try (have hnQ := Nat.lt_of_succ_le hz; first | (have _x := dQ0; first | (have _x := dQ1; first | (have _x := dQ2; first | (have _x := dQ3; first | (have _x := dQ4; have dQ5 := hnQ) | have dQ4 := hnQ) | have dQ3 := hnQ) | have dQ2 := hnQ) | have dQ1 := hnQ) | have dQ0 := hnQ)); (try (have hmQ := Nat.lt_of_succ_lt (Nat.lt_of_succ_le hz); first | (have _x := dQ0; first | (have _x := dQ1; first | (have _x := dQ2; first | (have _x := dQ3; first | (have _x := dQ4; have dQ5 := hmQ) | have dQ4 := hmQ) | have dQ3 := hmQ) | have dQ2 := hmQ) | have dQ1 := hmQ) | have dQ0 := hmQ))
              have hSq := hSq1.keep hb
              have hLq := hLq1.keep hb
              have hBq := below_via hb hBq1 (by omega)
              have hSzq : w3.heap.size < wq.heap.size := by omega
              go_wp2_with fail
              go_roundw
              case rel => exact ⟨j + 1, by omega, by go_num, by rw [HT.out]; exact hSq, by rw [HT.out]; exact hLq, hBq, hSzq⟩
              case measure => simp [intOf]; omega
            · rw [hV] at HT
              simp only [show undoTo pk l = Peg.flip pk l from by simp [undoTo, hcan], hcan] at HCU
              clear hV
              generalize Peg.flip pk l = q at *
              go_wp2_with fail
              (with_reducible refine wp_region_qb ?_ ?_ (fun hq => ?_)); (focus kernel_rfl); (focus kernel_rfl); (repeat (go_big_quiet_step ((go_at_call 40; exact Calls.regrown_of (HCJ.out _))))); refine wpQuiet_nil ?_; intro wq hb; obtain ⟨hc, hf, hz, hy⟩ := bcell hb; clear hq hy; (try simp only [World.size_alloc, World.size_setCell, World.size_drew] at hz); (try have gQ0 : w.heap.size < wq.heap.size := by omega); (try have gQ1 : w.heap.size + 1 < wq.heap.size := by omega); (try have gQ2 : w.heap.size + 1 + 1 < wq.heap.size := by omega); (try have gQ3 : w.heap.size + 1 + 1 + 1 < wq.heap.size := by omega); (try have gQ4 : w.heap.size + 1 + 1 + 1 + 1 < wq.heap.size := by omega); (try have gQ5 : w.heap.size + 1 + 1 + 1 + 1 + 1 < wq.heap.size := by omega); (try have dQ0 : _ < wq.heap.size := Nat.lt_of_lt_of_le dQ0 (by omega)); (try have dQ1 : _ < wq.heap.size := Nat.lt_of_lt_of_le dQ1 (by omega)); (try have dQ2 : _ < wq.heap.size := Nat.lt_of_lt_of_le dQ2 (by omega)); (try have dQ3 : _ < wq.heap.size := Nat.lt_of_lt_of_le dQ3 (by omega)); (try have dQ4 : _ < wq.heap.size := Nat.lt_of_lt_of_le dQ4 (by omega)); (try have dQ5 : _ < wq.heap.size := Nat.lt_of_lt_of_le dQ5 (by omega)); (try (have hnQ := Nat.lt_of_succ_le hz; first | (have _x := dQ0; first | (have _x := dQ1; first | (have _x := dQ2; first | (have _x := dQ3; first | (have _x := dQ4; have dQ5 := hnQ) | have dQ4 := hnQ) | have dQ3 := hnQ) | have dQ2 := hnQ) | have dQ1 := hnQ) | have dQ0 := hnQ)); (try (have hmQ := Nat.lt_of_succ_lt (Nat.lt_of_succ_le hz); first | (have _x := dQ0; first | (have _x := dQ1; first | (have _x := dQ2; first | (have _x := dQ3; first | (have _x := dQ4; have dQ5 := hmQ) | have dQ4 := hmQ) | have dQ3 := hmQ) | have dQ2 := hmQ) | have dQ1 := hmQ) | have dQ0 := hmQ))
              have hSq1 := (hS2.alloc (.cells #[.int .i64 l.f, .int .i64 l.o, .int .i64 l.t] 47)).keep hb
              have hLq1 := (hL2.alloc (.cells #[.int .i64 l.f, .int .i64 l.o, .int .i64 l.t] 47)).keep hb
              have hBq1 := below_via hb (hbw2.alloc (by omega) _) (by simp; omega)
              obtain ⟨wq1, rfl⟩ : ∃ wq1 : World, wq1 = wq := ⟨_, rfl⟩
              go_wp2_with fail
              (with_reducible refine wp_region_qb ?_ ?_ (fun hq => ?_)); (focus kernel_rfl); (focus kernel_rfl); (repeat (go_big_quiet_step ((go_at_call 73; exact Calls.regrown_of (HCU.out _))))); refine wpQuiet_nil ?_; intro wq hb; obtain ⟨hc, hf, hz, hy⟩ := bcell hb; clear hq hy; (try simp only [World.size_alloc, World.size_setCell, World.size_drew] at hz); (try have gQ0 : w.heap.size < wq.heap.size := by omega); (try have gQ1 : w.heap.size + 1 < wq.heap.size := by omega); (try have gQ2 : w.heap.size + 1 + 1 < wq.heap.size := by omega); (try have gQ3 : w.heap.size + 1 + 1 + 1 < wq.heap.size := by omega); (try have gQ4 : w.heap.size + 1 + 1 + 1 + 1 < wq.heap.size := by omega); (try have gQ5 : w.heap.size + 1 + 1 + 1 + 1 + 1 < wq.heap.size := by omega); (try have dQ0 : _ < wq.heap.size := Nat.lt_of_lt_of_le dQ0 (by omega)); (try have dQ1 : _ < wq.heap.size := Nat.lt_of_lt_of_le dQ1 (by omega)); (try have dQ2 : _ < wq.heap.size := Nat.lt_of_lt_of_le dQ2 (by omega)); (try have dQ3 : _ < wq.heap.size := Nat.lt_of_lt_of_le dQ3 (by omega)); (try have dQ4 : _ < wq.heap.size := Nat.lt_of_lt_of_le dQ4 (by omega)); (try have dQ5 : _ < wq.heap.size := Nat.lt_of_lt_of_le dQ5 (by omega)); (try (have hnQ := Nat.lt_of_succ_le hz; first | (have _x := dQ0; first | (have _x := dQ1; first | (have _x := dQ2; first | (have _x := dQ3; first | (have _x := dQ4; have dQ5 := hnQ) | have dQ4 := hnQ) | have dQ3 := hnQ) | have dQ2 := hnQ) | have dQ1 := hnQ) | have dQ0 := hnQ)); (try (have hmQ := Nat.lt_of_succ_lt (Nat.lt_of_succ_le hz); first | (have _x := dQ0; first | (have _x := dQ1; first | (have _x := dQ2; first | (have _x := dQ3; first | (have _x := dQ4; have dQ5 := hmQ) | have dQ4 := hmQ) | have dQ3 := hmQ) | have dQ2 := hmQ) | have dQ1 := hmQ) | have dQ0 := hmQ))
              have hSq := hSq1.keep hb
              have hLq := hLq1.keep hb
              have hBq := below_via hb hBq1 (by omega)
              have hSzq : w3.heap.size < wq.heap.size := by omega
              have hm5 := (Own.boolAt hS2 q.toNat (by rw [hok2.size]; omega)).1
              rw [hsn] at hm5
              go_wp2_with fail
              go_roundw
              case rel => exact ⟨j + 1, by omega, by go_num, by rw [HT.out]; exact hSq, by rw [HT.out]; exact hLq, hBq, hSzq⟩
              case measure => simp [intOf]; omega
            · rw [hV] at HT
              simp only [show undoTo pk l = Peg.flip pk l from by simp [undoTo, hcan], hcan] at HCU
              clear hV
              generalize Peg.flip pk l = q at *
              go_wp2_with fail
              (with_reducible refine wp_region_qb ?_ ?_ (fun hq => ?_)); (focus kernel_rfl); (focus kernel_rfl); (repeat (go_big_quiet_step ((go_at_call 40; exact Calls.regrown_of (HCJ.out _))))); refine wpQuiet_nil ?_; intro wq hb; obtain ⟨hc, hf, hz, hy⟩ := bcell hb; clear hq hy; (try simp only [World.size_alloc, World.size_setCell, World.size_drew] at hz); (try have gQ0 : w.heap.size < wq.heap.size := by omega); (try have gQ1 : w.heap.size + 1 < wq.heap.size := by omega); (try have gQ2 : w.heap.size + 1 + 1 < wq.heap.size := by omega); (try have gQ3 : w.heap.size + 1 + 1 + 1 < wq.heap.size := by omega); (try have gQ4 : w.heap.size + 1 + 1 + 1 + 1 < wq.heap.size := by omega); (try have gQ5 : w.heap.size + 1 + 1 + 1 + 1 + 1 < wq.heap.size := by omega); (try have dQ0 : _ < wq.heap.size := Nat.lt_of_lt_of_le dQ0 (by omega)); (try have dQ1 : _ < wq.heap.size := Nat.lt_of_lt_of_le dQ1 (by omega)); (try have dQ2 : _ < wq.heap.size := Nat.lt_of_lt_of_le dQ2 (by omega)); (try have dQ3 : _ < wq.heap.size := Nat.lt_of_lt_of_le dQ3 (by omega)); (try have dQ4 : _ < wq.heap.size := Nat.lt_of_lt_of_le dQ4 (by omega)); (try have dQ5 : _ < wq.heap.size := Nat.lt_of_lt_of_le dQ5 (by omega)); (try (have hnQ := Nat.lt_of_succ_le hz; first | (have _x := dQ0; first | (have _x := dQ1; first | (have _x := dQ2; first | (have _x := dQ3; first | (have _x := dQ4; have dQ5 := hnQ) | have dQ4 := hnQ) | have dQ3 := hnQ) | have dQ2 := hnQ) | have dQ1 := hnQ) | have dQ0 := hnQ)); (try (have hmQ := Nat.lt_of_succ_lt (Nat.lt_of_succ_le hz); first | (have _x := dQ0; first | (have _x := dQ1; first | (have _x := dQ2; first | (have _x := dQ3; first | (have _x := dQ4; have dQ5 := hmQ) | have dQ4 := hmQ) | have dQ3 := hmQ) | have dQ2 := hmQ) | have dQ1 := hmQ) | have dQ0 := hmQ))
              have hSq1 := (hS2.alloc (.cells #[.int .i64 l.f, .int .i64 l.o, .int .i64 l.t] 47)).keep hb
              have hLq1 := (hL2.alloc (.cells #[.int .i64 l.f, .int .i64 l.o, .int .i64 l.t] 47)).keep hb
              have hBq1 := below_via hb (hbw2.alloc (by omega) _) (by simp; omega)
              obtain ⟨wq1, rfl⟩ : ∃ wq1 : World, wq1 = wq := ⟨_, rfl⟩
              go_wp2_with fail
              (with_reducible refine wp_region_qb ?_ ?_ (fun hq => ?_)); (focus kernel_rfl); (focus kernel_rfl); (repeat (go_big_quiet_step ((go_at_call 73; exact Calls.regrown_of (HCU.out _))))); refine wpQuiet_nil ?_; intro wq hb; obtain ⟨hc, hf, hz, hy⟩ := bcell hb; clear hq hy; (try simp only [World.size_alloc, World.size_setCell, World.size_drew] at hz); (try have gQ0 : w.heap.size < wq.heap.size := by omega); (try have gQ1 : w.heap.size + 1 < wq.heap.size := by omega); (try have gQ2 : w.heap.size + 1 + 1 < wq.heap.size := by omega); (try have gQ3 : w.heap.size + 1 + 1 + 1 < wq.heap.size := by omega); (try have gQ4 : w.heap.size + 1 + 1 + 1 + 1 < wq.heap.size := by omega); (try have gQ5 : w.heap.size + 1 + 1 + 1 + 1 + 1 < wq.heap.size := by omega); (try have dQ0 : _ < wq.heap.size := Nat.lt_of_lt_of_le dQ0 (by omega)); (try have dQ1 : _ < wq.heap.size := Nat.lt_of_lt_of_le dQ1 (by omega)); (try have dQ2 : _ < wq.heap.size := Nat.lt_of_lt_of_le dQ2 (by omega)); (try have dQ3 : _ < wq.heap.size := Nat.lt_of_lt_of_le dQ3 (by omega)); (try have dQ4 : _ < wq.heap.size := Nat.lt_of_lt_of_le dQ4 (by omega)); (try have dQ5 : _ < wq.heap.size := Nat.lt_of_lt_of_le dQ5 (by omega)); (try (have hnQ := Nat.lt_of_succ_le hz; first | (have _x := dQ0; first | (have _x := dQ1; first | (have _x := dQ2; first | (have _x := dQ3; first | (have _x := dQ4; have dQ5 := hnQ) | have dQ4 := hnQ) | have dQ3 := hnQ) | have dQ2 := hnQ) | have dQ1 := hnQ) | have dQ0 := hnQ)); (try (have hmQ := Nat.lt_of_succ_lt (Nat.lt_of_succ_le hz); first | (have _x := dQ0; first | (have _x := dQ1; first | (have _x := dQ2; first | (have _x := dQ3; first | (have _x := dQ4; have dQ5 := hmQ) | have dQ4 := hmQ) | have dQ3 := hmQ) | have dQ2 := hmQ) | have dQ1 := hmQ) | have dQ0 := hmQ))
              have hSq := hSq1.keep hb
              have hLq := hLq1.keep hb
              have hBq := below_via hb hBq1 (by omega)
              have hSzq : w3.heap.size < wq.heap.size := by omega
              have hm5 := (Own.boolAt hS2 q.toNat (by rw [hok2.size]; omega)).1
              rw [hsn] at hm5
              have hst := (Own.store hSq rfl q.toNat (by rw [hok2.size]; omega) true (.bool true) rfl).1
              obtain ⟨_, hsome, hfro⟩ := Own.store hS2 rfl q.toNat (by rw [hok2.size]; omega) true (.bool true) rfl
              have hLq2 := hLq.setCell (a := ⟨w3.heap.size, q.toNat, none⟩) (by simp [Value.ownBlock]; omega) (.bool true)
              have hllQ : s'.list.length ≤ 1099511627776 := by omega
              go_wp2_with (at_builtin; (refine append1 (E := EInt) (c := 1) (v := .slice (some ⟨bK2, 0, none⟩) s'.list.length capK2) (l := s'.list) rfl rfl _ _ 61 rfl Try.underlying61 rfl hLq2 q (by simp only [World.size_setCell]; rfl) hllQ (by simp; omega) ?_); intro v' w2 hown2 hb2 hg2)
              have hS5 := (hst.alloc (.cells (EInt.enc q).toArray EInt.e)).grown hg2 (.inl (by simp [Value.ownBlock]; omega))
              have hz5 := hb2.size
              simp at hz5
              go_roundw
              case rel => exact ⟨j + 1, by omega, by go_num, by rw [HT.out]; exact hS5, by rw [HT.out]; exact hown2, (hBq.setCell (by simp) _).trans (hb2.mono (by omega)), by omega⟩
              case measure => simp [intOf]; omega
        · go_wp2_with fail
          have hjL : L.take j = L := List.take_of_length_le (by omega)
          rw [hjL] at hS2 hL2
          go_roundw
          case rel => exact ⟨k + 1, by rw [HE2.out]; have := visits_len (N := N) back pk L s; omega, by go_num, by rw [HE2.out]; exact hS2, by rw [HE2.out]; exact hL2, hbw2, hSz2⟩
          case measure => simp [intOf]; omega
    · have hz2 := HZ.out (by omega)
      obtain ⟨aK, capK, rfl, hnK, hgetK⟩ := hLs.int
      clear hgetK
      go_wp2_with fail
      go_ret
      exact ⟨_, rfl, by rw [HF.out, ← hz2]; exact hS.mono (by omega), HW.out.trans (hbw.mono (by omega))⟩
end Go.Proofs.Ytledmebhlmpjaaa
