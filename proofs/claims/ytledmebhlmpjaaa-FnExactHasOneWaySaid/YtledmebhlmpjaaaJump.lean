/- Jump: contracts of jumpFrom, undoFrom, l05Bits at the lines of a board. Conditions: numbers in range. -/
import Derived.Test.YtledmebhlmpjaaaPzC
set_option linter.unusedVariables false
set_option linter.unusedSimpArgs false
namespace Peg
theorem stepTo_val {a b o k way : Int} (h : 0 ≤ stepTo a b o k way) : stepTo a b o k way = k + (dy way * a + dx way) := by
  unfold stepTo at *
  simp only at *
  split at h
  · rename_i hx
    rw [if_pos hx]
    split at h
    · rename_i hy
      rw [if_pos hy]
      split at h
      · rename_i ht
        rw [if_pos ht, Int.add_mul]
        have h1 := Int.ediv_mul_add_emod k a
        omega
      · omega
    · omega
  · omega
theorem delta_ne {a : Int} (ha : 1 ≤ a) (q : Nat) (hq : q < 4) : dy q * a + dx q ≠ 0 := by
  rcases (by omega : q = 0 ∨ q = 1 ∨ q = 2 ∨ q = 3) with rfl | rfl | rfl | rfl <;> simp [dx, dy] <;> omega
theorem pw49 : pw ((49 : Nat) : Int) = 562949953421312 := by decide
/-- the lines of a board lie on it -/
def LnIn (a b : Int) (l : Ln) : Prop := LnOk l ∧ l.f < a * b ∧ l.o < a * b ∧ l.t < a * b
theorem linesOf_in {a b o : Int} {x : Ln} (h : x ∈ linesOf a b o) : LnIn a b x := by
  simp only [linesOf, List.mem_flatMap, linesFrom, linesPart, List.mem_filterMap, List.mem_range] at h
  obtain ⟨k, hk, q, hq, hx⟩ := h
  obtain ⟨hh, hb⟩ := holesOf_mem hk
  obtain ⟨_, k0, k1, _⟩ := hasHole_bd hh
  have hsa := (boardOk_sides hb).1
  have hsb := (boardOk_sides hb).2
  have ⟨h8, h9⟩ := area hsa hsb
  have ha := (inR_iff.1 hsa).1
  unfold lineTo at hx
  split at hx
  · rename_i h1
    split at hx
    · rename_i h2
      simp only [Option.some.injEq] at hx
      subst hx
      have s1 := stepTo_bd (o := o) (k := k) (way := q) hsa hsb
      have s2 := stepTo_bd (o := o) (k := stepTo a b o k q) (way := q) hsa hsb
      have v1 := stepTo_val h1
      have v2 := stepTo_val h2
      have hd := delta_ne ha q hq
      generalize dy q * a + dx q = d at *
      refine ⟨⟨⟨by omega, by simp only; omega⟩, ⟨h1, by simp only; omega⟩, ⟨h2, by simp only; omega⟩, ?_, ?_, ?_⟩, ?_, ?_, ?_⟩ <;> simp only <;> omega
    · cases hx
  · cases hx
end Peg
namespace Go.Proofs.Ytledmebhlmpjaaa
open Go.ChangeShapes Go.WideShapes Go.ChangeAt Go.RowKit Peg Go.Sort
set_option maxRecDepth 100000 in
theorem jumpFrom_yes (p f o t : Int) (hl : LnOk ⟨f, o, t⟩) (hp : 0 ≤ p) (hp2 : p < 562949953421312) (h : canJ p ⟨f, o, t⟩ = true) (w : World) :
    Calls Try.prog 40 #[.int .i64 p, .agg #[.int .i64 f, .int .i64 o, .int .i64 t]] w fun e w' => e = .returned (.tuple #[.int .i64 (flip p ⟨f, o, t⟩), .bool true]) ∧ Below w.heap.size w w' := by
  rw [← jump_eq hp hl h]
  simp only
  have ⟨⟨f0, f1⟩, ⟨o0, o1⟩, ⟨t0, t1⟩, n1, n2, n3⟩ := hl
  simp only at f0 f1 o0 o1 t0 t1 n1 n2 n3
  simp only [canJ, Bool.and_eq_true, Bool.not_eq_true'] at h
  obtain ⟨⟨h1, h2⟩, h3⟩ := h
  have hp3 : p < 9223372036854775808 := by omega
  have hp5 : p ≤ 9223372036854775807 := by omega
  have hp4 : p < pw ((49 : Nat) : Int) := by rw [pw49]; exact hp2
  have pf1 := pw_lt (k := 49) f0 (by omega)
  have po1 := pw_lt (k := 49) o0 (by omega)
  have pt1 := pw_lt (k := 49) t0 (by omega)
  have pf2 : pw f < 9223372036854775808 := Int.lt_trans pf1 (by rw [pw49]; decide)
  have po2 : pw o < 9223372036854775808 := Int.lt_trans po1 (by rw [pw49]; decide)
  have pt2 : pw t < 9223372036854775808 := Int.lt_trans pt1 (by rw [pw49]; decide)
  have wf := pw_wrap f0 (by omega)
  have wo := pw_wrap o0 (by omega)
  have wt := pw_wrap t0 (by omega)
  have r0 := (bdel_bd (a := p) hp (pw f)).1
  have q0 : bdel (p) (pw f) < pw ((49 : Nat) : Int) := Int.lt_of_le_of_lt (bdel_bd (a := p) hp (pw f)).2 hp4
  have u0 : bdel (p) (pw f) < 9223372036854775808 := Int.lt_trans q0 (by rw [pw49]; decide)
  have r1 := (bdel_bd (a := bdel (p) (pw f)) r0 (pw o)).1
  have q1 : bdel (bdel (p) (pw f)) (pw o) < pw ((49 : Nat) : Int) := Int.lt_of_le_of_lt (bdel_bd (a := bdel (p) (pw f)) r0 (pw o)).2 q0
  have u1 : bdel (bdel (p) (pw f)) (pw o) < 9223372036854775808 := Int.lt_trans q1 (by rw [pw49]; decide)
  have r2 := bor_nonneg (bdel (bdel (p) (pw f)) (pw o)) (pw t)
  have q2 : bor (bdel (bdel (p) (pw f)) (pw o)) (pw t) < pw ((49 : Nat) : Int) := bor_lt (k := 49) r1 (Int.le_trans (by decide) (pw_pos t)) q1 pt1
  have u2 : bor (bdel (bdel (p) (pw f)) (pw o)) (pw t) < 9223372036854775808 := Int.lt_trans q2 (by rw [pw49]; decide)
  have e0 := bits_andNot (a := p) (b := pw f) hp hp3 (Int.le_trans (by decide) (pw_pos f)) pf2
  have e1 := bits_andNot (a := bdel (p) (pw f)) (b := pw o) r0 u0 (Int.le_trans (by decide) (pw_pos o)) po2
  have e2 := bits_or (a := bdel (bdel (p) (pw f)) (pw o)) (b := pw t) r1 u1 (Int.le_trans (by decide) (pw_pos t)) pt2
  clear r0 r1 r2 q0 q1 q2 u0 u1 u2
  generalize bdel p (pw f) = X0 at e0 e1 e2 ⊢
  generalize bdel X0 (pw o) = X1 at e1 e2 ⊢
  generalize bor X1 (pw t) = X2 at e2 ⊢
  clear pf1 po1 pt1 pf2 po2 pt2
  generalize pw f = F at *
  generalize pw o = O at *
  generalize pw t = T at *
  clear hl hp4
  go_enter Try.func40, Try.ntmps40
  go_wp2_with (first | (go_at_call 75; refine (hasBit_any _ _ hp hp5 (by assumption) _).mono ?_; rintro e w' ⟨rfl, rfl⟩) | ((with_reducible refine wp_region_qb ?_ ?_ (fun hq => ?_)); (focus kernel_rfl); (focus kernel_rfl); (repeat (go_big_quiet_step ((first | (go_at_call 75; exact calls_qp (hasBit_any _ _ hp hp5 (by assumption) _)))))); refine wpQuiet_nil ?_; intro wq hb; obtain ⟨hc, hf, hz, hy⟩ := bcell hb; clear hq hy; (try simp only [World.size_alloc, World.size_setCell, World.size_drew] at hz); (try have gQ0 : w.heap.size < wq.heap.size := by omega); (try have gQ1 : w.heap.size + 1 < wq.heap.size := by omega); (try have gQ2 : w.heap.size + 1 + 1 < wq.heap.size := by omega); (try have gQ3 : w.heap.size + 1 + 1 + 1 < wq.heap.size := by omega); (try have gQ4 : w.heap.size + 1 + 1 + 1 + 1 < wq.heap.size := by omega); (try have gQ5 : w.heap.size + 1 + 1 + 1 + 1 + 1 < wq.heap.size := by omega); (try have dQ0 : _ < wq.heap.size := Nat.lt_of_lt_of_le dQ0 (by omega)); (try have dQ1 : _ < wq.heap.size := Nat.lt_of_lt_of_le dQ1 (by omega)); (try have dQ2 : _ < wq.heap.size := Nat.lt_of_lt_of_le dQ2 (by omega)); (try have dQ3 : _ < wq.heap.size := Nat.lt_of_lt_of_le dQ3 (by omega)); (try have dQ4 : _ < wq.heap.size := Nat.lt_of_lt_of_le dQ4 (by omega)); (try have dQ5 : _ < wq.heap.size := Nat.lt_of_lt_of_le dQ5 (by omega)); (try (have hnQ := Nat.lt_of_succ_le hz; first | (have _x := dQ0; first | (have _x := dQ1; first | (have _x := dQ2; first | (have _x := dQ3; first | (have _x := dQ4; have dQ5 := hnQ) | have dQ4 := hnQ) | have dQ3 := hnQ) | have dQ2 := hnQ) | have dQ1 := hnQ) | have dQ0 := hnQ)); (try (have hmQ := Nat.lt_of_succ_lt (Nat.lt_of_succ_le hz); first | (have _x := dQ0; first | (have _x := dQ1; first | (have _x := dQ2; first | (have _x := dQ3; first | (have _x := dQ4; have dQ5 := hmQ) | have dQ4 := hmQ) | have dQ3 := hmQ) | have dQ2 := hmQ) | have dQ1 := hmQ) | have dQ0 := hmQ))))
  go_ret2
  exact ⟨rfl, by (repeat' first | (with_reducible exact Below.refl _ _) | (with_reducible refine Below.alloc ?_ ?_ _) | (with_reducible refine Below.drew ?_) | (with_reducible refine Below.setCell ?_ ?_ _) | (with_reducible refine below_via (by assumption) ?_ ?_) | go_size)⟩
set_option maxRecDepth 100000 in
theorem jumpFrom_no (p f o t : Int) (hl : LnOk ⟨f, o, t⟩) (hp : 0 ≤ p) (hp2 : p < 562949953421312) (h : canJ p ⟨f, o, t⟩ = false) (w : World) :
    Calls Try.prog 40 #[.int .i64 p, .agg #[.int .i64 f, .int .i64 o, .int .i64 t]] w fun e w' => e = .returned (.tuple #[.int .i64 p, .bool false]) ∧ Below w.heap.size w w' := by
  have ⟨⟨f0, f1⟩, ⟨o0, o1⟩, ⟨t0, t1⟩, n1, n2, n3⟩ := hl
  simp only at f0 f1 o0 o1 t0 t1 n1 n2 n3
  simp only [canJ] at h
  clear hl
  cases c1 : tb p f <;> cases c2 : tb p o <;> cases c3 : tb p t <;> simp [c1, c2, c3] at h
  all_goals
    go_enter Try.func40, Try.ntmps40
    go_wp2_with (first | (go_at_call 75; refine (hasBit_any _ _ (by omega) (by omega) (by omega) _).mono ?_; rintro e w' ⟨rfl, rfl⟩) | ((with_reducible refine wp_region_qb ?_ ?_ (fun hq => ?_)); (focus kernel_rfl); (focus kernel_rfl); (repeat (go_big_quiet_step ((first | (go_at_call 75; exact calls_qp (hasBit_any _ _ (by omega) (by omega) (by omega) _)))))); refine wpQuiet_nil ?_; intro wq hb; obtain ⟨hc, hf, hz, hy⟩ := bcell hb; clear hq hy; (try simp only [World.size_alloc, World.size_setCell, World.size_drew] at hz); (try have gQ0 : w.heap.size < wq.heap.size := by omega); (try have gQ1 : w.heap.size + 1 < wq.heap.size := by omega); (try have gQ2 : w.heap.size + 1 + 1 < wq.heap.size := by omega); (try have gQ3 : w.heap.size + 1 + 1 + 1 < wq.heap.size := by omega); (try have gQ4 : w.heap.size + 1 + 1 + 1 + 1 < wq.heap.size := by omega); (try have gQ5 : w.heap.size + 1 + 1 + 1 + 1 + 1 < wq.heap.size := by omega); (try have dQ0 : _ < wq.heap.size := Nat.lt_of_lt_of_le dQ0 (by omega)); (try have dQ1 : _ < wq.heap.size := Nat.lt_of_lt_of_le dQ1 (by omega)); (try have dQ2 : _ < wq.heap.size := Nat.lt_of_lt_of_le dQ2 (by omega)); (try have dQ3 : _ < wq.heap.size := Nat.lt_of_lt_of_le dQ3 (by omega)); (try have dQ4 : _ < wq.heap.size := Nat.lt_of_lt_of_le dQ4 (by omega)); (try have dQ5 : _ < wq.heap.size := Nat.lt_of_lt_of_le dQ5 (by omega)); (try (have hnQ := Nat.lt_of_succ_le hz; first | (have _x := dQ0; first | (have _x := dQ1; first | (have _x := dQ2; first | (have _x := dQ3; first | (have _x := dQ4; have dQ5 := hnQ) | have dQ4 := hnQ) | have dQ3 := hnQ) | have dQ2 := hnQ) | have dQ1 := hnQ) | have dQ0 := hnQ)); (try (have hmQ := Nat.lt_of_succ_lt (Nat.lt_of_succ_le hz); first | (have _x := dQ0; first | (have _x := dQ1; first | (have _x := dQ2; first | (have _x := dQ3; first | (have _x := dQ4; have dQ5 := hmQ) | have dQ4 := hmQ) | have dQ3 := hmQ) | have dQ2 := hmQ) | have dQ1 := hmQ) | have dQ0 := hmQ))))
    go_ret2
    exact ⟨rfl, by (repeat' first | (with_reducible exact Below.refl _ _) | (with_reducible refine Below.alloc ?_ ?_ _) | (with_reducible refine Below.drew ?_) | (with_reducible refine Below.setCell ?_ ?_ _) | (with_reducible refine below_via (by assumption) ?_ ?_) | go_size)⟩
set_option maxRecDepth 100000 in
theorem undoFrom_yes (p f o t : Int) (hl : LnOk ⟨f, o, t⟩) (hp : 0 ≤ p) (hp2 : p < 562949953421312) (h : canU p ⟨f, o, t⟩ = true) (w : World) :
    Calls Try.prog 73 #[.int .i64 p, .agg #[.int .i64 f, .int .i64 o, .int .i64 t]] w fun e w' => e = .returned (.tuple #[.int .i64 (flip p ⟨f, o, t⟩), .bool true]) ∧ Below w.heap.size w w' := by
  rw [← undo_eq hp hl h]
  simp only
  have ⟨⟨f0, f1⟩, ⟨o0, o1⟩, ⟨t0, t1⟩, n1, n2, n3⟩ := hl
  simp only at f0 f1 o0 o1 t0 t1 n1 n2 n3
  simp only [canU, Bool.and_eq_true, Bool.not_eq_true'] at h
  obtain ⟨⟨h1, h2⟩, h3⟩ := h
  have hp3 : p < 9223372036854775808 := by omega
  have hp5 : p ≤ 9223372036854775807 := by omega
  have hp4 : p < pw ((49 : Nat) : Int) := by rw [pw49]; exact hp2
  have pf1 := pw_lt (k := 49) f0 (by omega)
  have po1 := pw_lt (k := 49) o0 (by omega)
  have pt1 := pw_lt (k := 49) t0 (by omega)
  have pf2 : pw f < 9223372036854775808 := Int.lt_trans pf1 (by rw [pw49]; decide)
  have po2 : pw o < 9223372036854775808 := Int.lt_trans po1 (by rw [pw49]; decide)
  have pt2 : pw t < 9223372036854775808 := Int.lt_trans pt1 (by rw [pw49]; decide)
  have wf := pw_wrap f0 (by omega)
  have wo := pw_wrap o0 (by omega)
  have wt := pw_wrap t0 (by omega)
  have r0 := (bdel_bd (a := p) hp (pw t)).1
  have q0 : bdel (p) (pw t) < pw ((49 : Nat) : Int) := Int.lt_of_le_of_lt (bdel_bd (a := p) hp (pw t)).2 hp4
  have u0 : bdel (p) (pw t) < 9223372036854775808 := Int.lt_trans q0 (by rw [pw49]; decide)
  have r1 := bor_nonneg (bdel (p) (pw t)) (pw f)
  have q1 : bor (bdel (p) (pw t)) (pw f) < pw ((49 : Nat) : Int) := bor_lt (k := 49) r0 (Int.le_trans (by decide) (pw_pos f)) q0 pf1
  have u1 : bor (bdel (p) (pw t)) (pw f) < 9223372036854775808 := Int.lt_trans q1 (by rw [pw49]; decide)
  have r2 := bor_nonneg (bor (bdel (p) (pw t)) (pw f)) (pw o)
  have q2 : bor (bor (bdel (p) (pw t)) (pw f)) (pw o) < pw ((49 : Nat) : Int) := bor_lt (k := 49) r1 (Int.le_trans (by decide) (pw_pos o)) q1 po1
  have u2 : bor (bor (bdel (p) (pw t)) (pw f)) (pw o) < 9223372036854775808 := Int.lt_trans q2 (by rw [pw49]; decide)
  have e0 := bits_andNot (a := p) (b := pw t) hp hp3 (Int.le_trans (by decide) (pw_pos t)) pt2
  have e1 := bits_or (a := bdel (p) (pw t)) (b := pw f) r0 u0 (Int.le_trans (by decide) (pw_pos f)) pf2
  have e2 := bits_or (a := bor (bdel (p) (pw t)) (pw f)) (b := pw o) r1 u1 (Int.le_trans (by decide) (pw_pos o)) po2
  clear r0 r1 r2 q0 q1 q2 u0 u1 u2
  generalize bdel p (pw t) = X0 at e0 e1 e2 ⊢
  generalize bor X0 (pw f) = X1 at e1 e2 ⊢
  generalize bor X1 (pw o) = X2 at e2 ⊢
  clear pf1 po1 pt1 pf2 po2 pt2
  generalize pw f = F at *
  generalize pw o = O at *
  generalize pw t = T at *
  clear hl hp4
  go_enter Try.func73, Try.ntmps73
  go_wp2_with (first | (go_at_call 75; refine (hasBit_any _ _ hp hp5 (by assumption) _).mono ?_; rintro e w' ⟨rfl, rfl⟩) | ((with_reducible refine wp_region_qb ?_ ?_ (fun hq => ?_)); (focus kernel_rfl); (focus kernel_rfl); (repeat (go_big_quiet_step ((first | (go_at_call 75; exact calls_qp (hasBit_any _ _ hp hp5 (by assumption) _)))))); refine wpQuiet_nil ?_; intro wq hb; obtain ⟨hc, hf, hz, hy⟩ := bcell hb; clear hq hy; (try simp only [World.size_alloc, World.size_setCell, World.size_drew] at hz); (try have gQ0 : w.heap.size < wq.heap.size := by omega); (try have gQ1 : w.heap.size + 1 < wq.heap.size := by omega); (try have gQ2 : w.heap.size + 1 + 1 < wq.heap.size := by omega); (try have gQ3 : w.heap.size + 1 + 1 + 1 < wq.heap.size := by omega); (try have gQ4 : w.heap.size + 1 + 1 + 1 + 1 < wq.heap.size := by omega); (try have gQ5 : w.heap.size + 1 + 1 + 1 + 1 + 1 < wq.heap.size := by omega); (try have dQ0 : _ < wq.heap.size := Nat.lt_of_lt_of_le dQ0 (by omega)); (try have dQ1 : _ < wq.heap.size := Nat.lt_of_lt_of_le dQ1 (by omega)); (try have dQ2 : _ < wq.heap.size := Nat.lt_of_lt_of_le dQ2 (by omega)); (try have dQ3 : _ < wq.heap.size := Nat.lt_of_lt_of_le dQ3 (by omega)); (try have dQ4 : _ < wq.heap.size := Nat.lt_of_lt_of_le dQ4 (by omega)); (try have dQ5 : _ < wq.heap.size := Nat.lt_of_lt_of_le dQ5 (by omega)); (try (have hnQ := Nat.lt_of_succ_le hz; first | (have _x := dQ0; first | (have _x := dQ1; first | (have _x := dQ2; first | (have _x := dQ3; first | (have _x := dQ4; have dQ5 := hnQ) | have dQ4 := hnQ) | have dQ3 := hnQ) | have dQ2 := hnQ) | have dQ1 := hnQ) | have dQ0 := hnQ)); (try (have hmQ := Nat.lt_of_succ_lt (Nat.lt_of_succ_le hz); first | (have _x := dQ0; first | (have _x := dQ1; first | (have _x := dQ2; first | (have _x := dQ3; first | (have _x := dQ4; have dQ5 := hmQ) | have dQ4 := hmQ) | have dQ3 := hmQ) | have dQ2 := hmQ) | have dQ1 := hmQ) | have dQ0 := hmQ))))
  go_ret2
  exact ⟨rfl, by (repeat' first | (with_reducible exact Below.refl _ _) | (with_reducible refine Below.alloc ?_ ?_ _) | (with_reducible refine Below.drew ?_) | (with_reducible refine Below.setCell ?_ ?_ _) | (with_reducible refine below_via (by assumption) ?_ ?_) | go_size)⟩
set_option maxRecDepth 100000 in
theorem undoFrom_no (p f o t : Int) (hl : LnOk ⟨f, o, t⟩) (hp : 0 ≤ p) (hp2 : p < 562949953421312) (h : canU p ⟨f, o, t⟩ = false) (w : World) :
    Calls Try.prog 73 #[.int .i64 p, .agg #[.int .i64 f, .int .i64 o, .int .i64 t]] w fun e w' => e = .returned (.tuple #[.int .i64 p, .bool false]) ∧ Below w.heap.size w w' := by
  have ⟨⟨f0, f1⟩, ⟨o0, o1⟩, ⟨t0, t1⟩, n1, n2, n3⟩ := hl
  simp only at f0 f1 o0 o1 t0 t1 n1 n2 n3
  simp only [canU] at h
  clear hl
  cases c1 : tb p f <;> cases c2 : tb p o <;> cases c3 : tb p t <;> simp [c1, c2, c3] at h
  all_goals
    go_enter Try.func73, Try.ntmps73
    go_wp2_with (first | (go_at_call 75; refine (hasBit_any _ _ (by omega) (by omega) (by omega) _).mono ?_; rintro e w' ⟨rfl, rfl⟩) | ((with_reducible refine wp_region_qb ?_ ?_ (fun hq => ?_)); (focus kernel_rfl); (focus kernel_rfl); (repeat (go_big_quiet_step ((first | (go_at_call 75; exact calls_qp (hasBit_any _ _ (by omega) (by omega) (by omega) _)))))); refine wpQuiet_nil ?_; intro wq hb; obtain ⟨hc, hf, hz, hy⟩ := bcell hb; clear hq hy; (try simp only [World.size_alloc, World.size_setCell, World.size_drew] at hz); (try have gQ0 : w.heap.size < wq.heap.size := by omega); (try have gQ1 : w.heap.size + 1 < wq.heap.size := by omega); (try have gQ2 : w.heap.size + 1 + 1 < wq.heap.size := by omega); (try have gQ3 : w.heap.size + 1 + 1 + 1 < wq.heap.size := by omega); (try have gQ4 : w.heap.size + 1 + 1 + 1 + 1 < wq.heap.size := by omega); (try have gQ5 : w.heap.size + 1 + 1 + 1 + 1 + 1 < wq.heap.size := by omega); (try have dQ0 : _ < wq.heap.size := Nat.lt_of_lt_of_le dQ0 (by omega)); (try have dQ1 : _ < wq.heap.size := Nat.lt_of_lt_of_le dQ1 (by omega)); (try have dQ2 : _ < wq.heap.size := Nat.lt_of_lt_of_le dQ2 (by omega)); (try have dQ3 : _ < wq.heap.size := Nat.lt_of_lt_of_le dQ3 (by omega)); (try have dQ4 : _ < wq.heap.size := Nat.lt_of_lt_of_le dQ4 (by omega)); (try have dQ5 : _ < wq.heap.size := Nat.lt_of_lt_of_le dQ5 (by omega)); (try (have hnQ := Nat.lt_of_succ_le hz; first | (have _x := dQ0; first | (have _x := dQ1; first | (have _x := dQ2; first | (have _x := dQ3; first | (have _x := dQ4; have dQ5 := hnQ) | have dQ4 := hnQ) | have dQ3 := hnQ) | have dQ2 := hnQ) | have dQ1 := hnQ) | have dQ0 := hnQ)); (try (have hmQ := Nat.lt_of_succ_lt (Nat.lt_of_succ_le hz); first | (have _x := dQ0; first | (have _x := dQ1; first | (have _x := dQ2; first | (have _x := dQ3; first | (have _x := dQ4; have dQ5 := hmQ) | have dQ4 := hmQ) | have dQ3 := hmQ) | have dQ2 := hmQ) | have dQ1 := hmQ) | have dQ0 := hmQ))))
    go_ret2
    exact ⟨rfl, by (repeat' first | (with_reducible exact Below.refl _ _) | (with_reducible refine Below.alloc ?_ ?_ _) | (with_reducible refine Below.drew ?_) | (with_reducible refine Below.setCell ?_ ?_ _) | (with_reducible refine below_via (by assumption) ?_ ?_) | go_size)⟩
set_option maxRecDepth 100000 in
theorem l05Bits_any (f o t : Int) (hl : LnOk ⟨f, o, t⟩) (w : World) :
    Calls Try.prog 43 #[.agg #[.int .i64 f, .int .i64 o, .int .i64 t]] w fun e w' => e = .returned (.int .i64 (lbits ⟨f, o, t⟩)) ∧ Below w.heap.size w w' := by
  have ⟨⟨f0, f1⟩, ⟨o0, o1⟩, ⟨t0, t1⟩, n1, n2, n3⟩ := hl
  simp only at f0 f1 o0 o1 t0 t1 n1 n2 n3
  have q49 : pw ((49 : Nat) : Int) = 562949953421312 := pw49
  have pf0 := pw_pos f
  have po0 := pw_pos o
  have pt0 := pw_pos t
  have pf1 := pw_lt (k := 49) f0 (by omega)
  have po1 := pw_lt (k := 49) o0 (by omega)
  have pt1 := pw_lt (k := 49) t0 (by omega)
  have wf := pw_wrap f0 (by omega)
  have wo := pw_wrap o0 (by omega)
  have wt := pw_wrap t0 (by omega)
  have e0 := bits_or (a := pw f) (b := pw o) (by omega) (by omega) (by omega) (by omega)
  have r0 := bor_nonneg (pw f) (pw o)
  have r0' : bor (pw f) (pw o) < pw ((49 : Nat) : Int) := bor_lt (k := 49) (by omega) (by omega) (by omega) (by omega)
  have e1 := bits_or (a := bor (pw f) (pw o)) (b := pw t) (by omega) (by omega) (by omega) (by omega)
  clear hl q49
  go_enter Try.func43, Try.ntmps43
  go_wp2_with (first | ((with_reducible refine wp_region_qb ?_ ?_ (fun hq => ?_)); (focus kernel_rfl); (focus kernel_rfl); (repeat (go_big_quiet_step ((fail)))); refine wpQuiet_nil ?_; intro wq hb; obtain ⟨hc, hf, hz, hy⟩ := bcell hb; clear hq hy; (try simp only [World.size_alloc, World.size_setCell, World.size_drew] at hz); (try have gQ0 : w.heap.size < wq.heap.size := by omega); (try have gQ1 : w.heap.size + 1 < wq.heap.size := by omega); (try have gQ2 : w.heap.size + 1 + 1 < wq.heap.size := by omega); (try have gQ3 : w.heap.size + 1 + 1 + 1 < wq.heap.size := by omega); (try have gQ4 : w.heap.size + 1 + 1 + 1 + 1 < wq.heap.size := by omega); (try have gQ5 : w.heap.size + 1 + 1 + 1 + 1 + 1 < wq.heap.size := by omega); (try have dQ0 : _ < wq.heap.size := Nat.lt_of_lt_of_le dQ0 (by omega)); (try have dQ1 : _ < wq.heap.size := Nat.lt_of_lt_of_le dQ1 (by omega)); (try have dQ2 : _ < wq.heap.size := Nat.lt_of_lt_of_le dQ2 (by omega)); (try have dQ3 : _ < wq.heap.size := Nat.lt_of_lt_of_le dQ3 (by omega)); (try have dQ4 : _ < wq.heap.size := Nat.lt_of_lt_of_le dQ4 (by omega)); (try have dQ5 : _ < wq.heap.size := Nat.lt_of_lt_of_le dQ5 (by omega)); (try (have hnQ := Nat.lt_of_succ_le hz; first | (have _x := dQ0; first | (have _x := dQ1; first | (have _x := dQ2; first | (have _x := dQ3; first | (have _x := dQ4; have dQ5 := hnQ) | have dQ4 := hnQ) | have dQ3 := hnQ) | have dQ2 := hnQ) | have dQ1 := hnQ) | have dQ0 := hnQ)); (try (have hmQ := Nat.lt_of_succ_lt (Nat.lt_of_succ_le hz); first | (have _x := dQ0; first | (have _x := dQ1; first | (have _x := dQ2; first | (have _x := dQ3; first | (have _x := dQ4; have dQ5 := hmQ) | have dQ4 := hmQ) | have dQ3 := hmQ) | have dQ2 := hmQ) | have dQ1 := hmQ) | have dQ0 := hmQ))))
  go_ret
  exact ⟨by simp [lbits], by (repeat' first | (with_reducible exact Below.refl _ _) | (with_reducible refine Below.alloc ?_ ?_ _) | (with_reducible refine Below.drew ?_) | (with_reducible refine Below.setCell ?_ ?_ _) | (with_reducible refine below_via (by assumption) ?_ ?_) | go_size)⟩
end Go.Proofs.Ytledmebhlmpjaaa
