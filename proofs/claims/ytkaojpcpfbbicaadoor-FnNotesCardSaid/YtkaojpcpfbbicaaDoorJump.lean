/- Jump: contracts of jumpFrom, undoFrom, l05Bits at the lines of a board. Conditions: numbers in range. -/
import Derived.Test.YtkaojpcpfbbicaaDoorLines
import Derived.Test.YtkaojpcpfbbicaaDoorJump0
set_option linter.unusedVariables false
set_option linter.unusedSimpArgs false
namespace Peg
theorem stepTo_val {a b o k way : Int} (h : 0 ≤ stepTo a b o k way) : stepTo a b o k way = k + (dy way * a + dx way) := by
  unfold stepTo at *
  simp only at *
  split at h
  · rename_i hx
    rw [if_pos hx]
    split at h
    · rename_i hy
      rw [if_pos hy]
      split at h
      · rename_i ht
        rw [if_pos ht, Int.add_mul]
        have h1 := Int.ediv_mul_add_emod k a
        omega
      · omega
    · omega
  · omega
theorem delta_ne {a : Int} (ha : 1 ≤ a) (q : Nat) (hq : q < 4) : dy q * a + dx q ≠ 0 := by
  rcases (by omega : q = 0 ∨ q = 1 ∨ q = 2 ∨ q = 3) with rfl | rfl | rfl | rfl <;> simp [dx, dy] <;> omega
theorem pw49 : pw ((49 : Nat) : Int) = 562949953421312 := by decide
/-- the lines of a board lie on it -/
def LnIn (a b : Int) (l : Ln) : Prop := LnOk l ∧ l.f < a * b ∧ l.o < a * b ∧ l.t < a * b
theorem linesOf_in {a b o : Int} {x : Ln} (h : x ∈ linesOf a b o) : LnIn a b x := by
  simp only [linesOf, List.mem_flatMap, linesFrom, linesPart, List.mem_filterMap, List.mem_range] at h
  obtain ⟨k, hk, q, hq, hx⟩ := h
  obtain ⟨hh, hb⟩ := holesOf_mem hk
  obtain ⟨_, k0, k1, _⟩ := hasHole_bd hh
  have hsa := (boardOk_sides hb).1
  have hsb := (boardOk_sides hb).2
  have ⟨h8, h9⟩ := area hsa hsb
  have ha := (inR_iff.1 hsa).1
  unfold lineTo at hx
  split at hx
  · rename_i h1
    split at hx
    · rename_i h2
      simp only [Option.some.injEq] at hx
      subst hx
      have s1 := stepTo_bd (o := o) (k := k) (way := q) hsa hsb
      have s2 := stepTo_bd (o := o) (k := stepTo a b o k q) (way := q) hsa hsb
      have v1 := stepTo_val h1
      have v2 := stepTo_val h2
      have hd := delta_ne ha q hq
      generalize dy q * a + dx q = d at *
      refine ⟨⟨⟨by omega, by simp only; omega⟩, ⟨h1, by simp only; omega⟩, ⟨h2, by simp only; omega⟩, ?_, ?_, ?_⟩, ?_, ?_, ?_⟩ <;> simp only <;> omega
    · cases hx
  · cases hx
end Peg
namespace Go.Proofs.YtkaojpcpfbbicaaDoor
open Go.ChangeShapes Go.WideShapes Go.ChangeAt Go.RowKit Peg Go.Sort
set_option maxRecDepth 100000 in
theorem l05Bits_any (f o t : Int) (hl : LnOk ⟨f, o, t⟩) (w : World) :
    Calls Tryd.prog 92 #[.agg #[.int .i64 f, .int .i64 o, .int .i64 t]] w fun e w' => e = .returned (.int .i64 (lbits ⟨f, o, t⟩)) ∧ Below w.heap.size w w' := by
  have ⟨⟨f0, f1⟩, ⟨o0, o1⟩, ⟨t0, t1⟩, n1, n2, n3⟩ := hl
  simp only at f0 f1 o0 o1 t0 t1 n1 n2 n3
  have q49 : pw ((49 : Nat) : Int) = 562949953421312 := pw49
  have pf0 := pw_pos f
  have po0 := pw_pos o
  have pt0 := pw_pos t
  have pf1 := pw_lt (k := 49) f0 (by omega)
  have po1 := pw_lt (k := 49) o0 (by omega)
  have pt1 := pw_lt (k := 49) t0 (by omega)
  have wf := pw_wrap f0 (by omega)
  have wo := pw_wrap o0 (by omega)
  have wt := pw_wrap t0 (by omega)
  have e0 := bits_or (a := pw f) (b := pw o) (by omega) (by omega) (by omega) (by omega)
  have r0 := bor_nonneg (pw f) (pw o)
  have r0' : bor (pw f) (pw o) < pw ((49 : Nat) : Int) := bor_lt (k := 49) (by omega) (by omega) (by omega) (by omega)
  have e1 := bits_or (a := bor (pw f) (pw o)) (b := pw t) (by omega) (by omega) (by omega) (by omega)
  clear hl q49
  go_enter Tryd.func92, Tryd.ntmps92
  go_wp2_with (first | ((with_reducible refine wp_region_qb ?_ ?_ (fun hq => ?_)); (focus kernel_rfl); (focus kernel_rfl); (repeat (go_big_quiet_step ((fail)))); refine wpQuiet_nil ?_; intro wq hb; obtain ⟨hc, hf, hz, hy⟩ := bcell hb; clear hq hy; (try simp only [World.size_alloc, World.size_setCell, World.size_drew] at hz); (try have gQ0 : w.heap.size < wq.heap.size := by omega); (try have gQ1 : w.heap.size + 1 < wq.heap.size := by omega); (try have gQ2 : w.heap.size + 1 + 1 < wq.heap.size := by omega); (try have gQ3 : w.heap.size + 1 + 1 + 1 < wq.heap.size := by omega); (try have gQ4 : w.heap.size + 1 + 1 + 1 + 1 < wq.heap.size := by omega); (try have gQ5 : w.heap.size + 1 + 1 + 1 + 1 + 1 < wq.heap.size := by omega); (try have dQ0 : _ < wq.heap.size := Nat.lt_of_lt_of_le dQ0 (by omega)); (try have dQ1 : _ < wq.heap.size := Nat.lt_of_lt_of_le dQ1 (by omega)); (try have dQ2 : _ < wq.heap.size := Nat.lt_of_lt_of_le dQ2 (by omega)); (try have dQ3 : _ < wq.heap.size := Nat.lt_of_lt_of_le dQ3 (by omega)); (try have dQ4 : _ < wq.heap.size := Nat.lt_of_lt_of_le dQ4 (by omega)); (try have dQ5 : _ < wq.heap.size := Nat.lt_of_lt_of_le dQ5 (by omega)); (try (have hnQ := Nat.lt_of_succ_le hz; first | (have _x := dQ0; first | (have _x := dQ1; first | (have _x := dQ2; first | (have _x := dQ3; first | (have _x := dQ4; have dQ5 := hnQ) | have dQ4 := hnQ) | have dQ3 := hnQ) | have dQ2 := hnQ) | have dQ1 := hnQ) | have dQ0 := hnQ)); (try (have hmQ := Nat.lt_of_succ_lt (Nat.lt_of_succ_le hz); first | (have _x := dQ0; first | (have _x := dQ1; first | (have _x := dQ2; first | (have _x := dQ3; first | (have _x := dQ4; have dQ5 := hmQ) | have dQ4 := hmQ) | have dQ3 := hmQ) | have dQ2 := hmQ) | have dQ1 := hmQ) | have dQ0 := hmQ))))
  go_ret
  exact ⟨by simp [lbits], by (repeat' first | (with_reducible exact Below.refl _ _) | (with_reducible refine Below.alloc ?_ ?_ _) | (with_reducible refine Below.drew ?_) | (with_reducible refine Below.setCell ?_ ?_ _) | (with_reducible refine below_via (by assumption) ?_ ?_) | go_size)⟩
end Go.Proofs.YtkaojpcpfbbicaaDoor
