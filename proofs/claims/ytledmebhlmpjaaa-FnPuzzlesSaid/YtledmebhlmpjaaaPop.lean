/- Pop: contracts of OnesCount64, OnesCount, pegsIn and the reference's CountPegs. Conditions: numbers in range. -/
import Derived.Test.YtledmebhlmpjaaaPop0
import Derived.Test.YtledmebhlmpjaaaSLines
set_option linter.unusedVariables false
set_option linter.unusedSimpArgs false
namespace Peg
open Go Go.RowKit
theorem u64_in {n : Int} (h0 : 0 ≤ n) (h : n < 18446744073709551616) : IntKind.u64.wrap n = n := by
  unfold IntKind.wrap
  simp [IntKind.signed, IntKind.bits]
  omega
theorem ofNat_u {a : Nat} (h : a < 18446744073709551616) : (BitVec.ofInt 64 (a : Int)).toNat = a := by
  rw [BitVec.toNat_ofInt]
  have e : ((2 ^ 64 : Nat) : Int) = 18446744073709551616 := by decide
  rw [e]
  omega
theorem bitsu {a b : Nat} (ha : a < 18446744073709551616) (hb : b < 18446744073709551616) : bits BinOp.and IntKind.u64 (a : Int) (b : Int) = ((a &&& b : Nat) : Int) := by
  show IntKind.u64.wrap (((BitVec.ofInt 64 (a : Int) &&& BitVec.ofInt 64 (b : Int)).toNat : Nat) : Int) = _
  rw [BitVec.toNat_and, ofNat_u ha, ofNat_u hb]
  have := @Nat.and_le_left a b
  exact u64_in (by omega) (by omega)
theorem sp1 {x : Nat} (h : x < 18446744073709551616) (h2 : pop1 x < 18446744073709551616) : IntKind.u64.wrap (bits BinOp.and IntKind.u64 ((x : Int) / 2) 6148914691236517205 + bits BinOp.and IntKind.u64 (x : Int) 6148914691236517205) = ((pop1 x : Nat) : Int) := by
  have e1 := bitsu (a := x / 2) (b := 6148914691236517205) (by omega) (by omega)
  have e2 := bitsu (a := x) (b := 6148914691236517205) h (by omega)
  simp only [Int.natCast_ediv, Int.cast_ofNat_Int] at e1 e2
  rw [e1, e2]
  exact u64_in (by omega) (by unfold pop1 at h2; omega)
theorem sp2 {x : Nat} (h : x < 18446744073709551616) (h2 : pop2 x < 18446744073709551616) : IntKind.u64.wrap (bits BinOp.and IntKind.u64 ((x : Int) / 4) 3689348814741910323 + bits BinOp.and IntKind.u64 (x : Int) 3689348814741910323) = ((pop2 x : Nat) : Int) := by
  have e1 := bitsu (a := x / 4) (b := 3689348814741910323) (by omega) (by omega)
  have e2 := bitsu (a := x) (b := 3689348814741910323) h (by omega)
  simp only [Int.natCast_ediv, Int.cast_ofNat_Int] at e1 e2
  rw [e1, e2]
  exact u64_in (by omega) (by unfold pop2 at h2; omega)
theorem sp3 {x : Nat} (h : x ≤ 4919131752989213764) : bits BinOp.and IntKind.u64 (IntKind.u64.wrap ((x : Int) / 16 + x)) 1085102592571150095 = ((pop3 x : Nat) : Int) := by
  rw [u64_in (by omega) (by omega)]
  have e1 := bitsu (a := x / 16 + x) (b := 1085102592571150095) (by omega) (by omega)
  simp only [Int.natCast_ediv, Int.natCast_add, Int.cast_ofNat_Int] at e1
  exact e1
theorem sp4 {x : Nat} (h : pop4 x ≤ 1157442765409226768) : IntKind.u64.wrap ((x : Int) + x / 256) = ((pop4 x : Nat) : Int) := by
  unfold pop4 at *
  rw [u64_in (by omega) (by omega)]; omega
theorem sp5 {x : Nat} (h : pop5 x ≤ 2314885530818453536) : IntKind.u64.wrap ((x : Int) + x / 65536) = ((pop5 x : Nat) : Int) := by
  unfold pop5 at *
  rw [u64_in (by omega) (by omega)]; omega
theorem sp6 {x : Nat} (h : pop6 x ≤ 4629771061636907072) : IntKind.u64.wrap ((x : Int) + x / 4294967296) = ((pop6 x : Nat) : Int) := by
  unfold pop6 at *
  rw [u64_in (by omega) (by omega)]; omega
theorem sp7 {x : Nat} (h : x ≤ 4629771061636907072) : bits BinOp.and IntKind.i64 (x : Int) 127 = ((x % 128 : Nat) : Int) := by
  rw [bits_and (by omega) (by omega) (by omega) (by omega)]
  unfold band
  rw [Int.toNat_natCast, show (127 : Int).toNat = 127 from rfl, Nat.and_two_pow_sub_one_eq_mod x 7]
theorem sp8 {x : Nat} (h : x ≤ 4629771061636907072) : wrap64 (x : Int) = x := IntWalk.wrap64_in _ (by omega)
theorem cnt_pegs {p : Int} (h0 : 0 ≤ p) (h : p < 562949953421312) : cnt p.toNat 64 = pegs p := by
  rw [pegs_eq]
  unfold cnt
  rw [show (64 : Nat) = 49 + 15 from rfl, List.range_add, List.countP_append]
  have : List.countP (fun i => p.toNat.testBit i) (List.map (49 + ·) (List.range 15)) = 0 := by
    rw [List.countP_eq_zero]
    intro i hi
    obtain ⟨j, _, rfl⟩ := List.mem_map.1 hi
    have e : p.toNat.testBit (49 + j) = false := by
      apply Nat.testBit_lt_two_pow
      have h1 : (2 : Nat) ^ 49 ≤ 2 ^ (49 + j) := Nat.pow_le_pow_right (by omega) (by omega)
      have h2 : (2 : Nat) ^ 49 = 562949953421312 := by decide
      omega
    simp [e]
  rw [this]
  rfl
end Peg
namespace Go.Proofs.Ytledmebhlmpjaaa
open Go.ChangeShapes Go.WideShapes Go.ChangeAt Go.RowKit Peg Go.Sort
set_option maxHeartbeats 1000000 in
set_option maxRecDepth 100000 in
theorem OnesCount64_any (x : Nat) (hx : x < 18446744073709551616) (w : World) :
    Calls Try.prog 94 #[.int .u64 x] w fun e w' => e = .returned (.int .i64 (cnt x 64 : Nat)) ∧ w = w' := by
  obtain ⟨h1, h2, h3, h4, h5, h6⟩ := pop_law hx
  have HP : Hid (cnt x 64 = pop6 (pop5 (pop4 (pop3 (pop2 (pop1 x))))) % 128) := h6.symm
  clear h6
  go_enter Try.func94, Try.ntmps94
  go_wp2_with fail
  go_ret
  refine ⟨?_, rfl⟩
  rw [HP.out]
  simp only [sp1 hx h1, sp2 h1 (Nat.lt_of_le_of_lt h2 (by decide)), sp3 h2, sp4 h3, sp5 h4, sp6 h5, sp8 h5, sp7 h5]
  rfl
theorem OnesCount_any (x : Nat) (hx : x < 18446744073709551616) (w : World) :
    Calls Try.prog 76 #[.int .u64 x] w fun e w' => e = .returned (.int .i64 (cnt x 64 : Nat)) ∧ w = w' := by
  have hu : IntKind.u64.wrap (x : Int) = x := u64_in (by omega) (by omega)
  have H := Lib.hid (OnesCount64_any x hx)
  go_enter Try.func76, Try.ntmps76
  go_wp2_with (go_at_call 94; (try rw [hu]); refine (H.out _).mono ?_; rintro e w' ⟨rfl, rfl⟩)
  go_ret
  exact ⟨rfl, rfl⟩
theorem pegsIn_any (p : Int) (h0 : 0 ≤ p) (h1 : p < 562949953421312) (w : World) :
    Calls Try.prog 41 #[.int .i64 p] w fun e w' => e = .returned (.int .i64 (pegs p : Nat)) ∧ w = w' := by
  obtain ⟨x, rfl⟩ := Int.eq_ofNat_of_zero_le h0
  have hu : IntKind.u64.wrap (x : Int) = x := u64_in (by omega) (by omega)
  have H := Lib.hid (OnesCount_any x (by omega))
  have HC : Hid (cnt x 64 = pegs (x : Int)) := cnt_pegs h0 h1
  go_enter Try.func41, Try.ntmps41
  go_wp2_with (go_at_call 76; (try rw [hu]); refine (H.out _).mono ?_; rintro e w' ⟨rfl, rfl⟩)
  go_ret
  exact ⟨by rw [HC.out]; rfl, rfl⟩
theorem sCountPegs_any (a b o p : Int) (hp : p ≤ 9223372036854775807) (w : World) :
    Calls Try.prog 78 #[.agg #[.int .i64 a, .int .i64 b, .int .i64 o], .int .i64 p] w fun e w' => e = .returned (.int .i64 (if posOk a b o p = true then (pegs p : Int) else -1)) ∧ Below w.heap.size w w' := by
  cases hpo : posOk a b o p
  · have H2 : Hid (∀ W, Calls Try.prog 53 #[.agg #[.int .i64 a, .int .i64 b, .int .i64 o], .int .i64 p] W fun e w' => e = .returned (.bool (posOk a b o p)) ∧ Below W.heap.size W w') := fun W => sPositionOk_any a b o p hp W
    rw [hpo] at H2
    clear hpo
    go_enter Try.func78, Try.ntmps78
    go_wp2_with (first | (go_at_call 53; refine (H2.out _).mono ?_; rintro e w' ⟨rfl, hb⟩; obtain ⟨hc, hf, hz, hy⟩ := bcell hb; clear hy; (try simp only [World.size_alloc, World.size_setCell, World.size_drew] at hz); (try have gQ0 : w.heap.size < w'.heap.size := by omega); (try have gQ1 : w.heap.size + 1 < w'.heap.size := by omega); (try have gQ2 : w.heap.size + 1 + 1 < w'.heap.size := by omega); (try have gQ3 : w.heap.size + 1 + 1 + 1 < w'.heap.size := by omega); (try have gQ4 : w.heap.size + 1 + 1 + 1 + 1 < w'.heap.size := by omega); (try have gQ5 : w.heap.size + 1 + 1 + 1 + 1 + 1 < w'.heap.size := by omega); (try have dQ0 : _ < w'.heap.size := Nat.lt_of_lt_of_le dQ0 (by omega)); (try have dQ1 : _ < w'.heap.size := Nat.lt_of_lt_of_le dQ1 (by omega)); (try have dQ2 : _ < w'.heap.size := Nat.lt_of_lt_of_le dQ2 (by omega)); (try have dQ3 : _ < w'.heap.size := Nat.lt_of_lt_of_le dQ3 (by omega)); (try have dQ4 : _ < w'.heap.size := Nat.lt_of_lt_of_le dQ4 (by omega)); (try have dQ5 : _ < w'.heap.size := Nat.lt_of_lt_of_le dQ5 (by omega)); (try (have hnQ := Nat.lt_of_succ_le hz; first | (have _x := dQ0; first | (have _x := dQ1; first | (have _x := dQ2; first | (have _x := dQ3; first | (have _x := dQ4; have dQ5 := hnQ) | have dQ4 := hnQ) | have dQ3 := hnQ) | have dQ2 := hnQ) | have dQ1 := hnQ) | have dQ0 := hnQ)); (try (have hmQ := Nat.lt_of_succ_lt (Nat.lt_of_succ_le hz); first | (have _x := dQ0; first | (have _x := dQ1; first | (have _x := dQ2; first | (have _x := dQ3; first | (have _x := dQ4; have dQ5 := hmQ) | have dQ4 := hmQ) | have dQ3 := hmQ) | have dQ2 := hmQ) | have dQ1 := hmQ) | have dQ0 := hmQ))) | ((with_reducible refine wp_region_qb ?_ ?_ (fun hq => ?_)); (focus kernel_rfl); (focus kernel_rfl); (repeat (go_big_quiet_step ((first | (go_at_call 53; exact Calls.regrown_of (H2.out _)))))); refine wpQuiet_nil ?_; intro wq hb; obtain ⟨hc, hf, hz, hy⟩ := bcell hb; clear hq hy; (try simp only [World.size_alloc, World.size_setCell, World.size_drew] at hz); (try have gQ0 : w.heap.size < wq.heap.size := by omega); (try have gQ1 : w.heap.size + 1 < wq.heap.size := by omega); (try have gQ2 : w.heap.size + 1 + 1 < wq.heap.size := by omega); (try have gQ3 : w.heap.size + 1 + 1 + 1 < wq.heap.size := by omega); (try have gQ4 : w.heap.size + 1 + 1 + 1 + 1 < wq.heap.size := by omega); (try have gQ5 : w.heap.size + 1 + 1 + 1 + 1 + 1 < wq.heap.size := by omega); (try have dQ0 : _ < wq.heap.size := Nat.lt_of_lt_of_le dQ0 (by omega)); (try have dQ1 : _ < wq.heap.size := Nat.lt_of_lt_of_le dQ1 (by omega)); (try have dQ2 : _ < wq.heap.size := Nat.lt_of_lt_of_le dQ2 (by omega)); (try have dQ3 : _ < wq.heap.size := Nat.lt_of_lt_of_le dQ3 (by omega)); (try have dQ4 : _ < wq.heap.size := Nat.lt_of_lt_of_le dQ4 (by omega)); (try have dQ5 : _ < wq.heap.size := Nat.lt_of_lt_of_le dQ5 (by omega)); (try (have hnQ := Nat.lt_of_succ_le hz; first | (have _x := dQ0; first | (have _x := dQ1; first | (have _x := dQ2; first | (have _x := dQ3; first | (have _x := dQ4; have dQ5 := hnQ) | have dQ4 := hnQ) | have dQ3 := hnQ) | have dQ2 := hnQ) | have dQ1 := hnQ) | have dQ0 := hnQ)); (try (have hmQ := Nat.lt_of_succ_lt (Nat.lt_of_succ_le hz); first | (have _x := dQ0; first | (have _x := dQ1; first | (have _x := dQ2; first | (have _x := dQ3; first | (have _x := dQ4; have dQ5 := hmQ) | have dQ4 := hmQ) | have dQ3 := hmQ) | have dQ2 := hmQ) | have dQ1 := hmQ) | have dQ0 := hmQ))))
    all_goals go_ret
    all_goals exact ⟨by simp, by (repeat' first | (with_reducible exact Below.refl _ _) | (with_reducible refine Below.alloc ?_ ?_ _) | (with_reducible refine Below.drew ?_) | (with_reducible refine Below.setCell ?_ ?_ _) | (with_reducible refine below_via (by assumption) ?_ ?_) | go_size)⟩
  · have H2 : Hid (∀ W, Calls Try.prog 53 #[.agg #[.int .i64 a, .int .i64 b, .int .i64 o], .int .i64 p] W fun e w' => e = .returned (.bool (posOk a b o p)) ∧ Below W.heap.size W w') := fun W => sPositionOk_any a b o p hp W
    rw [hpo] at H2
    have hpb := pos_lt hpo
    clear hpo
    go_enter Try.func78, Try.ntmps78
    go_wp2_with (go_at_call 53; refine (H2.out _).mono ?_; rintro e w' ⟨rfl, hb⟩; obtain ⟨hc, hf, hz, hy⟩ := bcell hb; clear hy; (try simp only [World.size_alloc, World.size_setCell, World.size_drew] at hz); (try have gQ0 : w.heap.size < w'.heap.size := by omega); (try have gQ1 : w.heap.size + 1 < w'.heap.size := by omega); (try have gQ2 : w.heap.size + 1 + 1 < w'.heap.size := by omega); (try have gQ3 : w.heap.size + 1 + 1 + 1 < w'.heap.size := by omega); (try have gQ4 : w.heap.size + 1 + 1 + 1 + 1 < w'.heap.size := by omega); (try have gQ5 : w.heap.size + 1 + 1 + 1 + 1 + 1 < w'.heap.size := by omega); (try have dQ0 : _ < w'.heap.size := Nat.lt_of_lt_of_le dQ0 (by omega)); (try have dQ1 : _ < w'.heap.size := Nat.lt_of_lt_of_le dQ1 (by omega)); (try have dQ2 : _ < w'.heap.size := Nat.lt_of_lt_of_le dQ2 (by omega)); (try have dQ3 : _ < w'.heap.size := Nat.lt_of_lt_of_le dQ3 (by omega)); (try have dQ4 : _ < w'.heap.size := Nat.lt_of_lt_of_le dQ4 (by omega)); (try have dQ5 : _ < w'.heap.size := Nat.lt_of_lt_of_le dQ5 (by omega)); (try (have hnQ := Nat.lt_of_succ_le hz; first | (have _x := dQ0; first | (have _x := dQ1; first | (have _x := dQ2; first | (have _x := dQ3; first | (have _x := dQ4; have dQ5 := hnQ) | have dQ4 := hnQ) | have dQ3 := hnQ) | have dQ2 := hnQ) | have dQ1 := hnQ) | have dQ0 := hnQ)); (try (have hmQ := Nat.lt_of_succ_lt (Nat.lt_of_succ_le hz); first | (have _x := dQ0; first | (have _x := dQ1; first | (have _x := dQ2; first | (have _x := dQ3; first | (have _x := dQ4; have dQ5 := hmQ) | have dQ4 := hmQ) | have dQ3 := hmQ) | have dQ2 := hmQ) | have dQ1 := hmQ) | have dQ0 := hmQ)))
    refine (l02List_any p hpb.1 (by omega) _).mono ?_
    rintro e w' ⟨v, rfl, ho, hb⟩
    obtain ⟨al, cl, rfl, _, _⟩ := ho.int
    have HL : Hid ((holesTo p 49).length = pegs p) := rfl
    have HB := Lib.hid (show Below w.heap.size w w' by (repeat' first | (with_reducible exact Below.refl _ _) | (with_reducible refine Below.alloc ?_ ?_ _) | (with_reducible refine Below.drew ?_) | (with_reducible refine Below.setCell ?_ ?_ _) | (with_reducible refine below_via (by assumption) ?_ ?_) | go_size))
    clear ho hb
    go_wp2_with fail
    go_ret
    exact ⟨by simp [HL.out], HB.out⟩
end Go.Proofs.Ytledmebhlmpjaaa
