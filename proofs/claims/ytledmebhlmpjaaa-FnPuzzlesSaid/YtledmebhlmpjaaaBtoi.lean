/- Btoi: contracts of btoi, and of at with its value. Conditions: the code's form. -/
import Derived.Test.YtledmebhlmpjaaaPzD
set_option linter.unusedVariables false
set_option linter.unusedSimpArgs false
namespace Go.Proofs.Ytledmebhlmpjaaa
open Go.ChangeShapes Go.WideShapes Go.ChangeAt Go.RowKit Peg Go.Sort
theorem btoi_any (x : Bool) (w : World) :
    Calls Try.prog 21 #[.bool x] w fun e w' => e = .returned (.int .i64 (if x = true then 1 else 0)) ∧ w = w' := by
  cases x
  · go_enter Try.func21, Try.ntmps21
    go_wp2_with fail
    go_ret
    exact ⟨rfl, rfl⟩
  · go_enter Try.func21, Try.ntmps21
    go_wp2_with fail
    go_ret
    exact ⟨rfl, rfl⟩
/-- the byte that a law draws at place k -/
def atOf (l : List Int) (k : Nat) : Int := if l.length = 0 then 0 else gD l 0 ((((k : Int) * 5 + 1) % (l.length : Int)).toNat)
theorem atOf_bd {l : List Int} (hok : ∀ y ∈ l, ByOk y) (k : Nat) : 0 ≤ atOf l k ∧ atOf l k ≤ 255 := by
  unfold atOf
  split
  · omega
  · have hr2 : (((k : Int) * 5 + 1) % (l.length : Int)).toNat < l.length := by have := Int.emod_lt_of_pos ((k : Int) * 5 + 1) (show (0 : Int) < (l.length : Int) by omega); omega
    have : gD l 0 ((((k : Int) * 5 + 1) % (l.length : Int)).toNat) ∈ l := by
      rw [gD, List.getD_eq_getElem?_getD, List.getElem?_eq_getElem hr2]
      exact List.getElem_mem hr2
    exact hok _ this
set_option maxRecDepth 100000 in
theorem at_val (v : Value) (l : List Int) (k : Nat) (hk : k ≤ 1000) (w : World) (hv : Rd EBy w v l) (hok : ∀ y ∈ l, ByOk y) :
    Calls Try.prog 24 #[v, .int .i64 k] w fun e w' => e = .returned (.int .i64 (atOf l k)) ∧ w = w' := by
  obtain ⟨a, cap, rfl, hn, hget⟩ := hv
  unfold atOf
  by_cases h0 : l.length = 0
  · rw [if_pos h0]
    go_enter Try.func24, Try.ntmps24
    rw [h0]
    go_wp2_with fail
    go_ret
    exact ⟨rfl, rfl⟩
  · rw [if_neg h0]
    have hl : (l.length : Int) ≠ 0 := by omega
    have hl0 : ((l.length : Int) == 0) = false := by rw [beq_eq_false_iff_ne]; omega
    obtain ⟨r, hr⟩ : ∃ r : Nat, ((k : Int) * 5 + 1) % (l.length : Int) = (r : Int) := ⟨(((k : Int) * 5 + 1) % (l.length : Int)).toNat, by have := Int.emod_nonneg ((k : Int) * 5 + 1) hl; omega⟩
    have hr2 : r < l.length := by have := Int.emod_lt_of_pos ((k : Int) * 5 + 1) (show (0 : Int) < (l.length : Int) by omega); omega
    obtain ⟨ad, rfl, hlt, hc⟩ := hget r hr2
    obtain ⟨x, hx⟩ : ∃ x, x = gD l 0 r := ⟨_, rfl⟩
    have hc2 : w.cell? (ad.add r) = some (.int .u8 x) := by
      have := hc 0 (by decide)
      rw [hx, gD, List.getD_eq_getElem?_getD, List.getElem?_eq_getElem hr2]
      simpa [EBy] using this
    have hxb := atOf_bd hok k
    unfold atOf at hxb
    rw [if_neg h0, hr, Int.toNat_natCast, ← hx] at hxb
    rw [hr, Int.toNat_natCast, ← hx]
    obtain ⟨x0, x1⟩ := hxb
    clear hget hc hx hok
    go_enter Try.func24, Try.ntmps24
    go_wp2_with ((with_reducible refine wp_region_qb ?_ ?_ (fun hq => ?_)); (focus kernel_rfl); (focus kernel_rfl); (repeat (go_big_quiet_step (fail))); refine wpQuiet_nil ?_; intro wq hb; obtain ⟨hc, hf, hz, hy⟩ := bcell hb; clear hq hy; (try simp only [World.size_alloc, World.size_setCell, World.size_drew] at hz); (try have gQ0 : w.heap.size < wq.heap.size := by omega); (try have gQ1 : w.heap.size + 1 < wq.heap.size := by omega); (try have gQ2 : w.heap.size + 1 + 1 < wq.heap.size := by omega); (try have gQ3 : w.heap.size + 1 + 1 + 1 < wq.heap.size := by omega); (try have gQ4 : w.heap.size + 1 + 1 + 1 + 1 < wq.heap.size := by omega); (try have gQ5 : w.heap.size + 1 + 1 + 1 + 1 + 1 < wq.heap.size := by omega); (try have dQ0 : _ < wq.heap.size := Nat.lt_of_lt_of_le dQ0 (by omega)); (try have dQ1 : _ < wq.heap.size := Nat.lt_of_lt_of_le dQ1 (by omega)); (try have dQ2 : _ < wq.heap.size := Nat.lt_of_lt_of_le dQ2 (by omega)); (try have dQ3 : _ < wq.heap.size := Nat.lt_of_lt_of_le dQ3 (by omega)); (try have dQ4 : _ < wq.heap.size := Nat.lt_of_lt_of_le dQ4 (by omega)); (try have dQ5 : _ < wq.heap.size := Nat.lt_of_lt_of_le dQ5 (by omega)); (try (have hnQ := Nat.lt_of_succ_le hz; first | (have _x := dQ0; first | (have _x := dQ1; first | (have _x := dQ2; first | (have _x := dQ3; first | (have _x := dQ4; have dQ5 := hnQ) | have dQ4 := hnQ) | have dQ3 := hnQ) | have dQ2 := hnQ) | have dQ1 := hnQ) | have dQ0 := hnQ)); (try (have hmQ := Nat.lt_of_succ_lt (Nat.lt_of_succ_le hz); first | (have _x := dQ0; first | (have _x := dQ1; first | (have _x := dQ2; first | (have _x := dQ3; first | (have _x := dQ4; have dQ5 := hmQ) | have dQ4 := hmQ) | have dQ3 := hmQ) | have dQ2 := hmQ) | have dQ1 := hmQ) | have dQ0 := hmQ)))
    go_ret
    exact ⟨rfl, rfl⟩
end Go.Proofs.Ytledmebhlmpjaaa
