/- EntOk: contracts of EntrantsOk and the reference's. Conditions: none but the slice's form. -/
import Derived.Test.YtfpofhkggojaoaaArgE
import Derived.Test.YtfpofhkggojaoaaEnt0
set_option linter.unusedVariables false
set_option linter.unusedSimpArgs false
namespace Peg
def entOk1 (f e : Ent) : Bool := inR e.n 1 999 && inR e.rs.length 1 5 && (e.rs.length == f.rs.length) && e.rs.all okR
def newNum (es : List Ent) (i : Nat) : Bool := (es.take i).all (fun f => f.n != (gD es Ent0 i).n)
def entAt (es : List Ent) (i : Nat) : Bool := entOk1 (gD es Ent0 0) (gD es Ent0 i) && newNum es i
def entsOk (es : List Ent) : Bool := inR es.length 1 12 && (List.range es.length).all (entAt es)
def entAt2 (es : List Ent) (i : Nat) : Bool := inR (gD es Ent0 i).n 1 999 && ((gD es Ent0 i).rs.length == (gD es Ent0 0).rs.length) && newNum es i && (gD es Ent0 i).rs.all okR
theorem range_yes {P : Nat → Bool} {k : Nat} (h : (List.range k).all P = true) (h1 : P k = true) : (List.range (k + 1)).all P = true := by
  rw [List.range_succ, List.all_append, h]; simp [h1]
theorem range_no {P : Nat → Bool} {k n : Nat} (h : k < n) (h1 : P k = false) : (List.range n).all P = false := by
  rw [List.all_eq_false]
  exact ⟨k, List.mem_range.2 h, by simp [h1]⟩
theorem entAt_2 {es : List Ent} {i : Nat} : entAt es i = (entAt2 es i && inR (gD es Ent0 i).rs.length 1 5) := by
  simp only [entAt, entOk1, entAt2]
  generalize inR (gD es Ent0 i).n 1 999 = a
  generalize inR ((gD es Ent0 i).rs.length : Int) 1 5 = b
  generalize ((gD es Ent0 i).rs.length == (gD es Ent0 0).rs.length) = c
  generalize (gD es Ent0 i).rs.all okR = d
  generalize newNum es i = f
  cases a <;> cases b <;> cases c <;> cases d <;> cases f <;> rfl
theorem entsOk_no {es : List Ent} {i : Nat} (hi : i < es.length) (h : entAt2 es i = false) : entsOk es = false := by
  simp only [entsOk]
  rw [range_no hi (by rw [entAt_2, h]; rfl)]
  simp
theorem entsOk_end {es : List Ent} (h0 : inR es.length 1 12 = true) (h : (List.range es.length).all (entAt2 es) = true) : entsOk es = inR ((gD es Ent0 0).rs.length : Int) 1 5 := by
  have hn := inR_iff.1 h0
  have hall : ∀ i, i < es.length → entAt2 es i = true := by
    intro i hi
    exact List.all_eq_true.1 h i (List.mem_range.2 hi)
  have hlen : ∀ i, i < es.length → (gD es Ent0 i).rs.length = (gD es Ent0 0).rs.length := by
    intro i hi
    have := hall i hi
    simp [entAt2] at this
    exact this.1.1.2
  simp only [entsOk, h0, Bool.true_and]
  cases hf : inR ((gD es Ent0 0).rs.length : Int) 1 5
  · refine range_no (k := 0) (by omega) ?_
    rw [entAt_2, hf]; simp
  · rw [List.all_eq_true]
    intro i hi
    have hi' := List.mem_range.1 hi
    rw [entAt_2, hall i hi', hlen i hi', hf]; rfl
end Peg
namespace Go.Proofs.Ytfpofhkggojaoaa
open Go.ChangeShapes Go.WideShapes Go.ChangeAt Go.RowKit Peg Go.Sort
set_option maxHeartbeats 1000000 in
set_option maxRecDepth 100000 in
theorem EntrantsOk_any (v : Value) (es : List Ent) (w : World) {B : Nat} (hv : OwnEnts w B v es) :
    Calls Try.prog 54 #[v] w fun e w' => e = .returned (.bool (entsOk es)) ∧ Below w.heap.size w w' := by
  obtain ⟨a, cap, rfl, hcap, hm, hget⟩ := hv.get
  have HG := Lib.hid hget
  clear hget hv
  have HN : Hid (∀ W, Calls Try.prog 125 #[.int .i64 (es.length : Int), .int .i64 1, .int .i64 12] W fun e w' => e = .returned (.bool (inR es.length 1 12)) ∧ W = w') := fun W => within_any _ 1 12 W
  cases h12 : inR es.length 1 12
  · have HE : Hid (entsOk es = false) := by show _ = _; simp [entsOk, h12]
    rw [h12] at HN
    clear h12
    go_enter Try.func54, Try.ntmps54
    go_wp2_with (go_at_call 125; (with_reducible refine (HN.out _).mono ?_); rintro e w' ⟨rfl, rfl⟩)
    go_ret
    exact ⟨by simp [HE.out], Below.refl _ _⟩
  rw [h12] at HN
  have hn := inR_iff.1 h12
  have HF : Hid (entsOk es = (List.range es.length).all (entAt es)) := by show _ = _; simp [entsOk, h12]
  clear h12
  go_enter Try.func54, Try.ntmps54
  go_wp2_with (go_at_call 125; (with_reducible refine (HN.out _).mono ?_); rintro e w' ⟨rfl, rfl⟩)
  go_loopw [15] (fun i wr => ∃ k : Nat, k ≤ es.length ∧ i = .int .i64 k ∧ Hid ((List.range k).all (entAt es) = true) ∧ Below w.heap.size w wr) (fun i _ => es.length - (intOf i).toNat)
  case atStart => exact ⟨0, by omega, rfl, by show _ = _; simp, Below.refl _ _⟩
  case round =>
    obtain ⟨k, hk, rfl, hall, hbw⟩ := hrel
    obtain ⟨wo, rfl⟩ : ∃ wo : World, wo = wr := ⟨_, rfl⟩
    have hz := hbw.size
    by_cases hlt : k < es.length
    rotate_left
    · obtain rfl : k = es.length := by omega
      have HE : Hid (entsOk es = true) := by show _ = _; rw [HF.out, hall.out]
      go_wp2_with fail
      go_ret
      exact ⟨by simp [HE.out], hbw⟩
    have HNO : Hid (entAt es k = false → entsOk es = false) := fun h => by rw [HF.out]; exact range_no hlt h
    have HYE : Hid (entAt es k = true → (List.range (k + 1)).all (entAt es) = true) := fun h => range_yes hall.out h
    have HAT : Hid (entAt es k = (entOk1 (gD es Ent0 0) (gD es Ent0 k) && newNum es k)) := rfl
    obtain ⟨b1, p1, q1, rfl, hb1, hc0, hc1, ho1⟩ := HG.out k hlt
    obtain ⟨b1', p2, q2, e1, _, _, hd1, _⟩ := HG.out 0 (by omega)
    obtain rfl : b1 = b1' := by simpa using e1
    clear e1
    simp only [Nat.zero_mul, Nat.zero_add] at hd1
    rw [← hbw.cell (by simpa using hb1)] at hc0 hc1 hd1
    have gW := Nat.lt_of_lt_of_le hb1 hz
    have HO1 := Lib.hid ho1
    clear ho1
    have HE1 : Hid (entOk1 (gD es Ent0 0) (gD es Ent0 k) = (inR (gD es Ent0 k).n 1 999 && inR (gD es Ent0 k).rs.length 1 5 && ((gD es Ent0 k).rs.length == (gD es Ent0 0).rs.length) && (gD es Ent0 k).rs.all okR)) := rfl
    have HNN : Hid (newNum es k = (es.take k).all (fun f => f.n != (gD es Ent0 k).n)) := rfl
    generalize entOk1 (gD es Ent0 0) (gD es Ent0 k) = E1 at *
    generalize gD es Ent0 k = e at *
    generalize gD es Ent0 0 = f at *
    have HA : Hid (∀ W, Calls Try.prog 125 #[.int .i64 e.n, .int .i64 1, .int .i64 999] W fun en w' => en = .returned (.bool (inR e.n 1 999)) ∧ W = w') := fun W => within_any _ 1 999 W
    have HB : Hid (∀ W, Calls Try.prog 125 #[.int .i64 (e.rs.length : Int), .int .i64 1, .int .i64 5] W fun en w' => en = .returned (.bool (inR e.rs.length 1 5)) ∧ W = w') := fun W => within_any _ 1 5 W
    cases c1 : inR e.n 1 999
    · have HE : Hid (entsOk es = false) := HNO.out (by rw [HAT.out, HE1.out, c1]; rfl)
      rw [c1] at HA
      clear c1
      go_wp2_with ((with_reducible refine wp_region_qb ?_ ?_ (fun hq => ?_)); (focus kernel_rfl); (focus kernel_rfl); (repeat (go_big_quiet_step ((go_at_call 125; (with_reducible exact calls_qp (HA.out _)))))); refine wpQuiet_nil ?_; intro wq hb; obtain ⟨hc, hf, hz, hy⟩ := bcell hb; clear hq hy; (try simp only [World.size_alloc, World.size_setCell, World.size_drew] at hz); (try have gQ0 : w.heap.size < wq.heap.size := by omega); (try have gQ1 : w.heap.size + 1 < wq.heap.size := by omega); (try have gQ2 : w.heap.size + 1 + 1 < wq.heap.size := by omega); (try have gQ3 : w.heap.size + 1 + 1 + 1 < wq.heap.size := by omega); (try have gQ4 : w.heap.size + 1 + 1 + 1 + 1 < wq.heap.size := by omega); (try have gQ5 : w.heap.size + 1 + 1 + 1 + 1 + 1 < wq.heap.size := by omega); (try have dQ0 : _ < wq.heap.size := Nat.lt_of_lt_of_le dQ0 (by omega)); (try have dQ1 : _ < wq.heap.size := Nat.lt_of_lt_of_le dQ1 (by omega)); (try have dQ2 : _ < wq.heap.size := Nat.lt_of_lt_of_le dQ2 (by omega)); (try have dQ3 : _ < wq.heap.size := Nat.lt_of_lt_of_le dQ3 (by omega)); (try have dQ4 : _ < wq.heap.size := Nat.lt_of_lt_of_le dQ4 (by omega)); (try have dQ5 : _ < wq.heap.size := Nat.lt_of_lt_of_le dQ5 (by omega)); (try (have hnQ := Nat.lt_of_succ_le hz; first | (have _x := dQ0; first | (have _x := dQ1; first | (have _x := dQ2; first | (have _x := dQ3; first | (have _x := dQ4; have dQ5 := hnQ) | have dQ4 := hnQ) | have dQ3 := hnQ) | have dQ2 := hnQ) | have dQ1 := hnQ) | have dQ0 := hnQ)); (try (have hmQ := Nat.lt_of_succ_lt (Nat.lt_of_succ_le hz); first | (have _x := dQ0; first | (have _x := dQ1; first | (have _x := dQ2; first | (have _x := dQ3; first | (have _x := dQ4; have dQ5 := hmQ) | have dQ4 := hmQ) | have dQ3 := hmQ) | have dQ2 := hmQ) | have dQ1 := hmQ) | have dQ0 := hmQ)))
      go_ret
      exact ⟨by simp [HE.out], by (repeat' first | (with_reducible exact Below.refl _ _) | (with_reducible refine Below.alloc ?_ ?_ _) | (with_reducible refine Below.drew ?_) | (with_reducible refine Below.setCell ?_ ?_ _) | (with_reducible refine below_via (by assumption) ?_ ?_) | go_size)⟩
    rw [c1] at HA
    cases c2 : inR (e.rs.length : Int) 1 5
    · have HE : Hid (entsOk es = false) := HNO.out (by rw [HAT.out, HE1.out, c1, c2]; rfl)
      rw [c2] at HB
      clear c1 c2
      go_wp2_with ((with_reducible refine wp_region_qb ?_ ?_ (fun hq => ?_)); (focus kernel_rfl); (focus kernel_rfl); (repeat (go_big_quiet_step ((go_at_call 125; (first | (with_reducible exact calls_qp (HA.out _)) | (with_reducible exact calls_qp (HB.out _))))))); refine wpQuiet_nil ?_; intro wq hb; obtain ⟨hc, hf, hz, hy⟩ := bcell hb; clear hq hy; (try simp only [World.size_alloc, World.size_setCell, World.size_drew] at hz); (try have gQ0 : w.heap.size < wq.heap.size := by omega); (try have gQ1 : w.heap.size + 1 < wq.heap.size := by omega); (try have gQ2 : w.heap.size + 1 + 1 < wq.heap.size := by omega); (try have gQ3 : w.heap.size + 1 + 1 + 1 < wq.heap.size := by omega); (try have gQ4 : w.heap.size + 1 + 1 + 1 + 1 < wq.heap.size := by omega); (try have gQ5 : w.heap.size + 1 + 1 + 1 + 1 + 1 < wq.heap.size := by omega); (try have dQ0 : _ < wq.heap.size := Nat.lt_of_lt_of_le dQ0 (by omega)); (try have dQ1 : _ < wq.heap.size := Nat.lt_of_lt_of_le dQ1 (by omega)); (try have dQ2 : _ < wq.heap.size := Nat.lt_of_lt_of_le dQ2 (by omega)); (try have dQ3 : _ < wq.heap.size := Nat.lt_of_lt_of_le dQ3 (by omega)); (try have dQ4 : _ < wq.heap.size := Nat.lt_of_lt_of_le dQ4 (by omega)); (try have dQ5 : _ < wq.heap.size := Nat.lt_of_lt_of_le dQ5 (by omega)); (try (have hnQ := Nat.lt_of_succ_le hz; first | (have _x := dQ0; first | (have _x := dQ1; first | (have _x := dQ2; first | (have _x := dQ3; first | (have _x := dQ4; have dQ5 := hnQ) | have dQ4 := hnQ) | have dQ3 := hnQ) | have dQ2 := hnQ) | have dQ1 := hnQ) | have dQ0 := hnQ)); (try (have hmQ := Nat.lt_of_succ_lt (Nat.lt_of_succ_le hz); first | (have _x := dQ0; first | (have _x := dQ1; first | (have _x := dQ2; first | (have _x := dQ3; first | (have _x := dQ4; have dQ5 := hmQ) | have dQ4 := hmQ) | have dQ3 := hmQ) | have dQ2 := hmQ) | have dQ1 := hmQ) | have dQ0 := hmQ)))
      go_ret
      exact ⟨by simp [HE.out], by (repeat' first | (with_reducible exact Below.refl _ _) | (with_reducible refine Below.alloc ?_ ?_ _) | (with_reducible refine Below.drew ?_) | (with_reducible refine Below.setCell ?_ ?_ _) | (with_reducible refine below_via (by assumption) ?_ ?_) | go_size)⟩
    rw [c2] at HB
    cases c3 : (e.rs.length == f.rs.length)
    · have HE : Hid (entsOk es = false) := HNO.out (by rw [HAT.out, HE1.out, c1, c2, c3]; rfl)
      have c3' : ((e.rs.length : Int) != (f.rs.length : Int)) = true := by
        simp at c3 ⊢; omega
      clear c1 c2 c3
      go_wp2_with ((with_reducible refine wp_region_qb ?_ ?_ (fun hq => ?_)); (focus kernel_rfl); (focus kernel_rfl); (repeat (go_big_quiet_step ((go_at_call 125; (first | (with_reducible exact calls_qp (HA.out _)) | (with_reducible exact calls_qp (HB.out _))))))); refine wpQuiet_nil ?_; intro wq hb; obtain ⟨hc, hf, hz, hy⟩ := bcell hb; clear hq hy; (try simp only [World.size_alloc, World.size_setCell, World.size_drew] at hz); (try have gQ0 : w.heap.size < wq.heap.size := by omega); (try have gQ1 : w.heap.size + 1 < wq.heap.size := by omega); (try have gQ2 : w.heap.size + 1 + 1 < wq.heap.size := by omega); (try have gQ3 : w.heap.size + 1 + 1 + 1 < wq.heap.size := by omega); (try have gQ4 : w.heap.size + 1 + 1 + 1 + 1 < wq.heap.size := by omega); (try have gQ5 : w.heap.size + 1 + 1 + 1 + 1 + 1 < wq.heap.size := by omega); (try have dQ0 : _ < wq.heap.size := Nat.lt_of_lt_of_le dQ0 (by omega)); (try have dQ1 : _ < wq.heap.size := Nat.lt_of_lt_of_le dQ1 (by omega)); (try have dQ2 : _ < wq.heap.size := Nat.lt_of_lt_of_le dQ2 (by omega)); (try have dQ3 : _ < wq.heap.size := Nat.lt_of_lt_of_le dQ3 (by omega)); (try have dQ4 : _ < wq.heap.size := Nat.lt_of_lt_of_le dQ4 (by omega)); (try have dQ5 : _ < wq.heap.size := Nat.lt_of_lt_of_le dQ5 (by omega)); (try (have hnQ := Nat.lt_of_succ_le hz; first | (have _x := dQ0; first | (have _x := dQ1; first | (have _x := dQ2; first | (have _x := dQ3; first | (have _x := dQ4; have dQ5 := hnQ) | have dQ4 := hnQ) | have dQ3 := hnQ) | have dQ2 := hnQ) | have dQ1 := hnQ) | have dQ0 := hnQ)); (try (have hmQ := Nat.lt_of_succ_lt (Nat.lt_of_succ_le hz); first | (have _x := dQ0; first | (have _x := dQ1; first | (have _x := dQ2; first | (have _x := dQ3; first | (have _x := dQ4; have dQ5 := hmQ) | have dQ4 := hmQ) | have dQ3 := hmQ) | have dQ2 := hmQ) | have dQ1 := hmQ) | have dQ0 := hmQ)))
      go_ret
      exact ⟨by simp [HE.out], by (repeat' first | (with_reducible exact Below.refl _ _) | (with_reducible refine Below.alloc ?_ ?_ _) | (with_reducible refine Below.drew ?_) | (with_reducible refine Below.setCell ?_ ?_ _) | (with_reducible refine below_via (by assumption) ?_ ?_) | go_size)⟩
    have c3' : ((e.rs.length : Int) != (f.rs.length : Int)) = false := by
      simp at c3 ⊢; omega
    have HE2 : Hid (E1 = e.rs.all okR) := by show _ = _; rw [HE1.out, c1, c2, c3]; rfl
    clear c1 c2 c3
    go_wp2_with ((with_reducible refine wp_region_qb ?_ ?_ (fun hq => ?_)); (focus kernel_rfl); (focus kernel_rfl); (repeat (go_big_quiet_step ((go_at_call 125; (first | (with_reducible exact calls_qp (HA.out _)) | (with_reducible exact calls_qp (HB.out _))))))); refine wpQuiet_nil ?_; intro wq hb; obtain ⟨hc, hf, hz, hy⟩ := bcell hb; clear hq hy; (try simp only [World.size_alloc, World.size_setCell, World.size_drew] at hz); (try have gQ0 : w.heap.size < wq.heap.size := by omega); (try have gQ1 : w.heap.size + 1 < wq.heap.size := by omega); (try have gQ2 : w.heap.size + 1 + 1 < wq.heap.size := by omega); (try have gQ3 : w.heap.size + 1 + 1 + 1 < wq.heap.size := by omega); (try have gQ4 : w.heap.size + 1 + 1 + 1 + 1 < wq.heap.size := by omega); (try have gQ5 : w.heap.size + 1 + 1 + 1 + 1 + 1 < wq.heap.size := by omega); (try have dQ0 : _ < wq.heap.size := Nat.lt_of_lt_of_le dQ0 (by omega)); (try have dQ1 : _ < wq.heap.size := Nat.lt_of_lt_of_le dQ1 (by omega)); (try have dQ2 : _ < wq.heap.size := Nat.lt_of_lt_of_le dQ2 (by omega)); (try have dQ3 : _ < wq.heap.size := Nat.lt_of_lt_of_le dQ3 (by omega)); (try have dQ4 : _ < wq.heap.size := Nat.lt_of_lt_of_le dQ4 (by omega)); (try have dQ5 : _ < wq.heap.size := Nat.lt_of_lt_of_le dQ5 (by omega)); (try (have hnQ := Nat.lt_of_succ_le hz; first | (have _x := dQ0; first | (have _x := dQ1; first | (have _x := dQ2; first | (have _x := dQ3; first | (have _x := dQ4; have dQ5 := hnQ) | have dQ4 := hnQ) | have dQ3 := hnQ) | have dQ2 := hnQ) | have dQ1 := hnQ) | have dQ0 := hnQ)); (try (have hmQ := Nat.lt_of_succ_lt (Nat.lt_of_succ_le hz); first | (have _x := dQ0; first | (have _x := dQ1; first | (have _x := dQ2; first | (have _x := dQ3; first | (have _x := dQ4; have dQ5 := hmQ) | have dQ4 := hmQ) | have dQ3 := hmQ) | have dQ2 := hmQ) | have dQ1 := hmQ) | have dQ0 := hmQ)); have HB4 := Lib.hid hb; have hbox4 : (∀ j, wq.cell? ⟨wo.heap.size, j, none⟩ = #[Value.int .i64 e.n, .slice p1 e.rs.length q1][j]?) := (fun j => (hb.cell (by simp)).trans (by simp)))
    obtain ⟨w4, rfl⟩ : ∃ w4 : World, w4 = wq := ⟨_, rfl⟩
    have hz4 : wo.heap.size < w4.heap.size := by have := HB4.out.size; simp at this; omega
    have HW4 := Lib.hid (show Below w.heap.size w w4 from (hbw.alloc hbw.size _).trans (HB4.out.mono (by simp; omega)))
    have HO4 := Lib.hid (HO1.out.keep HW4.out)
    obtain ⟨_, _, hv4, hlm, hget4⟩ := HO4.out.resultG
    obtain ⟨rfl, rfl⟩ : _ = p1 ∧ _ = q1 := by simpa [eq_comm] using hv4
    have HG4 := Lib.hid hget4
    clear hget4 hv4 hc hf hb
    go_wp2_with fail
    go_loopw [45] (fun i wr => ∃ j : Nat, j ≤ e.rs.length ∧ i = .int .i64 j ∧ Hid ((e.rs.take j).all okR = true) ∧ Below w4.heap.size w4 wr) (fun i _ => e.rs.length - (intOf i).toNat)
    case atStart => exact ⟨0, by omega, rfl, by show _ = _; simp, Below.refl _ _⟩
    case round =>
      obtain ⟨j, hj, rfl, hallr, hbw5⟩ := hrel
      have hz5 := hbw5.size
      by_cases hjt : j < e.rs.length
      · obtain ⟨b4, rfl, _, hb4, hr0, hr1, hr2, hr3⟩ := HG4.out j hjt
        rw [← hbw5.cell (by simpa using hb4)] at hr0 hr1 hr2 hr3
        have gX := Nat.lt_of_lt_of_le hb4 hz5
        have HO : Hid (∀ W, Calls Try.prog 38 #[.agg #[.int .i64 (gD e.rs Rs0 j).l, .bool (gD e.rs Rs0 j).c, .int .i64 (gD e.rs Rs0 j).s, .int .i64 (gD e.rs Rs0 j).t]] W fun en w' => en = .returned (.bool (okR (gD e.rs Rs0 j))) ∧ Below W.heap.size W w') := fun W => ResultOk_any _ _ _ _ W
        cases hok : okR (gD e.rs Rs0 j)
        · have HE : Hid (entsOk es = false) := HNO.out (by rw [HAT.out, HE2.out, all_take_no hjt hok]; rfl)
          rw [hok] at HO
          clear hok
          generalize gD e.rs Rs0 j = r at *
          go_wp2_with (go_at_call 38; refine (HO.out _).mono ?_; rintro e' w' ⟨rfl, hb⟩; have HB6 := Lib.hid (below_via hb (hbw5.alloc (by omega) _) (by simp; omega)))
          go_ret
          exact ⟨by simp [HE.out], HW4.out.trans (HB6.out.mono HW4.out.size)⟩
        · have HNx := Lib.hid (all_take_yes hjt hallr.out hok)
          rw [hok] at HO
          clear hok
          generalize gD e.rs Rs0 j = r at *
          go_wp2_with (go_at_call 38; refine (HO.out _).mono ?_; rintro e' w' ⟨rfl, hb⟩; have HB6 := Lib.hid (below_via hb (hbw5.alloc (by omega) _) (by simp; omega)))
          go_roundw
          case rel => exact ⟨j + 1, by omega, by go_num, HNx, HB6.out⟩
          case measure => simp [intOf]; omega
      · have HEall : Hid (e.rs.all okR = true) := by
          show _ = _
          have := hallr.out
          rwa [show j = e.rs.length from by omega, List.take_length] at this
        obtain ⟨w5, rfl⟩ : ∃ w5 : World, w5 = wr := ⟨_, rfl⟩
        go_wp2_with fail
        go_loopw [57] (fun i wr => ∃ m : Nat, m ≤ k ∧ i = .int .i64 m ∧ Hid ((es.take m).all (fun f => f.n != e.n) = true) ∧ Below w5.heap.size w5 wr) (fun i _ => k - (intOf i).toNat)
        case atStart => exact ⟨0, by omega, rfl, by show _ = _; simp, Below.refl _ _⟩
        case round =>
          obtain ⟨m, hmk, rfl, hallm, hbw6⟩ := hrel
          have hz6 := hbw6.size
          by_cases hmt : m < k
          · obtain ⟨b6, p6, q6, e6, hb6, hs0, hs1, _⟩ := HG.out m (by omega)
            obtain rfl : b1 = b6 := by simpa using e6
            clear e6
            rw [← HW4.out.cell (by simpa using hb6), ← hbw5.cell (by simp; omega), ← hbw6.cell (by simp; omega)] at hs0 hs1
            have gX : b1 < wr.heap.size := by omega
            have gY : wo.heap.size < wr.heap.size := by omega
            have hbox6 : ∀ j, wr.cell? ⟨wo.heap.size, j, none⟩ = #[Value.int .i64 e.n, .slice _ e.rs.length _][j]? := fun j => (hbw6.cell (by simp; omega)).trans ((hbw5.cell (by simp; omega)).trans (hbox4 j))
            have HYm := Lib.hid (all_take_yes (P := fun f => f.n != e.n) (l := es) (d := Ent0) (k := m) (by omega) hallm.out)
            have HNm := Lib.hid (all_take_no (P := fun f => f.n != e.n) (l := es.take k) (d := Ent0) (k := m) (by simp; omega))
            rw [show gD (es.take k) Ent0 m = gD es Ent0 m from by simp [gD, hmt]] at HNm
            generalize gD es Ent0 m = g at *
            cases hq : (g.n == e.n)
            · have HNx := Lib.hid (HYm.out (by simpa [bne] using hq))
              go_wp2_with fail
              go_roundw
              case rel => exact ⟨m + 1, by omega, by go_num, HNx, by (repeat' first | (with_reducible exact Below.refl _ _) | (with_reducible refine Below.alloc ?_ ?_ _) | (with_reducible refine Below.drew ?_) | (with_reducible refine Below.setCell ?_ ?_ _) | (with_reducible refine below_via (by assumption) ?_ ?_) | go_size)⟩
              case measure => simp [intOf]; omega
            · have HE : Hid (entsOk es = false) := HNO.out (by rw [HAT.out, HNN.out, HNm.out (by simp [bne, hq])]; simp)
              go_wp2_with fail
              go_ret
              exact ⟨by simp [HE.out], HW4.out.trans ((hbw5.trans (((hbw6.alloc (by omega) _)).mono hz5)).mono HW4.out.size)⟩
          · obtain rfl : m = k := by omega
            have HY2 := Lib.hid (HYE.out (by rw [HAT.out, HNN.out, HE2.out, HEall.out, hallm.out]; rfl))
            go_wp2_with fail
            go_roundw
            case rel => exact ⟨m + 1, by omega, by go_num, HY2, HW4.out.trans ((hbw5.trans (hbw6.mono hz5)).mono HW4.out.size)⟩
            case measure => simp [intOf]; omega
set_option maxHeartbeats 1000000 in
set_option maxRecDepth 100000 in
theorem sEntrantsOk_any (v : Value) (es : List Ent) (w : World) {B : Nat} (hv : OwnEnts w B v es) :
    Calls Try.prog 53 #[v] w fun e w' => e = .returned (.bool (entsOk es)) ∧ Below w.heap.size w w' := by
  obtain ⟨a, cap, rfl, hcap, hm, hget⟩ := hv.get
  have HG := Lib.hid hget
  clear hget hv
  have HN : Hid (∀ W, Calls Try.prog 133 #[.int .i64 (es.length : Int), .int .i64 1, .int .i64 12] W fun e w' => e = .returned (.bool (inR es.length 1 12)) ∧ W = w') := fun W => l01In_any _ 1 12 W
  cases h12 : inR es.length 1 12
  · have HE : Hid (entsOk es = false) := by show _ = _; simp [entsOk, h12]
    rw [h12] at HN
    clear h12
    go_enter Try.func53, Try.ntmps53
    go_wp2_with (go_at_call 133; (with_reducible refine (HN.out _).mono ?_); rintro e w' ⟨rfl, rfl⟩)
    go_ret
    exact ⟨by simp [HE.out], Below.refl _ _⟩
  rw [h12] at HN
  have hn := inR_iff.1 h12
  have HEND := Lib.hid (fun h => entsOk_end (es := es) h12 h)
  clear h12
  go_enter Try.func53, Try.ntmps53
  go_wp2_with (go_at_call 133; (with_reducible refine (HN.out _).mono ?_); rintro e w' ⟨rfl, rfl⟩)
  go_loopw [3] (fun i wr => ∃ k : Nat, k ≤ es.length ∧ i = .int .i64 k ∧ Hid ((List.range k).all (entAt2 es) = true) ∧ Below w.heap.size w wr) (fun i _ => es.length - (intOf i).toNat)
  case atStart => exact ⟨0, by omega, rfl, by show _ = _; simp, Below.refl _ _⟩
  case round =>
    obtain ⟨k, hk, rfl, hall, hbw⟩ := hrel
    obtain ⟨wo, rfl⟩ : ∃ wo : World, wo = wr := ⟨_, rfl⟩
    have hz := hbw.size
    obtain ⟨b1, p2, q2, rfl, hb1, hd0, hd1, _⟩ := HG.out 0 (by omega)
    simp only [Nat.zero_mul, Nat.zero_add] at hd1
    clear hd0
    rw [← hbw.cell (by simpa using hb1)] at hd1
    have gW := Nat.lt_of_lt_of_le hb1 hz
    by_cases hlt : k < es.length
    rotate_left
    · obtain rfl : k = es.length := by omega
      have HE : Hid (entsOk es = inR ((gD es Ent0 0).rs.length : Int) 1 5) := HEND.out hall.out
      generalize gD es Ent0 0 = f at *
      have HA : Hid (∀ W, Calls Try.prog 133 #[.int .i64 (f.rs.length : Int), .int .i64 1, .int .i64 5] W fun en w' => en = .returned (.bool (inR f.rs.length 1 5)) ∧ W = w') := fun W => l01In_any _ 1 5 W
      go_wp2_with (go_at_call 133; (with_reducible refine (HA.out _).mono ?_); rintro e w' ⟨rfl, rfl⟩)
      go_ret
      exact ⟨by simp [HE.out], hbw⟩
    have HNO : Hid (entAt2 es k = false → entsOk es = false) := fun h => entsOk_no hlt h
    have HYE : Hid (entAt2 es k = true → (List.range (k + 1)).all (entAt2 es) = true) := fun h => range_yes hall.out h
    have HAT : Hid (entAt2 es k = (inR (gD es Ent0 k).n 1 999 && ((gD es Ent0 k).rs.length == (gD es Ent0 0).rs.length) && newNum es k && (gD es Ent0 k).rs.all okR)) := rfl
    have HNN : Hid (newNum es k = (es.take k).all (fun f => f.n != (gD es Ent0 k).n)) := rfl
    obtain ⟨b1', p1, q1, e1, _, hc0, hc1, ho1⟩ := HG.out k hlt
    obtain rfl : b1 = b1' := by simpa using e1
    clear e1
    rw [← hbw.cell (by simpa using hb1)] at hc0 hc1
    have HO1 := Lib.hid ho1
    clear ho1
    have HK := Lib.hid (rfl : gD es Ent0 k = gD es Ent0 k)
    generalize gD es Ent0 k = e at *
    generalize gD es Ent0 0 = f at *
    have HA : Hid (∀ W, Calls Try.prog 133 #[.int .i64 e.n, .int .i64 1, .int .i64 999] W fun en w' => en = .returned (.bool (inR e.n 1 999)) ∧ W = w') := fun W => l01In_any _ 1 999 W
    cases c1 : inR e.n 1 999
    · have HE : Hid (entsOk es = false) := HNO.out (by rw [HAT.out, c1]; rfl)
      rw [c1] at HA
      clear c1
      go_wp2_with ((with_reducible refine wp_region_qb ?_ ?_ (fun hq => ?_)); (focus kernel_rfl); (focus kernel_rfl); (repeat (go_big_quiet_step (((go_at_call 133; (with_reducible exact calls_qp (HA.out _))))))); refine wpQuiet_nil ?_; intro wq hb; obtain ⟨hc, hf, hz, hy⟩ := bcell hb; clear hq hy; (try simp only [World.size_alloc, World.size_setCell, World.size_drew] at hz); (try have gQ0 : w.heap.size < wq.heap.size := by omega); (try have gQ1 : w.heap.size + 1 < wq.heap.size := by omega); (try have gQ2 : w.heap.size + 1 + 1 < wq.heap.size := by omega); (try have gQ3 : w.heap.size + 1 + 1 + 1 < wq.heap.size := by omega); (try have gQ4 : w.heap.size + 1 + 1 + 1 + 1 < wq.heap.size := by omega); (try have gQ5 : w.heap.size + 1 + 1 + 1 + 1 + 1 < wq.heap.size := by omega); (try have dQ0 : _ < wq.heap.size := Nat.lt_of_lt_of_le dQ0 (by omega)); (try have dQ1 : _ < wq.heap.size := Nat.lt_of_lt_of_le dQ1 (by omega)); (try have dQ2 : _ < wq.heap.size := Nat.lt_of_lt_of_le dQ2 (by omega)); (try have dQ3 : _ < wq.heap.size := Nat.lt_of_lt_of_le dQ3 (by omega)); (try have dQ4 : _ < wq.heap.size := Nat.lt_of_lt_of_le dQ4 (by omega)); (try have dQ5 : _ < wq.heap.size := Nat.lt_of_lt_of_le dQ5 (by omega)); (try (have hnQ := Nat.lt_of_succ_le hz; first | (have _x := dQ0; first | (have _x := dQ1; first | (have _x := dQ2; first | (have _x := dQ3; first | (have _x := dQ4; have dQ5 := hnQ) | have dQ4 := hnQ) | have dQ3 := hnQ) | have dQ2 := hnQ) | have dQ1 := hnQ) | have dQ0 := hnQ)); (try (have hmQ := Nat.lt_of_succ_lt (Nat.lt_of_succ_le hz); first | (have _x := dQ0; first | (have _x := dQ1; first | (have _x := dQ2; first | (have _x := dQ3; first | (have _x := dQ4; have dQ5 := hmQ) | have dQ4 := hmQ) | have dQ3 := hmQ) | have dQ2 := hmQ) | have dQ1 := hmQ) | have dQ0 := hmQ)))
      go_ret
      exact ⟨by simp [HE.out], by (repeat' first | (with_reducible exact Below.refl _ _) | (with_reducible refine Below.alloc ?_ ?_ _) | (with_reducible refine Below.drew ?_) | (with_reducible refine Below.setCell ?_ ?_ _) | (with_reducible refine below_via (by assumption) ?_ ?_) | go_size)⟩
    rw [c1] at HA
    cases c3 : (e.rs.length == f.rs.length)
    · have HE : Hid (entsOk es = false) := HNO.out (by rw [HAT.out, c1, c3]; rfl)
      have c3' : ((e.rs.length : Int) != (f.rs.length : Int)) = true := by
        simp at c3 ⊢; omega
      clear c1 c3
      go_wp2_with ((with_reducible refine wp_region_qb ?_ ?_ (fun hq => ?_)); (focus kernel_rfl); (focus kernel_rfl); (repeat (go_big_quiet_step (((go_at_call 133; (with_reducible exact calls_qp (HA.out _))))))); refine wpQuiet_nil ?_; intro wq hb; obtain ⟨hc, hf, hz, hy⟩ := bcell hb; clear hq hy; (try simp only [World.size_alloc, World.size_setCell, World.size_drew] at hz); (try have gQ0 : w.heap.size < wq.heap.size := by omega); (try have gQ1 : w.heap.size + 1 < wq.heap.size := by omega); (try have gQ2 : w.heap.size + 1 + 1 < wq.heap.size := by omega); (try have gQ3 : w.heap.size + 1 + 1 + 1 < wq.heap.size := by omega); (try have gQ4 : w.heap.size + 1 + 1 + 1 + 1 < wq.heap.size := by omega); (try have gQ5 : w.heap.size + 1 + 1 + 1 + 1 + 1 < wq.heap.size := by omega); (try have dQ0 : _ < wq.heap.size := Nat.lt_of_lt_of_le dQ0 (by omega)); (try have dQ1 : _ < wq.heap.size := Nat.lt_of_lt_of_le dQ1 (by omega)); (try have dQ2 : _ < wq.heap.size := Nat.lt_of_lt_of_le dQ2 (by omega)); (try have dQ3 : _ < wq.heap.size := Nat.lt_of_lt_of_le dQ3 (by omega)); (try have dQ4 : _ < wq.heap.size := Nat.lt_of_lt_of_le dQ4 (by omega)); (try have dQ5 : _ < wq.heap.size := Nat.lt_of_lt_of_le dQ5 (by omega)); (try (have hnQ := Nat.lt_of_succ_le hz; first | (have _x := dQ0; first | (have _x := dQ1; first | (have _x := dQ2; first | (have _x := dQ3; first | (have _x := dQ4; have dQ5 := hnQ) | have dQ4 := hnQ) | have dQ3 := hnQ) | have dQ2 := hnQ) | have dQ1 := hnQ) | have dQ0 := hnQ)); (try (have hmQ := Nat.lt_of_succ_lt (Nat.lt_of_succ_le hz); first | (have _x := dQ0; first | (have _x := dQ1; first | (have _x := dQ2; first | (have _x := dQ3; first | (have _x := dQ4; have dQ5 := hmQ) | have dQ4 := hmQ) | have dQ3 := hmQ) | have dQ2 := hmQ) | have dQ1 := hmQ) | have dQ0 := hmQ)))
      go_ret
      exact ⟨by simp [HE.out], by (repeat' first | (with_reducible exact Below.refl _ _) | (with_reducible refine Below.alloc ?_ ?_ _) | (with_reducible refine Below.drew ?_) | (with_reducible refine Below.setCell ?_ ?_ _) | (with_reducible refine below_via (by assumption) ?_ ?_) | go_size)⟩
    have c3' : ((e.rs.length : Int) != (f.rs.length : Int)) = false := by
      simp at c3 ⊢; omega
    have HE2 : Hid (entAt2 es k = (newNum es k && e.rs.all okR)) := by show _ = _; rw [HAT.out, c1, c3]; rfl
    clear c1 c3
    go_wp2_with ((with_reducible refine wp_region_qb ?_ ?_ (fun hq => ?_)); (focus kernel_rfl); (focus kernel_rfl); (repeat (go_big_quiet_step (((go_at_call 133; (with_reducible exact calls_qp (HA.out _))))))); refine wpQuiet_nil ?_; intro w4 hb)
    have HB4 := Lib.hid hb
    have HW4 := Lib.hid (hbw.trans (hb.mono hbw.size))
    have hz4 := hb.size
    have HO4 := Lib.hid (HO1.out.keep HW4.out)
    obtain ⟨_, _, hv4, hlm, hget4⟩ := HO4.out.resultG
    obtain ⟨rfl, rfl⟩ : _ = p1 ∧ _ = q1 := by simpa [eq_comm] using hv4
    have HG4 := Lib.hid hget4
    rw [← hb.cell (by simpa using gW)] at hc0 hc1
    have gW4 : b1 < w4.heap.size := by omega
    clear hget4 hv4 hb hd1 c3'
    go_wp2_with fail
    go_loopw [4] (fun i wr => ∃ m : Nat, m ≤ k ∧ i = .int .i64 m ∧ Hid ((es.take m).all (fun f => f.n != e.n) = true) ∧ Below w4.heap.size w4 wr) (fun i _ => k - (intOf i).toNat)
    case atStart => exact ⟨0, by omega, rfl, by show _ = _; simp, Below.refl _ _⟩
    case round =>
      obtain ⟨m, hmk, rfl, hallm, hbw6⟩ := hrel
      have hz6 := hbw6.size
      have gX : b1 < wr.heap.size := by omega
      have hc0' := (hbw6.cell (p := ⟨b1, k * 2, none⟩) gW4).trans hc0
      by_cases hmt : m < k
      · obtain ⟨b6, p6, q6, e6, hb6, hs0, hs1, _⟩ := HG.out m (by omega)
        obtain rfl : b1 = b6 := by simpa using e6
        clear e6 hs1
        rw [← HW4.out.cell (by simpa using hb6), ← hbw6.cell (by simp; omega)] at hs0
        have HYm := Lib.hid (all_take_yes (P := fun f => f.n != e.n) (l := es) (d := Ent0) (k := m) (by omega) hallm.out)
        have HNm := Lib.hid (all_take_no (P := fun f => f.n != e.n) (l := es.take k) (d := Ent0) (k := m) (by simp; omega))
        rw [show gD (es.take k) Ent0 m = gD es Ent0 m from by simp [gD, hmt]] at HNm
        generalize gD es Ent0 m = g at *
        cases hq : (g.n == e.n)
        · have HNx := Lib.hid (HYm.out (by simpa [bne] using hq))
          have hq' : ((g.n : Int) == e.n) = false := hq
          go_wp2_with ((with_reducible refine wp_region_qb ?_ ?_ (fun hq => ?_)); (focus kernel_rfl); (focus kernel_rfl); (repeat (go_big_quiet_step (fail))); refine wpQuiet_nil ?_; intro wq hb; have HQ := Lib.hid hb; clear hb)
          go_roundw
          case rel => exact ⟨m + 1, by omega, by go_num, HNx, hbw6.trans (HQ.out.mono hz6)⟩
          case measure => simp [intOf]; omega
        · have HE : Hid (entsOk es = false) := HNO.out (by rw [HE2.out, HNN.out, HNm.out (by simp [bne, hq])]; simp)
          go_wp2_with ((with_reducible refine wp_region_qb ?_ ?_ (fun hq => ?_)); (focus kernel_rfl); (focus kernel_rfl); (repeat (go_big_quiet_step (fail))); refine wpQuiet_nil ?_; intro wq hb; have HQ := Lib.hid hb; clear hb)
          go_ret
          exact ⟨by simp [HE.out], HW4.out.trans ((hbw6.trans (HQ.out.mono hz6)).mono HW4.out.size)⟩
      · obtain rfl : m = k := by omega
        have HNEW : Hid (newNum es m = true) := by show _ = _; rw [HNN.out, hallm.out]
        have hc1' := (hbw6.cell (p := ⟨b1, m * 2 + 1, none⟩) gW4).trans hc1
        obtain ⟨w5, rfl⟩ : ∃ w5 : World, w5 = wr := ⟨_, rfl⟩
        go_wp2_with fail
        go_loopw [5] (fun i wr => ∃ j : Nat, j ≤ e.rs.length ∧ i = .int .i64 j ∧ Hid ((e.rs.take j).all okR = true) ∧ Below w5.heap.size w5 wr) (fun i _ => e.rs.length - (intOf i).toNat)
        case atStart => exact ⟨0, by omega, rfl, by show _ = _; simp, Below.refl _ _⟩
        case round =>
          obtain ⟨j, hj, rfl, hallr, hbw7⟩ := hrel
          have hz7 := hbw7.size
          have hc17 := (hbw7.cell (p := ⟨b1, m * 2 + 1, none⟩) gX).trans hc1'
          have gX7 : b1 < wr.heap.size := by omega
          by_cases hjt : j < e.rs.length
          · obtain ⟨b4, rfl, _, hb4, hr0, hr1, hr2, hr3⟩ := HG4.out j hjt
            rw [← hbw6.cell (by simpa using hb4), ← hbw7.cell (by simp; omega)] at hr0 hr1 hr2 hr3
            have gX8 : b4 < wr.heap.size := by omega
            have HO : Hid (∀ W, Calls Try.prog 138 #[.agg #[.int .i64 (gD e.rs Rs0 j).l, .bool (gD e.rs Rs0 j).c, .int .i64 (gD e.rs Rs0 j).s, .int .i64 (gD e.rs Rs0 j).t]] W fun en w' => en = .returned (.bool (okR (gD e.rs Rs0 j))) ∧ Below W.heap.size W w') := fun W => sResultOk_any _ _ _ _ W
            cases hok : okR (gD e.rs Rs0 j)
            · have HE : Hid (entsOk es = false) := HNO.out (by rw [HE2.out, all_take_no hjt hok]; simp)
              rw [hok] at HO
              clear hok
              generalize gD e.rs Rs0 j = r at *
              go_wp2_with (go_at_call 138; refine (HO.out _).mono ?_; rintro e' w' ⟨rfl, hb⟩; have HB8 := Lib.hid (hbw7.trans (hb.mono hz7)); clear hb)
              go_ret
              exact ⟨by simp [HE.out], HW4.out.trans ((hbw6.trans (HB8.out.mono hz6)).mono HW4.out.size)⟩
            · have HNx := Lib.hid (all_take_yes hjt hallr.out hok)
              rw [hok] at HO
              clear hok
              generalize gD e.rs Rs0 j = r at *
              go_wp2_with (go_at_call 138; refine (HO.out _).mono ?_; rintro e' w' ⟨rfl, hb⟩; have HB8 := Lib.hid (hbw7.trans (hb.mono hz7)); clear hb)
              go_roundw
              case rel => exact ⟨j + 1, by omega, by go_num, HNx, HB8.out⟩
              case measure => simp [intOf]; omega
          · have HEall : Hid (e.rs.all okR = true) := by
              show _ = _
              have := hallr.out
              rwa [show j = e.rs.length from by omega, List.take_length] at this
            have HY2 := Lib.hid (HYE.out (by rw [HE2.out, HNEW.out, HEall.out]; rfl))
            go_wp2_with fail
            go_roundw
            case rel => exact ⟨m + 1, by omega, by go_num, HY2, HW4.out.trans ((hbw6.trans (hbw7.mono hz6)).mono HW4.out.size)⟩
            case measure => simp [intOf]; omega
end Go.Proofs.Ytfpofhkggojaoaa
