/- HwB: the reference's test of two games up to order, and its HasOneWay out of CountGames and GameAt. Conditions: slices that are owned, numbers in range. -/
import Derived.Test.YtledmebhlmpjaaaPzO
import Derived.Test.YtledmebhlmpjaaaOrdA
import Derived.Test.YtledmebhlmpjaaaReach
import Derived.Test.YtledmebhlmpjaaaWay2
set_option linter.unusedVariables false
set_option linter.unusedSimpArgs false
namespace Peg
theorem dis_at (a c : Ln) : dis a c = (List.range 3).any fun j => touch c (gD [a.f, a.o, a.t] 0 j) := by
  simp [dis, List.range_succ, gD, Bool.or_assoc]
end Peg
namespace Go.Proofs.Ytledmebhlmpjaaa
open Go.ChangeShapes Go.WideShapes Go.ChangeAt Go.RowKit Peg Go.Sort
set_option maxHeartbeats 1000000 in
set_option maxRecDepth 100000 in
theorem sDoDisturb_any (a c : Ln) (w : World) :
    Calls Try.prog 59 #[.agg #[.int .i64 a.f, .int .i64 a.o, .int .i64 a.t], .agg #[.int .i64 c.f, .int .i64 c.o, .int .i64 c.t]] w fun e w' => e = .returned (.bool (dis a c)) ∧ Below w.heap.size w w' := by
  have HD := Lib.hid (dis_at a c)
  have HX : Hid (∀ j, j < 3 → #[Value.int .i64 a.f, .int .i64 a.o, .int .i64 a.t][j]? = some (.int .i64 (gD [a.f, a.o, a.t] 0 j))) := fun j hj => by
    rcases (show j = 0 ∨ j = 1 ∨ j = 2 by omega) with rfl | rfl | rfl <;> rfl
  go_enter Try.func59, Try.ntmps59
  go_wp2_with fail
  obtain ⟨W3, HW⟩ : ∃ W3 : World, W3 = ((w.alloc (.cells #[.int .i64 a.f, .int .i64 a.o, .int .i64 a.t] 47)).alloc (.cells #[.int .i64 c.f, .int .i64 c.o, .int .i64 c.t] 47)).alloc (.cells #[.int .i64 a.f, .int .i64 a.o, .int .i64 a.t] 3) := ⟨_, rfl⟩
  have hz3 : W3.heap.size = w.heap.size + 3 := by rw [HW]; simp
  have hA : ∀ j, W3.cell? ⟨w.heap.size + 1, j, none⟩ = #[Value.int .i64 c.f, .int .i64 c.o, .int .i64 c.t][j]? := fun j => by rw [HW]; simp [go_sem]
  have hX : ∀ j, W3.cell? ⟨w.heap.size + 1 + 1, j, none⟩ = #[Value.int .i64 a.f, .int .i64 a.o, .int .i64 a.t][j]? := fun j => by rw [HW]; simp [go_sem]
  have HB3 : Hid (Below w.heap.size w W3) := by show Below _ _ _; rw [HW]; (repeat' first | (with_reducible exact Below.refl _ _) | (with_reducible refine Below.alloc ?_ ?_ _) | (with_reducible refine Below.drew ?_) | (with_reducible refine Below.setCell ?_ ?_ _) | (with_reducible refine below_via (by assumption) ?_ ?_) | go_size)
  rw [← HW]
  clear HW
  go_loopw [6] (fun i wr => ∃ k : Nat, k ≤ 3 ∧ i = .int .i64 k ∧ Hid (((List.range k).any fun j => touch c (gD [a.f, a.o, a.t] 0 j)) = false) ∧ Below W3.heap.size W3 wr) (fun i _ => 3 - (intOf i).toNat)
  case atStart => exact ⟨0, by omega, rfl, by show _ = _; simp, Below.refl _ _⟩
  case round =>
    obtain ⟨k, hk, rfl, hno, hbw⟩ := hrel
    have hz5 := hbw.size
    have hbox : ∀ j, wr.cell? ⟨w.heap.size + 1, j, none⟩ = #[Value.int .i64 c.f, .int .i64 c.o, .int .i64 c.t][j]? := fun j => (hbw.cell (by show w.heap.size + 1 < _; omega)).trans (hA j)
    have hxk : k < 3 → wr.cell? ⟨w.heap.size + 1 + 1, k, none⟩ = some (.int .i64 (gD [a.f, a.o, a.t] 0 k)) := fun h => (hbw.cell (by show w.heap.size + 1 + 1 < _; omega)).trans ((hX k).trans (HX.out k h))
    have gW1 : w.heap.size + 1 < wr.heap.size := by omega
    have gW2 : w.heap.size + 1 + 1 < wr.heap.size := by omega
    by_cases hlt : k < 3
    · have hc := hxk hlt
      have HN : Hid (((List.range (k + 1)).any fun j => touch c (gD [a.f, a.o, a.t] 0 j)) = touch c (gD [a.f, a.o, a.t] 0 k)) := by show _ = _; rw [List.range_succ, List.any_append, hno.out]; simp
      have HZ : Hid (touch c (gD [a.f, a.o, a.t] 0 k) = true → dis a c = true) := by
        show _ → _
        intro h
        rw [HD.out, List.any_eq_true]
        exact ⟨k, by simpa using hlt, h⟩
      clear hX hA hxk HX
      generalize gD [a.f, a.o, a.t] 0 k = y at *
      cases e1 : (y == c.f)
      · cases e2 : (y == c.o)
        · cases e3 : (y == c.t)
          · have HE : Hid (((List.range (k + 1)).any fun j => touch c (gD [a.f, a.o, a.t] 0 j)) = false) := by
              show _ = _
              rw [HN.out]
              have h1 : ¬ c.f = y := fun h => by simp [h] at e1
              have h2 : ¬ c.o = y := fun h => by simp [h] at e2
              have h3 : ¬ c.t = y := fun h => by simp [h] at e3
              simp [touch, h1, h2, h3]
            clear hno HN HZ
            go_wp2_with fail
            (with_reducible refine wp_region_qb ?_ ?_ (fun hq => ?_)); (focus kernel_rfl); (focus kernel_rfl); (repeat (go_big_quiet_step (fail))); refine wpQuiet_nil ?_; intro wq hb
            go_wp2_with fail
            go_roundw
            case rel => exact ⟨k + 1, by omega, by go_num, HE, hbw.trans (hb.mono (by omega))⟩
            case measure => simp [intOf]; omega
          · have HE : Hid (dis a c = true) := HZ.out (touch_iff.2 (by simp at e3; omega))
            clear hno HN HZ
            go_wp2_with fail
            (with_reducible refine wp_region_qb ?_ ?_ (fun hq => ?_)); (focus kernel_rfl); (focus kernel_rfl); (repeat (go_big_quiet_step (fail))); refine wpQuiet_nil ?_; intro wq hb
            go_wp2_with fail
            all_goals go_ret
            all_goals exact ⟨by rw [HE.out]; rfl, (HB3.out.trans (hbw.mono (by omega))).trans (hb.mono (by omega))⟩
        · have HE : Hid (dis a c = true) := HZ.out (touch_iff.2 (by simp at e2; omega))
          clear hno HN HZ
          go_wp2_with fail
          (with_reducible refine wp_region_qb ?_ ?_ (fun hq => ?_)); (focus kernel_rfl); (focus kernel_rfl); (repeat (go_big_quiet_step (fail))); refine wpQuiet_nil ?_; intro wq hb
          go_wp2_with fail
          all_goals go_ret
          all_goals exact ⟨by rw [HE.out]; rfl, (HB3.out.trans (hbw.mono (by omega))).trans (hb.mono (by omega))⟩
      · have HE : Hid (dis a c = true) := HZ.out (touch_iff.2 (by simp at e1; omega))
        clear hno HN HZ
        go_wp2_with fail
        (with_reducible refine wp_region_qb ?_ ?_ (fun hq => ?_)); (focus kernel_rfl); (focus kernel_rfl); (repeat (go_big_quiet_step (fail))); refine wpQuiet_nil ?_; intro wq hb
        go_wp2_with fail
        all_goals go_ret
        all_goals exact ⟨by rw [HE.out]; rfl, (HB3.out.trans (hbw.mono (by omega))).trans (hb.mono (by omega))⟩
    · obtain rfl : k = 3 := by omega
      have HE : Hid (dis a c = false) := by show _ = _; rw [HD.out, hno.out]
      go_wp2_with fail
      all_goals go_ret
      all_goals exact ⟨by rw [HE.out]; rfl, HB3.out.trans (hbw.mono (by omega))⟩
end Go.Proofs.Ytledmebhlmpjaaa
namespace Peg
theorem gD0 (y : Ln) (s : List Ln) : gD (y :: s) Ln0 0 = y := rfl
theorem gDs (y : Ln) (s : List Ln) (j : Nat) : gD (y :: s) Ln0 (j + 1) = gD s Ln0 j := rfl
theorem rmv_no {x : Ln} : ∀ {a : List Ln}, (∀ j, j < a.length → gD a Ln0 j ≠ x) → rmv x a = none
  | [], _ => rfl
  | y :: s, h => by
    have h0 := h 0 (by simp)
    rw [gD0] at h0
    rw [rmv_cons, if_neg h0, rmv_no (fun j hj => by have := h (j + 1) (by simpa using hj); rwa [gDs] at this)]
    simp
theorem rmv_yes {x : Ln} : ∀ {a : List Ln} {n : Nat}, n < a.length → gD a Ln0 n = x → (∀ j, j < n → gD a Ln0 j ≠ x) → (∀ j, j < n → dis (gD a Ln0 j) x = false) → rmv x a = some (a.take n ++ a.drop (n + 1))
  | [], n, h, _, _, _ => by simp at h
  | y :: s, 0, _, h, _, _ => by rw [gD0] at h; rw [rmv_cons, if_pos h]; simp
  | y :: s, n + 1, h1, h2, h3, h4 => by
    have a1 := h3 0 (by omega)
    have a2 := h4 0 (by omega)
    rw [gD0] at a1 a2
    rw [rmv_cons, if_neg a1, a2, rmv_yes (a := s) (n := n) (by simpa using h1) (by rwa [gDs] at h2) (fun j hj => by have := h3 (j + 1) (by omega); rwa [gDs] at this) (fun j hj => by have := h4 (j + 1) (by omega); rwa [gDs] at this)]
    simp
theorem rmv_bar {x : Ln} : ∀ {a : List Ln} {n j : Nat}, n ≤ a.length → (∀ j, j < n → gD a Ln0 j ≠ x) → j < n → dis (gD a Ln0 j) x = true → rmv x a = none
  | [], n, j, h, _, hj, _ => by simp at h; omega
  | y :: s, n, 0, _, h3, hj, h4 => by
    have a1 := h3 0 hj
    rw [gD0] at a1 h4
    rw [rmv_cons, if_neg a1, h4]; rfl
  | y :: s, n, j + 1, h, h3, hj, h4 => by
    have a1 := h3 0 (by omega)
    rw [gD0] at a1
    rw [gDs] at h4
    have ih := rmv_bar (a := s) (n := n - 1) (j := j) (by simp at h; omega) (fun j hj => by have := h3 (j + 1) (by omega); rwa [gDs] at this) (by omega) h4
    rw [rmv_cons, if_neg a1, ih]
    split <;> rfl
theorem eqv_step {R M : List Ln} {k : Nat} (h : k < M.length) : eqv R (M.drop k) = match rmv (gD M Ln0 k) R with
    | some a' => eqv a' (M.drop (k + 1))
    | none => false := by
  rw [List.drop_eq_getElem_cons h, gD_lt _ _ _ h, eqv]
  cases rmv M[k] R <;> rfl
/-- where the search from the end stands -/
def AtOf (R : List Ln) (x : Ln) (n : Nat) (m : Int) : Prop := (m = -1 ∧ ∀ j, n ≤ j → j < R.length → gD R Ln0 j ≠ x) ∨ ∃ q : Nat, m = q ∧ n ≤ q ∧ q < R.length ∧ gD R Ln0 q = x ∧ ∀ j, n ≤ j → j < q → gD R Ln0 j ≠ x
theorem AtOf.hit {R : List Ln} {x : Ln} {n : Nat} (h : n < R.length) (e : gD R Ln0 n = x) : AtOf R x n n := Or.inr ⟨n, rfl, Nat.le_refl _, h, e, fun j h1 h2 => by omega⟩
theorem AtOf.miss {R : List Ln} {x : Ln} {n : Nat} {m : Int} (h : AtOf R x (n + 1) m) (e : gD R Ln0 n ≠ x) : AtOf R x n m := by
  rcases h with ⟨h1, h2⟩ | ⟨q, h1, h2, h3, h4, h5⟩
  · refine Or.inl ⟨h1, fun j a b => ?_⟩
    rcases Nat.eq_or_lt_of_le a with rfl | a
    · exact e
    · exact h2 j a b
  · refine Or.inr ⟨q, h1, by omega, h3, h4, fun j a b => ?_⟩
    rcases Nat.eq_or_lt_of_le a with rfl | a
    · exact e
    · exact h5 j a b
end Peg
namespace Go.Proofs.Ytledmebhlmpjaaa
open Go.ChangeShapes Go.WideShapes Go.ChangeAt Go.RowKit Peg Go.Sort
set_option maxHeartbeats 4000000 in
set_option maxRecDepth 100000 in
theorem sAreSameUpToOrder_any (L M : List Ln) (v1 v2 : Value) (w : World) {B1 B2 : Nat} (h1 : Own ELine w B1 v1 L) (h2 : Own ELine w B2 v2 M) :
    Calls Try.prog 27 #[v1, v2] w fun e w' => e = .returned (.bool (same10 L M)) ∧ Below w.heap.size w w' := by
  obtain ⟨a1, c1, rfl, z1, g1⟩ := h1.lineG
  obtain ⟨a2, c2, rfl, z2, g2⟩ := h2.lineG
  have HG2 := Lib.hid g2
  have hb0 : Below w.heap.size w (w.alloc (.cells #[] 47)) := (Below.refl _ _).alloc (Nat.le_refl _) _
  have HV := Lib.hid (h1.rd.keep hb0)
  clear g1 g2 h1 h2
  by_cases hL : L.length ≤ 10
  rotate_left
  · have HE : Hid (same10 L M = false) := by show _ = _; simp [same10, hL]
    have hL' : 10 < L.length := by omega
    go_enter Try.func27, Try.ntmps27
    go_wp2_with fail
    all_goals go_ret
    all_goals exact ⟨by rw [HE.out]; rfl, by (repeat' first | (with_reducible exact Below.refl _ _) | (with_reducible refine Below.alloc ?_ ?_ _) | (with_reducible refine Below.drew ?_) | (with_reducible refine Below.setCell ?_ ?_ _) | (with_reducible refine below_via (by assumption) ?_ ?_) | go_size)⟩
  by_cases hM : M.length ≤ 10
  rotate_left
  · have HE : Hid (same10 L M = false) := by show _ = _; simp [same10, hM]
    have hM' : 10 < M.length := by omega
    go_enter Try.func27, Try.ntmps27
    go_wp2_with fail
    all_goals go_ret
    all_goals exact ⟨by rw [HE.out]; rfl, by (repeat' first | (with_reducible exact Below.refl _ _) | (with_reducible refine Below.alloc ?_ ?_ _) | (with_reducible refine Below.drew ?_) | (with_reducible refine Below.setCell ?_ ?_ _) | (with_reducible refine below_via (by assumption) ?_ ?_) | go_size)⟩
  by_cases hLM : L.length = M.length
  rotate_left
  · have HE : Hid (same10 L M = false) := by
      show _ = _
      cases e : eqv L M with
      | false => simp [same10, e]
      | true => exact absurd (eqv_len e) hLM
    have hne : ((L.length : Int) != (M.length : Int)) = true := by simp; omega
    go_enter Try.func27, Try.ntmps27
    go_wp2_with fail
    all_goals go_ret
    all_goals exact ⟨by rw [HE.out]; rfl, by (repeat' first | (with_reducible exact Below.refl _ _) | (with_reducible refine Below.alloc ?_ ?_ _) | (with_reducible refine Below.drew ?_) | (with_reducible refine Below.setCell ?_ ?_ _) | (with_reducible refine below_via (by assumption) ?_ ?_) | go_size)⟩
  have HE : Hid (same10 L M = eqv L M) := by show _ = _; simp [same10, hL, hM]
  have HLM := Lib.hid hLM
  rw [← hLM] at HG2 z2 hM ⊢
  clear hLM
  have hh : decide (10 < (L.length : Int)) = false := decide_eq_false (by omega)
  go_enter Try.func27, Try.ntmps27
  go_wp2_with (at_builtin; (refine appendRd (E := ELine) (base := w.heap.size) (l := []) (l2 := L) rfl rfl _ _ 36 rfl Try.underlying36 rfl rfl (Own.emptyAny _ _ _ _) HV.out (by simp; omega) (by simp) ?_); intro v' w2 hown5 hb5 hg5 hob5)
  clear hg5 hob5
  have HO5 : Hid (Own ELine w2 w.heap.size v' L) := by show Own _ _ _ _ _; simpa using hown5
  have HB5 : Hid (Below w.heap.size w w2) := hb0.trans (hb5.mono (by simp))
  have HE2 : Hid (∀ w3, Below w.heap.size w w3 → ∀ q : Bool, eqv L M = q → Ending.returned (.bool q) = Ending.returned (.bool (same10 L M)) ∧ Below w.heap.size w w3) := fun w3 h q e => ⟨by rw [HE.out, e], h⟩
  clear hown5 hb5 hb0 HV
  go_loopw [5, 6] (fun vr i wr => ∃ (R : List Ln) (k : Nat), k ≤ L.length ∧ i = .int .i64 k ∧ Hid (Own ELine wr w.heap.size vr R) ∧ Hid (R.length + k = L.length) ∧ Hid (eqv R (M.drop k) = eqv L M) ∧ Hid (Below w.heap.size w wr)) (fun _ i _ => L.length - (intOf i).toNat)
  case atStart => exact ⟨L, 0, by omega, rfl, HO5, by show _ = _; simp, by show _ = _; simp, HB5⟩
  case round =>
    obtain ⟨R, k, hk, rfl, hR, hLen, hV, hB⟩ := hrel
    obtain ⟨aR, cR, rfl, hnR, hgR⟩ := hR.out.lineG
    have HGR := Lib.hid hgR
    have hz := hB.out.size
    clear hgR
    by_cases hlt : k < L.length
    rotate_left
    · obtain rfl : k = L.length := by omega
      have HQ : Hid (eqv L M = true) := by
        show _ = _
        have h1 : R = [] := List.eq_nil_of_length_eq_zero (by have := hLen.out; omega)
        rw [← hV.out, HLM.out, List.drop_length, h1]; rfl
      go_wp2_with fail
      all_goals go_ret
      all_goals exact HE2.out _ hB.out _ HQ.out
    · have h0 : 0 < R.length := by have := hLen.out; omega
      obtain ⟨bR, rfl, _, hbR, _, _, _⟩ := HGR.out 0 h0
      have HG3 : Hid (∀ i, i < R.length → wr.cell? ⟨bR, i * 3, none⟩ = some (.int .i64 (gD R Ln0 i).f) ∧ wr.cell? ⟨bR, i * 3 + 1, none⟩ = some (.int .i64 (gD R Ln0 i).o) ∧ wr.cell? ⟨bR, i * 3 + 2, none⟩ = some (.int .i64 (gD R Ln0 i).t)) := fun i hi => by
        obtain ⟨b', e, _, _, h⟩ := HGR.out i hi
        simp only [Option.some.injEq, Addr.mk.injEq] at e
        rw [e.1]; exact h
      obtain ⟨bM, rfl, _, hbM, m0, m1, m2⟩ := HG2.out k hlt
      rw [← hB.out.cell (by simpa using hbM)] at m0 m1 m2
      have hbM' : bM < wr.heap.size := by omega
      have hRle : R.length ≤ 10 := by have := hLen.out; omega
      have hkM : k < M.length := by have := HLM.out; omega
      have HSTEP := Lib.hid (eqv_step (R := R) hkM)
      generalize gD M Ln0 k = x at *
      obtain ⟨w3, rfl⟩ : ∃ w3 : World, w3 = wr := ⟨_, rfl⟩
      clear HGR
      go_wp2_with fail
      go_loopw [7, 8] (fun at_ j wx => ∃ (n : Nat) (m : Int), n ≤ R.length ∧ j = .int .i64 ((n : Int) - 1) ∧ at_ = .int .i64 m ∧ Hid (AtOf R x n m) ∧ Below w3.heap.size w3 wx) (fun _ j _ => (intOf j + 1).toNat)
      case atStart => exact ⟨R.length, -1, Nat.le_refl _, rfl, rfl, Or.inl ⟨rfl, fun j a b => by omega⟩, Below.refl _ _⟩
      case round =>
        obtain ⟨n, m, hn, rfl, rfl, hm, hbw⟩ := hrel
        rcases n with _ | n
        · have ej : ((0 : Nat) : Int) - 1 = -1 := by omega
          try rw [ej]
          have hz5 := hbw.size
          rcases hm.out with ⟨hm1, hm2⟩ | ⟨q, hq1, hq2, hq3, hq4, hq5⟩
          · subst hm1
            have HQ : Hid (eqv L M = false) := by show _ = _; rw [← hV.out, HSTEP.out, rmv_no (fun j hj => hm2 j (Nat.zero_le _) hj)]
            clear hm HG3 HSTEP hm2
            go_wp2_with fail
            all_goals go_ret
            all_goals exact HE2.out _ (hB.out.trans (hbw.mono hz)) _ HQ.out
          · subst hq1
            have HQ4 := Lib.hid hq4
            have HQ5 := Lib.hid hq5
            clear hq4 hq5 hq2 hm
            obtain ⟨w4, rfl⟩ : ∃ w4 : World, w4 = wr := ⟨_, rfl⟩
            go_wp2_with fail
            go_loopw [9] (fun j wx => ∃ i : Nat, i ≤ q ∧ j = .int .i64 i ∧ Hid (∀ t, t < i → dis (gD R Ln0 t) x = false) ∧ Below w4.heap.size w4 wx) (fun j _ => q - (intOf j).toNat)
            case atStart => exact ⟨0, by omega, rfl, by show ∀ t, _; intro t ht; omega, Below.refl _ _⟩
            case round =>
              obtain ⟨i, hi, rfl, hno, hbv⟩ := hrel
              have hz6 := hbv.size
              by_cases hlt2 : i < q
              · obtain ⟨c0, c1', c2'⟩ := HG3.out i (by omega)
                obtain ⟨d0, d1, d2⟩ := HG3.out q hq3
                rw [HQ4.out] at d0 d1 d2
                rw [← hbw.cell (by simpa using hbR), ← hbv.cell (by show bR < _; omega)] at c0 c1' c2' d0 d1 d2
                have gW1 : bR < wr.heap.size := by omega
                have HBAR : Hid (dis (gD R Ln0 i) x = true → eqv L M = false) := by
                  show _ → _
                  intro h
                  rw [← hV.out, HSTEP.out, rmv_bar (n := q) (Nat.le_of_lt hq3) (fun j hj => HQ5.out j (Nat.zero_le _) hj) hlt2 h]
                have HNX : Hid (dis (gD R Ln0 i) x = false → ∀ t, t < i + 1 → dis (gD R Ln0 t) x = false) := by
                  show _ → _
                  intro h t ht
                  rcases Nat.lt_or_ge t i with h5 | h5
                  · exact hno.out t h5
                  · obtain rfl : t = i := by omega
                    exact h
                have HDQ := Lib.hid (fun W => sDoDisturb_any (gD R Ln0 i) x W)
                clear HG3 HSTEP hno HQ4 HQ5
                generalize gD R Ln0 i = l at *
                have HD : Hid (∀ W, Calls Try.prog 59 #[.agg #[.int .i64 l.f, .int .i64 l.o, .int .i64 l.t], .agg #[.int .i64 x.f, .int .i64 x.o, .int .i64 x.t]] W fun e w' => e = .returned (.bool (dis l x)) ∧ Below W.heap.size W w') := HDQ.out
                clear HDQ
                cases hd : dis l x
                · have HE3 := Lib.hid (HNX.out hd)
                  rw [hd] at HD
                  clear hd HBAR HNX
                  go_wp2_with fail
                  (with_reducible refine wp_region_qb ?_ ?_ (fun hq => ?_)); (focus kernel_rfl); (focus kernel_rfl); (repeat (go_big_quiet_step ((go_at_call 59; exact Calls.regrown_of (HD.out _))))); refine wpQuiet_nil ?_; intro wq hb
                  go_wp2_with fail
                  go_roundw
                  case rel => exact ⟨i + 1, by omega, by go_num, HE3, hbv.trans (hb.mono (by omega))⟩
                  case measure => simp [intOf]; omega
                · have HQ := Lib.hid (HBAR.out hd)
                  rw [hd] at HD
                  clear hd HBAR HNX
                  go_wp2_with fail
                  (with_reducible refine wp_region_qb ?_ ?_ (fun hq => ?_)); (focus kernel_rfl); (focus kernel_rfl); (repeat (go_big_quiet_step ((go_at_call 59; exact Calls.regrown_of (HD.out _))))); refine wpQuiet_nil ?_; intro wq hb
                  go_wp2_with fail
                  all_goals go_ret
                  all_goals exact HE2.out _ (hB.out.trans ((hbw.trans (hbv.mono hz5)).trans (hb.mono (by omega)) |>.mono hz)) _ HQ.out
              · obtain rfl : i = q := by omega
                have HRM : Hid (eqv (R.take i ++ R.drop (i + 1)) (M.drop (k + 1)) = eqv L M) := by
                  show _ = _
                  rw [← hV.out, HSTEP.out, rmv_yes hq3 HQ4.out (fun j hj => HQ5.out j (Nat.zero_le _) hj) hno.out]
                obtain ⟨w5, rfl⟩ : ∃ w5 : World, w5 = wr := ⟨_, rfl⟩
                have HR5 : Hid (Own ELine w5 w.heap.size (.slice (some ⟨bR, 0, none⟩) R.length cR) R) := (hR.out.keep hbw).keep hbv
                have HB5' : Hid (Below w.heap.size w w5) := hB.out.trans ((hbw.trans (hbv.mono hz5)).mono hz)
                have hz7 := HB5'.out.size
                have hroom := hR.out.room
                have HP1 : Hid (∀ W, Below w5.heap.size w5 W → Rd ELine W (.slice (some ⟨bR, 0, none⟩) i cR) (R.take i)) := fun W hW => (HR5.out.rd.front i cR (by omega)).keep hW
                have HPOST : Hid (∀ (v6 : Value) (w6 : World), Own ELine w6 w5.heap.size v6 (R.take i ++ R.drop (i + 1)) → Below w5.heap.size w5 w6 → ∃ (R : List Ln) (k' : Nat), k' ≤ L.length ∧ Value.int .i64 ((k : Int) + 1) = .int .i64 k' ∧ Hid (Own ELine w6 w.heap.size v6 R) ∧ Hid (R.length + k' = L.length) ∧ Hid (eqv R (M.drop k') = eqv L M) ∧ Hid (Below w.heap.size w w6)) := fun v6 w6 h1 h2 => by
                  refine ⟨R.take i ++ R.drop (i + 1), k + 1, by omega, by simp, h1.mono hz7, ?_, HRM.out, HB5'.out.trans (h2.mono hz7)⟩
                  show _ = _
                  have := hLen.out
                  simp
                  omega
                have hwr : IntKind.i64.wrap ((i : Int) + 1) = ((i + 1 : Nat) : Int) := IntWalk.i64_in _ (by omega)
                clear hno hbw hbv hz5 hz6 HG3 HSTEP HQ4 HQ5 HRM hV hLen hB hR hz HE2
                go_wp2_with fail
                by_cases hcap : i + 1 = cR
                · have HRT : Hid (∀ W n c, Below w5.heap.size w5 W → n = 0 → Rd ELine W (.slice (some ⟨bR, 0, none⟩) n c) (R.drop (i + 1))) := fun W n c hW hn => by
                    have e : R.drop (i + 1) = [] := List.drop_eq_nil_of_le (by omega)
                    rw [e, hn]
                    exact ⟨_, _, rfl, by simp, fun i hi => by simp at hi⟩
                  go_region_held_law (fun W : World => Below w5.heap.size w5 W) (first | assumption | (repeat' first | (with_reducible exact Below.refl _ _) | (with_reducible refine Below.alloc ?_ ?_ _) | (with_reducible refine Below.drew ?_) | (with_reducible refine Below.setCell ?_ ?_ _) | (with_reducible refine below_via (by assumption) ?_ ?_) | go_size)) (first
                  | (refine step_appendRd (E := ELine) (base := w5.heap.size) (l := []) (l2 := R.take i) rfl rfl 71 rfl _ _ 36 rfl Try.underlying36 rfl rfl (Own.emptyAny _ _ _ _) (by refine HP1.out _ (by assumption)) (by simp; omega) (below_size (B := w5.heap.size) (by assumption)) ?_; intro v6 w6 hown6 hb6 hg6 hob6; have hS6 : Below w5.heap.size w5 w6 := Below.trans (by assumption) hb6; have hO6 : Own ELine w6 w5.heap.size v6 (R.take i) := by simpa using hown6)
                  | (refine step_appendRd (E := ELine) (base := w5.heap.size) (l := R.take i) (l2 := R.drop (i + 1)) rfl rfl 76 rfl _ _ 36 rfl Try.underlying36 rfl rfl hO6 (by refine HRT.out _ _ _ (by assumption) ?_; omega) (by simp; omega) (below_size (B := w5.heap.size) (by assumption)) ?_; intro v7 w7 hown7 hb7 hg7 hob7; have hS7 : Below w5.heap.size w5 w7 := Below.trans hS6 hb7))
                  all_goals (go_wp2_with fail; go_roundw; (case rel => exact (HPOST.out _ _ hown7 hS7)); (case measure => simp [intOf]; omega))
                · have HRT : Hid (∀ W, Below w5.heap.size w5 W → Rd ELine W (.slice (some ⟨bR, (i + 1) * 3, none⟩) (R.length - (i + 1)) (cR - (i + 1))) (R.drop (i + 1))) := fun W hW => by
                    have h := ((HR5.out.rd).keep hW).tail (i + 1) (R.length - (i + 1)) (cR - (i + 1)) (by omega)
                    rw [add_origin] at h
                    exact h
                  go_region_held_law (fun W : World => Below w5.heap.size w5 W) (first | assumption | (repeat' first | (with_reducible exact Below.refl _ _) | (with_reducible refine Below.alloc ?_ ?_ _) | (with_reducible refine Below.drew ?_) | (with_reducible refine Below.setCell ?_ ?_ _) | (with_reducible refine below_via (by assumption) ?_ ?_) | go_size)) (first
                  | (refine step_appendRd (E := ELine) (base := w5.heap.size) (l := []) (l2 := R.take i) rfl rfl 71 rfl _ _ 36 rfl Try.underlying36 rfl rfl (Own.emptyAny _ _ _ _) (by refine HP1.out _ (by assumption)) (by simp; omega) (below_size (B := w5.heap.size) (by assumption)) ?_; intro v6 w6 hown6 hb6 hg6 hob6; have hS6 : Below w5.heap.size w5 w6 := Below.trans (by assumption) hb6; have hO6 : Own ELine w6 w5.heap.size v6 (R.take i) := by simpa using hown6)
                  | (refine step_appendRd (E := ELine) (base := w5.heap.size) (l := R.take i) (l2 := R.drop (i + 1)) rfl rfl 76 rfl _ _ 36 rfl Try.underlying36 rfl rfl hO6 (by show Rd ELine _ (.slice (some ⟨bR, (i + 1) * 3, none⟩) (R.length - (i + 1)) (cR - (i + 1))) _; exact HRT.out _ (by assumption)) (by simp; omega) (below_size (B := w5.heap.size) (by assumption)) ?_; intro v7 w7 hown7 hb7 hg7 hob7; have hS7 : Below w5.heap.size w5 w7 := Below.trans hS6 hb7))
                  all_goals (go_wp2_with fail; go_roundw; (case rel => exact (HPOST.out _ _ hown7 hS7)); (case measure => simp [intOf]; omega))
        · have ej : ((n + 1 : Nat) : Int) - 1 = (n : Int) := by omega
          rw [ej]
          obtain ⟨c0, c1', c2'⟩ := HG3.out n (by omega)
          have hz5 := hbw.size
          rw [← hbw.cell (by simpa using hbR)] at c0 c1' c2'
          rw [← hbw.cell (by simpa using hbM')] at m0 m1 m2
          have gW1 : bR < wr.heap.size := by omega
          have gW2 : bM < wr.heap.size := by omega
          have HA : Hid (gD R Ln0 n = x → AtOf R x n n) := fun e => AtOf.hit (by omega) e
          have HBm : Hid (gD R Ln0 n ≠ x → AtOf R x n m) := fun e => hm.out.miss e
          clear hm HG3 HSTEP HE2
          generalize gD R Ln0 n = l at *
          by_cases e : l = x
          · have HE3 := Lib.hid (HA.out e)
            subst e
            clear HA HBm
            go_wp2_with fail
            (with_reducible refine wp_region_qb ?_ ?_ (fun hq => ?_)); (focus kernel_rfl); (focus kernel_rfl); (repeat (go_big_quiet_step (fail))); refine wpQuiet_nil ?_; intro wq hb
            go_wp2_with fail
            go_roundw
            case rel => exact ⟨n, n, by omega, by go_num, rfl, HE3, hbw.trans (hb.mono (by omega))⟩
            case measure => simp [intOf]
          · have HE3 := Lib.hid (HBm.out e)
            clear HA HBm
            obtain ⟨f1, o1, t1⟩ := l
            obtain ⟨f2, o2, t2⟩ := x
            by_cases e1 : f1 = f2
            · subst e1
              by_cases e2 : o1 = o2
              · subst e2
                by_cases e3 : t1 = t2
                · exact absurd (by rw [e3]) e
                · clear e
                  go_wp2_with fail
                  (with_reducible refine wp_region_qb ?_ ?_ (fun hq => ?_)); (focus kernel_rfl); (focus kernel_rfl); (repeat (go_big_quiet_step (fail))); refine wpQuiet_nil ?_; intro wq hb
                  go_wp2_with fail
                  go_roundw
                  case rel => exact ⟨n, m, by omega, by go_num, rfl, HE3, hbw.trans (hb.mono (by omega))⟩
                  case measure => simp [intOf]
              · clear e
                go_wp2_with fail
                (with_reducible refine wp_region_qb ?_ ?_ (fun hq => ?_)); (focus kernel_rfl); (focus kernel_rfl); (repeat (go_big_quiet_step (fail))); refine wpQuiet_nil ?_; intro wq hb
                go_wp2_with fail
                go_roundw
                case rel => exact ⟨n, m, by omega, by go_num, rfl, HE3, hbw.trans (hb.mono (by omega))⟩
                case measure => simp [intOf]
            · clear e
              go_wp2_with fail
              (with_reducible refine wp_region_qb ?_ ?_ (fun hq => ?_)); (focus kernel_rfl); (focus kernel_rfl); (repeat (go_big_quiet_step (fail))); refine wpQuiet_nil ?_; intro wq hb
              go_wp2_with fail
              go_roundw
              case rel => exact ⟨n, m, by omega, by go_num, rfl, HE3, hbw.trans (hb.mono (by omega))⟩
              case measure => simp [intOf]
end Go.Proofs.Ytledmebhlmpjaaa
namespace Go.Proofs.Ytledmebhlmpjaaa
open Go.ChangeShapes Go.WideShapes Go.ChangeAt Go.RowKit Peg Go.Sort
set_option maxHeartbeats 1000000 in
set_option maxRecDepth 100000 in
theorem sHasOneWay_of (a b o s g : Int) (hs : s ≤ 9223372036854775807) (hg : g ≤ 9223372036854775807)
    (PC : isSmall a b o = true → posOk a b o s = true → posOk a b o g = true → ∀ W, Calls Try.prog 13 #[.agg #[.int .i64 a, .int .i64 b, .int .i64 o], .int .i64 s, .int .i64 g] W fun e w' => e = .returned (.int .i64 (games a b o g s : Nat)) ∧ Below W.heap.size W w')
    (PG : isSmall a b o = true → posOk a b o s = true → posOk a b o g = true → ∀ (i : Nat) W, i < games a b o g s → Calls Try.prog 26 #[.agg #[.int .i64 a, .int .i64 b, .int .i64 o], .int .i64 s, .int .i64 g, .int .i64 i] W fun e w' => ∃ v, e = .returned (.tuple #[v, .bool true]) ∧ Own ELine w' W.heap.size v (gameAt a b o s g i) ∧ Below W.heap.size W w') (w : World) :
    Calls Try.prog 5 #[.agg #[.int .i64 a, .int .i64 b, .int .i64 o, .int .i64 s, .int .i64 g]] w fun e w' => e = .returned (.bool (hasOne a b o s g)) ∧ Below w.heap.size w w' := by
  have HS : Hid (∀ W, Calls Try.prog 25 #[.agg #[.int .i64 a, .int .i64 b, .int .i64 o, .int .i64 s, .int .i64 g]] W fun e w' => e = .returned (.bool (isSolvable a b o s g)) ∧ Below W.heap.size W w') := fun W => sIsSolvable_any a b o s g hs hg W
  cases hsol : isSolvable a b o s g
  · have HE : Hid (hasOne a b o s g = false) := by show _ = _; simp [hasOne, hsol]
    rw [hsol] at HS
    clear hsol
    go_enter Try.func5, Try.ntmps5
    go_wp2_with (go_at_call 25; refine (HS.out _).mono ?_; rintro e w' ⟨rfl, hb⟩; obtain ⟨hc, hf, hz, hy⟩ := bcell hb; clear hy; (try simp only [World.size_alloc, World.size_setCell, World.size_drew] at hz); (try have gQ0 : w.heap.size < w'.heap.size := by omega); (try have gQ1 : w.heap.size + 1 < w'.heap.size := by omega); (try have gQ2 : w.heap.size + 1 + 1 < w'.heap.size := by omega); (try have gQ3 : w.heap.size + 1 + 1 + 1 < w'.heap.size := by omega); (try have gQ4 : w.heap.size + 1 + 1 + 1 + 1 < w'.heap.size := by omega); (try have gQ5 : w.heap.size + 1 + 1 + 1 + 1 + 1 < w'.heap.size := by omega); (try have dQ0 : _ < w'.heap.size := Nat.lt_of_lt_of_le dQ0 (by omega)); (try have dQ1 : _ < w'.heap.size := Nat.lt_of_lt_of_le dQ1 (by omega)); (try have dQ2 : _ < w'.heap.size := Nat.lt_of_lt_of_le dQ2 (by omega)); (try have dQ3 : _ < w'.heap.size := Nat.lt_of_lt_of_le dQ3 (by omega)); (try have dQ4 : _ < w'.heap.size := Nat.lt_of_lt_of_le dQ4 (by omega)); (try have dQ5 : _ < w'.heap.size := Nat.lt_of_lt_of_le dQ5 (by omega)); (try (have hnQ := Nat.lt_of_succ_le hz; first | (have _x := dQ0; first | (have _x := dQ1; first | (have _x := dQ2; first | (have _x := dQ3; first | (have _x := dQ4; have dQ5 := hnQ) | have dQ4 := hnQ) | have dQ3 := hnQ) | have dQ2 := hnQ) | have dQ1 := hnQ) | have dQ0 := hnQ)); (try (have hmQ := Nat.lt_of_succ_lt (Nat.lt_of_succ_le hz); first | (have _x := dQ0; first | (have _x := dQ1; first | (have _x := dQ2; first | (have _x := dQ3; first | (have _x := dQ4; have dQ5 := hmQ) | have dQ4 := hmQ) | have dQ3 := hmQ) | have dQ2 := hmQ) | have dQ1 := hmQ) | have dQ0 := hmQ)))
    all_goals go_ret
    all_goals exact ⟨by rw [HE.out]; rfl, by (repeat' first | (with_reducible exact Below.refl _ _) | (with_reducible refine Below.alloc ?_ ?_ _) | (with_reducible refine Below.drew ?_) | (with_reducible refine Below.setCell ?_ ?_ _) | (with_reducible refine below_via (by assumption) ?_ ?_) | go_size)⟩
  obtain ⟨q1, q2, q3, q4⟩ := solv_steps hsol
  have HCG := Lib.hid (PC q1 q2 q3)
  have HGA := Lib.hid (PG q1 q2 q3)
  have HWY : Hid (∀ W, Calls Try.prog 12 #[.agg #[.int .i64 a, .int .i64 b, .int .i64 o], .int .i64 s, .int .i64 g] W (RetWay W a b o s g)) := fun W => sWayTo_any a b o s g hs hg W
  have HSO : Hid (∀ (L M : List Ln) v1 v2 W B1 B2, Own ELine W B1 v1 L → Own ELine W B2 v2 M → Calls Try.prog 27 #[v1, v2] W fun e w' => e = .returned (.bool (same10 L M)) ∧ Below W.heap.size W w') := fun L M v1 v2 W B1 B2 h1 h2 => sAreSameUpToOrder_any L M v1 v2 W h1 h2
  have HFIT := games_fits (g := g) q1 q2
  have HV : Hid (hasOne a b o s g = (decide (games a b o g s ≤ 200) && (List.range (games a b o g s)).all fun i => same10 (wayTo a b o s g) (gameAt a b o s g i))) := by show _ = _; rw [← hasOne_ref, hsol, Bool.true_and]
  rw [hsol] at HS
  clear hsol q1 q2 q3 q4 hs hg PC PG
  generalize hasOne a b o s g = Z at *
  generalize games a b o g s = N at *
  generalize gameAt a b o s g = ga at *
  unfold RetWay at HWY
  generalize wayTo a b o s g = WL at *
  generalize reach a b o s g false = rr at *
  by_cases h200 : N ≤ 200
  rotate_left
  · have HE : Hid (Z = false) := by show _ = _; rw [HV.out]; simp [h200]
    clear HV
    go_enter Try.func5, Try.ntmps5
    go_wp2_with (first | (go_at_call 25; refine (HS.out _).mono ?_; rintro e w' ⟨rfl, hb⟩; obtain ⟨hc, hf, hz, hy⟩ := bcell hb; clear hy; (try simp only [World.size_alloc, World.size_setCell, World.size_drew] at hz); (try have gQ0 : w.heap.size < w'.heap.size := by omega); (try have gQ1 : w.heap.size + 1 < w'.heap.size := by omega); (try have gQ2 : w.heap.size + 1 + 1 < w'.heap.size := by omega); (try have gQ3 : w.heap.size + 1 + 1 + 1 < w'.heap.size := by omega); (try have gQ4 : w.heap.size + 1 + 1 + 1 + 1 < w'.heap.size := by omega); (try have gQ5 : w.heap.size + 1 + 1 + 1 + 1 + 1 < w'.heap.size := by omega); (try have dQ0 : _ < w'.heap.size := Nat.lt_of_lt_of_le dQ0 (by omega)); (try have dQ1 : _ < w'.heap.size := Nat.lt_of_lt_of_le dQ1 (by omega)); (try have dQ2 : _ < w'.heap.size := Nat.lt_of_lt_of_le dQ2 (by omega)); (try have dQ3 : _ < w'.heap.size := Nat.lt_of_lt_of_le dQ3 (by omega)); (try have dQ4 : _ < w'.heap.size := Nat.lt_of_lt_of_le dQ4 (by omega)); (try have dQ5 : _ < w'.heap.size := Nat.lt_of_lt_of_le dQ5 (by omega)); (try (have hnQ := Nat.lt_of_succ_le hz; first | (have _x := dQ0; first | (have _x := dQ1; first | (have _x := dQ2; first | (have _x := dQ3; first | (have _x := dQ4; have dQ5 := hnQ) | have dQ4 := hnQ) | have dQ3 := hnQ) | have dQ2 := hnQ) | have dQ1 := hnQ) | have dQ0 := hnQ)); (try (have hmQ := Nat.lt_of_succ_lt (Nat.lt_of_succ_le hz); first | (have _x := dQ0; first | (have _x := dQ1; first | (have _x := dQ2; first | (have _x := dQ3; first | (have _x := dQ4; have dQ5 := hmQ) | have dQ4 := hmQ) | have dQ3 := hmQ) | have dQ2 := hmQ) | have dQ1 := hmQ) | have dQ0 := hmQ))) | (go_at_call 13; refine (HCG.out _).mono ?_; rintro e w' ⟨rfl, hb⟩; obtain ⟨hc, hf, hz, hy⟩ := bcell hb; clear hy; (try simp only [World.size_alloc, World.size_setCell, World.size_drew] at hz); (try have gQ0 : w.heap.size < w'.heap.size := by omega); (try have gQ1 : w.heap.size + 1 < w'.heap.size := by omega); (try have gQ2 : w.heap.size + 1 + 1 < w'.heap.size := by omega); (try have gQ3 : w.heap.size + 1 + 1 + 1 < w'.heap.size := by omega); (try have gQ4 : w.heap.size + 1 + 1 + 1 + 1 < w'.heap.size := by omega); (try have gQ5 : w.heap.size + 1 + 1 + 1 + 1 + 1 < w'.heap.size := by omega); (try have dQ0 : _ < w'.heap.size := Nat.lt_of_lt_of_le dQ0 (by omega)); (try have dQ1 : _ < w'.heap.size := Nat.lt_of_lt_of_le dQ1 (by omega)); (try have dQ2 : _ < w'.heap.size := Nat.lt_of_lt_of_le dQ2 (by omega)); (try have dQ3 : _ < w'.heap.size := Nat.lt_of_lt_of_le dQ3 (by omega)); (try have dQ4 : _ < w'.heap.size := Nat.lt_of_lt_of_le dQ4 (by omega)); (try have dQ5 : _ < w'.heap.size := Nat.lt_of_lt_of_le dQ5 (by omega)); (try (have hnQ := Nat.lt_of_succ_le hz; first | (have _x := dQ0; first | (have _x := dQ1; first | (have _x := dQ2; first | (have _x := dQ3; first | (have _x := dQ4; have dQ5 := hnQ) | have dQ4 := hnQ) | have dQ3 := hnQ) | have dQ2 := hnQ) | have dQ1 := hnQ) | have dQ0 := hnQ)); (try (have hmQ := Nat.lt_of_succ_lt (Nat.lt_of_succ_le hz); first | (have _x := dQ0; first | (have _x := dQ1; first | (have _x := dQ2; first | (have _x := dQ3; first | (have _x := dQ4; have dQ5 := hmQ) | have dQ4 := hmQ) | have dQ3 := hmQ) | have dQ2 := hmQ) | have dQ1 := hmQ) | have dQ0 := hmQ))))
    all_goals go_ret
    all_goals exact ⟨by rw [HE.out]; rfl, by (repeat' first | (with_reducible exact Below.refl _ _) | (with_reducible refine Below.alloc ?_ ?_ _) | (with_reducible refine Below.drew ?_) | (with_reducible refine Below.setCell ?_ ?_ _) | (with_reducible refine below_via (by assumption) ?_ ?_) | go_size)⟩
  have HV2 : Hid (Z = (List.range N).all fun i => same10 WL (ga i)) := by show _ = _; rw [HV.out]; simp [h200]
  clear HV
  go_enter Try.func5, Try.ntmps5
  go_wp2_with (first | (go_at_call 25; refine (HS.out _).mono ?_; rintro e w' ⟨rfl, hb⟩; obtain ⟨hc, hf, hz, hy⟩ := bcell hb; clear hy; (try simp only [World.size_alloc, World.size_setCell, World.size_drew] at hz); (try have gQ0 : w.heap.size < w'.heap.size := by omega); (try have gQ1 : w.heap.size + 1 < w'.heap.size := by omega); (try have gQ2 : w.heap.size + 1 + 1 < w'.heap.size := by omega); (try have gQ3 : w.heap.size + 1 + 1 + 1 < w'.heap.size := by omega); (try have gQ4 : w.heap.size + 1 + 1 + 1 + 1 < w'.heap.size := by omega); (try have gQ5 : w.heap.size + 1 + 1 + 1 + 1 + 1 < w'.heap.size := by omega); (try have dQ0 : _ < w'.heap.size := Nat.lt_of_lt_of_le dQ0 (by omega)); (try have dQ1 : _ < w'.heap.size := Nat.lt_of_lt_of_le dQ1 (by omega)); (try have dQ2 : _ < w'.heap.size := Nat.lt_of_lt_of_le dQ2 (by omega)); (try have dQ3 : _ < w'.heap.size := Nat.lt_of_lt_of_le dQ3 (by omega)); (try have dQ4 : _ < w'.heap.size := Nat.lt_of_lt_of_le dQ4 (by omega)); (try have dQ5 : _ < w'.heap.size := Nat.lt_of_lt_of_le dQ5 (by omega)); (try (have hnQ := Nat.lt_of_succ_le hz; first | (have _x := dQ0; first | (have _x := dQ1; first | (have _x := dQ2; first | (have _x := dQ3; first | (have _x := dQ4; have dQ5 := hnQ) | have dQ4 := hnQ) | have dQ3 := hnQ) | have dQ2 := hnQ) | have dQ1 := hnQ) | have dQ0 := hnQ)); (try (have hmQ := Nat.lt_of_succ_lt (Nat.lt_of_succ_le hz); first | (have _x := dQ0; first | (have _x := dQ1; first | (have _x := dQ2; first | (have _x := dQ3; first | (have _x := dQ4; have dQ5 := hmQ) | have dQ4 := hmQ) | have dQ3 := hmQ) | have dQ2 := hmQ) | have dQ1 := hmQ) | have dQ0 := hmQ))) | (go_at_call 13; refine (HCG.out _).mono ?_; rintro e w' ⟨rfl, hb⟩; obtain ⟨hc, hf, hz, hy⟩ := bcell hb; clear hy; (try simp only [World.size_alloc, World.size_setCell, World.size_drew] at hz); (try have gQ0 : w.heap.size < w'.heap.size := by omega); (try have gQ1 : w.heap.size + 1 < w'.heap.size := by omega); (try have gQ2 : w.heap.size + 1 + 1 < w'.heap.size := by omega); (try have gQ3 : w.heap.size + 1 + 1 + 1 < w'.heap.size := by omega); (try have gQ4 : w.heap.size + 1 + 1 + 1 + 1 < w'.heap.size := by omega); (try have gQ5 : w.heap.size + 1 + 1 + 1 + 1 + 1 < w'.heap.size := by omega); (try have dQ0 : _ < w'.heap.size := Nat.lt_of_lt_of_le dQ0 (by omega)); (try have dQ1 : _ < w'.heap.size := Nat.lt_of_lt_of_le dQ1 (by omega)); (try have dQ2 : _ < w'.heap.size := Nat.lt_of_lt_of_le dQ2 (by omega)); (try have dQ3 : _ < w'.heap.size := Nat.lt_of_lt_of_le dQ3 (by omega)); (try have dQ4 : _ < w'.heap.size := Nat.lt_of_lt_of_le dQ4 (by omega)); (try have dQ5 : _ < w'.heap.size := Nat.lt_of_lt_of_le dQ5 (by omega)); (try (have hnQ := Nat.lt_of_succ_le hz; first | (have _x := dQ0; first | (have _x := dQ1; first | (have _x := dQ2; first | (have _x := dQ3; first | (have _x := dQ4; have dQ5 := hnQ) | have dQ4 := hnQ) | have dQ3 := hnQ) | have dQ2 := hnQ) | have dQ1 := hnQ) | have dQ0 := hnQ)); (try (have hmQ := Nat.lt_of_succ_lt (Nat.lt_of_succ_le hz); first | (have _x := dQ0; first | (have _x := dQ1; first | (have _x := dQ2; first | (have _x := dQ3; first | (have _x := dQ4; have dQ5 := hmQ) | have dQ4 := hmQ) | have dQ3 := hmQ) | have dQ2 := hmQ) | have dQ1 := hmQ) | have dQ0 := hmQ))))
  refine (HWY.out _).mono ?_
  rintro e w2 ⟨vw, rfl, hown, hb3⟩
  have hz2 := hb3.size
  obtain ⟨aW, cW, rfl, hnW, hgW⟩ := hown.lineG
  have HRW2 := Lib.hid hown
  have HBX2 : Hid (Below (w.heap.size + 1) (w.alloc (.cells #[.int .i64 a, .int .i64 b, .int .i64 o, .int .i64 s, .int .i64 g] 29)) w2) := by
    show Below _ _ _
    (repeat' first | (with_reducible exact Below.refl _ _) | (with_reducible refine Below.alloc ?_ ?_ _) | (with_reducible refine Below.drew ?_) | (with_reducible refine Below.setCell ?_ ?_ _) | (with_reducible refine below_via (by assumption) ?_ ?_) | go_size)
  have hbox2 : ∀ j, w2.cell? ⟨w.heap.size, j, none⟩ = #[Value.int .i64 a, .int .i64 b, .int .i64 o, .int .i64 s, .int .i64 g][j]? := fun j => (HBX2.out.cell (by simp)).trans (by simp)
  have gW2 : w.heap.size < w2.heap.size := by have := HBX2.out.size; simp only [World.size_alloc] at this; omega
  clear hown hgW
  go_wp2_with fail
  refine (HCG.out _).mono ?_
  rintro e w3 ⟨rfl, hbc⟩
  have HRW := Lib.hid (HRW2.out.keep hbc)
  have HBX : Hid (Below (w.heap.size + 1) (w.alloc (.cells #[.int .i64 a, .int .i64 b, .int .i64 o, .int .i64 s, .int .i64 g] 29)) w3) := HBX2.out.trans (hbc.mono (by omega))
  have hbox0 : ∀ j, w3.cell? ⟨w.heap.size, j, none⟩ = #[Value.int .i64 a, .int .i64 b, .int .i64 o, .int .i64 s, .int .i64 g][j]? := fun j => (HBX.out.cell (by simp)).trans (by simp)
  have gW3 : w.heap.size < w3.heap.size := by have := HBX.out.size; simp only [World.size_alloc] at this; omega
  have HW3 : Hid (Below w.heap.size w w3) := ((Below.refl _ _).alloc (Nat.le_refl _) _).trans (HBX.out.mono (by omega))
  clear HS HWY HBX HBX2 HRW2 hbox2 hbc
  go_wp2_with fail
  go_loopw [6] (fun i wr => ∃ k : Nat, k ≤ N ∧ i = .int .i64 k ∧ Hid (((List.range k).all fun i => same10 WL (ga i)) = true) ∧ Below w3.heap.size w3 wr) (fun i _ => N - (intOf i).toNat)
  case atStart => exact ⟨0, by omega, rfl, by show _ = _; simp, Below.refl _ _⟩
  case round =>
    obtain ⟨k, hk, rfl, hno, hbw⟩ := hrel
    have hz5 := hbw.size
    have hbox : ∀ j, wr.cell? ⟨w.heap.size, j, none⟩ = #[Value.int .i64 a, .int .i64 b, .int .i64 o, .int .i64 s, .int .i64 g][j]? := fun j => (hbw.cell (by simpa using gW3)).trans (hbox0 j)
    have gW0 : w.heap.size < wr.heap.size := by omega
    by_cases hlt : k < N
    · go_wp2_with fail
      refine (HGA.out k _ hlt).mono ?_
      rintro e w4 ⟨vg, rfl, hog, hb4⟩
      have hz4 := hb4.size
      have HR1 := Lib.hid ((HRW.out.keep hbw).keep hb4)
      have HR2 := Lib.hid hog
      have hbox4 : ∀ j, w4.cell? ⟨w.heap.size, j, none⟩ = #[Value.int .i64 a, .int .i64 b, .int .i64 o, .int .i64 s, .int .i64 g][j]? := fun j => (hb4.cell (by simpa using gW0)).trans (hbox j)
      have HB4 := Lib.hid (hbw.trans (hb4.mono hz5))
      have HSK : Hid (∀ W, Below w4.heap.size w4 W → Calls Try.prog 27 #[.slice aW WL.length cW, vg] W fun e w' => e = .returned (.bool (same10 WL (ga k))) ∧ Below W.heap.size W w') := fun W hW => HSO.out _ _ _ _ W _ _ (HR1.out.keep hW) (HR2.out.keep hW)
      clear hog hb4
      have HN : Hid (((List.range (k + 1)).all fun i => same10 WL (ga i)) = same10 WL (ga k)) := by show _ = _; rw [List.range_succ, List.all_append, hno.out]; simp
      have HZ : Hid (same10 WL (ga k) = false → Z = false) := by
        show _ → _
        intro h
        rw [HV2.out, List.all_eq_false]
        exact ⟨k, by simpa using hlt, by simpa using h⟩
      generalize same10 WL (ga k) = q at *
      cases q
      · have HE : Hid (Z = false) := HZ.out rfl
        go_wp2_with (go_at_call 27; refine (HSK.out _ (Below.refl _ _)).mono ?_; rintro e w5 ⟨rfl, hb5⟩)
        all_goals go_ret
        all_goals exact ⟨by rw [HE.out]; rfl, (HW3.out.trans (HB4.out.mono (by omega))).trans (hb5.mono (by omega))⟩
      · go_wp2_with (go_at_call 27; refine (HSK.out _ (Below.refl _ _)).mono ?_; rintro e w5 ⟨rfl, hb5⟩)
        go_roundw
        case rel => exact ⟨k + 1, by omega, by go_num, HN, HB4.out.trans (hb5.mono (by omega))⟩
        case measure => simp [intOf]; omega
    · obtain rfl : k = N := by omega
      have HE : Hid (Z = true) := by show _ = _; rw [HV2.out, hno.out]
      go_wp2_with fail
      all_goals go_ret
      all_goals exact ⟨by rw [HE.out]; rfl, HW3.out.trans (hbw.mono (by omega))⟩
end Go.Proofs.Ytledmebhlmpjaaa
