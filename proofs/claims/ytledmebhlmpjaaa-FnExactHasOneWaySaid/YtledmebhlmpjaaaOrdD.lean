/- OrdD: contracts of disturbsOne and SameJumps of the program. No condition. -/
import Derived.Test.YtledmebhlmpjaaaOrdC
import Derived.Test.YtledmebhlmpjaaaPlay
set_option linter.unusedVariables false
set_option linter.unusedSimpArgs false
namespace Go.Proofs.Ytledmebhlmpjaaa
open Go.ChangeShapes Go.WideShapes Go.ChangeAt Go.RowKit Peg Go.Sort
set_option maxHeartbeats 1000000 in
set_option maxRecDepth 100000 in
theorem disturbsOne_any (x : Ln) (L : List Ln) (v : Value) (w : World) (hv : Rd ELine w v L) :
    Calls Try.prog 88 #[.agg #[.int .i64 x.f, .int .i64 x.o, .int .i64 x.t], v] w fun e w' => e = .returned (.bool (L.find? (dis x)).isSome) ∧ Below w.heap.size w w' := by
  obtain ⟨aL, capL, rfl, hnL, hgetL⟩ := hv.line
  have HGL := Lib.hid hgetL
  clear hgetL hv
  go_enter Try.func88, Try.ntmps88
  go_wp2_with fail
  go_loopw [9] (fun i wr => ∃ k : Nat, k ≤ L.length ∧ i = .int .i64 k ∧ Hid ((L.take k).find? (dis x) = none) ∧ Below (w.heap.size + 1) (w.alloc (.cells #[.int .i64 x.f, .int .i64 x.o, .int .i64 x.t] 47)) wr) (fun i _ => L.length - (intOf i).toNat)
  case atStart => exact ⟨0, by omega, rfl, by show _ = _; simp, Below.refl _ _⟩
  case round =>
    obtain ⟨k, hk, rfl, hno, hbw⟩ := hrel
    have hz5 := hbw.size
    simp only [World.size_alloc] at hz5
    have hbox : ∀ j, wr.cell? ⟨w.heap.size, j, none⟩ = #[Value.int .i64 x.f, .int .i64 x.o, .int .i64 x.t][j]? := fun j => (hbw.cell (by simp)).trans (by simp)
    have gW0 : w.heap.size < wr.heap.size := by omega
    have hB0 : Below w.heap.size w wr := ((Below.refl _ _).alloc (Nat.le_refl _) _).trans (hbw.mono (by omega))
    have HB0 := Lib.hid hB0
    by_cases hlt : k < L.length
    · obtain ⟨ad, rfl, had, hc0, hc1, hc2⟩ := HGL.out k hlt
      have hc0' := (hB0.cell (p := ad.add (k * 3)) (by rw [add_block]; exact had)).trans hc0
      have hc1' := (hB0.cell (p := ⟨(ad.add (k * 3)).block, (ad.add (k * 3)).off + 1, none⟩) (by show (ad.add _).block < _; rw [add_block]; exact had)).trans hc1
      have hc2' := (hB0.cell (p := ⟨(ad.add (k * 3)).block, (ad.add (k * 3)).off + 2, none⟩) (by show (ad.add _).block < _; rw [add_block]; exact had)).trans hc2
      clear hc0 hc1 hc2
      have HY := Lib.hid (find_take_yes (dis x) L Ln0 k hlt hno.out)
      have HN := Lib.hid (find_take_no (dis x) L Ln0 k hlt hno.out)
      generalize gD L Ln0 k = l at *
      have HD : Hid (∀ W, Calls Try.prog 101 #[.agg #[.int .i64 x.f, .int .i64 x.o, .int .i64 x.t], .agg #[.int .i64 l.f, .int .i64 l.o, .int .i64 l.t]] W fun e w' => e = .returned (.bool (dis x l)) ∧ Below W.heap.size W w') := fun W => DoDisturb_any x l W
      cases hd : dis x l
      · have HE := Lib.hid (HN.out hd)
        rw [hd] at HD
        clear hd
        go_wp2_with (go_at_call 101; refine (HD.out _).mono ?_; rintro e w' ⟨rfl, hb⟩; obtain ⟨hc, hf, hz, hy⟩ := bcell hb; clear hy; (try simp only [World.size_alloc, World.size_setCell, World.size_drew] at hz); (try have gQ0 : w.heap.size < w'.heap.size := by omega); (try have gQ1 : w.heap.size + 1 < w'.heap.size := by omega); (try have gQ2 : w.heap.size + 1 + 1 < w'.heap.size := by omega); (try have gQ3 : w.heap.size + 1 + 1 + 1 < w'.heap.size := by omega); (try have gQ4 : w.heap.size + 1 + 1 + 1 + 1 < w'.heap.size := by omega); (try have gQ5 : w.heap.size + 1 + 1 + 1 + 1 + 1 < w'.heap.size := by omega); (try have dQ0 : _ < w'.heap.size := Nat.lt_of_lt_of_le dQ0 (by omega)); (try have dQ1 : _ < w'.heap.size := Nat.lt_of_lt_of_le dQ1 (by omega)); (try have dQ2 : _ < w'.heap.size := Nat.lt_of_lt_of_le dQ2 (by omega)); (try have dQ3 : _ < w'.heap.size := Nat.lt_of_lt_of_le dQ3 (by omega)); (try have dQ4 : _ < w'.heap.size := Nat.lt_of_lt_of_le dQ4 (by omega)); (try have dQ5 : _ < w'.heap.size := Nat.lt_of_lt_of_le dQ5 (by omega)); (try (have hnQ := Nat.lt_of_succ_le hz; first | (have _x := dQ0; first | (have _x := dQ1; first | (have _x := dQ2; first | (have _x := dQ3; first | (have _x := dQ4; have dQ5 := hnQ) | have dQ4 := hnQ) | have dQ3 := hnQ) | have dQ2 := hnQ) | have dQ1 := hnQ) | have dQ0 := hnQ)); (try (have hmQ := Nat.lt_of_succ_lt (Nat.lt_of_succ_le hz); first | (have _x := dQ0; first | (have _x := dQ1; first | (have _x := dQ2; first | (have _x := dQ3; first | (have _x := dQ4; have dQ5 := hmQ) | have dQ4 := hmQ) | have dQ3 := hmQ) | have dQ2 := hmQ) | have dQ1 := hmQ) | have dQ0 := hmQ)))
        go_roundw
        case rel => exact ⟨k + 1, by omega, by go_num, HE, hbw.trans ((show Below wr.heap.size wr _ by (repeat' first | (with_reducible exact Below.refl _ _) | (with_reducible refine Below.alloc ?_ ?_ _) | (with_reducible refine Below.drew ?_) | (with_reducible refine Below.setCell ?_ ?_ _) | (with_reducible refine below_via (by assumption) ?_ ?_) | go_size)).mono (by omega))⟩
        case measure => simp [intOf]; omega
      · have HE := Lib.hid (HY.out hd)
        rw [hd] at HD
        clear hd
        go_wp2_with (go_at_call 101; refine (HD.out _).mono ?_; rintro e w' ⟨rfl, hb⟩; obtain ⟨hc, hf, hz, hy⟩ := bcell hb; clear hy; (try simp only [World.size_alloc, World.size_setCell, World.size_drew] at hz); (try have gQ0 : w.heap.size < w'.heap.size := by omega); (try have gQ1 : w.heap.size + 1 < w'.heap.size := by omega); (try have gQ2 : w.heap.size + 1 + 1 < w'.heap.size := by omega); (try have gQ3 : w.heap.size + 1 + 1 + 1 < w'.heap.size := by omega); (try have gQ4 : w.heap.size + 1 + 1 + 1 + 1 < w'.heap.size := by omega); (try have gQ5 : w.heap.size + 1 + 1 + 1 + 1 + 1 < w'.heap.size := by omega); (try have dQ0 : _ < w'.heap.size := Nat.lt_of_lt_of_le dQ0 (by omega)); (try have dQ1 : _ < w'.heap.size := Nat.lt_of_lt_of_le dQ1 (by omega)); (try have dQ2 : _ < w'.heap.size := Nat.lt_of_lt_of_le dQ2 (by omega)); (try have dQ3 : _ < w'.heap.size := Nat.lt_of_lt_of_le dQ3 (by omega)); (try have dQ4 : _ < w'.heap.size := Nat.lt_of_lt_of_le dQ4 (by omega)); (try have dQ5 : _ < w'.heap.size := Nat.lt_of_lt_of_le dQ5 (by omega)); (try (have hnQ := Nat.lt_of_succ_le hz; first | (have _x := dQ0; first | (have _x := dQ1; first | (have _x := dQ2; first | (have _x := dQ3; first | (have _x := dQ4; have dQ5 := hnQ) | have dQ4 := hnQ) | have dQ3 := hnQ) | have dQ2 := hnQ) | have dQ1 := hnQ) | have dQ0 := hnQ)); (try (have hmQ := Nat.lt_of_succ_lt (Nat.lt_of_succ_le hz); first | (have _x := dQ0; first | (have _x := dQ1; first | (have _x := dQ2; first | (have _x := dQ3; first | (have _x := dQ4; have dQ5 := hmQ) | have dQ4 := hmQ) | have dQ3 := hmQ) | have dQ2 := hmQ) | have dQ1 := hmQ) | have dQ0 := hmQ)))
        all_goals go_ret
        all_goals exact ⟨by rw [HE.out]; rfl, HB0.out.trans ((show Below wr.heap.size wr _ by (repeat' first | (with_reducible exact Below.refl _ _) | (with_reducible refine Below.alloc ?_ ?_ _) | (with_reducible refine Below.drew ?_) | (with_reducible refine Below.setCell ?_ ?_ _) | (with_reducible refine below_via (by assumption) ?_ ?_) | go_size)).mono (by omega))⟩
    · obtain rfl : k = L.length := by omega
      have HR : Hid (L.find? (dis x) = none) := by show _ = _; have := hno.out; rwa [List.take_length] at this
      go_wp2_with fail
      all_goals go_ret
      all_goals exact ⟨by rw [HR.out]; rfl, HB0.out⟩
set_option maxHeartbeats 1000000 in
set_option maxRecDepth 100000 in
theorem SameJumps_any (L M : List Ln) (v1 v2 : Value) (w : World) {B1 B2 : Nat} (h1 : Own ELine w B1 v1 L) (h2 : Own ELine w B2 v2 M) :
    Calls Try.prog 64 #[v1, v2] w fun e w' => e = .returned (.bool (decide (L = M))) ∧ Below w.heap.size w w' := by
  obtain ⟨a1, cap1, rfl, hl1, hget1⟩ := h1.lineG
  obtain ⟨a2, cap2, rfl, hl2, hget2⟩ := h2.lineG
  have HG1 := Lib.hid hget1
  have HG2 := Lib.hid hget2
  clear hget1 hget2 h1 h2
  by_cases hlen : L.length = M.length
  rotate_left
  · have HR : Hid (decide (L = M) = false) := by show _ = _; exact decide_eq_false (fun e => hlen (by rw [e]))
    go_enter Try.func64, Try.ntmps64
    go_wp2_with fail
    all_goals go_ret
    all_goals exact ⟨by rw [HR.out]; rfl, by (repeat' first | (with_reducible exact Below.refl _ _) | (with_reducible refine Below.alloc ?_ ?_ _) | (with_reducible refine Below.drew ?_) | (with_reducible refine Below.setCell ?_ ?_ _) | (with_reducible refine below_via (by assumption) ?_ ?_) | go_size)⟩
  have HLEN := Lib.hid hlen
  rw [← hlen] at hl2 HG2 ⊢
  clear hlen
  go_enter Try.func64, Try.ntmps64
  go_wp2_with fail
  go_loopw [14] (fun i wr => ∃ k : Nat, k ≤ L.length ∧ i = .int .i64 k ∧ Hid (L.take k = M.take k) ∧ Below w.heap.size w wr) (fun i _ => L.length - (intOf i).toNat)
  case atStart => exact ⟨0, by omega, rfl, by show _ = _; simp, Below.refl _ _⟩
  case round =>
    obtain ⟨k, hk, rfl, hno, hbw⟩ := hrel
    have hz5 := hbw.size
    by_cases hlt : k < L.length
    · obtain ⟨b1, rfl, _, hb1, hc0, hc1, hc2⟩ := HG1.out k hlt
      obtain ⟨b2, rfl, _, hb2, hd0, hd1, hd2⟩ := HG2.out k hlt
      rw [← hbw.cell (by simpa using hb1)] at hc0 hc1 hc2
      rw [← hbw.cell (by simpa using hb2)] at hd0 hd1 hd2
      have hb1' := Nat.lt_of_lt_of_le hb1 hz5
      have hb2' := Nat.lt_of_lt_of_le hb2 hz5
      have HA : Hid (gD L Ln0 k = gD M Ln0 k → L.take (k + 1) = M.take (k + 1)) := by
        show _ → _
        intro e
        have hm : k < M.length := by have := HLEN.out; omega
        rw [gD_lt _ _ _ hlt, gD_lt _ _ _ hm] at e
        rw [List.take_succ_eq_append_getElem hlt, List.take_succ_eq_append_getElem hm, hno.out, e]
      have HB : Hid (gD L Ln0 k ≠ gD M Ln0 k → decide (L = M) = false) := by
        show _ → _
        intro e
        exact decide_eq_false (fun h => e (by rw [h]))
      generalize gD L Ln0 k = l at *
      generalize gD M Ln0 k = m at *
      go_wp2_with fail
      by_cases e : l = m
      · have HE := Lib.hid (HA.out e)
        subst e
        (with_reducible refine wp_region_qb ?_ ?_ (fun hq => ?_)); (focus kernel_rfl); (focus kernel_rfl); (repeat (go_big_quiet_step (fail))); refine wpQuiet_nil ?_
        intro wq hb
        go_wp2_with fail
        go_roundw
        case rel => exact ⟨k + 1, by omega, by go_num, HE, hbw.trans ((show Below wr.heap.size wr _ by (repeat' first | (with_reducible exact Below.refl _ _) | (with_reducible refine Below.alloc ?_ ?_ _) | (with_reducible refine Below.drew ?_) | (with_reducible refine Below.setCell ?_ ?_ _) | (with_reducible refine below_via (by assumption) ?_ ?_) | go_size)).mono (by omega))⟩
        case measure => simp [intOf]; omega
      · have HE := Lib.hid (HB.out e)
        clear HA HB hno
        obtain ⟨f1, o1, t1⟩ := l
        obtain ⟨f2, o2, t2⟩ := m
        by_cases e1 : f1 = f2
        · subst e1
          by_cases e2 : o1 = o2
          · subst e2
            by_cases e3 : t1 = t2
            · exact absurd (by rw [e3]) e
            · clear e
              (with_reducible refine wp_region_qb ?_ ?_ (fun hq => ?_)); (focus kernel_rfl); (focus kernel_rfl); (repeat (go_big_quiet_step (fail))); refine wpQuiet_nil ?_
              intro wq hb
              go_wp2_with fail
              all_goals go_ret
              all_goals exact ⟨by rw [HE.out]; rfl, hbw.trans ((show Below wr.heap.size wr _ by (repeat' first | (with_reducible exact Below.refl _ _) | (with_reducible refine Below.alloc ?_ ?_ _) | (with_reducible refine Below.drew ?_) | (with_reducible refine Below.setCell ?_ ?_ _) | (with_reducible refine below_via (by assumption) ?_ ?_) | go_size)).mono (by omega))⟩
          · clear e
            (with_reducible refine wp_region_qb ?_ ?_ (fun hq => ?_)); (focus kernel_rfl); (focus kernel_rfl); (repeat (go_big_quiet_step (fail))); refine wpQuiet_nil ?_
            intro wq hb
            go_wp2_with fail
            all_goals go_ret
            all_goals exact ⟨by rw [HE.out]; rfl, hbw.trans ((show Below wr.heap.size wr _ by (repeat' first | (with_reducible exact Below.refl _ _) | (with_reducible refine Below.alloc ?_ ?_ _) | (with_reducible refine Below.drew ?_) | (with_reducible refine Below.setCell ?_ ?_ _) | (with_reducible refine below_via (by assumption) ?_ ?_) | go_size)).mono (by omega))⟩
        · clear e
          (with_reducible refine wp_region_qb ?_ ?_ (fun hq => ?_)); (focus kernel_rfl); (focus kernel_rfl); (repeat (go_big_quiet_step (fail))); refine wpQuiet_nil ?_
          intro wq hb
          go_wp2_with fail
          all_goals go_ret
          all_goals exact ⟨by rw [HE.out]; rfl, hbw.trans ((show Below wr.heap.size wr _ by (repeat' first | (with_reducible exact Below.refl _ _) | (with_reducible refine Below.alloc ?_ ?_ _) | (with_reducible refine Below.drew ?_) | (with_reducible refine Below.setCell ?_ ?_ _) | (with_reducible refine below_via (by assumption) ?_ ?_) | go_size)).mono (by omega))⟩
    · obtain rfl : k = L.length := by omega
      have HR : Hid (decide (L = M) = true) := by show _ = _; have := hno.out; rw [List.take_length, HLEN.out, List.take_length] at this; exact decide_eq_true this
      go_wp2_with fail
      all_goals go_ret
      all_goals exact ⟨by rw [HR.out]; rfl, hbw⟩
end Go.Proofs.Ytledmebhlmpjaaa
