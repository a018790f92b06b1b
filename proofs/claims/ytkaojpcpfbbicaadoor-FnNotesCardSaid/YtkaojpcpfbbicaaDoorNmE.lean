/- NmE: a game's text, sweeps, comparing games (several texts in one). Conditions: as each contract states. -/
import Derived.Test.YtkaojpcpfbbicaaDoorBoard
import Derived.Test.YtkaojpcpfbbicaaDoorMem3
import Derived.Test.YtkaojpcpfbbicaaDoorPlay0
import Derived.Test.YtkaojpcpfbbicaaDoorNmB
import Derived.Test.YtkaojpcpfbbicaaDoorNmA
import Derived.Test.YtkaojpcpfbbicaaDoorDrawG4
import Derived.Deep.Cut
import Derived.IntWalk
set_option linter.unusedVariables false
set_option linter.unusedSimpArgs false
namespace Go.Proofs.YtkaojpcpfbbicaaDoor
open Go.ChangeShapes Go.WideShapes Go.ChangeAt Go.RowKit Peg Go.Sort
theorem eqLine_same (f o t : Int) (w : World) :
    Calls Tryd.prog 23 #[.agg #[.int .i64 f, .int .i64 o, .int .i64 t], .agg #[.int .i64 f, .int .i64 o, .int .i64 t]] w fun e w' => e = .returned (.bool true) ∧ Below w.heap.size w w' := by
  go_enter Tryd.func23, Tryd.ntmps23
  go_wp2_with fail
  all_goals go_ret
  all_goals exact ⟨by simp, by (repeat' first | (with_reducible exact Below.refl _ _) | (with_reducible refine Below.alloc ?_ ?_ _) | (with_reducible refine Below.drew ?_) | (with_reducible refine Below.setCell ?_ ?_ _) | (with_reducible refine below_via (by assumption) ?_ ?_) | go_size)⟩
end Go.Proofs.YtkaojpcpfbbicaaDoor
namespace Peg
/-- the marks from k on, as lines -/
def markLn (k : Int) (i : Nat) : Ln := ⟨k + 3 * i, k + 3 * i + 1, k + 3 * i + 1 + 1⟩
def marksL (k : Int) (n : Nat) : List Ln := (List.range n).map (markLn k)
end Peg
namespace Go.Proofs.YtkaojpcpfbbicaaDoor
open Go.ChangeShapes Go.WideShapes Go.ChangeAt Go.RowKit Peg Go.Sort
theorem szLineS_any (v : Value) (l : List Ln) (left : Int) (h0 : 0 ≤ left) (h1 : left ≤ 1048576) (w : World) (hv : Rd ELine w v l) :
    Calls Tryd.prog 16 #[v, .int .i64 left] w fun e w' => e = .returned (.int .i64 (if (l.length : Int) ≤ left then left - l.length else -1)) ∧ w = w' := by
  obtain ⟨a, cap, rfl, hl, _⟩ := hv
  by_cases h : (l.length : Int) ≤ left
  · rw [if_pos h]
    go_enter Tryd.func16, Tryd.ntmps16
    go_wp2_with fail
    all_goals go_ret
    all_goals exact ⟨by simp, rfl⟩
  · rw [if_neg h]
    go_enter Tryd.func16, Tryd.ntmps16
    go_wp2_with fail
    all_goals go_ret
    all_goals exact ⟨by simp, rfl⟩
set_option maxRecDepth 100000 in
theorem toLineS_any (v : Value) (l : List Ln) (w : World) (hv : Rd ELine w v l) (hl : l.length ≤ 1048576) :
    Calls Tryd.prog 18 #[v] w (RetLines w l) := by
  obtain ⟨a, cap, rfl, hl, hget⟩ := hv.line
  have HG := Lib.hid hget
  clear hget
  obtain ⟨w1, bS, hrun, hown, hb1, hbS0, hbS⟩ := run_make_own ELine Ln0 _ info_line rfl 37 Tryd.underlying37 l.length (by omega) w
  go_enter Tryd.func18, Tryd.ntmps18
  go_wp2_with fail
  go_loopw [4] (fun i wr => ∃ k : Nat, k ≤ l.length ∧ i = .int .i64 k ∧ Own ELine wr w.heap.size (.slice (some ⟨bS, 0, none⟩) l.length l.length) (over (gD l Ln0) (List.replicate l.length Ln0) k) ∧ Below w.heap.size w wr ∧ bS < wr.heap.size) (fun i _ => l.length - (intOf i).toNat)
  case atStart => exact ⟨0, by omega, rfl, by rw [over_zero]; exact hown, hb1, hbS⟩
  case round =>
    obtain ⟨k, hk, rfl, hownk, hbw, hbSr⟩ := hrel
    by_cases hlt : k < l.length
    · obtain ⟨ad, rfl, had, hc0, hc1, hc2⟩ := HG.out k hlt
      have hc0' := (hbw.cell (p := ad.add (k * 3)) (by rw [add_block]; exact had)).trans hc0
      have hc1' := (hbw.cell (p := ⟨(ad.add (k * 3)).block, (ad.add (k * 3)).off + 1, none⟩) (by show (ad.add _).block < _; rw [add_block]; exact had)).trans hc1
      have hc2' := (hbw.cell (p := ⟨(ad.add (k * 3)).block, (ad.add (k * 3)).off + 2, none⟩) (by show (ad.add _).block < _; rw [add_block]; exact had)).trans hc2
      clear hc0 hc1 hc2
      go_wp2_with fail
      refine (toLine_any _ _ _ _).mono ?_
      rintro e w' ⟨rfl, hb⟩
      have hz := hb.size
      have hown2 := hownk.keep hb
      have hlen := over_length (gD l Ln0) (List.replicate l.length Ln0) k (by simpa using hk)
      obtain ⟨s0, fz⟩ := hown2.some3 (k * 3) (by rw [hlen]; simp [ELine]; omega)
      obtain ⟨s1, _⟩ := hown2.some3 (k * 3 + 1) (by rw [hlen]; simp [ELine]; omega)
      obtain ⟨s2, _⟩ := hown2.some3 (k * 3 + 2) (by rw [hlen]; simp [ELine]; omega)
      clear hlen
      obtain ⟨u0, s0⟩ := Option.isSome_iff_exists.1 s0
      obtain ⟨u1, s1⟩ := Option.isSome_iff_exists.1 s1
      obtain ⟨u2, s2⟩ := Option.isSome_iff_exists.1 s2
      go_wp2_with fail
      have hst := (hown2.store3 rfl k (by rw [over_length _ _ _ (by simpa using hk)]; simpa using hlt) (gD l Ln0 k) _ _ _ rfl)
      go_roundw
      case rel => exact ⟨k + 1, by omega, by go_num, by rw [← over_succ _ _ _ (by simpa using hlt)]; exact hst.1, ((hbw.trans (hb.mono hbw.size)).grown hst.2 (Nat.le_trans hbw.size hz) (fun k hk => by simp at hk; omega)), by have := hst.2.size; omega⟩
      case measure => simp [intOf]; omega
    · have e : k = l.length := by omega
      have HF : Hid (over (gD l Ln0) (List.replicate l.length Ln0) k = l) := by
        show _ = _
        have h1 := over_full (gD l Ln0) (List.replicate l.length Ln0)
        rw [List.length_replicate] at h1
        rw [e, h1, range_getD]
      clear e
      go_wp2_with fail
      go_ret
      exact ⟨_, rfl, by rw [HF.out] at hownk; exact hownk, hbw⟩
set_option maxRecDepth 100000 in
theorem eqLineS_same (v1 v2 : Value) (l : List Ln) (w : World) {B1 B2 : Nat} (h1 : Own ELine w B1 v1 l) (h2 : Own ELine w B2 v2 l) :
    Calls Tryd.prog 20 #[v1, v2] w fun e w' => e = .returned (.bool true) ∧ Below w.heap.size w w' := by
  obtain ⟨a1, cap1, rfl, hl, hget1⟩ := h1.lineG
  obtain ⟨a2, cap2, rfl, _, hget2⟩ := h2.lineG
  have HG1 := Lib.hid hget1
  have HG2 := Lib.hid hget2
  clear hget1 hget2 h1 h2
  go_enter Tryd.func20, Tryd.ntmps20
  go_wp2_with fail
  go_loopw [5] (fun i wr => ∃ k : Nat, k ≤ l.length ∧ i = .int .i64 k ∧ Below w.heap.size w wr) (fun i _ => l.length - (intOf i).toNat)
  case atStart => exact ⟨0, by omega, rfl, Below.refl _ _⟩
  case round =>
    obtain ⟨k, hk, rfl, hbw⟩ := hrel
    by_cases hlt : k < l.length
    · obtain ⟨b1, rfl, _, hb1, hc10, hc11, hc12⟩ := HG1.out k hlt
      obtain ⟨b2, rfl, _, hb2, hc20, hc21, hc22⟩ := HG2.out k hlt
      rw [← hbw.cell (by simpa using hb1)] at hc10 hc11 hc12
      rw [← hbw.cell (by simpa using hb2)] at hc20 hc21 hc22
      have hz := hbw.size
      have hb1' := Nat.lt_of_lt_of_le hb1 hz
      have hb2' := Nat.lt_of_lt_of_le hb2 hz
      go_wp2_with fail
      (with_reducible refine wp_region_qb ?_ ?_ (fun hq => ?_)); (focus kernel_rfl); (focus kernel_rfl); (repeat (go_big_quiet_step ((go_at_call 23; exact Calls.regrown_of (eqLine_same _ _ _ _))))); refine wpQuiet_nil ?_
      intro wq hb
      go_wp2_with fail
      go_roundw
      case rel => exact ⟨k + 1, by omega, by go_num, hbw.trans (hb.mono hz)⟩
      case measure => simp [intOf]; omega
    · go_wp2_with fail
      go_ret
      exact ⟨by simp, hbw⟩
set_option maxRecDepth 100000 in
theorem markLineS_any (v : Value) (l : List Ln) (k : Int) (h0 : 0 ≤ k) (h1 : k ≤ 1099511627776) (hl : l.length ≤ 1099511627776) (w : World) {B : Nat} (hv : Own ELine w B v l) :
    Calls Tryd.prog 26 #[v, .int .i64 k] w fun e w' => e = .returned (.int .i64 (k + 3 * l.length)) ∧ Own ELine w' B v (marksL k l.length) ∧ w.grownBy w' (rowOf v l) := by
  obtain ⟨a, cap, rfl, _, hget⟩ := hv.lineG
  have HG := Lib.hid hget
  clear hget
  go_enter Tryd.func26, Tryd.ntmps26
  go_wp2_with fail
  go_loopw [1, 5] (fun kk i wr => ∃ j : Nat, j ≤ l.length ∧ i = .int .i64 j ∧ kk = .int .i64 (k + 3 * j) ∧ Own ELine wr B (.slice a l.length cap) (over (markLn k) l j) ∧ w.grownBy wr (rowOf (Value.slice a l.length cap) l)) (fun _ i _ => l.length - (intOf i).toNat)
  case atStart => exact ⟨0, by omega, rfl, by simp, by rw [over_zero]; exact hv, World.grownBy.refl _ _⟩
  case round =>
    obtain ⟨j, hj, rfl, rfl, hown, hgr⟩ := hrel
    by_cases hlt : j < l.length
    · obtain ⟨b, rfl, _, hb, _⟩ := HG.out j hlt
      have hlen := over_length (markLn k) l j hj
      obtain ⟨s0, fz⟩ := hown.some3 (j * 3) (by rw [hlen]; simp [ELine]; omega)
      obtain ⟨s1, _⟩ := hown.some3 (j * 3 + 1) (by rw [hlen]; simp [ELine]; omega)
      obtain ⟨s2, _⟩ := hown.some3 (j * 3 + 2) (by rw [hlen]; simp [ELine]; omega)
      obtain ⟨u0, s0⟩ := Option.isSome_iff_exists.1 s0
      obtain ⟨u1, s1⟩ := Option.isSome_iff_exists.1 s1
      obtain ⟨u2, s2⟩ := Option.isSome_iff_exists.1 s2
      clear hlen
      go_wp2_with fail
      have hst := (hown.store3 rfl j (by rw [over_length _ _ _ hj]; exact hlt) (markLn k j) (.int .i64 (k + 3 * j)) (.int .i64 (k + 3 * j + 1)) (.int .i64 (k + 3 * j + 1 + 1)) rfl)
      go_roundw
      case rel => exact ⟨j + 1, by omega, by go_num, by go_num, by rw [← over_succ _ _ _ hlt]; exact hst.1, hgr.trans (by rw [rowOf_ne (by omega)]; exact hst.2)⟩
      case measure => simp [intOf]; omega
    · have e : j = l.length := by omega
      have HF : Hid (over (markLn k) l j = marksL k l.length) := by
        show _ = _
        rw [e, over_full]; rfl
      have HE : Hid ((j : Int) = (l.length : Int)) := by show _ = _; rw [e]
      clear e
      go_wp2_with fail
      go_ret
      exact ⟨by simp [HE.out], by rw [HF.out] at hown; exact hown, hgr⟩
set_option maxRecDepth 100000 in
theorem heldLineS_same (v : Value) (n : Nat) (k : Int) (h0 : 0 ≤ k) (h1 : k ≤ 1099511627776) (hl : n ≤ 1099511627776) (w : World) {B : Nat} (hv : Own ELine w B v (marksL k n)) :
    Calls Tryd.prog 27 #[v, .int .i64 k] w fun e w' => e = .returned (.int .i64 (k + 3 * n)) ∧ w = w' := by
  have hn : (marksL k n).length = n := by simp [marksL]
  obtain ⟨a, cap, rfl, _, hget⟩ := hv.lineG
  rw [hn] at hget ⊢
  have HG := Lib.hid hget
  clear hget hv hn
  go_enter Tryd.func27, Tryd.ntmps27
  go_wp2_with fail
  go_loop [1, 5] (fun kk i => ∃ j : Nat, j ≤ n ∧ i = .int .i64 j ∧ kk = .int .i64 (k + 3 * j)) (fun _ i => n - (intOf i).toNat)
  case atStart => exact ⟨0, by omega, rfl, by simp⟩
  case round =>
    obtain ⟨j, hj, rfl, rfl⟩ := hrel
    by_cases hlt : j < n
    · obtain ⟨b, rfl, _, hb, hc0, hc1, hc2⟩ := HG.out j hlt
      have hg : gD (marksL k n) Ln0 j = markLn k j := by simp [gD, marksL, hlt]
      rw [hg] at hc0 hc1 hc2
      clear hg
      simp only [markLn] at hc0 hc1 hc2
      go_wp2_with fail
      go_round
      case rel => exact ⟨j + 1, by omega, by go_num, by go_num⟩
      case measure => simp [intOf]; omega
    · have HE : Hid ((j : Int) = (n : Int)) := by show _ = _; omega
      go_wp2_with fail
      go_ret
      exact ⟨by simp [HE.out], rfl⟩
end Go.Proofs.YtkaojpcpfbbicaaDoor
namespace Peg
def newSweep (L : List Ln) (i : Nat) : Bool := (i == 0) || ((gD L Ln0 (i - 1)).t != (gD L Ln0 i).f)
def sweepsTo (L : List Ln) (k : Nat) : Nat := (List.range k).countP (newSweep L)
def sweeps (L : List Ln) : Nat := sweepsTo L L.length
theorem sweepsTo_succ (L : List Ln) (k : Nat) : sweepsTo L (k + 1) = sweepsTo L k + (if newSweep L k = true then 1 else 0) := by
  simp [sweepsTo, List.range_succ, List.countP_append, List.countP_cons]
theorem sweepsTo_le (L : List Ln) (k : Nat) : sweepsTo L k ≤ k := by
  have := List.countP_le_length (p := newSweep L) (l := List.range k)
  simpa [sweepsTo] using this
theorem newSweep_succ (L : List Ln) (k : Nat) : newSweep L (k + 1) = ((gD L Ln0 k).t != (gD L Ln0 (k + 1)).f) := by
  simp [newSweep]
end Peg
namespace Go.Proofs.YtkaojpcpfbbicaaDoor
open Go.ChangeShapes Go.WideShapes Go.ChangeAt Go.RowKit Peg Go.Sort
set_option maxHeartbeats 1000000 in
set_option maxRecDepth 100000 in
theorem sCountSweeps_any (L : List Ln) (v : Value) (w : World) {B : Nat} (hv : Own ELine w B v L) :
    Calls Tryd.prog 41 #[v] w fun e w' => e = .returned (.int .i64 (sweeps L : Nat)) ∧ Below w.heap.size w w' := by
  obtain ⟨aL, capL, rfl, hnL, hgetL⟩ := hv.lineG
  have HGL := Lib.hid hgetL
  clear hgetL hv
  go_enter Tryd.func41, Tryd.ntmps41
  go_wp2_with fail
  go_loopw [3, 4] (fun c i wr => ∃ k : Nat, k ≤ L.length ∧ i = .int .i64 k ∧ c = .int .i64 (sweepsTo L k : Nat) ∧ Below w.heap.size w wr) (fun _ i _ => L.length - (intOf i).toNat)
  case atStart => exact ⟨0, by omega, rfl, rfl, Below.refl _ _⟩
  case round =>
    obtain ⟨k, hk, rfl, rfl, hbw⟩ := hrel
    have hz5 := hbw.size
    have hle := sweepsTo_le L k
    have HT := Lib.hid (sweepsTo_succ L k)
    by_cases hlt : k < L.length
    · obtain ⟨bL, rfl, _, hbL, hc0, hc1, hc2⟩ := HGL.out k hlt
      rw [← hbw.cell (by simpa using hbL)] at hc0 hc1 hc2
      have gW : bL < wr.heap.size := by omega
      cases k with
      | zero =>
        have HV : Hid (sweepsTo L (0 + 1) = 1) := by show _ = _; rw [HT.out]; simp [sweepsTo, newSweep]
        go_wp2_with ((with_reducible refine wp_region_qb ?_ ?_ (fun hq => ?_)); (focus kernel_rfl); (focus kernel_rfl); (repeat (go_big_quiet_step (fail))); refine wpQuiet_nil ?_; intro wq hb; obtain ⟨hc, hf, hz, hy⟩ := bcell hb; clear hq hy; (try simp only [World.size_alloc, World.size_setCell, World.size_drew] at hz); (try have gQ0 : w.heap.size < wq.heap.size := by omega); (try have gQ1 : w.heap.size + 1 < wq.heap.size := by omega); (try have gQ2 : w.heap.size + 1 + 1 < wq.heap.size := by omega); (try have gQ3 : w.heap.size + 1 + 1 + 1 < wq.heap.size := by omega); (try have gQ4 : w.heap.size + 1 + 1 + 1 + 1 < wq.heap.size := by omega); (try have gQ5 : w.heap.size + 1 + 1 + 1 + 1 + 1 < wq.heap.size := by omega); (try have dQ0 : _ < wq.heap.size := Nat.lt_of_lt_of_le dQ0 (by omega)); (try have dQ1 : _ < wq.heap.size := Nat.lt_of_lt_of_le dQ1 (by omega)); (try have dQ2 : _ < wq.heap.size := Nat.lt_of_lt_of_le dQ2 (by omega)); (try have dQ3 : _ < wq.heap.size := Nat.lt_of_lt_of_le dQ3 (by omega)); (try have dQ4 : _ < wq.heap.size := Nat.lt_of_lt_of_le dQ4 (by omega)); (try have dQ5 : _ < wq.heap.size := Nat.lt_of_lt_of_le dQ5 (by omega)); (try (have hnQ := Nat.lt_of_succ_le hz; first | (have _x := dQ0; first | (have _x := dQ1; first | (have _x := dQ2; first | (have _x := dQ3; first | (have _x := dQ4; have dQ5 := hnQ) | have dQ4 := hnQ) | have dQ3 := hnQ) | have dQ2 := hnQ) | have dQ1 := hnQ) | have dQ0 := hnQ)); (try (have hmQ := Nat.lt_of_succ_lt (Nat.lt_of_succ_le hz); first | (have _x := dQ0; first | (have _x := dQ1; first | (have _x := dQ2; first | (have _x := dQ3; first | (have _x := dQ4; have dQ5 := hmQ) | have dQ4 := hmQ) | have dQ3 := hmQ) | have dQ2 := hmQ) | have dQ1 := hmQ) | have dQ0 := hmQ)))
        go_roundw
        case rel => exact ⟨1, by omega, by go_num, by rw [HV.out]; simp [sweepsTo], by (repeat' first | (with_reducible exact Below.refl _ _) | (with_reducible refine Below.alloc ?_ ?_ _) | (with_reducible refine Below.drew ?_) | (with_reducible refine Below.setCell ?_ ?_ _) | (with_reducible refine below_via (by assumption) ?_ ?_) | go_size)⟩
        case measure => simp [intOf]; omega
      | succ k =>
        obtain ⟨bL', e1, _, _, hd0, hd1, hd2⟩ := HGL.out k (by omega)
        obtain rfl : bL = bL' := by simpa using e1
        rw [← hbw.cell (by simpa using hbL)] at hd0 hd1 hd2
        have HN := Lib.hid (newSweep_succ L k)
        generalize hT0 : sweepsTo L (k + 1) = T at *
        clear e1 hT0
        generalize gD L Ln0 (k + 1) = l at *
        generalize gD L Ln0 k = m at *
        have hk0 : ((k : Int) + 1 == 0) = false := by rw [beq_eq_false_iff_ne]; omega

        by_cases hne : m.t = l.f
        · have HV : Hid (sweepsTo L (k + 1 + 1) = T) := by show _ = _; rw [HT.out, HN.out]; simp [hne]
          have hd : (m.t != l.f) = false := by simp [hne]
          have hd' : (l.f != m.t) = false := by simp [hne]
          go_wp2_with ((with_reducible refine wp_region_qb ?_ ?_ (fun hq => ?_)); (focus kernel_rfl); (focus kernel_rfl); (repeat (go_big_quiet_step (fail))); refine wpQuiet_nil ?_; intro wq hb; obtain ⟨hc, hf, hz, hy⟩ := bcell hb; clear hq hy; (try simp only [World.size_alloc, World.size_setCell, World.size_drew] at hz); (try have gQ0 : w.heap.size < wq.heap.size := by omega); (try have gQ1 : w.heap.size + 1 < wq.heap.size := by omega); (try have gQ2 : w.heap.size + 1 + 1 < wq.heap.size := by omega); (try have gQ3 : w.heap.size + 1 + 1 + 1 < wq.heap.size := by omega); (try have gQ4 : w.heap.size + 1 + 1 + 1 + 1 < wq.heap.size := by omega); (try have gQ5 : w.heap.size + 1 + 1 + 1 + 1 + 1 < wq.heap.size := by omega); (try have dQ0 : _ < wq.heap.size := Nat.lt_of_lt_of_le dQ0 (by omega)); (try have dQ1 : _ < wq.heap.size := Nat.lt_of_lt_of_le dQ1 (by omega)); (try have dQ2 : _ < wq.heap.size := Nat.lt_of_lt_of_le dQ2 (by omega)); (try have dQ3 : _ < wq.heap.size := Nat.lt_of_lt_of_le dQ3 (by omega)); (try have dQ4 : _ < wq.heap.size := Nat.lt_of_lt_of_le dQ4 (by omega)); (try have dQ5 : _ < wq.heap.size := Nat.lt_of_lt_of_le dQ5 (by omega)); (try (have hnQ := Nat.lt_of_succ_le hz; first | (have _x := dQ0; first | (have _x := dQ1; first | (have _x := dQ2; first | (have _x := dQ3; first | (have _x := dQ4; have dQ5 := hnQ) | have dQ4 := hnQ) | have dQ3 := hnQ) | have dQ2 := hnQ) | have dQ1 := hnQ) | have dQ0 := hnQ)); (try (have hmQ := Nat.lt_of_succ_lt (Nat.lt_of_succ_le hz); first | (have _x := dQ0; first | (have _x := dQ1; first | (have _x := dQ2; first | (have _x := dQ3; first | (have _x := dQ4; have dQ5 := hmQ) | have dQ4 := hmQ) | have dQ3 := hmQ) | have dQ2 := hmQ) | have dQ1 := hmQ) | have dQ0 := hmQ)))
          go_roundw
          case rel => exact ⟨k + 1 + 1, by omega, by go_num, by rw [HV.out], by (repeat' first | (with_reducible exact Below.refl _ _) | (with_reducible refine Below.alloc ?_ ?_ _) | (with_reducible refine Below.drew ?_) | (with_reducible refine Below.setCell ?_ ?_ _) | (with_reducible refine below_via (by assumption) ?_ ?_) | go_size)⟩
          case measure => simp [intOf]; omega
        · have HV : Hid (sweepsTo L (k + 1 + 1) = T + 1) := by show _ = _; rw [HT.out, HN.out]; simp [hne]
          have hd : (m.t != l.f) = true := by simp [hne]
          have hd' : (l.f != m.t) = true := by simp [Ne.symm hne]
          go_wp2_with ((with_reducible refine wp_region_qb ?_ ?_ (fun hq => ?_)); (focus kernel_rfl); (focus kernel_rfl); (repeat (go_big_quiet_step (fail))); refine wpQuiet_nil ?_; intro wq hb; obtain ⟨hc, hf, hz, hy⟩ := bcell hb; clear hq hy; (try simp only [World.size_alloc, World.size_setCell, World.size_drew] at hz); (try have gQ0 : w.heap.size < wq.heap.size := by omega); (try have gQ1 : w.heap.size + 1 < wq.heap.size := by omega); (try have gQ2 : w.heap.size + 1 + 1 < wq.heap.size := by omega); (try have gQ3 : w.heap.size + 1 + 1 + 1 < wq.heap.size := by omega); (try have gQ4 : w.heap.size + 1 + 1 + 1 + 1 < wq.heap.size := by omega); (try have gQ5 : w.heap.size + 1 + 1 + 1 + 1 + 1 < wq.heap.size := by omega); (try have dQ0 : _ < wq.heap.size := Nat.lt_of_lt_of_le dQ0 (by omega)); (try have dQ1 : _ < wq.heap.size := Nat.lt_of_lt_of_le dQ1 (by omega)); (try have dQ2 : _ < wq.heap.size := Nat.lt_of_lt_of_le dQ2 (by omega)); (try have dQ3 : _ < wq.heap.size := Nat.lt_of_lt_of_le dQ3 (by omega)); (try have dQ4 : _ < wq.heap.size := Nat.lt_of_lt_of_le dQ4 (by omega)); (try have dQ5 : _ < wq.heap.size := Nat.lt_of_lt_of_le dQ5 (by omega)); (try (have hnQ := Nat.lt_of_succ_le hz; first | (have _x := dQ0; first | (have _x := dQ1; first | (have _x := dQ2; first | (have _x := dQ3; first | (have _x := dQ4; have dQ5 := hnQ) | have dQ4 := hnQ) | have dQ3 := hnQ) | have dQ2 := hnQ) | have dQ1 := hnQ) | have dQ0 := hnQ)); (try (have hmQ := Nat.lt_of_succ_lt (Nat.lt_of_succ_le hz); first | (have _x := dQ0; first | (have _x := dQ1; first | (have _x := dQ2; first | (have _x := dQ3; first | (have _x := dQ4; have dQ5 := hmQ) | have dQ4 := hmQ) | have dQ3 := hmQ) | have dQ2 := hmQ) | have dQ1 := hmQ) | have dQ0 := hmQ)))
          go_roundw
          case rel => exact ⟨k + 1 + 1, by omega, by go_num, by rw [HV.out]; go_num, by (repeat' first | (with_reducible exact Below.refl _ _) | (with_reducible refine Below.alloc ?_ ?_ _) | (with_reducible refine Below.drew ?_) | (with_reducible refine Below.setCell ?_ ?_ _) | (with_reducible refine below_via (by assumption) ?_ ?_) | go_size)⟩
          case measure => simp [intOf]; omega
    · obtain rfl : k = L.length := by omega
      go_wp2_with fail
      go_ret
      exact ⟨rfl, hbw⟩
end Go.Proofs.YtkaojpcpfbbicaaDoor
namespace Peg
theorem jt_facts {a b o : Int} {l : Ln} (h : isLn a b o l = true) : (jumpText a b o l).size = 5 ∧ (jumpText a b o l).data.toList.count 32 = 0 := by
  obtain ⟨h1, h2⟩ := line_holes (isLn_mem h)
  obtain ⟨a1, a2, _, a4⟩ := nl_no h1
  obtain ⟨b1, b2, _, b4⟩ := nl_no h2
  have e := jt_list h
  constructor
  · have : (jumpText a b o l).data.toList.length = 5 := by rw [e]; simp [a4, b4]
    rw [Array.length_toList] at this; exact this
  · rw [e, List.count_append, List.count_cons, List.count_eq_zero.2 a2, List.count_eq_zero.2 b2]; simp
theorem nm_facts {a b o k : Int} (h : hasHole a b o k = true) : (holeName a b o k).size = 2 ∧ (holeName a b o k).data.toList.count 32 = 0 := by
  obtain ⟨a1, a2, _, a4⟩ := nl_no h
  constructor
  · have : (holeName a b o k).data.toList.length = 2 := a4
    rw [Array.length_toList] at this; exact this
  · exact List.count_eq_zero.2 a2
theorem gt_facts {a b o : Int} {L : List Ln} (hL : ∀ l ∈ L, isLn a b o l = true) : ∀ k, k < L.length → ∃ s, gtTo (isLn a b o) (holeName a b o) (jumpText a b o) L (k + 1) = some s ∧ s.size + 1 = 3 * (k + 1) + 3 * sweepsTo L (k + 1) ∧ s.data.toList.count 32 + 1 = sweepsTo L (k + 1)
  | 0, hk => by
    have h1 := hL _ (gD_mem L Ln0 0 hk)
    obtain ⟨f1, f2⟩ := jt_facts h1
    have hs : sweepsTo L 1 = 1 := by rw [sweepsTo_succ]; simp [sweepsTo, newSweep]
    refine ⟨⟨#[]⟩ ++ gPiece (holeName a b o) (jumpText a b o) L 0, gtTo_yes rfl h1, ?_, ?_⟩
    · rw [empty_app, gPiece, f1, hs]
    · rw [empty_app, gPiece, f2, hs]
  | k + 1, hk => by
    obtain ⟨s, i1, i2, i3⟩ := gt_facts hL k (by omega)
    have h1 := hL _ (gD_mem L Ln0 (k + 1) hk)
    refine ⟨_, gtTo_yes i1 h1, ?_⟩
    rw [sweepsTo_succ L (k + 1), newSweep_succ]
    have hsz : ∀ (u v : ByteArray), (u ++ v).data.toList.count 32 = u.data.toList.count 32 + v.data.toList.count 32 := fun u v => by rw [ByteArray.data_append, Array.toList_append, List.count_append]
    by_cases he : (gD L Ln0 k).t = (gD L Ln0 (k + 1)).f
    · obtain ⟨f1, f2⟩ := nm_facts (line_holes (isLn_mem h1)).2
      rw [gPiece_same he, ByteArray.size_append, ByteArray.size_append, f1, one_size, hsz, hsz, f2]
      have : ((gD L Ln0 k).t != (gD L Ln0 (k + 1)).f) = false := by simp [he]
      rw [this]
      have h45 : (⟨#[45]⟩ : ByteArray).data.toList.count 32 = 0 := by decide
      rw [h45]
      simp only [Bool.false_eq_true, if_false]
      omega
    · obtain ⟨f1, f2⟩ := jt_facts h1
      rw [gPiece_new he, ByteArray.size_append, ByteArray.size_append, f1, one_size, hsz, hsz, f2]
      have : ((gD L Ln0 k).t != (gD L Ln0 (k + 1)).f) = true := by simp [he]
      rw [this]
      have h32 : (⟨#[32]⟩ : ByteArray).data.toList.count 32 = 1 := by decide
      rw [h32]
      simp only [if_true]
      omega
theorem play_lines {a b o : Int} : ∀ {L : List Ln} {p q : Int}, playTo false a b o p L = some q → ∀ l ∈ L, isLn a b o l = true
  | [], p, q, h, l, hl => by cases hl
  | x :: L, p, q, h, l, hl => by
    simp only [playTo] at h
    split at h
    · rename_i hd
      rcases List.mem_cons.1 hl with rfl | hl
      · exact (doOk_pos hd).2.1
      · exact play_lines h l hl
    · cases h
/-- the text of a game that is played -/
theorem text_facts {a b o : Int} {L : List Ln} (hL : ∀ l ∈ L, isLn a b o l = true) (h60 : L.length ≤ 60) :
    (L = [] → gameText a b o L = ⟨#[]⟩) ∧ (L ≠ [] → (gameText a b o L).size + 1 = 3 * L.length + 3 * sweeps L ∧ (gameText a b o L).data.toList.count 32 + 1 = sweeps L ∧ (gameText a b o L).size ≠ 0) := by
  constructor
  · rintro rfl; rfl
  · intro hne
    obtain ⟨n, hn⟩ : ∃ n, L.length = n + 1 := ⟨L.length - 1, by have := List.length_pos_iff.2 hne; omega⟩
    obtain ⟨s, h1, h2, h3⟩ := gt_facts hL n (by omega)
    have e : gameText a b o L = s := by rw [gameText, if_pos h60, hn, h1]; rfl
    rw [e]
    unfold sweeps
    rw [hn]
    exact ⟨h2, h3, by omega⟩
theorem read_back {a b o : Int} {L : List Ln} (hL : ∀ l ∈ L, isLn a b o l = true) (h60 : L.length ≤ 60) : readGI a b o (gameText a b o L) = if L = [] then none else some L := by
  obtain ⟨h1, h2⟩ := text_facts hL h60
  by_cases h : L = []
  · rw [if_pos h, h1 h]; rfl
  · rw [if_neg h]
    exact readGI_iff.2 ⟨(h2 h).2.2, rfl⟩
/-! positions -/
theorem accRow_tb {line : ByteArray} {s : Nat} {p : Int} (i : Nat) : ∀ x, (accRow line s p x).toNat.testBit i = (p.toNat.testBit i || (decide (s ≤ i) && decide (i < s + x) && decide (line.data.toList[i - s]? = some 111)))
  | 0 => by
    rw [accRow]
    have : (decide (s ≤ i) && decide (i < s + 0)) = false := by
      by_cases h : s ≤ i
      · rw [decide_eq_false (show ¬ i < s + 0 by omega), Bool.and_false]
      · rw [decide_eq_false h, Bool.false_and]
    rw [this, Bool.false_and, Bool.or_false]
  | x + 1 => by
    have ih := accRow_tb (line := line) (s := s) (p := p) i x
    by_cases hi : i = s + x
    · have e1 : i - s = x := by omega
      have e2 : decide (i < s + x) = false := decide_eq_false (by omega)
      have e3 : decide (i < s + (x + 1)) = true := decide_eq_true (by omega)
      have e4 : decide (s ≤ i) = true := decide_eq_true (by omega)
      rw [e2, e4, Bool.and_false, Bool.false_and, Bool.or_false] at ih
      rw [e3, e4, e1, Bool.true_and, Bool.true_and, accRow]
      split
      · rename_i h
        have e5 : (((s + x : Nat) : Int)).toNat = i := by omega
        rw [bor_tb, pw_tb, ih, e5]
        simp [h]
      · rename_i h
        rw [ih, decide_eq_false h, Bool.or_false]
    · have e2 : decide (i < s + (x + 1)) = decide (i < s + x) := by rw [Bool.eq_iff_iff, decide_eq_true_iff, decide_eq_true_iff]; omega
      rw [e2, ← ih, accRow]
      split
      · have e5 : ¬ (((s + x : Nat) : Int)).toNat = i := by omega
        rw [bor_tb, pw_tb, decide_eq_false e5, Bool.or_false]
      · rfl
theorem accTo_tb {A : Nat} {p o : Int} {B : Nat} (i : Nat) : ∀ y, y ≤ B → (accTo A (rowsB p o A B) y).toNat.testBit i = (decide (i < y * A) && p.toNat.testBit i)
  | 0, _ => by simp [accTo]
  | y + 1, hy => by
    rw [accTo, accRow_tb, accTo_tb i y (by omega)]
    have hg : gD (rowsB p o A B) B0 y = rowB p o A y := by
      unfold rowsB
      rw [gD_lt _ _ _ (by simp; omega)]
      simp
    rw [hg]
    rw [Nat.succ_mul]
    by_cases h1 : y * A ≤ i
    · by_cases h2 : i < y * A + A
      · have hx : i - y * A < A := by omega
        have e : (rowB p o A y).data.toList[i - y * A]? = some (chr p o i) := by
          simp only [rowB, rowTo]
          rw [List.getElem?_map, List.getElem?_range hx]
          simp [show y * A + (i - y * A) = i from by omega]
        rw [e]
        have hc : decide (some (chr p o i) = some 111) = p.toNat.testBit i := by
          unfold chr
          have e3 : tb p (i : Int) = p.toNat.testBit i := by simp [tb]
          rw [← e3]
          cases tb p (i : Int)
          · simp only [Bool.false_eq_true, if_false]
            split <;> decide
          · simp
        rw [hc]
        simp [h1, h2, show ¬ i < y * A from by omega]
      · simp [h2, show ¬ i < y * A from by omega]
    · simp [h1, show i < y * A from by omega, show i < y * A + A from by omega]
theorem pos_back {a b o p : Int} (h : posOk a b o p = true) : readPos a b o (posText a b o p) = some p := by
  obtain ⟨hb, hp0, _⟩ := posOk_bd h
  obtain ⟨s1, s2⟩ := boardOk_sides hb
  rw [inR_iff] at s1 s2
  have hT : posText a b o p = rowsB p o a.toNat b.toNat := by simp [posText, h]
  have hN := pos_N h
  have hab : ((b.toNat * a.toNat : Nat) : Int) = a * b := by
    rw [Int.natCast_mul, Int.toNat_of_nonneg (by omega), Int.toNat_of_nonneg (by omega), Int.mul_comm]
  have hacc : accTo a.toNat (posText a b o p) b.toNat = p := by
    rw [hT]
    refine tb_ext (accTo_bd (by omega) _ (by omega)).1 hp0 fun i => ?_
    rw [accTo_tb i _ (Nat.le_refl _)]
    by_cases hi : i < b.toNat * a.toNat
    · simp [hi]
    · have : p.toNat.testBit i = false := by
        refine Nat.testBit_lt_two_pow (Nat.lt_of_lt_of_le ?_ (Nat.pow_le_pow_right (by decide) (Nat.le_of_not_lt hi)))
        have h2 : boardN a b = 2 ^ (b.toNat * a.toNat) := by unfold boardN; rw [← hab, Int.toNat_natCast]
        have := hN.2
        rw [h2] at this
        omega
      simp [hi, this]
  unfold readPos
  rw [hacc, if_pos]
  refine ⟨hb, posText_length h, ?_, h, rfl⟩
  intro y hy
  rw [posText_length h] at hy
  rw [hT]
  unfold rowsB
  rw [gD_lt _ _ _ (by simpa using hy)]
  simp [rowB, ByteArray.size, rowTo_length]
end Peg
namespace Peg
theorem jumpBack {a b o : Int} {l : Ln} (h : isLn a b o l = true) : readJump a b o (jumpText a b o l) = some l := by
  have h1 := rj_line h
  rw [← jt_list h] at h1
  unfold rjB at h1
  rwa [show (⟨(jumpText a b o l).data.toList.toArray⟩ : ByteArray) = jumpText a b o l from ba_ext (by simp)] at h1
/-- the spaces of the first k bytes -/
def spTo (s : ByteArray) (k : Nat) : Nat := (s.data.toList.take k).count 32
theorem spTo_succ (s : ByteArray) (k : Nat) (h : k < s.size) : spTo s (k + 1) = spTo s k + if s[k] = 32 then 1 else 0 := by
  have hl : k < s.data.toList.length := by rw [Array.length_toList]; exact h
  unfold spTo
  rw [List.take_succ_eq_append_getElem hl, List.count_append, List.count_cons]
  have e : s.data.toList[k] = s[k] := rfl
  rw [e]
  by_cases hc : s[k] = 32
  · simp [hc]
  · simp [hc]
theorem spTo_le (s : ByteArray) (k : Nat) : spTo s k ≤ k := by
  unfold spTo
  refine Nat.le_trans List.count_le_length ?_
  rw [List.length_take]; omega
theorem spTo_all (s : ByteArray) : spTo s s.size = s.data.toList.count 32 := by
  unfold spTo
  rw [show s.size = s.data.toList.length from by rw [Array.length_toList]; rfl, List.take_length]
end Peg
namespace Go.Proofs.YtkaojpcpfbbicaaDoor
open Go.ChangeShapes Go.WideShapes Go.ChangeAt Go.RowKit Peg Go.Sort
theorem btoiN_any (x : Bool) (w : World) :
    Calls Tryd.prog 40 #[.bool x] w fun e w' => e = .returned (.int .i64 (if x = true then 1 else 0)) ∧ w = w' := by
  cases x
  · go_enter Tryd.func40, Tryd.ntmps40
    go_wp2_with fail
    go_ret
    exact ⟨by simp, rfl⟩
  · go_enter Tryd.func40, Tryd.ntmps40
    go_wp2_with fail
    go_ret
    exact ⟨by simp, rfl⟩
set_option maxRecDepth 100000 in
theorem sSameJumps_same (v1 v2 : Value) (l : List Ln) (w : World) {B1 B2 : Nat} (h1 : Own ELine w B1 v1 l) (h2 : Own ELine w B2 v2 l) :
    Calls Tryd.prog 39 #[v1, v2] w fun e w' => e = .returned (.bool true) ∧ Below w.heap.size w w' := by
  obtain ⟨a1, cap1, rfl, hl, hget1⟩ := h1.lineG
  obtain ⟨a2, cap2, rfl, _, hget2⟩ := h2.lineG
  have HG1 := Lib.hid hget1
  have HG2 := Lib.hid hget2
  clear hget1 hget2 h1 h2
  go_enter Tryd.func39, Tryd.ntmps39
  go_wp2_with fail
  go_loopw [5] (fun i wr => ∃ k : Nat, k ≤ l.length ∧ i = .int .i64 k ∧ Below w.heap.size w wr) (fun i _ => l.length - (intOf i).toNat)
  case atStart => exact ⟨0, by omega, rfl, Below.refl _ _⟩
  case round =>
    obtain ⟨k, hk, rfl, hbw⟩ := hrel
    by_cases hlt : k < l.length
    · obtain ⟨b1, rfl, _, hb1, hc10, hc11, hc12⟩ := HG1.out k hlt
      obtain ⟨b2, rfl, _, hb2, hc20, hc21, hc22⟩ := HG2.out k hlt
      rw [← hbw.cell (by simpa using hb1)] at hc10 hc11 hc12
      rw [← hbw.cell (by simpa using hb2)] at hc20 hc21 hc22
      have hz := hbw.size
      have hb1' := Nat.lt_of_lt_of_le hb1 hz
      have hb2' := Nat.lt_of_lt_of_le hb2 hz
      go_wp2_with fail
      (with_reducible refine wp_region_qb ?_ ?_ (fun hq => ?_)); (focus kernel_rfl); (focus kernel_rfl); (repeat (go_big_quiet_step (fail))); refine wpQuiet_nil ?_
      intro wq hb
      go_wp2_with fail
      go_roundw
      case rel => exact ⟨k + 1, by omega, by go_num, hbw.trans (hb.mono hz)⟩
      case measure => simp [intOf]; omega
    · go_wp2_with fail
      go_ret
      exact ⟨by simp, hbw⟩
end Go.Proofs.YtkaojpcpfbbicaaDoor
