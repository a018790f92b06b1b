/- ArgR: contracts of the laws' own loops over slices (ResultS): sizes, copies, comparisons, marks. Conditions: lengths in range. -/
import Derived.Test.YtikmacjeeaklmaaMemR
import Derived.Test.YtikmacjeeaklmaaScore
import Derived.Test.YtikmacjeeaklmaaArgL
set_option linter.unusedVariables false
set_option linter.unusedSimpArgs false
namespace Peg
def markResult (k : Int) (j : Nat) : Rs := ⟨k + 4 * j, (k + 4 * j + 1) % 3 == 0, k + 4 * j + 1 + 1, k + 4 * j + 1 + 1 + 1⟩
def marksResult (k : Int) (n : Nat) : List Rs := (List.range n).map (markResult k)
end Peg
namespace Go.Proofs.Ytikmacjeeaklmaa
open Go.ChangeShapes Go.WideShapes Go.ChangeAt Go.RowKit Peg Go.Sort
set_option maxRecDepth 100000 in
theorem eqResult_same (l : Int) (c : Bool) (s t : Int) (w : World) :
    Calls Try.prog 31 #[.agg #[.int .i64 l, .bool c, .int .i64 s, .int .i64 t], .agg #[.int .i64 l, .bool c, .int .i64 s, .int .i64 t]] w fun e w' => e = .returned (.bool true) ∧ Below w.heap.size w w' := by
  go_enter Try.func31, Try.ntmps31
  go_wp2_with fail
  all_goals go_ret
  all_goals exact ⟨by simp, by (repeat' first | (with_reducible exact Below.refl _ _) | (with_reducible refine Below.alloc ?_ ?_ _) | (with_reducible refine Below.drew ?_) | (with_reducible refine Below.setCell ?_ ?_ _) | (with_reducible refine below_via (by assumption) ?_ ?_) | go_size)⟩
theorem szResultS_any (v : Value) (l : List Rs) (left : Int) (h0 : 0 ≤ left) (h1 : left ≤ 1048576) (w : World) (hv : Rd EResult w v l) :
    Calls Try.prog 149 #[v, .int .i64 left] w fun e w' => e = .returned (.int .i64 (if (l.length : Int) ≤ left then left - l.length else -1)) ∧ w = w' := by
  obtain ⟨a, cap, rfl, hl, _⟩ := hv
  by_cases h : (l.length : Int) ≤ left
  · rw [if_pos h]
    go_enter Try.func149, Try.ntmps149
    go_wp2_with fail
    all_goals go_ret
    all_goals exact ⟨by simp, rfl⟩
  · rw [if_neg h]
    go_enter Try.func149, Try.ntmps149
    go_wp2_with fail
    all_goals go_ret
    all_goals exact ⟨by simp, rfl⟩
def RetResultS (w : World) (l : List Rs) (e : Ending) (w' : World) : Prop := ∃ v, e = .returned v ∧ Own EResult w' w.heap.size v l ∧ Below w.heap.size w w'
set_option maxRecDepth 100000 in
theorem toResultS_any (v : Value) (l : List Rs) (w : World) (hv : Rd EResult w v l) (hl : l.length ≤ 1048576) :
    Calls Try.prog 151 #[v] w (RetResultS w l) := by
  obtain ⟨a, cap, rfl, hl, hget⟩ := hv.result
  have HG := Lib.hid hget
  clear hget
  obtain ⟨w1, bS, hrun, hown, hb1, hbS0, hbS⟩ := run_make_own EResult Rs0 _ info_result rfl 115 Try.underlying115 l.length (by omega) w
  go_enter Try.func151, Try.ntmps151
  go_wp2_with fail
  go_loopw [4] (fun i wr => ∃ k : Nat, k ≤ l.length ∧ i = .int .i64 k ∧ Own EResult wr w.heap.size (.slice (some ⟨bS, 0, none⟩) l.length l.length) (over (gD l Rs0) (List.replicate l.length Rs0) k) ∧ Below w.heap.size w wr ∧ bS < wr.heap.size) (fun i _ => l.length - (intOf i).toNat)
  case atStart => exact ⟨0, by omega, rfl, by rw [over_zero]; exact hown, hb1, hbS⟩
  case round =>
    obtain ⟨k, hk, rfl, hownk, hbw, hbSr⟩ := hrel
    by_cases hlt : k < l.length
    · obtain ⟨ad, rfl, had, hc0, hc1, hc2, hc3⟩ := HG.out k hlt
      have hc0' := (hbw.cell (p := ad.add (k * 4)) (by rw [add_block]; exact had)).trans hc0
      have hc1' := (hbw.cell (p := ⟨(ad.add (k * 4)).block, (ad.add (k * 4)).off + 1, none⟩) (by show (ad.add _).block < _; rw [add_block]; exact had)).trans hc1
      have hc2' := (hbw.cell (p := ⟨(ad.add (k * 4)).block, (ad.add (k * 4)).off + 2, none⟩) (by show (ad.add _).block < _; rw [add_block]; exact had)).trans hc2
      have hc3' := (hbw.cell (p := ⟨(ad.add (k * 4)).block, (ad.add (k * 4)).off + 3, none⟩) (by show (ad.add _).block < _; rw [add_block]; exact had)).trans hc3
      clear hc0 hc1 hc2 hc3
      have hlen := over_length (gD l Rs0) (List.replicate l.length Rs0) k (by simpa using hk)
      rw [List.length_replicate] at hlen
      go_wp2_with fail
      refine (toResult_any _ _ _ _ _).mono ?_
      rintro e w' ⟨rfl, hb⟩
      have hz := hb.size
      have hown2 := hownk.keep hb
      have fz := hown2.fz (by omega)
      obtain ⟨u0, s0⟩ := hown2.some1 k (by omega) 0 (by decide)
      rw [show k * EResult.size + 0 = k * 4 from by show k * 4 + 0 = _; omega] at s0
      obtain ⟨u1, s1⟩ := hown2.some1 k (by omega) 1 (by decide)
      rw [show k * EResult.size + 1 = k * 4 + 1 from by show k * 4 + 1 = _; omega] at s1
      obtain ⟨u2, s2⟩ := hown2.some1 k (by omega) 2 (by decide)
      rw [show k * EResult.size + 2 = k * 4 + 2 from by show k * 4 + 2 = _; omega] at s2
      obtain ⟨u3, s3⟩ := hown2.some1 k (by omega) 3 (by decide)
      rw [show k * EResult.size + 3 = k * 4 + 3 from by show k * 4 + 3 = _; omega] at s3
      have hst := hown2.st4 rfl k (by omega) (gD l Rs0 k) (.int .i64 (gD l Rs0 k).l) (.bool (gD l Rs0 k).c) (.int .i64 (gD l Rs0 k).s) (.int .i64 (gD l Rs0 k).t) rfl
      have HST := Lib.hid hst
      clear hst hlen
      go_wp2_with fail
      go_roundw
      case rel => exact ⟨k + 1, by omega, by go_num, by rw [← over_succ _ _ _ (by simpa using hlt)]; exact HST.out.1, (hbw.trans (hb.mono hbw.size)).grown HST.out.2 (Nat.le_trans hbw.size hz) (fun k hk => by simp at hk; omega), by have := HST.out.2.size; omega⟩
      case measure => simp [intOf]; omega
    · have e : k = l.length := by omega
      have HF : Hid (over (gD l Rs0) (List.replicate l.length Rs0) k = l) := by
        show _ = _
        have h1 := over_full (gD l Rs0) (List.replicate l.length Rs0)
        rw [List.length_replicate] at h1
        rw [e, h1, range_getD]
      clear e
      go_wp2_with fail
      go_ret
      exact ⟨_, rfl, by rw [HF.out] at hownk; exact hownk, hbw⟩
set_option maxRecDepth 100000 in
theorem eqResultS_same (v1 v2 : Value) (l : List Rs) (w : World) {B1 B2 : Nat} (h1 : Own EResult w B1 v1 l) (h2 : Own EResult w B2 v2 l) :
    Calls Try.prog 153 #[v1, v2] w fun e w' => e = .returned (.bool true) ∧ Below w.heap.size w w' := by
  obtain ⟨a1, cap1, rfl, hl, hget1⟩ := h1.resultG
  obtain ⟨a2, cap2, rfl, _, hget2⟩ := h2.resultG
  have HG1 := Lib.hid hget1
  have HG2 := Lib.hid hget2
  clear hget1 hget2 h1 h2
  go_enter Try.func153, Try.ntmps153
  go_wp2_with fail
  go_loopw [5] (fun i wr => ∃ k : Nat, k ≤ l.length ∧ i = .int .i64 k ∧ Below w.heap.size w wr) (fun i _ => l.length - (intOf i).toNat)
  case atStart => exact ⟨0, by omega, rfl, Below.refl _ _⟩
  case round =>
    obtain ⟨k, hk, rfl, hbw⟩ := hrel
    by_cases hlt : k < l.length
    · obtain ⟨b1, rfl, _, hb1, hc10, hc11, hc12, hc13⟩ := HG1.out k hlt
      obtain ⟨b2, rfl, _, hb2, hc20, hc21, hc22, hc23⟩ := HG2.out k hlt
      rw [← hbw.cell (by simpa using hb1)] at hc10 hc11 hc12 hc13
      rw [← hbw.cell (by simpa using hb2)] at hc20 hc21 hc22 hc23
      have hz := hbw.size
      have hb1' := Nat.lt_of_lt_of_le hb1 hz
      have hb2' := Nat.lt_of_lt_of_le hb2 hz
      go_wp2_with fail
      (with_reducible refine wp_region_qb ?_ ?_ (fun hq => ?_)); (focus kernel_rfl); (focus kernel_rfl); (repeat (go_big_quiet_step ((go_at_call 31; exact Calls.regrown_of (eqResult_same _ _ _ _ _))))); refine wpQuiet_nil ?_
      intro wq hb
      go_wp2_with fail
      go_roundw
      case rel => exact ⟨k + 1, by omega, by go_num, hbw.trans (hb.mono hz)⟩
      case measure => simp [intOf]; omega
    · go_wp2_with fail
      go_ret
      exact ⟨by simp, hbw⟩
end Go.Proofs.Ytikmacjeeaklmaa
