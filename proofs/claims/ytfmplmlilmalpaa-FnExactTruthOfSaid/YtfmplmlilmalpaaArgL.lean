/- ArgL: contracts of the laws' own loops over slices of lines: sizes, copies, comparisons, marks. Conditions: lengths in range. -/
import Derived.Test.YtfmplmlilmalpaaMem3
import Derived.Test.YtfmplmlilmalpaaBoard
import Derived.Test.YtfmplmlilmalpaaEqs
set_option linter.unusedVariables false
set_option linter.unusedSimpArgs false
namespace Peg
/-- the marks from k on, as lines -/
def markLn (k : Int) (i : Nat) : Ln := ⟨k + 3 * i, k + 3 * i + 1, k + 3 * i + 1 + 1⟩
def marksL (k : Int) (n : Nat) : List Ln := (List.range n).map (markLn k)
end Peg
namespace Go.Proofs.Ytfmplmlilmalpaa
open Go.ChangeShapes Go.WideShapes Go.ChangeAt Go.RowKit Peg Go.Sort
theorem szLineS_any (v : Value) (l : List Ln) (left : Int) (h0 : 0 ≤ left) (h1 : left ≤ 1048576) (w : World) (hv : Rd ELine w v l) :
    Calls Try.prog 10 #[v, .int .i64 left] w fun e w' => e = .returned (.int .i64 (if (l.length : Int) ≤ left then left - l.length else -1)) ∧ w = w' := by
  obtain ⟨a, cap, rfl, hl, _⟩ := hv
  by_cases h : (l.length : Int) ≤ left
  · rw [if_pos h]
    go_enter Try.func10, Try.ntmps10
    go_wp2_with fail
    all_goals go_ret
    all_goals exact ⟨by simp, rfl⟩
  · rw [if_neg h]
    go_enter Try.func10, Try.ntmps10
    go_wp2_with fail
    all_goals go_ret
    all_goals exact ⟨by simp, rfl⟩
set_option maxRecDepth 100000 in
theorem toLineS_any (v : Value) (l : List Ln) (w : World) (hv : Rd ELine w v l) (hl : l.length ≤ 1048576) :
    Calls Try.prog 18 #[v] w (RetLines w l) := by
  obtain ⟨a, cap, rfl, hl, hget⟩ := hv.line
  have HG := Lib.hid hget
  clear hget
  obtain ⟨w1, bS, hrun, hown, hb1, hbS0, hbS⟩ := run_make_own ELine Ln0 _ info_line rfl 36 Try.underlying36 l.length (by omega) w
  go_enter Try.func18, Try.ntmps18
  go_wp2_with fail
  go_loopw [4] (fun i wr => ∃ k : Nat, k ≤ l.length ∧ i = .int .i64 k ∧ Own ELine wr w.heap.size (.slice (some ⟨bS, 0, none⟩) l.length l.length) (over (gD l Ln0) (List.replicate l.length Ln0) k) ∧ Below w.heap.size w wr ∧ bS < wr.heap.size) (fun i _ => l.length - (intOf i).toNat)
  case atStart => exact ⟨0, by omega, rfl, by rw [over_zero]; exact hown, hb1, hbS⟩
  case round =>
    obtain ⟨k, hk, rfl, hownk, hbw, hbSr⟩ := hrel
    by_cases hlt : k < l.length
    · obtain ⟨ad, rfl, had, hc0, hc1, hc2⟩ := HG.out k hlt
      have hc0' := (hbw.cell (p := ad.add (k * 3)) (by rw [add_block]; exact had)).trans hc0
      have hc1' := (hbw.cell (p := ⟨(ad.add (k * 3)).block, (ad.add (k * 3)).off + 1, none⟩) (by show (ad.add _).block < _; rw [add_block]; exact had)).trans hc1
      have hc2' := (hbw.cell (p := ⟨(ad.add (k * 3)).block, (ad.add (k * 3)).off + 2, none⟩) (by show (ad.add _).block < _; rw [add_block]; exact had)).trans hc2
      clear hc0 hc1 hc2
      go_wp2_with fail
      refine (toLine_any _ _ _ _).mono ?_
      rintro e w' ⟨rfl, hb⟩
      have hz := hb.size
      have hown2 := hownk.keep hb
      have hlen := over_length (gD l Ln0) (List.replicate l.length Ln0) k (by simpa using hk)
      obtain ⟨s0, fz⟩ := hown2.some3 (k * 3) (by rw [hlen]; simp [ELine]; omega)
      obtain ⟨s1, _⟩ := hown2.some3 (k * 3 + 1) (by rw [hlen]; simp [ELine]; omega)
      obtain ⟨s2, _⟩ := hown2.some3 (k * 3 + 2) (by rw [hlen]; simp [ELine]; omega)
      clear hlen
      obtain ⟨u0, s0⟩ := Option.isSome_iff_exists.1 s0
      obtain ⟨u1, s1⟩ := Option.isSome_iff_exists.1 s1
      obtain ⟨u2, s2⟩ := Option.isSome_iff_exists.1 s2
      go_wp2_with fail
      have hst := (hown2.store3 rfl k (by rw [over_length _ _ _ (by simpa using hk)]; simpa using hlt) (gD l Ln0 k) _ _ _ rfl)
      go_roundw
      case rel => exact ⟨k + 1, by omega, by go_num, by rw [← over_succ _ _ _ (by simpa using hlt)]; exact hst.1, ((hbw.trans (hb.mono hbw.size)).grown hst.2 (Nat.le_trans hbw.size hz) (fun k hk => by simp at hk; omega)), by have := hst.2.size; omega⟩
      case measure => simp [intOf]; omega
    · have e : k = l.length := by omega
      have HF : Hid (over (gD l Ln0) (List.replicate l.length Ln0) k = l) := by
        show _ = _
        have h1 := over_full (gD l Ln0) (List.replicate l.length Ln0)
        rw [List.length_replicate] at h1
        rw [e, h1, range_getD]
      clear e
      go_wp2_with fail
      go_ret
      exact ⟨_, rfl, by rw [HF.out] at hownk; exact hownk, hbw⟩
set_option maxRecDepth 100000 in
theorem eqLineS_same (v1 v2 : Value) (l : List Ln) (w : World) {B1 B2 : Nat} (h1 : Own ELine w B1 v1 l) (h2 : Own ELine w B2 v2 l) :
    Calls Try.prog 25 #[v1, v2] w fun e w' => e = .returned (.bool true) ∧ Below w.heap.size w w' := by
  obtain ⟨a1, cap1, rfl, hl, hget1⟩ := h1.lineG
  obtain ⟨a2, cap2, rfl, _, hget2⟩ := h2.lineG
  have HG1 := Lib.hid hget1
  have HG2 := Lib.hid hget2
  clear hget1 hget2 h1 h2
  go_enter Try.func25, Try.ntmps25
  go_wp2_with fail
  go_loopw [5] (fun i wr => ∃ k : Nat, k ≤ l.length ∧ i = .int .i64 k ∧ Below w.heap.size w wr) (fun i _ => l.length - (intOf i).toNat)
  case atStart => exact ⟨0, by omega, rfl, Below.refl _ _⟩
  case round =>
    obtain ⟨k, hk, rfl, hbw⟩ := hrel
    by_cases hlt : k < l.length
    · obtain ⟨b1, rfl, _, hb1, hc10, hc11, hc12⟩ := HG1.out k hlt
      obtain ⟨b2, rfl, _, hb2, hc20, hc21, hc22⟩ := HG2.out k hlt
      rw [← hbw.cell (by simpa using hb1)] at hc10 hc11 hc12
      rw [← hbw.cell (by simpa using hb2)] at hc20 hc21 hc22
      have hz := hbw.size
      have hb1' := Nat.lt_of_lt_of_le hb1 hz
      have hb2' := Nat.lt_of_lt_of_le hb2 hz
      go_wp2_with fail
      (with_reducible refine wp_region_qb ?_ ?_ (fun hq => ?_)); (focus kernel_rfl); (focus kernel_rfl); (repeat (go_big_quiet_step ((go_at_call 45; exact Calls.regrown_of (eqLine_same _ _ _ _))))); refine wpQuiet_nil ?_
      intro wq hb
      go_wp2_with fail
      go_roundw
      case rel => exact ⟨k + 1, by omega, by go_num, hbw.trans (hb.mono hz)⟩
      case measure => simp [intOf]; omega
    · go_wp2_with fail
      go_ret
      exact ⟨by simp, hbw⟩
end Go.Proofs.Ytfmplmlilmalpaa
