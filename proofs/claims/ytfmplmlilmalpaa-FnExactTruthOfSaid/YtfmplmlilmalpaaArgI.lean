/- ArgI: contracts of the laws' own loops over slices (IntS): sizes, copies, comparisons, marks. Conditions: lengths in range. -/
import Derived.Test.YtfmplmlilmalpaaMemR
import Derived.Test.YtfmplmlilmalpaaScore
import Derived.Test.YtfmplmlilmalpaaArgL
set_option linter.unusedVariables false
set_option linter.unusedSimpArgs false
namespace Peg
def markInt (k : Int) (j : Nat) : Int := k + j
def marksInt (k : Int) (n : Nat) : List Int := (List.range n).map (markInt k)
end Peg
namespace Go.Proofs.Ytfmplmlilmalpaa
open Go.ChangeShapes Go.WideShapes Go.ChangeAt Go.RowKit Peg Go.Sort
theorem szIntS_any (v : Value) (l : List Int) (left : Int) (h0 : 0 ≤ left) (h1 : left ≤ 1048576) (w : World) (hv : Rd EInt w v l) :
    Calls Try.prog 11 #[v, .int .i64 left] w fun e w' => e = .returned (.int .i64 (if (l.length : Int) ≤ left then left - l.length else -1)) ∧ w = w' := by
  obtain ⟨a, cap, rfl, hl, _⟩ := hv
  by_cases h : (l.length : Int) ≤ left
  · rw [if_pos h]
    go_enter Try.func11, Try.ntmps11
    go_wp2_with fail
    all_goals go_ret
    all_goals exact ⟨by simp, rfl⟩
  · rw [if_neg h]
    go_enter Try.func11, Try.ntmps11
    go_wp2_with fail
    all_goals go_ret
    all_goals exact ⟨by simp, rfl⟩
def RetIntS (w : World) (l : List Int) (e : Ending) (w' : World) : Prop := ∃ v, e = .returned v ∧ Own EInt w' w.heap.size v l ∧ Below w.heap.size w w'
set_option maxRecDepth 100000 in
theorem toIntS_any (v : Value) (l : List Int) (w : World) (hv : Rd EInt w v l) (hl : l.length ≤ 1048576) :
    Calls Try.prog 19 #[v] w (RetIntS w l) := by
  obtain ⟨a, cap, rfl, hl, hget⟩ := hv.int
  have HG := Lib.hid hget
  clear hget
  obtain ⟨w1, bS, hrun, hown, hb1, hbS0, hbS⟩ := run_make_own EInt 0 _ info_int rfl 27 Try.underlying27 l.length (by omega) w
  go_enter Try.func19, Try.ntmps19
  go_wp2_with fail
  go_loopw [4] (fun i wr => ∃ k : Nat, k ≤ l.length ∧ i = .int .i64 k ∧ Own EInt wr w.heap.size (.slice (some ⟨bS, 0, none⟩) l.length l.length) (over (gD l 0) (List.replicate l.length 0) k) ∧ Below w.heap.size w wr ∧ bS < wr.heap.size) (fun i _ => l.length - (intOf i).toNat)
  case atStart => exact ⟨0, by omega, rfl, by rw [over_zero]; exact hown, hb1, hbS⟩
  case round =>
    obtain ⟨k, hk, rfl, hownk, hbw, hbSr⟩ := hrel
    by_cases hlt : k < l.length
    · obtain ⟨ad, rfl, had, hc0⟩ := HG.out k hlt
      have hc0' := (hbw.cell (p := ad.add k) (by rw [add_block]; exact had)).trans hc0
      clear hc0
      have hlen := over_length (gD l 0) (List.replicate l.length 0) k (by simpa using hk)
      rw [List.length_replicate] at hlen
      have hown2 := hownk
      have fz := hown2.fz (by omega)
      obtain ⟨u0, s0⟩ := hown2.some1 k (by omega) 0 (by decide)
      rw [show k * EInt.size + 0 = k from by show k * 1 + 0 = _; omega] at s0
      have hst := hown2.st1 rfl k (by omega) (gD l 0 k) (.int .i64 (gD l 0 k)) rfl
      have HST := Lib.hid hst
      clear hst hlen
      go_wp2_with fail
      go_roundw
      case rel => exact ⟨k + 1, by omega, by go_num, by rw [← over_succ _ _ _ (by simpa using hlt)]; exact HST.out.1, hbw.grown HST.out.2 (hbw.size) (fun k hk => by simp at hk; omega), by have := HST.out.2.size; omega⟩
      case measure => simp [intOf]; omega
    · have e : k = l.length := by omega
      have HF : Hid (over (gD l 0) (List.replicate l.length 0) k = l) := by
        show _ = _
        have h1 := over_full (gD l 0) (List.replicate l.length 0)
        rw [List.length_replicate] at h1
        rw [e, h1, range_getD]
      clear e
      go_wp2_with fail
      go_ret
      exact ⟨_, rfl, by rw [HF.out] at hownk; exact hownk, hbw⟩
set_option maxRecDepth 100000 in
theorem eqIntS_same (v1 v2 : Value) (l : List Int) (w : World) {B1 B2 : Nat} (h1 : Own EInt w B1 v1 l) (h2 : Own EInt w B2 v2 l) :
    Calls Try.prog 26 #[v1, v2] w fun e w' => e = .returned (.bool true) ∧ Below w.heap.size w w' := by
  obtain ⟨a1, cap1, rfl, hl, hget1⟩ := h1.intG
  obtain ⟨a2, cap2, rfl, _, hget2⟩ := h2.intG
  have HG1 := Lib.hid hget1
  have HG2 := Lib.hid hget2
  clear hget1 hget2 h1 h2
  go_enter Try.func26, Try.ntmps26
  go_wp2_with fail
  go_loopw [5] (fun i wr => ∃ k : Nat, k ≤ l.length ∧ i = .int .i64 k ∧ Below w.heap.size w wr) (fun i _ => l.length - (intOf i).toNat)
  case atStart => exact ⟨0, by omega, rfl, Below.refl _ _⟩
  case round =>
    obtain ⟨k, hk, rfl, hbw⟩ := hrel
    by_cases hlt : k < l.length
    · obtain ⟨b1, rfl, _, hb1, hc10⟩ := HG1.out k hlt
      obtain ⟨b2, rfl, _, hb2, hc20⟩ := HG2.out k hlt
      rw [← hbw.cell (by simpa using hb1)] at hc10
      rw [← hbw.cell (by simpa using hb2)] at hc20
      have hz := hbw.size
      have hb1' := Nat.lt_of_lt_of_le hb1 hz
      have hb2' := Nat.lt_of_lt_of_le hb2 hz
      go_wp2_with fail
      (with_reducible refine wp_region_qb ?_ ?_ (fun hq => ?_)); (focus kernel_rfl); (focus kernel_rfl); (repeat (go_big_quiet_step (fail))); refine wpQuiet_nil ?_
      intro wq hb
      go_wp2_with fail
      go_roundw
      case rel => exact ⟨k + 1, by omega, by go_num, hbw.trans (hb.mono hz)⟩
      case measure => simp [intOf]; omega
    · go_wp2_with fail
      go_ret
      exact ⟨by simp, hbw⟩
end Go.Proofs.Ytfmplmlilmalpaa
