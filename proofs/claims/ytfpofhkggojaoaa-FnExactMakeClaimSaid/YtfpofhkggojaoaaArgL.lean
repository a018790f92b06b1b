/- ArgL: contracts of the laws' own loops over slices of lines: sizes, copies, comparisons, marks. Conditions: lengths in range. -/
import Derived.Test.YtfpofhkggojaoaaMem3
import Derived.Test.YtfpofhkggojaoaaBoard
import Derived.Test.YtfpofhkggojaoaaEqs
set_option linter.unusedVariables false
set_option linter.unusedSimpArgs false
namespace Peg
/-- the marks from k on, as lines -/
def markLn (k : Int) (i : Nat) : Ln := ⟨k + 3 * i, k + 3 * i + 1, k + 3 * i + 1 + 1⟩
def marksL (k : Int) (n : Nat) : List Ln := (List.range n).map (markLn k)
end Peg
namespace Go.Proofs.Ytfpofhkggojaoaa
open Go.ChangeShapes Go.WideShapes Go.ChangeAt Go.RowKit Peg Go.Sort
set_option maxRecDepth 100000 in
theorem eqLineS_same (v1 v2 : Value) (l : List Ln) (w : World) {B1 B2 : Nat} (h1 : Own ELine w B1 v1 l) (h2 : Own ELine w B2 v2 l) :
    Calls Try.prog 93 #[v1, v2] w fun e w' => e = .returned (.bool true) ∧ Below w.heap.size w w' := by
  obtain ⟨a1, cap1, rfl, hl, hget1⟩ := h1.lineG
  obtain ⟨a2, cap2, rfl, _, hget2⟩ := h2.lineG
  have HG1 := Lib.hid hget1
  have HG2 := Lib.hid hget2
  clear hget1 hget2 h1 h2
  go_enter Try.func93, Try.ntmps93
  go_wp2_with fail
  go_loopw [5] (fun i wr => ∃ k : Nat, k ≤ l.length ∧ i = .int .i64 k ∧ Below w.heap.size w wr) (fun i _ => l.length - (intOf i).toNat)
  case atStart => exact ⟨0, by omega, rfl, Below.refl _ _⟩
  case round =>
    obtain ⟨k, hk, rfl, hbw⟩ := hrel
    by_cases hlt : k < l.length
    · obtain ⟨b1, rfl, _, hb1, hc10, hc11, hc12⟩ := HG1.out k hlt
      obtain ⟨b2, rfl, _, hb2, hc20, hc21, hc22⟩ := HG2.out k hlt
      rw [← hbw.cell (by simpa using hb1)] at hc10 hc11 hc12
      rw [← hbw.cell (by simpa using hb2)] at hc20 hc21 hc22
      have hz := hbw.size
      have hb1' := Nat.lt_of_lt_of_le hb1 hz
      have hb2' := Nat.lt_of_lt_of_le hb2 hz
      go_wp2_with fail
      (with_reducible refine wp_region_qb ?_ ?_ (fun hq => ?_)); (focus kernel_rfl); (focus kernel_rfl); (repeat (go_big_quiet_step ((go_at_call 179; exact Calls.regrown_of (eqLine_same _ _ _ _))))); refine wpQuiet_nil ?_
      intro wq hb
      go_wp2_with fail
      go_roundw
      case rel => exact ⟨k + 1, by omega, by go_num, hbw.trans (hb.mono hz)⟩
      case measure => simp [intOf]; omega
    · go_wp2_with fail
      go_ret
      exact ⟨by simp, hbw⟩
set_option maxRecDepth 100000 in
theorem markLineS_any (v : Value) (l : List Ln) (k : Int) (h0 : 0 ≤ k) (h1 : k ≤ 1099511627776) (hl : l.length ≤ 1099511627776) (w : World) {B : Nat} (hv : Own ELine w B v l) :
    Calls Try.prog 95 #[v, .int .i64 k] w fun e w' => e = .returned (.int .i64 (k + 3 * l.length)) ∧ Own ELine w' B v (marksL k l.length) ∧ w.grownBy w' (rowOf v l) := by
  obtain ⟨a, cap, rfl, _, hget⟩ := hv.lineG
  have HG := Lib.hid hget
  clear hget
  go_enter Try.func95, Try.ntmps95
  go_wp2_with fail
  go_loopw [1, 5] (fun kk i wr => ∃ j : Nat, j ≤ l.length ∧ i = .int .i64 j ∧ kk = .int .i64 (k + 3 * j) ∧ Own ELine wr B (.slice a l.length cap) (over (markLn k) l j) ∧ w.grownBy wr (rowOf (Value.slice a l.length cap) l)) (fun _ i _ => l.length - (intOf i).toNat)
  case atStart => exact ⟨0, by omega, rfl, by simp, by rw [over_zero]; exact hv, World.grownBy.refl _ _⟩
  case round =>
    obtain ⟨j, hj, rfl, rfl, hown, hgr⟩ := hrel
    by_cases hlt : j < l.length
    · obtain ⟨b, rfl, _, hb, _⟩ := HG.out j hlt
      have hlen := over_length (markLn k) l j hj
      obtain ⟨s0, fz⟩ := hown.some3 (j * 3) (by rw [hlen]; simp [ELine]; omega)
      obtain ⟨s1, _⟩ := hown.some3 (j * 3 + 1) (by rw [hlen]; simp [ELine]; omega)
      obtain ⟨s2, _⟩ := hown.some3 (j * 3 + 2) (by rw [hlen]; simp [ELine]; omega)
      obtain ⟨u0, s0⟩ := Option.isSome_iff_exists.1 s0
      obtain ⟨u1, s1⟩ := Option.isSome_iff_exists.1 s1
      obtain ⟨u2, s2⟩ := Option.isSome_iff_exists.1 s2
      clear hlen
      go_wp2_with fail
      have hst := (hown.store3 rfl j (by rw [over_length _ _ _ hj]; exact hlt) (markLn k j) (.int .i64 (k + 3 * j)) (.int .i64 (k + 3 * j + 1)) (.int .i64 (k + 3 * j + 1 + 1)) rfl)
      go_roundw
      case rel => exact ⟨j + 1, by omega, by go_num, by go_num, by rw [← over_succ _ _ _ hlt]; exact hst.1, hgr.trans (by rw [rowOf_ne (by omega)]; exact hst.2)⟩
      case measure => simp [intOf]; omega
    · have e : j = l.length := by omega
      have HF : Hid (over (markLn k) l j = marksL k l.length) := by
        show _ = _
        rw [e, over_full]; rfl
      have HE : Hid ((j : Int) = (l.length : Int)) := by show _ = _; rw [e]
      clear e
      go_wp2_with fail
      go_ret
      exact ⟨by simp [HE.out], by rw [HF.out] at hown; exact hown, hgr⟩
set_option maxRecDepth 100000 in
theorem heldLineS_same (v : Value) (n : Nat) (k : Int) (h0 : 0 ≤ k) (h1 : k ≤ 1099511627776) (hl : n ≤ 1099511627776) (w : World) {B : Nat} (hv : Own ELine w B v (marksL k n)) :
    Calls Try.prog 97 #[v, .int .i64 k] w fun e w' => e = .returned (.int .i64 (k + 3 * n)) ∧ w = w' := by
  have hn : (marksL k n).length = n := by simp [marksL]
  obtain ⟨a, cap, rfl, _, hget⟩ := hv.lineG
  rw [hn] at hget ⊢
  have HG := Lib.hid hget
  clear hget hv hn
  go_enter Try.func97, Try.ntmps97
  go_wp2_with fail
  go_loop [1, 5] (fun kk i => ∃ j : Nat, j ≤ n ∧ i = .int .i64 j ∧ kk = .int .i64 (k + 3 * j)) (fun _ i => n - (intOf i).toNat)
  case atStart => exact ⟨0, by omega, rfl, by simp⟩
  case round =>
    obtain ⟨j, hj, rfl, rfl⟩ := hrel
    by_cases hlt : j < n
    · obtain ⟨b, rfl, _, hb, hc0, hc1, hc2⟩ := HG.out j hlt
      have hg : gD (marksL k n) Ln0 j = markLn k j := by simp [gD, marksL, hlt]
      rw [hg] at hc0 hc1 hc2
      clear hg
      simp only [markLn] at hc0 hc1 hc2
      go_wp2_with fail
      go_round
      case rel => exact ⟨j + 1, by omega, by go_num, by go_num⟩
      case measure => simp [intOf]; omega
    · have HE : Hid ((j : Int) = (n : Int)) := by show _ = _; omega
      go_wp2_with fail
      go_ret
      exact ⟨by simp [HE.out], rfl⟩
end Go.Proofs.Ytfpofhkggojaoaa
