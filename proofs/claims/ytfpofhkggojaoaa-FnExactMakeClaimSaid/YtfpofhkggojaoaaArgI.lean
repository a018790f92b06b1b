/- ArgI: contracts of the laws' own loops over slices (IntS): sizes, copies, comparisons, marks. Conditions: lengths in range. -/
import Derived.Test.YtfpofhkggojaoaaMemR
import Derived.Test.YtfpofhkggojaoaaScore
import Derived.Test.YtfpofhkggojaoaaArgL
set_option linter.unusedVariables false
set_option linter.unusedSimpArgs false
namespace Peg
def markInt (k : Int) (j : Nat) : Int := k + j
def marksInt (k : Int) (n : Nat) : List Int := (List.range n).map (markInt k)
end Peg
namespace Go.Proofs.Ytfpofhkggojaoaa
open Go.ChangeShapes Go.WideShapes Go.ChangeAt Go.RowKit Peg Go.Sort
set_option maxRecDepth 100000 in
theorem eqIntS_same (v1 v2 : Value) (l : List Int) (w : World) {B1 B2 : Nat} (h1 : Own EInt w B1 v1 l) (h2 : Own EInt w B2 v2 l) :
    Calls Try.prog 94 #[v1, v2] w fun e w' => e = .returned (.bool true) ∧ Below w.heap.size w w' := by
  obtain ⟨a1, cap1, rfl, hl, hget1⟩ := h1.intG
  obtain ⟨a2, cap2, rfl, _, hget2⟩ := h2.intG
  have HG1 := Lib.hid hget1
  have HG2 := Lib.hid hget2
  clear hget1 hget2 h1 h2
  go_enter Try.func94, Try.ntmps94
  go_wp2_with fail
  go_loopw [5] (fun i wr => ∃ k : Nat, k ≤ l.length ∧ i = .int .i64 k ∧ Below w.heap.size w wr) (fun i _ => l.length - (intOf i).toNat)
  case atStart => exact ⟨0, by omega, rfl, Below.refl _ _⟩
  case round =>
    obtain ⟨k, hk, rfl, hbw⟩ := hrel
    by_cases hlt : k < l.length
    · obtain ⟨b1, rfl, _, hb1, hc10⟩ := HG1.out k hlt
      obtain ⟨b2, rfl, _, hb2, hc20⟩ := HG2.out k hlt
      rw [← hbw.cell (by simpa using hb1)] at hc10
      rw [← hbw.cell (by simpa using hb2)] at hc20
      have hz := hbw.size
      have hb1' := Nat.lt_of_lt_of_le hb1 hz
      have hb2' := Nat.lt_of_lt_of_le hb2 hz
      go_wp2_with fail
      (with_reducible refine wp_region_qb ?_ ?_ (fun hq => ?_)); (focus kernel_rfl); (focus kernel_rfl); (repeat (go_big_quiet_step (fail))); refine wpQuiet_nil ?_
      intro wq hb
      go_wp2_with fail
      go_roundw
      case rel => exact ⟨k + 1, by omega, by go_num, hbw.trans (hb.mono hz)⟩
      case measure => simp [intOf]; omega
    · go_wp2_with fail
      go_ret
      exact ⟨by simp, hbw⟩
set_option maxRecDepth 100000 in
theorem markIntS_any (v : Value) (l : List Int) (k : Int) (h0 : 0 ≤ k) (h1 : k ≤ 1099511627776) (hl : l.length ≤ 1099511627776) (w : World) {B : Nat} (hv : Own EInt w B v l) :
    Calls Try.prog 96 #[v, .int .i64 k] w fun e w' => e = .returned (.int .i64 (k + l.length)) ∧ Own EInt w' B v (marksInt k l.length) ∧ w.grownBy w' (rowOf v l) := by
  obtain ⟨a, cap, rfl, _, hget⟩ := hv.intG
  have HG := Lib.hid hget
  clear hget
  go_enter Try.func96, Try.ntmps96
  go_wp2_with fail
  go_loopw [1, 5] (fun kk i wr => ∃ j : Nat, j ≤ l.length ∧ i = .int .i64 j ∧ kk = .int .i64 (k + j) ∧ Own EInt wr B (.slice a l.length cap) (over (markInt k) l j) ∧ w.grownBy wr (rowOf (Value.slice a l.length cap) l)) (fun _ i _ => l.length - (intOf i).toNat)
  case atStart => exact ⟨0, by omega, rfl, by simp, by rw [over_zero]; exact hv, World.grownBy.refl _ _⟩
  case round =>
    obtain ⟨j, hj, rfl, rfl, hown, hgr⟩ := hrel
    by_cases hlt : j < l.length
    · obtain ⟨b, rfl, _, hb, _⟩ := HG.out j hlt
      have hlen := over_length (markInt k) l j hj
      have fz := hown.fz (by omega)
      obtain ⟨u0, s0⟩ := hown.some1 j (by omega) 0 (by decide)
      rw [show j * EInt.size + 0 = j from by show j * 1 + 0 = _; omega] at s0
      have HST := Lib.hid (hown.st1 rfl j (by omega) (markInt k j) (.int .i64 (k + j)) rfl)
      clear hlen
      go_wp2_with fail
      go_roundw
      case rel => exact ⟨j + 1, by omega, by go_num, by go_num, by rw [← over_succ _ _ _ hlt]; exact HST.out.1, hgr.trans (by rw [rowOf_ne (by omega)]; exact HST.out.2)⟩
      case measure => simp [intOf]; omega
    · have e : j = l.length := by omega
      have HF : Hid (over (markInt k) l j = marksInt k l.length) := by
        show _ = _
        rw [e, over_full]; rfl
      have HE : Hid ((j : Int) = (l.length : Int)) := by show _ = _; rw [e]
      clear e
      go_wp2_with fail
      go_ret
      exact ⟨by simp [HE.out], by rw [HF.out] at hown; exact hown, hgr⟩
set_option maxRecDepth 100000 in
theorem heldIntS_same (v : Value) (n : Nat) (k : Int) (h0 : 0 ≤ k) (h1 : k ≤ 1099511627776) (hl : n ≤ 1099511627776) (w : World) {B : Nat} (hv : Own EInt w B v (marksInt k n)) :
    Calls Try.prog 98 #[v, .int .i64 k] w fun e w' => e = .returned (.int .i64 (k + n)) ∧ w = w' := by
  have hn : (marksInt k n).length = n := by simp [marksInt]
  obtain ⟨a, cap, rfl, _, hget⟩ := hv.intG
  rw [hn] at hget ⊢
  have HG := Lib.hid hget
  clear hget hv hn
  go_enter Try.func98, Try.ntmps98
  go_wp2_with fail
  go_loop [1, 5] (fun kk i => ∃ j : Nat, j ≤ n ∧ i = .int .i64 j ∧ kk = .int .i64 (k + j)) (fun _ i => n - (intOf i).toNat)
  case atStart => exact ⟨0, by omega, rfl, by simp⟩
  case round =>
    obtain ⟨j, hj, rfl, rfl⟩ := hrel
    by_cases hlt : j < n
    · obtain ⟨b, rfl, _, hb, hc0⟩ := HG.out j hlt
      have hg : gD (marksInt k n) 0 j = markInt k j := by simp [gD, marksInt, hlt]
      rw [hg] at hc0
      clear hg
      simp only [markInt] at hc0
      go_wp2_with fail
      go_round
      case rel => exact ⟨j + 1, by omega, by go_num, by go_num⟩
      case measure => simp [intOf]; omega
    · have HE : Hid ((j : Int) = (n : Int)) := by show _ = _; omega
      go_wp2_with fail
      go_ret
      exact ⟨by simp [HE.out], rfl⟩
end Go.Proofs.Ytfpofhkggojaoaa
