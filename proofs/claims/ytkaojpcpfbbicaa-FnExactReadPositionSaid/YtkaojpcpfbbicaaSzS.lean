/- SzS: the laws' measure of a slice of strings, and strings' slices as arguments. Conditions: the slice's form, lengths that fit an int. -/
import Derived.Test.YtkaojpcpfbbicaaArgS
import Derived.Test.YtkaojpcpfbbicaaOpenS
set_option linter.unusedVariables false
set_option linter.unusedSimpArgs false
namespace Go.Proofs.Ytkaojpcpfbbicaa
open Go.ChangeShapes Go.WideShapes Go.ChangeAt Go.RowKit Peg Go.Sort
def StrOk (s : ByteArray) : Prop := s.size ≤ maxLen
theorem cells_strS : Try.prog.cellsOf 9 = 1 := by kernel_rfl
section
variable {H : Type} {enc : TypeId × Value → H} {W : World} {sp : Nat → Bool}
set_option maxRecDepth 100000 in
theorem arg_StringS {v : Value} {d : DataW H} {p : List MemPlace} {b0 : Nat} (hv : Value.okWide Try.prog W .any b0 26 v) (h : DataW.Trod enc Try.prog W 0 sp true 26 v d p) : ∃ l, Rd EStr W v l ∧ ∀ y ∈ l, StrOk y :=
  arg_rd EStr StrOk Peg.B0 Try.underlying26 cells_strS (fun fuel cs x hx => by
    obtain ⟨s, e0, _, w0⟩ := DataW.trod_string Try.underlying9 hx
    exact ⟨s, e0, w0⟩) hv h
end
set_option maxHeartbeats 1000000 in
set_option maxRecDepth 100000 in
theorem szStringS_any (v : Value) (l : List ByteArray) (hok : ∀ y ∈ l, StrOk y) (w : World) (hv : Rd EStr w v l) :
    Calls Try.prog 10 #[v, .int .i64 1048576] w fun e w' => (∃ r : Int, e = .returned (.int .i64 r) ∧ (0 ≤ r → l.length ≤ 1048576 ∧ ∀ y, y < l.length → (gD l B0 y).size ≤ 1048576)) ∧ w = w' := by
  obtain ⟨a, cap, rfl, hn, hget⟩ := hv.str
  have HG := Lib.hid hget
  have HOK : Hid (∀ y, y < l.length → (gD l B0 y).size ≤ 9223372036854775807) := fun y hy => by
    rw [gD_lt l B0 y hy]
    have := hok _ (List.getElem_mem hy)
    unfold StrOk maxLen at this
    omega
  clear hget hok hv
  by_cases hl : l.length ≤ 1048576
  rotate_left
  · have h1 : (1048576 : Int) - (l.length : Int) < 0 := by omega
    go_enter Try.func10, Try.ntmps10
    go_wp2_with fail
    all_goals go_ret
    all_goals exact ⟨⟨-1, rfl, fun h => by omega⟩, rfl⟩
  have h1 : ¬ ((1048576 : Int) - (l.length : Int) < 0) := by omega
  go_enter Try.func10, Try.ntmps10
  go_wp2_with fail
  go_loopw [1, 5] (fun t1 t5 wz => ∃ (k : Nat) (r : Int), k ≤ l.length ∧ t5 = .int .i64 k ∧ t1 = .int .i64 r ∧ 0 ≤ r ∧ r ≤ 1048576 ∧ Hid (∀ y, y < k → (gD l B0 y).size ≤ 1048576) ∧ wz = w) (fun _ t _ => l.length - (intOf t).toNat)
  case atStart => exact ⟨0, (1048576 : Int) - (l.length : Int), by omega, rfl, rfl, by omega, by omega, fun y hy => by omega, rfl⟩
  case round =>
    obtain ⟨k, r, hk, rfl, rfl, hr0, hr1, hall, rfl⟩ := hrel
    by_cases hlt : k < l.length
    · obtain ⟨ad, rfl, had, hc⟩ := HG.out k hlt
      have had2 : (ad.add k).block < wr.heap.size := by rw [add_block]; exact had
      have hsz := HOK.out k hlt
      have HK := Lib.hid (fun (h : (gD l B0 k).size ≤ 1048576) => (fun y hy => by
        rcases Nat.lt_or_ge y k with h2 | h2
        · exact hall.out y h2
        · obtain rfl : y = k := by omega
          exact h : ∀ y, y < k + 1 → (gD l B0 y).size ≤ 1048576))
      generalize gD l B0 k = s at *
      by_cases hneg : r - (s.size : Int) < 0
      · go_wp2_with fail
        all_goals go_ret
        all_goals exact ⟨⟨-1, rfl, fun h => by omega⟩, rfl⟩
      · have HK2 := Lib.hid (HK.out (by omega))
        clear HK
        go_wp2_with fail
        all_goals go_roundw
        case rel => exact ⟨k + 1, r - (s.size : Int), by omega, by go_num, by go_num, by omega, by omega, HK2, by first | rfl | trivial⟩
        case measure => simp [intOf]; omega
    · obtain rfl : k = l.length := by omega
      go_wp2_with fail
      all_goals go_ret
      all_goals exact ⟨⟨r, rfl, fun h => ⟨hl, hall.out⟩⟩, rfl⟩
end Go.Proofs.Ytkaojpcpfbbicaa
