/- Least: contracts of RowLeast and the reference's. Conditions: the row's length in range. -/
import Derived.Test.YtfpofhkggojaoaaLeastW
import Derived.Deep.LoopGhost
set_option linter.unusedVariables false
set_option linter.unusedSimpArgs false
namespace Peg
theorem rowsAt_len14 {s : ByteArray} (hs : rowOk s = true) : s.size ≤ 14 ∧ pg s ≤ 14 := by
  have h1 : s.size ≤ 14 := by unfold rowOk at hs; simp at hs; omega
  refine ⟨h1, ?_⟩
  unfold pg
  have := List.count_le_length (a := (111 : UInt8)) (l := s.data.toList)
  rw [size_toList] at this
  omega
theorem flat_take {l : List ByteArray} {k : Nat} (h : k < l.length) : (l.take (k + 1)).flatMap rowJumps = (l.take k).flatMap rowJumps ++ rowJumps (gD l B0 k) := by
  rw [take_gD l B0 k h, List.flatMap_append]; simp
theorem flat_take_len (l : List ByteArray) (k : Nat) : ((l.take k).flatMap rowJumps).length ≤ 14 * k := by
  induction k with
  | zero => simp
  | succ k ih =>
    by_cases h : k < l.length
    · rw [flat_take h, List.length_append]
      have := rowJumps_len (gD l B0 k)
      omega
    · rw [List.take_of_length_le (by omega : l.length ≤ k + 1)]
      rw [List.take_of_length_le (by omega : l.length ≤ k)] at ih
      omega
theorem flat_mem {s : ByteArray} {l : List ByteArray} {k : Nat} (h : ∀ x, x ∈ l ↔ x ∈ rowsAt s k) (x : ByteArray) : x ∈ l.flatMap rowJumps ↔ x ∈ rowsAt s (k + 1) := by
  show _ ↔ x ∈ (rowsAt s k).flatMap rowJumps
  simp only [List.mem_flatMap]
  constructor
  · rintro ⟨y, hy, hx⟩; exact ⟨y, (h y).1 hy, hx⟩
  · rintro ⟨y, hy, hx⟩; exact ⟨y, (h y).2 hy, hx⟩
end Peg
namespace Go.Proofs.Ytfpofhkggojaoaa
open Go.ChangeShapes Go.WideShapes Go.ChangeAt Go.RowKit Peg Go.Sort
def LeastIs (s : ByteArray) (w : World) (e : Ending) (w' : World) : Prop := e = .returned (.int .i64 (rowLeast s)) ∧ Below w.heap.size w w'
set_option maxHeartbeats 4000000 in
set_option maxRecDepth 100000 in
theorem RowLeast_any (s : ByteArray) (hs : s.size ≤ 1048576) (w : World) :
    Calls Try.prog 59 #[.string s] w (LeastIs s w) := by
  cases hok : rowOk s
  · have HR : Hid (rowLeast s = -1) := by show _ = _; simp [rowLeast, hok]
    have HO : Hid (∀ W, Calls Try.prog 64 #[.string s] W fun e w' => e = .returned (.bool false) ∧ W = w') := fun W => by rw [← hok]; exact RowOk_any s (by unfold maxLen; omega) W
    clear hok
    go_enter Try.func59, Try.ntmps59
    go_wp2_with (go_at_call 64; refine (HO.out _).mono ?_; rintro e w' ⟨rfl, rfl⟩)
    go_ret
    exact ⟨by rw [HR.out]; rfl, Below.refl _ _⟩
  have HO : Hid (∀ W, Calls Try.prog 64 #[.string s] W fun e w' => e = .returned (.bool true) ∧ W = w') := fun W => by rw [← hok]; exact RowOk_any s (by unfold maxLen; omega) W
  have HK := Lib.hid hok
  obtain ⟨h14, hp14⟩ := rowsAt_len14 hok
  clear hok
  go_enter Try.func59, Try.ntmps59
  go_wp2_with (first | (go_at_call 64; refine (HO.out _).mono ?_; rintro e w' ⟨rfl, rfl⟩) | (go_at_call 141; refine (count_any s _).mono ?_; rintro e w' ⟨rfl, rfl⟩))
  have hown0 := Own.single (E := EStr) s w w.heap.size (Nat.le_refl _)
  go_loopg [3, 4] (pg s + 2) (fun f t3 t4 wr => ∃ (k : Nat) (l : List ByteArray) (c : Int), f + k = pg s + 2 ∧ t3 = .int .i64 c ∧ Own EStr wr w.heap.size t4 l ∧ l.length ≤ 16384 ∧ Hid (∀ x, x ∈ l ↔ x ∈ rowsAt s k) ∧ Hid (k = 0 ∨ (c = ((pg s - (k - 1) : Nat) : Int) ∧ rowsAt s (k - 1) ≠ [])) ∧ Below w.heap.size w wr)
  case atStart => exact ⟨0, [s], pg s, rfl, rfl, hown0, by simp, fun x => Iff.rfl, .inl rfl, by (repeat' first | (with_reducible exact Below.refl _ _) | (with_reducible refine Below.alloc ?_ ?_ _) | (with_reducible refine Below.drew ?_) | (with_reducible refine Below.setCell ?_ ?_ _) | (with_reducible refine below_via (by assumption) ?_ ?_) | go_size)⟩
  case round =>
    obtain ⟨k, l, c, hf, rfl, hown, hl, hm, hc, hbw⟩ := hrel
    have hz := hbw.size
    rcases Nat.eq_zero_or_pos l.length with h0 | h0
    · have hl0 := List.length_eq_zero_iff.1 h0
      subst hl0
      have hkn : k ≠ 0 := by
        intro e; subst e
        have : s ∈ ([] : List ByteArray) := (hm.out s).2 (by simp [rowsAt])
        simp at this
      have hc2 := hc.out.resolve_left hkn
      have hnone : rowsAt s (k - 1 + 1) = [] := by
        rw [show k - 1 + 1 = k from by omega, List.eq_nil_iff_forall_not_mem]
        intro x hx
        have := (hm.out x).2 hx
        simp at this
      have HV : Hid (c = rowLeast s) := by show _ = _; rw [hc2.1, rowLeast_of HK.out (least_layers HK.out hc2.2 hnone).2]
      obtain ⟨a, cap, rfl, _⟩ := hown.form
      clear hc2 hnone hc hm hf hown
      go_wp2_with fail
      go_ret
      exact ⟨by rw [← HV.out]; rfl, hbw⟩
    obtain ⟨a, cap, rfl, hcap, hget⟩ := hown.strG
    obtain ⟨b0, rfl, hb0, hb1, hc0⟩ := hget 0 h0
    have hmem0 := (hm.out (gD l B0 0)).1 (gD_mem l B0 0 h0)
    have hr0 := rowsAt_ok HK.out hmem0
    have hpg : pg (gD l B0 0) = pg s - k := by omega
    have hkp : k ≤ pg s := by omega
    have HNE : Hid (rowsAt s k ≠ []) := fun e => by rw [e] at hmem0; simp at hmem0
    have HOK : Hid (∀ x ∈ l, rowOk x = true ∧ x.size = s.size) := fun x hx => ⟨(rowsAt_ok HK.out ((hm.out x).1 hx)).1, (rowsAt_ok HK.out ((hm.out x).1 hx)).2.1⟩
    have HG := Lib.hid hget
    have HOW := Lib.hid hown
    have HPG := Lib.hid hpg
    clear hmem0 hr0 hget hown hpg hc
    generalize gD l B0 0 = r0 at *
    go_wp2_with (go_at_call 141; refine (count_any r0 _).mono ?_; rintro e w' ⟨rfl, rfl⟩)
    obtain ⟨wo, rfl⟩ : ∃ wo : World, wo = wr := ⟨_, rfl⟩
    go_loopw [5, 25] (fun t5 t25 wr => ∃ i : Nat, i ≤ l.length ∧ t25 = .int .i64 i ∧ Own EStr wr wo.heap.size t5 ((l.take i).flatMap rowJumps) ∧ Below wo.heap.size wo wr) (fun _ t _ => l.length - (intOf t).toNat)
    case atStart => exact ⟨0, by omega, rfl, Own.emptyAny _ _ _ _, by (repeat' first | (with_reducible exact Below.refl _ _) | (with_reducible refine Below.alloc ?_ ?_ _) | (with_reducible refine Below.drew ?_) | (with_reducible refine Below.setCell ?_ ?_ _) | (with_reducible refine below_via (by assumption) ?_ ?_) | go_size)⟩
    case round =>
      obtain ⟨i, hi, rfl, hnx, hbn⟩ := hrel
      have hzn := hbn.size
      by_cases hlt : i < l.length
      · obtain ⟨b1, eb, _, hb2, hci⟩ := HG.out i hlt
        obtain rfl : b0 = b1 := by simpa using eb
        rw [← hbn.cell (by exact hb2)] at hci
        have hri := HOK.out (gD l B0 i) (gD_mem l B0 i hlt)
        have hJ := Lib.hid (fun W => RowJumps_any (gD l B0 i) (by omega) W)
        have HT := Lib.hid (flat_take hlt)
        have hfl := flat_take_len l i
        have hjl := rowJumps_len (gD l B0 i)
        have gb : b0 < wr.heap.size := by omega
        clear eb hri
        generalize gD l B0 i = r at *
        generalize (l.take i).flatMap rowJumps = D at *
        generalize rowJumps r = J at *
        go_wp2_with fail
        refine (hJ.out _).mono ?_
        rintro e' w' ⟨vJ, rfl, hownJ, hb⟩
        have HD := Lib.hid (hnx.keep hb)
        have HJ2 := Lib.hid (hownJ.mono (B := 0) (Nat.zero_le _))
        have HB2 := Lib.hid (hbn.trans (hb.mono hzn))
        have hz2 : wo.heap.size ≤ w'.heap.size := HB2.out.size
        clear hb hownJ hnx
        go_wp2_with (at_builtin; (refine appendN (E := EStr) (l := D) (l2 := J) rfl rfl _ _ 92 rfl Try.underlying92 rfl rfl HD.out HJ2.out (by omega) hz2 ?_); intro v' w2 hown5 hb5 hg5 _)
        go_roundw
        case rel => exact ⟨i + 1, by omega, by go_num, by rw [HT.out]; exact hown5, HB2.out.trans hb5⟩
        case measure => simp [intOf]; omega
      · obtain rfl : i = l.length := by omega
        rw [List.take_length] at hnx
        have hfl := flat_take_len l l.length
        rw [List.take_length] at hfl
        have HFM := Lib.hid (flat_mem hm.out)
        generalize l.flatMap rowJumps = D at *
        clear hc0
        go_wp2_with fail
        refine (sortStr_any _ D _ hnx hzn (by omega)).mono ?_
        rintro e' w' ⟨rfl, ⟨l2, ho2, hl2, hs2, hm2⟩, hb2⟩
        have HO2 := Lib.hid ho2
        have HS2 := Lib.hid hs2
        have HM2 := Lib.hid hm2
        have HL2 := Lib.hid hl2
        have HB3 := Lib.hid (hbn.trans hb2)
        clear ho2 hs2 hm2 hl2 hb2 hnx hbn
        go_wp2_with fail
        refine (compactStr_any _ l2 _ HO2.out (by have := HB3.out.size; omega) (by have := HL2.out; omega) HS2.out).mono ?_
        rintro e' w' ⟨⟨v3, l3, rfl, ho3, hn3, hm3⟩, hb3⟩
        have HB4 := Lib.hid (HB3.out.trans hb3)
        have HM3 : Hid (∀ x, x ∈ l3.map toB ↔ x ∈ rowsAt s (k + 1)) := fun x => (toB_mem (fun y => (hm3 y).trans (HM2.out y)) x).trans (HFM.out x)
        have HLN : Hid ((l3.map toB).length ≤ 16384) := by
          show _ ≤ _
          refine rows_bound h14 ?_ (fun x hx => ⟨(rowsAt_ok HK.out ((HM3.out x).1 hx)).1, (rowsAt_ok HK.out ((HM3.out x).1 hx)).2.1⟩)
          refine List.pairwise_map.2 (hn3.imp ?_)
          intro a b hab e
          apply hab
          have := congrArg (fun z => z.data.toList) e
          exact this
        have HO3 := Lib.hid (ho3.mono hz)
        clear ho3 hn3 hm3 hb3
        go_wp2_with fail
        go_roundg (pg s + 2 - (k + 1))
        case measure => omega
        case rel => exact ⟨k + 1, l3.map toB, (pg r0 : Nat), by omega, rfl, HO3.out, HLN.out, HM3, .inr ⟨by rw [HPG.out]; rfl, HNE.out⟩, hbw.trans (HB4.out.mono hz)⟩
end Go.Proofs.Ytfpofhkggojaoaa
