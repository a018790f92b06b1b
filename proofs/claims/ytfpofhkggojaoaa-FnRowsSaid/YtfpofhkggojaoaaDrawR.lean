/- DrawR: contracts of the reference's drawn rows, and of btoi. Conditions: the cursor's form. -/
import Derived.Test.YtfpofhkggojaoaaRows2
import Derived.Test.YtfpofhkggojaoaaCur2
import Derived.Test.YtfpofhkggojaoaaDrawG
set_option linter.unusedVariables false
set_option linter.unusedSimpArgs false
namespace Go.Proofs.Ytfpofhkggojaoaa
open Go.ChangeShapes Go.WideShapes Go.ChangeAt Go.RowKit Peg Go.Sort
theorem CurAt.keepB {w w' : World} {c n B : Nat} {v : Value} (h : CurAt w c v n) (hc : c < B) (hz : w.heap.size ≤ w'.heap.size) (hb : Below B w w') : CurAt w' c v n := by
  obtain ⟨h1, h2, ⟨i, h3, h4, h5⟩, ⟨x, h6⟩, h7⟩ := h
  exact ⟨Nat.lt_of_lt_of_le h1 hz, (hb.cell hc).trans h2, ⟨i, (hb.cell hc).trans h3, h4, h5⟩, ⟨x, (hb.cell hc).trans h6⟩, fun j => (hb.frozen hc).trans (h7 j)⟩
theorem only_viaB {a w w' : World} {c B : Nat} (hb : Below B w w') (hB : a.heap.size ≤ B) (h : a.grownBy w (some c)) : a.grownBy w' (some c) :=
  ⟨hb.os.trans h.os, hb.tape.trans h.tape, hb.output.trans h.output, Nat.le_trans h.size hb.size, fun k hk hne => (hb.block k (Nat.lt_of_lt_of_le hk hB)).trans (h.block k hk hne)⟩
theorem btoi_any (x : Bool) (w : World) :
    Calls Try.prog 62 #[.bool x] w fun e w' => e = .returned (.int .i64 (if x = true then 1 else 0)) ∧ w = w' := by
  cases x
  · go_enter Try.func62, Try.ntmps62
    go_wp2_with fail
    go_ret
    exact ⟨rfl, rfl⟩
  · go_enter Try.func62, Try.ntmps62
    go_wp2_with fail
    go_ret
    exact ⟨rfl, rfl⟩
def RowIs (w : World) (e : Ending) (w' : World) : Prop := ∃ s : ByteArray, e = .returned (.string s) ∧ rowOk s = true ∧ s.size ≤ 12 ∧ Below w.heap.size w w'
set_option maxHeartbeats 4000000 in
set_option maxRecDepth 100000 in
theorem l25Row_any (c : Nat) (v : Value) (l : List Int) (w0 w : World) (hv : Rd EBy w0 v l) (hok : ∀ y ∈ l, ByOk y) (h0 : w0.heap.size ≤ c) (hbel : Below w0.heap.size w0 w) (hcur : CurAt w c v l.length) :
    Calls Try.prog 140 #[.pointer (some ⟨c, 0, none⟩)] w fun e w' => (∃ s : ByteArray, e = .returned (.string s) ∧ rowOk s = true ∧ s.size ≤ 12) ∧ CurAt w' c v l.length ∧ w.grownBy w' (some c) := by
  have HV := Lib.hid hv
  have HO := Lib.hid hok
  have HL := Lib.hid hbel
  have hcw := hcur.1
  have HC := Lib.hid hcur
  clear hv hok hbel hcur
  go_enter Try.func140, Try.ntmps140
  go_wp2_with fail
  refine (l01Below_any c v l 12 (by omega) (by omega) w0 _ HV.out HO.out h0 (HL.out.trans ((Below.refl _ _).alloc (by omega) _)) (HC.out.keep ((Below.refl _ _).alloc (Nat.le_refl _) _))).mono ?_
  rintro e w1 ⟨⟨x, rfl, x0, x1⟩, hcu1, hg1⟩
  have hz1 := hg1.size
  simp only [World.size_alloc] at hz1
  obtain ⟨n, rfl⟩ : ∃ n : Nat, x = n := ⟨x.toNat, by omega⟩
  have HG1 := Lib.hid (show w.grownBy w1 (some c) from only_trans (only_alloc (only_refl w c) _) hg1)
  have HC1 := Lib.hid hcu1
  clear hcu1 hg1
  go_wp2_with fail
  go_loopw [3, 5] (fun o k wr => ∃ (j : Nat) (D : List UInt8), j ≤ 1 + n ∧ k = .int .i64 j ∧ Own EU8 wr w.heap.size o D ∧ D.length = j ∧ Hid (D.all okB = true) ∧ CurAt wr c v l.length ∧ Hid (w.grownBy wr (some c))) (fun _ k _ => 1 + n - (intOf k).toNat)
  case atStart => exact ⟨0, [], by omega, rfl, Own.emptyAny _ _ _ _, rfl, by show _ = _; rfl, HC1.out, HG1⟩
  case round =>
    obtain ⟨j, D, hj, rfl, hown, hD, hall, hcu, hg⟩ := hrel
    have hzr := hg.out.size
    by_cases hlt : j < 1 + n
    · have HCr := Lib.hid hcu
      have HW := Lib.hid hown
      have HD := Lib.hid hD
      have hD12 : D.length ≤ 1048576 := by omega
      clear hcu hown hD
      go_wp2_with fail
      refine (l01Below_any c v l 5 (by omega) (by omega) w0 _ HV.out HO.out h0 (HL.out.trans ((only_below (by omega) hg.out).mono h0)) HCr.out).mono ?_
      rintro e w2 ⟨⟨y, rfl, y0, y1⟩, hcu2, hg2⟩
      have hz2 := hg2.size
      have hown2 := HW.out.only hg2 hcw
      have HC2 := Lib.hid hcu2
      have HG2 := Lib.hid (only_trans hg.out hg2)
      clear hcu2 hg2
      by_cases hy : 1 < y
      · go_wp2_with (at_builtin; (refine append1 (E := EU8) (l := D) rfl rfl _ _ 40 rfl Try.underlying40 rfl hown2 (111 : UInt8) rfl (by omega) (by omega) ?_); intro v' w3 hown3 hb3 hg3)
        go_roundw
        case rel => exact ⟨j + 1, D ++ [111], by omega, by go_num, hown3, by rw [List.length_append, HD.out]; rfl, by show _ = _; rw [List.all_append, hall.out]; rfl, HC2.out.keepB hcw hb3.size hb3, only_viaB hb3 (Nat.le_refl _) HG2.out⟩
        case measure => simp [intOf]; omega
      · have hy' : ¬ (1 < y) := hy
        go_wp2_with (at_builtin; (refine append1 (E := EU8) (l := D) rfl rfl _ _ 40 rfl Try.underlying40 rfl hown2 (46 : UInt8) rfl (by omega) (by omega) ?_); intro v' w3 hown3 hb3 hg3)
        go_roundw
        case rel => exact ⟨j + 1, D ++ [46], by omega, by go_num, hown3, by rw [List.length_append, HD.out]; rfl, by show _ = _; rw [List.all_append, hall.out]; rfl, HC2.out.keepB hcw hb3.size hb3, only_viaB hb3 (Nat.le_refl _) HG2.out⟩
        case measure => simp [intOf]; omega
    · have hbk := back_own hown
      have HD := Lib.hid hD
      have hjn : 1 + n ≤ j := by omega
      have HCr := Lib.hid hcu
      clear hown hD hcu
      go_wp2_with fail
      go_ret
      have e1 : (⟨D.toArray⟩ : ByteArray).size = j := HD.out
      exact ⟨⟨_, rfl, by rw [rowOk, e1]; simp only [Bool.and_eq_true, decide_eq_true_eq]; exact ⟨⟨by omega, by omega⟩, by simpa using hall.out⟩, by rw [e1]; omega⟩, HCr.out, hg.out⟩
set_option maxRecDepth 100000 in
theorem DrawPegRow_any (v : Value) (l : List Int) (w : World) (hv : Rd EBy w v l) (hok : ∀ y ∈ l, ByOk y) (hl : l.length ≤ 1048576) :
    Calls Try.prog 58 #[v] w (RowIs w) := by
  have HV := Lib.hid hv
  have HO := Lib.hid hok
  clear hv hok
  go_enter Try.func58, Try.ntmps58
  go_wp2_with fail
  refine (l01New_any v l _ HV.out HO.out hl).mono ?_
  rintro e w1 ⟨c, rfl, hc0, hcu, hb⟩
  have hz := hb.size
  have HB := Lib.hid hb
  have HC := Lib.hid hcu
  clear hb hcu
  go_wp2_with fail
  refine (l25Row_any c v l w w1 HV.out HO.out hc0 HB.out HC.out).mono ?_
  rintro e w2 ⟨⟨s, rfl, hs, hs2⟩, hcu2, hg⟩
  have hb2 := Lib.hid (HB.out.trans ((only_below (Nat.le_of_lt HC.out.1) hg).mono hc0))
  clear hcu2 hg
  go_wp2_with fail
  go_ret
  exact ⟨s, rfl, hs, hs2, hb2.out⟩
end Go.Proofs.Ytfpofhkggojaoaa
