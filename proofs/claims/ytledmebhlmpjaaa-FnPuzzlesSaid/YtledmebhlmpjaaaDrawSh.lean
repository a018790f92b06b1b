/- DrawSh: contract of the reference's short puzzles. Conditions: the cursor's form. -/
import Derived.Test.YtledmebhlmpjaaaPzD
import Derived.Test.YtledmebhlmpjaaaPzH
import Derived.Test.YtledmebhlmpjaaaPlayAll
import Derived.Deep.RegionWith
import Derived.Deep.DeepCutAuto
import Derived.Deep.Cut
set_option linter.unusedVariables false
set_option linter.unusedSimpArgs false
namespace Go.Proofs.Ytledmebhlmpjaaa
open Go.ChangeShapes Go.WideShapes Go.ChangeAt Go.RowKit Peg Go.Sort
set_option maxHeartbeats 8000000 in
set_option maxRecDepth 100000 in
theorem l26Short_any (c : Nat) (v : Value) (l : List Int) (w0 w : World) (hv : Rd EBy w0 v l) (hok : ∀ y ∈ l, ByOk y) (h0 : w0.heap.size ≤ c) (hbel : Below w0.heap.size w0 w) (hcur : CurAt w c v l.length) :
    Calls Try.prog 34 #[.pointer (some ⟨c, 0, none⟩)] w fun e w' => (∃ (a b o p q : Int) (J : List Ln), e = .returned (.agg #[.int .i64 a, .int .i64 b, .int .i64 o, .int .i64 p, .int .i64 q]) ∧ isSmall a b o = true ∧ posOk a b o p = true ∧ posOk a b o q = true ∧ playTo false a b o p J = some q ∧ J.length ≤ 5) ∧ CurAt w' c v l.length ∧ w.grownBy w' (some c) := by
  have HV := Lib.hid hv
  have HO := Lib.hid hok
  have D0 := Lib.hid (DS.start h0 hbel hcur)
  have hcw := hcur.1
  clear hbel hcur
  have HRET : Hid (∀ W, DS w0 c v l.length w W → CurAt W c v l.length ∧ w.grownBy W (some c)) := fun W h => ⟨h.1, h.2.1⟩
  have HS33 : Hid (isSmall 3 3 (pw (3 * 3) - 1) = true) := rect_small (by omega) (by omega) (by omega)
  have HS4 : Hid (∀ x : Int, 0 ≤ x → x < 2 → isSmall 4 (2 + x) (pw (4 * (2 + x)) - 1) = true) := fun x h1 h2 => rect_small (by omega) (by omega) (by omega)
  go_enter Try.func34, Try.ntmps34
  have D1 := Lib.hid (D0.out.alloc (.cells #[.int .i64 0, .int .i64 0, .int .i64 0, .int .i64 0, .int .i64 0] 29))
  have R1 := Lib.hid (BoxAt.new w #[.int .i64 0, .int .i64 0, .int .i64 0, .int .i64 0, .int .i64 0] 29)
  go_wp2_with fail
  refine (sRectangle_any 3 3 (by omega) (by omega) (by omega) (by omega) _).mono ?_
  rintro e w1 ⟨rfl, hb1⟩
  generalize pw (3 * 3) - 1 = O3 at *
  have D2 := Lib.hid ((D1.out.keep hb1).alloc (.cells #[.int .i64 3, .int .i64 3, .int .i64 O3] 27))
  have R2 := Lib.hid ((R1.out.keep hb1).alloc (.cells #[.int .i64 3, .int .i64 3, .int .i64 O3] 27))
  have X2 := Lib.hid (BoxAt.new w1 #[.int .i64 3, .int .i64 3, .int .i64 O3] 27)
  have hbX : w.heap.size < w1.heap.size := (R1.out.keep hb1).1
  clear hb1 D1 R1
  go_wp2_with fail
  refine (l01Once_any c v l 2 (by omega) (by omega) w0 _ HV.out HO.out h0 D2.out.below D2.out.1).mono ?_
  rintro e w2 ⟨⟨y, rfl⟩, hcu2, hg2⟩
  have D3 := Lib.hid (D2.out.call hcu2 hg2)
  have R3 := Lib.hid (R2.out.only hg2 (by omega))
  have X3 := Lib.hid (X2.out.only hg2 (by omega))
  clear hcu2 hg2 D2 R2 X2
  have HB2 := Lib.hid (l01Below_any c v l 2 (by omega) (by omega) w0 _ HV.out HO.out h0 D3.out.below D3.out.1)
  go_upto_if 9 with fail
  go_cut [] (fun wx => ∃ a b o : Int, isSmall a b o = true ∧ Hid (BoxAt wx w1.heap.size #[.int .i64 a, .int .i64 b, .int .i64 o]) ∧ Hid (DS w0 c v l.length w wx) ∧ Hid (BoxAt wx w.heap.size #[.int .i64 0, .int .i64 0, .int .i64 0, .int .i64 0, .int .i64 0]))
  case first =>
    cases y
    · go_wp2_with fail
      all_goals (go_meet; case rel => exact ⟨3, 3, O3, HS33.out, X3, D3, R3⟩)
    · go_wp2_with fail
      refine HB2.out.mono ?_
      rintro e w3 ⟨⟨x, rfl, x0, x1⟩, hcu3, hg3⟩
      have D4 := Lib.hid (D3.out.call hcu3 hg3)
      have R4 := Lib.hid (R3.out.only hg3 (by omega))
      have X4 := Lib.hid (X3.out.only hg3 (by omega))
      have hw : wrap64 (2 + x) = 2 + x := IntWalk.wrap64_in _ (by omega)
      have hsm := HS4.out x x0 x1
      clear hcu3 hg3
      go_wp2_with fail
      refine (sRectangle_any 4 (2 + x) (by omega) (by omega) (by omega) (by omega) _).mono ?_
      rintro e w4 ⟨rfl, hb4⟩
      have X5 := Lib.hid (X4.out.keep hb4)
      have D5 := Lib.hid (D4.out.keep hb4)
      have R5 := Lib.hid (R4.out.keep hb4)
      obtain ⟨p1, p2, p3⟩ := X5.out
      clear hb4
      generalize pw (4 * (2 + x)) - 1 = O4 at *
      go_wp2_with fail
      all_goals (go_meet; case rel => exact ⟨4, 2 + x, O4, hsm, ((X5.out.put 0 _ (by simp)).put 1 _ (by simp)).put 2 _ (by simp), ((D5.out.set (by omega) _ _).set (by omega) _ _).set (by omega) _ _, ((R5.out.far _ _ _ (by omega)).far _ _ _ (by omega)).far _ _ _ (by omega)⟩)
  clear D3 R3 X3 HB2 HS33 HS4
  obtain ⟨a, b, o, hsm, X6, D6, R6⟩ := hcut
  obtain ⟨p1, p2, p3⟩ := X6.out
  have hbk := (small_N hsm).1
  go_wp2_with fail
  refine (l06Start_any a b o hbk c v l w0 _ HV.out HO.out h0 D6.out.below D6.out.1).mono ?_
  rintro e w7 ⟨⟨p, rfl, hp⟩, hcu7, hg7⟩
  have D7 := Lib.hid (D6.out.call hcu7 hg7)
  have R7 := Lib.hid (R6.out.only hg7 (by omega))
  have X7 := Lib.hid (X6.out.only hg7 (by omega))
  clear hcu7 hg7 D6 R6 X6 p1 p2 p3
  have hp9 : p ≤ 9223372036854775807 := by have := pos_lt hp; omega
  obtain ⟨x1, x2, x3⟩ := X7.out
  have D7d := Lib.hid (D7.out.keep ((Below.refl _ _).drew))
  have X7d := Lib.hid (X7.out.keep ((Below.refl _ _).drew))
  have R7d := Lib.hid (R7.out.keep ((Below.refl _ _).drew))
  have HB6 := Lib.hid (l01Below_any c v l 6 (by omega) (by omega) w0 w7.drew HV.out HO.out h0 D7d.out.below D7d.out.1)
  have HPL := Lib.hid (fun (n : Nat) (h : n ≤ 40) W (hd : DS w0 c v l.length w W) => l06Play_any a b o p n h hp c v l w0 W HV.out HO.out h0 hd.below hd.1)
  have HPA := Lib.hid (fun (L : List Ln) (vL : Value) (q : Int) (W : World) (B : Nat) (h1 : playTo false a b o p L = some q) (h2 : L.length ≤ 60) (ho : Own ELine W B vL L) => (show Calls Try.prog 69 #[.agg #[.int .i64 a, .int .i64 b, .int .i64 o], .int .i64 p, vL] W fun e w' => e = .returned (.tuple #[.int .i64 q, .bool true]) ∧ Below W.heap.size W w' from by
    have h := sPlayAll_any a b o p L vL hp9 W ho
    have e : playAll a b o p L = some q := by unfold playAll; rw [if_pos hp, if_pos h2]; exact h1
    rw [e] at h
    exact h))
  go_upto_region 5 with fail
  go_cut [5] (fun u wx => ∃ (q : Int) (J : List Ln), u = .int .i64 q ∧ playTo false a b o p J = some q ∧ posOk a b o q = true ∧ J.length ≤ 5 ∧ Hid (BoxAt wx w1.heap.size #[.int .i64 a, .int .i64 b, .int .i64 o]) ∧ Hid (DS w0 c v l.length w wx) ∧ Hid (BoxAt wx w.heap.size #[.int .i64 0, .int .i64 0, .int .i64 0, .int .i64 0, .int .i64 0]))
  case first =>
    go_region_with (first | (go_at_call 67; refine HB6.out.mono ?_; rintro e w3 ⟨⟨x, rfl, x0, x1'⟩, hcu3, hg3⟩; obtain ⟨n8, rfl⟩ := Int.eq_ofNat_of_zero_le x0; have hn8 : n8 ≤ 40 := (by omega); have D8 := Lib.hid (D7d.out.call hcu3 hg3); have X8 := Lib.hid (X7d.out.only hg3 (by omega)); have R8 := Lib.hid (R7d.out.only hg3 (by omega)); obtain ⟨p1, p2, p3⟩ := X8.out; clear hcu3 hg3) | (go_at_call 70; refine (HPL.out n8 hn8 w3 D8.out).mono ?_; rintro e w5 ⟨⟨q, J, vL, rfl, hpt, hq, hJ, hoJ⟩, hcu5, hg5⟩; have D9 := Lib.hid (D8.out.call hcu5 hg5); have X9 := Lib.hid (X8.out.only hg5 (by omega)); have R9 := Lib.hid (R8.out.only hg5 (by omega)); obtain ⟨q1, q2, q3⟩ := X9.out; have HOJ := Lib.hid hoJ; clear hcu5 hg5 hoJ) | (go_at_call 69; refine (HPA.out J vL q w5 _ hpt (by omega) HOJ.out).mono ?_; rintro e w6 ⟨rfl, hb6⟩; have D10 := D9.out.keep hb6; have X10 := X9.out.keep hb6; have R10 := R9.out.keep hb6; clear hb6))
    all_goals (go_wp2_with fail; go_meet; case rel => exact ⟨q, J, rfl, hpt, hq, by omega, X10, D10, R10⟩)
  clear x1 x2 x3 D7 X7 R7 D7d X7d R7d HB6 HPL HPA
  obtain ⟨q, J, rfl, hpt, hq, hJ, X11, D11, R11⟩ := hcut
  obtain ⟨x1, x2, x3⟩ := X11.out
  obtain ⟨r1, r2, r3⟩ := R11.out
  go_wp2_with fail
  refine bodyPost_ret (v := .agg #[.int .i64 a, .int .i64 b, .int .i64 o, .int .i64 p, .int .i64 q]) (by simp [results, Try.results34, go_sem, *]) rfl ⟨⟨a, b, o, p, q, J, rfl, hsm, hp, hq, hpt, hJ⟩, ?_⟩
  exact HRET.out _ (((((D11.out.set (Nat.le_refl _) _ _).set (Nat.le_refl _) _ _).set (Nat.le_refl _) _ _).set (Nat.le_refl _) _ _).set (Nat.le_refl _) _ _)
end Go.Proofs.Ytledmebhlmpjaaa
