/- PzH: several texts in one (DrawG3, DrawG4). Conditions: those that each theorem names. -/
import Derived.Test.YtledmebhlmpjaaaPzG
import Derived.Deep.Cut
import Derived.Deep.DeepCutAuto
set_option linter.unusedVariables false
set_option linter.unusedSimpArgs false
namespace Go.Proofs.Ytledmebhlmpjaaa
open Go.ChangeShapes Go.WideShapes Go.ChangeAt Go.RowKit Peg Go.Sort
theorem div4_lt {x : Int} (x0 : 0 ≤ x) (x1 : x < 5) (h : 16 / (1 + x) < 4) : x = 4 := by
  rcases (by omega : x = 0 ∨ x = 1 ∨ x = 2 ∨ x = 3 ∨ x = 4) with rfl | rfl | rfl | rfl | rfl <;> first | rfl | (exfalso; revert h; decide)
theorem div4_le {x : Int} (x0 : 0 ≤ x) (x1 : x < 5) (h : 4 ≤ 16 / (1 + x)) : x ≤ 3 := by
  rcases (by omega : x = 0 ∨ x = 1 ∨ x = 2 ∨ x = 3 ∨ x = 4) with rfl | rfl | rfl | rfl | rfl <;> first | omega | (exfalso; revert h; decide)
set_option maxHeartbeats 4000000 in
set_option maxRecDepth 100000 in
theorem l06Play_any (a b o p0 : Int) (n : Nat) (hn : n ≤ 40) (hp0 : posOk a b o p0 = true) (c : Nat) (v : Value) (l : List Int) (w0 w : World) (hv : Rd EBy w0 v l) (hok : ∀ y ∈ l, ByOk y) (h0 : w0.heap.size ≤ c) (hbel : Below w0.heap.size w0 w) (hcur : CurAt w c v l.length) :
    Calls Try.prog 70 #[.pointer (some ⟨c, 0, none⟩), .agg #[.int .i64 a, .int .i64 b, .int .i64 o], .int .i64 p0, .int .i64 n] w fun e w' => (∃ (q : Int) (L : List Ln) (vL : Value), e = .returned vL ∧ playTo false a b o p0 L = some q ∧ posOk a b o q = true ∧ L.length ≤ n ∧ Own ELine w' w.heap.size vL L) ∧ CurAt w' c v l.length ∧ w.grownBy w' (some c) := by
  have HV := Lib.hid hv
  have HO := Lib.hid hok
  have HL := Lib.hid hbel
  have hcw := hcur.1
  have HC := Lib.hid hcur
  have HP0 := Lib.hid hp0
  have HPL := Lib.hid (fun p => @pos_lt a b o p)
  have HJD := Lib.hid (fun p (x : Ln) => @jumpsOf_do a b o p x)
  clear hv hok hbel hcur hp0
  go_enter Try.func70, Try.ntmps70
  go_wp2_with fail
  go_loopw [2, 9, 10] (fun q out k wr => ∃ (j : Nat) (p : Int) (L : List Ln), j ≤ n ∧ k = .int .i64 j ∧ q = .int .i64 p ∧ Own ELine wr (w.heap.size + 1) out L ∧ L.length = j ∧ Hid (playTo false a b o p0 L = some p) ∧ Hid (posOk a b o p = true) ∧ Hid (CurAt wr c v l.length) ∧ Hid (w.grownBy wr (some c)) ∧ Hid (∀ j, wr.cell? ⟨w.heap.size, j, none⟩ = #[Value.int .i64 a, .int .i64 b, .int .i64 o][j]?) ∧ w.heap.size < wr.heap.size) (fun _ _ k _ => n - (intOf k).toNat)
  case atStart => exact ⟨0, p0, [], by omega, rfl, rfl, Own.emptyAny _ _ _ _, rfl, by show playTo _ _ _ _ _ _ = _; rfl, HP0, by show CurAt _ _ _ _; exact HC.out.keepB (B := w.heap.size) hcw (by simp; omega) (by (repeat' first | (with_reducible exact Below.refl _ _) | (with_reducible refine Below.alloc ?_ ?_ _) | (with_reducible refine Below.drew ?_) | (with_reducible refine Below.setCell ?_ ?_ _) | (with_reducible refine below_via (by assumption) ?_ ?_) | go_size)), by show World.grownBy _ _ _; exact only_viaB (B := w.heap.size) (by (repeat' first | (with_reducible exact Below.refl _ _) | (with_reducible refine Below.alloc ?_ ?_ _) | (with_reducible refine Below.drew ?_) | (with_reducible refine Below.setCell ?_ ?_ _) | (with_reducible refine below_via (by assumption) ?_ ?_) | go_size)) (Nat.le_refl _) (only_refl w c), by show ∀ j, _; intro j; simp, by simp; omega⟩
  case round =>
    obtain ⟨j, p, L, hj, rfl, rfl, hown, hlen, HPT, HP, HCr, HGr, HBX, hzr⟩ := hrel
    by_cases hlt : j < n
    · have hpl := HPL.out p HP.out
      have HW := Lib.hid hown
      have HLN := Lib.hid hlen
      have hL40 : L.length ≤ 1048576 := by omega
      have hbox := HBX.out
      clear hown hlen
      go_wp2_with fail
      refine (sJumpsOf_any a b o p (by omega) wr).mono ?_
      rintro e w3 ⟨vJ, rfl, ownJ, hb3⟩
      have hz3 := hb3.size
      have HLJ := jumpsOf_le a b o p
      obtain ⟨aJ, cJ, rfl, _, hgJ⟩ := ownJ.lineG
      have HGJ := Lib.hid hgJ
      have HC3 := Lib.hid (HCr.out.keep hb3)
      have HG3 := Lib.hid (only_via hb3 HGr.out)
      have HW3 := Lib.hid (HW.out.keep hb3)
      have hbox3 : ∀ j, w3.cell? ⟨w.heap.size, j, none⟩ = #[Value.int .i64 a, .int .i64 b, .int .i64 o][j]? := fun j => (hb3.cell hzr).trans (hbox j)
      have HJ2 := Lib.hid (fun x hx => HJD.out p x hx)
      clear hgJ ownJ hb3 hbox HBX
      generalize jumpsOf a b o p = J at *
      by_cases hJ0 : J.length = 0
      · have hj0 : ((J.length : Int) == 0) = true := by rw [hJ0]; rfl
        rw [hJ0]
        go_wp2_with fail
        go_ret
        exact ⟨⟨p, L, _, rfl, HPT.out, HP.out, by have := HLN.out; omega, HW3.out.mono (by omega)⟩, HC3.out, HG3.out⟩
      · have hj0 : ((J.length : Int) == 0) = false := by rw [beq_eq_false_iff_ne]; omega
        go_wp2_with fail
        refine (l01Below_any c v l J.length (by omega) (by omega) w0 _ HV.out HO.out h0 (HL.out.trans ((only_below (Nat.le_of_lt hcw) HG3.out).mono h0)) HC3.out).mono ?_
        rintro e w4 ⟨⟨x, rfl, x0, x1⟩, hcu4, hg4⟩
        obtain ⟨k, rfl⟩ : ∃ k : Nat, x = k := ⟨x.toNat, by omega⟩
        have hk : k < J.length := by omega
        obtain ⟨bJ, rfl, hbJ0, hbJ1, hf3, ho3, ht3⟩ := HGJ.out k hk
        have hz4 := hg4.size
        have hf4 : w4.cell? ⟨bJ, k * 3, none⟩ = some (.int .i64 (gD J Ln0 k).f) := (only_cell hg4 hbJ1 (by omega)).trans hf3
        have ho4 : w4.cell? ⟨bJ, k * 3 + 1, none⟩ = some (.int .i64 (gD J Ln0 k).o) := (only_cell hg4 hbJ1 (by omega)).trans ho3
        have ht4 : w4.cell? ⟨bJ, k * 3 + 2, none⟩ = some (.int .i64 (gD J Ln0 k).t) := (only_cell hg4 hbJ1 (by omega)).trans ht3
        have hbox4 : ∀ j, w4.cell? ⟨w.heap.size, j, none⟩ = #[Value.int .i64 a, .int .i64 b, .int .i64 o][j]? := fun j => (only_cell hg4 (by omega) (by omega)).trans (hbox3 j)
        have hbJ4 : bJ < w4.heap.size := by omega
        have hwz4 : w.heap.size < w4.heap.size := by omega
        have HD := Lib.hid (HJ2.out _ (gD_mem J Ln0 k hk))
        have HW4 := Lib.hid (HW3.out.only hg4 (Nat.lt_succ_of_lt hcw))
        have HC4 := Lib.hid hcu4
        have HG4 := Lib.hid (only_trans HG3.out hg4)
        clear hf3 ho3 ht3 hcu4 hg4 hbox3
        generalize gD J Ln0 k = ln at *
        have HPN : Hid (playTo false a b o p0 (L ++ [ln]) = some (flip p ln)) := by
          show _ = _
          rw [playTo_append, HPT.out]
          simp [playTo, HD.out]
        have HPO := Lib.hid (doOk_next HD.out)
        have HDJ : Hid (∀ W, Calls Try.prog 23 #[.agg #[.int .i64 a, .int .i64 b, .int .i64 o], .int .i64 p, .agg #[.int .i64 ln.f, .int .i64 ln.o, .int .i64 ln.t]] W fun e w' => e = .returned (.tuple #[.int .i64 (flip p ln), .bool true]) ∧ Below W.heap.size W w') := fun W => by
          have h := sDoJump_any a b o p ln (by omega) W
          rw [doTo, HD.out] at h
          simpa using h
        generalize flip p ln = p2 at *
        go_wp2_with fail
        refine (HDJ.out _).mono ?_
        rintro e w5 ⟨rfl, hb5⟩
        have hz5 := hb5.size
        simp only [World.size_alloc] at hz5
        have HB5 : Hid (Below w4.heap.size w4 w5) := ((Below.refl _ _).alloc (Nat.le_refl _) (.cells #[.int .i64 ln.f, .int .i64 ln.o, .int .i64 ln.t] 47)).trans (hb5.mono (by simp))
        have hl0 : w5.cell? ⟨w4.heap.size, 0, none⟩ = some (.int .i64 ln.f) := (hb5.cell (by simp)).trans (by simp)
        have hl1 : w5.cell? ⟨w4.heap.size, 1, none⟩ = some (.int .i64 ln.o) := (hb5.cell (by simp)).trans (by simp)
        have hl2 : w5.cell? ⟨w4.heap.size, 2, none⟩ = some (.int .i64 ln.t) := (hb5.cell (by simp)).trans (by simp)
        have hown5 := HW4.out.keep HB5.out
        have hbox5 := Lib.hid (fun j => (HB5.out.cell hwz4).trans (hbox4 j))
        have HC5 := Lib.hid (HC4.out.keep HB5.out)
        have HG5 := Lib.hid (only_via HB5.out HG4.out)
        have hsz5 : w4.heap.size < w5.heap.size := by omega
        clear hb5 hbox4 hf4 ho4 ht4
        go_wp2_with (at_builtin; (refine append1 (E := ELine) (l := L) rfl rfl _ _ 36 rfl Try.underlying36 rfl hown5 ln rfl (by omega) (by omega) ?_); intro v' w6 hown6 hb6 hg6)
        have hz6 := hb6.size
        go_roundw
        case rel => exact ⟨j + 1, p2, L ++ [ln], by omega, by go_num, rfl, hown6, by rw [List.length_append, HLN.out]; rfl, HPN, HPO, by show CurAt _ _ _ _; exact HC5.out.keepB (Nat.lt_succ_of_lt hcw) (by omega) hb6, by show World.grownBy _ _ _; exact only_viaB hb6 (Nat.le_succ _) HG5.out, by show ∀ j, _; intro j; exact (hb6.cell (Nat.lt_succ_self _)).trans (hbox5.out j), by omega⟩
        case measure => simp [intOf]; omega
    · obtain rfl : j = n := by omega
      have HW := Lib.hid hown
      have HLN := Lib.hid hlen
      clear hown hlen
      go_wp2_with fail
      go_ret
      exact ⟨⟨p, L, _, rfl, HPT.out, HP.out, by have := HLN.out; omega, HW.out.mono (by omega)⟩, HCr.out, HGr.out⟩
set_option maxHeartbeats 4000000 in
set_option maxRecDepth 100000 in
theorem l02Small_any (c : Nat) (v : Value) (l : List Int) (w0 w : World) (hv : Rd EBy w0 v l) (hok : ∀ y ∈ l, ByOk y) (h0 : w0.heap.size ≤ c) (hbel : Below w0.heap.size w0 w) (hcur : CurAt w c v l.length) :
    Calls Try.prog 103 #[.pointer (some ⟨c, 0, none⟩)] w fun e w' => (∃ a b o : Int, e = .returned (.agg #[.int .i64 a, .int .i64 b, .int .i64 o]) ∧ isSmall a b o = true) ∧ CurAt w' c v l.length ∧ w.grownBy w' (some c) := by
  have HV := Lib.hid hv
  have HO := Lib.hid hok
  have HL := Lib.hid hbel
  have hcw := hcur.1
  have HC := Lib.hid hcur
  have HOB : Hid (∀ {a b : Int} (o : Int), isSmall a b o = true → 1 ≤ o ∧ o < 562949953421312) := fun {a b} o h => holes_lt (isSmall_iff.1 h).1
  clear hv hok hbel hcur
  go_enter Try.func103, Try.ntmps103
  go_wp2_with fail
  have hb0 : Below w.heap.size w (w.alloc (.cells #[.int .i64 0, .int .i64 0, .int .i64 0] 27)) := (Below.refl _ _).alloc (Nat.le_refl _) _
  refine (l01Below_any c v l 5 (by omega) (by omega) w0 _ HV.out HO.out h0 (HL.out.trans (hb0.mono (by omega))) (HC.out.keep hb0)).mono ?_
  rintro e w1 ⟨⟨x, rfl, x0, x1⟩, hcu1, hg1⟩
  have hz1 := hg1.size
  simp only [World.size_alloc] at hz1
  have hR1 : ∀ j, w1.cell? ⟨w.heap.size, j, none⟩ = #[Value.int .i64 0, .int .i64 0, .int .i64 0][j]? := fun j => (only_cell hg1 (by simp) (by omega)).trans (by simp)
  have hF1 : ∀ j, w1.frozen? ⟨w.heap.size, j, none⟩ = false := fun j => (only_frozen hg1 (by simp) (by omega)).trans (by simp)
  have HC1 := Lib.hid hcu1
  have HG1 := Lib.hid (only_trans (only_old hb0) hg1)
  clear hcu1 hg1 hb0
  have HL1 := Lib.hid (HL.out.trans ((only_below (Nat.le_of_lt hcw) HG1.out).mono h0))
  go_upto_region 2 with fail
  go_cut [4] (fun u wx => ∃ y : Int, u = .int .i64 (1 + y) ∧ 0 ≤ y ∧ y ≤ 3 ∧ (1 + x) * (1 + y) ≤ 16 ∧ Hid (CurAt wx c v l.length) ∧ Hid (w1.grownBy wx (some c)))
  case first =>
    go_wp2_with fail
    · have hx4 : x = 4 := div4_lt x0 x1 (by assumption)
      subst hx4
      refine (l01Below_any c v l (16 / (1 + 4)) (by decide) (by decide) w0 _ HV.out HO.out h0 HL1.out HC1.out).mono ?_
      rintro e w2 ⟨⟨y, rfl, y0, y1⟩, hcu2, hg2⟩
      have y2 : y < 3 := y1
      have HC2 := Lib.hid hcu2
      have HG2 := Lib.hid hg2
      clear hcu2 hg2 y1
      go_wp2_with fail
      go_meet
      case rel => exact ⟨y, rfl, y0, by omega, by omega, HC2, HG2⟩
    · have hx3 : x ≤ 3 := div4_le x0 x1 (by assumption)
      refine (l01Below_any c v l 4 (by decide) (by decide) w0 _ HV.out HO.out h0 HL1.out HC1.out).mono ?_
      rintro e w2 ⟨⟨y, rfl, y0, y1⟩, hcu2, hg2⟩
      have HC2 := Lib.hid hcu2
      have HG2 := Lib.hid hg2
      clear hcu2 hg2
      go_wp2_with fail
      go_meet
      case rel => exact ⟨y, rfl, y0, by omega, by rcases (by omega : x = 0 ∨ x = 1 ∨ x = 2 ∨ x = 3) with rfl | rfl | rfl | rfl <;> omega, HC2, HG2⟩
  obtain ⟨y, rfl, y0, y1, hxy, HC2, HG2⟩ := hcut
  obtain ⟨w2, rfl⟩ : ∃ w2 : World, w2 = wc := ⟨_, rfl⟩
  have hz2 := HG2.out.size
  have hR2 : ∀ j, w2.cell? ⟨w.heap.size, j, none⟩ = #[Value.int .i64 0, .int .i64 0, .int .i64 0][j]? := fun j => (only_cell HG2.out (by omega) (by omega)).trans (hR1 j)
  have hF2 : ∀ j, w2.frozen? ⟨w.heap.size, j, none⟩ = false := fun j => (only_frozen HG2.out (by omega) (by omega)).trans (hF1 j)
  have hwz2 : w.heap.size < w2.heap.size := by omega
  have HGW2 := Lib.hid (only_trans HG1.out HG2.out)
  clear hR1 hF1 HG2
  have HG2 := HGW2
  rcases (by omega : 3 ≤ 1 + x ∨ (1 + x < 3 ∧ 3 ≤ 1 + y) ∨ (1 + x < 3 ∧ 1 + y < 3)) with hc | ⟨hc, hd⟩ | ⟨hc, hd⟩
  · have hA1 : (1 + x) * (1 + y) ≤ 16 := hxy
    have hA2 : 1 ≤ (1 + x) * (1 + y) := by
      have := Int.mul_le_mul (show (1 : Int) ≤ 1 + x by omega) (show (1 : Int) ≤ (1 + y) by omega) (by omega) (by omega)
      omega
    go_wp2_with fail
    refine (sRectangle_any (1 + x) (1 + y) (by omega) (by omega) hA1 hA2 _).mono ?_
    rintro e w3 ⟨rfl, hb3⟩
    have hz3 := hb3.size
    have hR3 : ∀ j, w3.cell? ⟨w.heap.size, j, none⟩ = #[Value.int .i64 0, .int .i64 0, .int .i64 0][j]? := fun j => (hb3.cell hwz2).trans (hR2 j)
    have hF3 : ∀ j, w3.frozen? ⟨w.heap.size, j, none⟩ = false := fun j => (hb3.frozen hwz2).trans (hF2 j)
    have HC3 := Lib.hid (HC2.out.keep hb3)
    have HG3 := Lib.hid (only_via hb3 HG2.out)
    have HSm := Lib.hid (rect_small (a := 1 + x) (b := (1 + y)) (by omega) (by omega) hA1)
    have HL3 := Lib.hid (HL.out.trans ((only_below (Nat.le_of_lt hcw) HG3.out).mono h0))
    clear hb3 hR2 hF2
    generalize pw ((1 + x) * (1 + y)) - 1 = o0 at *
    have hb3a : Below w3.heap.size w3 (w3.alloc (.cells #[.int .i64 (1 + x), .int .i64 (1 + y), .int .i64 o0] 27)) := (Below.refl _ _).alloc (Nat.le_refl _) _
    go_wp2_with fail
    refine (l01Below_any c v l 3 (by omega) (by omega) w0 _ HV.out HO.out h0 (HL3.out.trans (hb3a.mono (by have := HL3.out.size; omega))) (HC3.out.keep hb3a)).mono ?_
    rintro e w4 ⟨⟨k0, rfl, k00, k01⟩, hcu4, hg4⟩
    have hz4 := hg4.size
    simp only [World.size_alloc] at hz4
    have hX4 : ∀ j, w4.cell? ⟨w3.heap.size, j, none⟩ = #[Value.int .i64 (1 + x), .int .i64 (1 + y), .int .i64 o0][j]? := fun j => (only_cell hg4 (by simp) (by omega)).trans (by simp)
    have hY4 : ∀ j, w4.frozen? ⟨w3.heap.size, j, none⟩ = false := fun j => (only_frozen hg4 (by simp) (by omega)).trans (by simp)
    have hR4 : ∀ j, w4.cell? ⟨w.heap.size, j, none⟩ = #[Value.int .i64 0, .int .i64 0, .int .i64 0][j]? := fun j => (only_cell hg4 (by simp; omega) (by omega)).trans ((hb3a.cell (show w.heap.size < w3.heap.size by omega)).trans (hR3 j))
    have hF4 : ∀ j, w4.frozen? ⟨w.heap.size, j, none⟩ = false := fun j => (only_frozen hg4 (by simp; omega) (by omega)).trans ((hb3a.frozen (show w.heap.size < w3.heap.size by omega)).trans (hF3 j))
    have HC4 := Lib.hid hcu4
    have HG4 := Lib.hid (only_trans HG3.out (only_trans (only_old hb3a) hg4))
    clear hcu4 hg4 hb3a hR3 hF3
    have HR4 := Lib.hid hR4
    have HF4 := Lib.hid hF4
    have HY4 := Lib.hid hY4
    have hX40 := hX4 0
    have hX41 := hX4 1
    have hX42 := hX4 2
    clear hR4 hF4 hY4 hX4
    go_wp2_with fail
    go_loopw [6] (fun kk wr => ∃ (k o : Int), kk = .int .i64 k ∧ 0 ≤ k ∧ k ≤ 2 ∧ Hid (isSmall (1 + x) (1 + y) o = true) ∧ Hid (CurAt wr c v l.length) ∧ Hid (w.grownBy wr (some c)) ∧ wr.cell? ⟨w3.heap.size, 0, none⟩ = some (.int .i64 (1 + x)) ∧ wr.cell? ⟨w3.heap.size, 1, none⟩ = some (.int .i64 (1 + y)) ∧ wr.cell? ⟨w3.heap.size, 2, none⟩ = some (.int .i64 o) ∧ Hid (∀ j, wr.frozen? ⟨w3.heap.size, j, none⟩ = false) ∧ Hid (∀ j, wr.cell? ⟨w.heap.size, j, none⟩ = #[Value.int .i64 0, .int .i64 0, .int .i64 0][j]?) ∧ Hid (∀ j, wr.frozen? ⟨w.heap.size, j, none⟩ = false) ∧ w3.heap.size < wr.heap.size) (fun kk _ => (intOf kk).toNat)
    case atStart => exact ⟨k0, o0, rfl, k00, by omega, HSm, HC4, HG4, hX40, hX41, hX42, HY4, HR4, HF4, by omega⟩
    case round =>
      obtain ⟨k, o, rfl, hk0, hk2, HSo, HCX, HGX, hX0, hX1, hX2, HYX, HRX, HFX, hzX⟩ := hrel
      have hwX : w.heap.size < wr.heap.size := by omega
      have hr := HRX.out
      have hf := HFX.out
      have hy := HYX.out
      have hr0 := hr 0
      have hr1 := hr 1
      have hr2 := hr 2
      by_cases hk : 0 < k
      rotate_left
      · have HCQ := HCX
        have HGQ := HGX
        go_wp2_with fail
        refine bodyPost_ret (v := .agg #[.int .i64 (1 + x), .int .i64 (1 + y), .int .i64 o]) (by simp [results, Try.results103, go_sem, *]) rfl ⟨⟨_, _, o, rfl, HSo.out⟩, ?_, ?_⟩
        · exact HCQ.out.keepB (B := w.heap.size) hcw (by simp) (by (repeat' first | (with_reducible exact Below.refl _ _) | (with_reducible refine Below.alloc ?_ ?_ _) | (with_reducible refine Below.drew ?_) | (with_reducible refine Below.setCell ?_ ?_ _) | (with_reducible refine below_via (by assumption) ?_ ?_) | go_size))
        · exact only_viaB (B := w.heap.size) (by (repeat' first | (with_reducible exact Below.refl _ _) | (with_reducible refine Below.alloc ?_ ?_ _) | (with_reducible refine Below.drew ?_) | (with_reducible refine Below.setCell ?_ ?_ _) | (with_reducible refine below_via (by assumption) ?_ ?_) | go_size)) (Nat.le_refl _) HGQ.out
      · go_wp2_with fail
        refine (sCountHoles_any (1 + x) (1 + y) o wr).mono ?_
        rintro e w5 ⟨rfl, hb5⟩
        have hz5 := hb5.size
        have HCQ := Lib.hid (HCX.out.keep hb5)
        have HGQ := Lib.hid (only_via hb5 HGX.out)
        have hX50 := (hb5.cell (p := ⟨w3.heap.size, 0, none⟩) hzX).trans hX0
        have hX51 := (hb5.cell (p := ⟨w3.heap.size, 1, none⟩) hzX).trans hX1
        have hX52 := (hb5.cell (p := ⟨w3.heap.size, 2, none⟩) hzX).trans hX2
        have HY5 := Lib.hid (fun j => (hb5.frozen (p := ⟨w3.heap.size, j, none⟩) hzX).trans (HYX.out j))
        have HR5 := Lib.hid (fun j => (hb5.cell (p := ⟨w.heap.size, j, none⟩) hwX).trans (HRX.out j))
        have HF5 := Lib.hid (fun j => (hb5.frozen (p := ⟨w.heap.size, j, none⟩) hwX).trans (HFX.out j))
        clear hb5 hr hf hy hr0 hr1 hr2 hX0 hX1 hX2 HYX HRX HFX
        have hzY : w3.heap.size < w5.heap.size := by omega
        have hwY : w.heap.size < w5.heap.size := by omega
        by_cases h5 : 5 < (holesOf (1 + x) (1 + y) o).length
        rotate_left
        · have hd5 : decide ((5 : Int) < ((holesOf (1 + x) (1 + y) o).length : Nat)) = false := by simp; omega
          generalize (holesOf (1 + x) (1 + y) o).length = nh at *
          have hr := HR5.out
          have hf := HF5.out
          have hy := HY5.out
          go_wp2_with fail
          refine bodyPost_ret (v := .agg #[.int .i64 (1 + x), .int .i64 (1 + y), .int .i64 o]) (by simp [results, Try.results103, go_sem, *]) rfl ⟨⟨_, _, o, rfl, HSo.out⟩, ?_, ?_⟩
          · exact HCQ.out.keepB (B := w.heap.size) hcw (by simp) (by (repeat' first | (with_reducible exact Below.refl _ _) | (with_reducible refine Below.alloc ?_ ?_ _) | (with_reducible refine Below.drew ?_) | (with_reducible refine Below.setCell ?_ ?_ _) | (with_reducible refine below_via (by assumption) ?_ ?_) | go_size))
          · exact only_viaB (B := w.heap.size) (by (repeat' first | (with_reducible exact Below.refl _ _) | (with_reducible refine Below.alloc ?_ ?_ _) | (with_reducible refine Below.drew ?_) | (with_reducible refine Below.setCell ?_ ?_ _) | (with_reducible refine below_via (by assumption) ?_ ?_) | go_size)) (Nat.le_refl _) HGQ.out
        · have hd5 : decide ((5 : Int) < ((holesOf (1 + x) (1 + y) o).length : Nat)) = true := by simp; omega
          have HSUB := Lib.hid (fun i (h : tb o i = true) (h0 : 0 ≤ i) => small_sub HSo.out h h0 h5)
          generalize (holesOf (1 + x) (1 + y) o).length = nh at *
          have HL5 := Lib.hid (HL.out.trans ((only_below (Nat.le_of_lt hcw) HGQ.out).mono h0))
          go_wp2_with fail
          refine (l01Below_any c v l ((1 + x) * (1 + y)) (by omega) (by omega) w0 _ HV.out HO.out h0 HL5.out HCQ.out).mono ?_
          rintro e w6 ⟨⟨i, rfl, i0, i1⟩, hcu6, hg6⟩
          have hz6 := hg6.size
          have HC6 := Lib.hid hcu6
          have HG6 := Lib.hid (only_trans HGQ.out hg6)
          have hX60 := (only_cell (o := 0) hg6 hzY (by omega)).trans hX50
          have hX61 := (only_cell (o := 1) hg6 hzY (by omega)).trans hX51
          have hX62 := (only_cell (o := 2) hg6 hzY (by omega)).trans hX52
          have HY6 := Lib.hid (fun j => (only_frozen (o := j) hg6 hzY (by omega)).trans (HY5.out j))
          have HR6 := Lib.hid (fun j => (only_cell (o := j) hg6 hwY (by omega)).trans (HR5.out j))
          have HF6 := Lib.hid (fun j => (only_frozen (o := j) hg6 hwY (by omega)).trans (HF5.out j))
          clear hcu6 hg6 hX50 hX51 hX52 HY5 HR5 HF5
          have ho := HOB.out _ HSo.out
          have hw3 : w.heap.size ≤ w3.heap.size := by omega
          have hw6 : w.heap.size ≤ w6.heap.size := by omega
          have hzZ : w3.heap.size < w6.heap.size := by omega
          have hi48 : i ≤ 48 := by omega
          have hp2 := pw_62 (n := i) i0 (by omega)
          have hp1 := pw_pos i
          have hmin : min i.toNat 64 = i.toNat := by omega
          have hsw : IntKind.i64.wrap (o - pw i) = o - pw i := IntWalk.i64_in _ (by omega)
          have hwr : IntKind.i64.wrap (2 ^ i.toNat) = pw i := IntWalk.i64_in _ (show -9223372036854775808 ≤ pw i ∧ pw i ≤ 9223372036854775807 by omega)
          have hbt := bit_test' (p := o) (k := i) (by clear hsw hwr; omega) (by clear hsw hwr; omega)
          have hf := HY6.out
          have hm1 : k - 1 ≤ 2 := by clear hsw hwr hbt; omega
          have hm2 : (k - 1).toNat < k.toNat := by clear hsw hwr hbt; omega
          have hm3 : 0 ≤ k - 1 := by clear hsw hwr hbt; omega
          cases hb : tb o i
          · rw [hb] at hbt
            clear hb hsw hwr hp1 hp2
            go_wp2_with fail
            go_roundw
            case rel => exact ⟨k - 1, o, by go_num, hm3, hm1, HSo, HC6, HG6, hX60, hX61, hX62, HY6, HR6, HF6, hzZ⟩
            case measure => simp [intOf]; omega
          · have HSN := Lib.hid (HSUB.out i hb i0)
            rw [hb] at hbt
            clear hb
            generalize pw i = I at *
            go_wp2_with fail
            clear hp1 hp2
            go_region
            all_goals (go_wp2_with fail; go_roundw; (case rel => exact ⟨k - 1, o - I, by go_num, hm3, hm1, HSN, by show CurAt _ _ _ _; exact HC6.out.keepB (B := w.heap.size) hcw (by simp) (by (repeat' first | (with_reducible exact Below.refl _ _) | (with_reducible refine Below.alloc ?_ ?_ _) | (with_reducible refine Below.drew ?_) | (with_reducible refine Below.setCell ?_ ?_ _) | (with_reducible refine below_via (by assumption) ?_ ?_) | go_size)), by show World.grownBy _ _ _; exact only_viaB (B := w.heap.size) (by (repeat' first | (with_reducible exact Below.refl _ _) | (with_reducible refine Below.alloc ?_ ?_ _) | (with_reducible refine Below.drew ?_) | (with_reducible refine Below.setCell ?_ ?_ _) | (with_reducible refine below_via (by assumption) ?_ ?_) | go_size)) (Nat.le_refl _) HG6.out, by simp [go_sem, *], by simp [go_sem, *], by simp [go_sem, *], by show ∀ j, _; intro j; simp [go_sem, *], by show ∀ j, _; intro j; have := HR6.out j; simp [go_sem, *], by show ∀ j, _; intro j; have := HF6.out j; simp [go_sem, *], by simp; omega⟩); (case measure => simp [intOf]; omega))
  · have hA1 : (1 + x) * (1 + y) ≤ 16 := hxy
    have hA2 : 1 ≤ (1 + x) * (1 + y) := by
      have := Int.mul_le_mul (show (1 : Int) ≤ 1 + x by omega) (show (1 : Int) ≤ (1 + y) by omega) (by omega) (by omega)
      omega
    go_wp2_with fail
    refine (sRectangle_any (1 + x) (1 + y) (by omega) (by omega) hA1 hA2 _).mono ?_
    rintro e w3 ⟨rfl, hb3⟩
    have hz3 := hb3.size
    have hR3 : ∀ j, w3.cell? ⟨w.heap.size, j, none⟩ = #[Value.int .i64 0, .int .i64 0, .int .i64 0][j]? := fun j => (hb3.cell hwz2).trans (hR2 j)
    have hF3 : ∀ j, w3.frozen? ⟨w.heap.size, j, none⟩ = false := fun j => (hb3.frozen hwz2).trans (hF2 j)
    have HC3 := Lib.hid (HC2.out.keep hb3)
    have HG3 := Lib.hid (only_via hb3 HG2.out)
    have HSm := Lib.hid (rect_small (a := 1 + x) (b := (1 + y)) (by omega) (by omega) hA1)
    have HL3 := Lib.hid (HL.out.trans ((only_below (Nat.le_of_lt hcw) HG3.out).mono h0))
    clear hb3 hR2 hF2
    generalize pw ((1 + x) * (1 + y)) - 1 = o0 at *
    have hb3a : Below w3.heap.size w3 (w3.alloc (.cells #[.int .i64 (1 + x), .int .i64 (1 + y), .int .i64 o0] 27)) := (Below.refl _ _).alloc (Nat.le_refl _) _
    go_wp2_with fail
    refine (l01Below_any c v l 3 (by omega) (by omega) w0 _ HV.out HO.out h0 (HL3.out.trans (hb3a.mono (by have := HL3.out.size; omega))) (HC3.out.keep hb3a)).mono ?_
    rintro e w4 ⟨⟨k0, rfl, k00, k01⟩, hcu4, hg4⟩
    have hz4 := hg4.size
    simp only [World.size_alloc] at hz4
    have hX4 : ∀ j, w4.cell? ⟨w3.heap.size, j, none⟩ = #[Value.int .i64 (1 + x), .int .i64 (1 + y), .int .i64 o0][j]? := fun j => (only_cell hg4 (by simp) (by omega)).trans (by simp)
    have hY4 : ∀ j, w4.frozen? ⟨w3.heap.size, j, none⟩ = false := fun j => (only_frozen hg4 (by simp) (by omega)).trans (by simp)
    have hR4 : ∀ j, w4.cell? ⟨w.heap.size, j, none⟩ = #[Value.int .i64 0, .int .i64 0, .int .i64 0][j]? := fun j => (only_cell hg4 (by simp; omega) (by omega)).trans ((hb3a.cell (show w.heap.size < w3.heap.size by omega)).trans (hR3 j))
    have hF4 : ∀ j, w4.frozen? ⟨w.heap.size, j, none⟩ = false := fun j => (only_frozen hg4 (by simp; omega) (by omega)).trans ((hb3a.frozen (show w.heap.size < w3.heap.size by omega)).trans (hF3 j))
    have HC4 := Lib.hid hcu4
    have HG4 := Lib.hid (only_trans HG3.out (only_trans (only_old hb3a) hg4))
    clear hcu4 hg4 hb3a hR3 hF3
    have HR4 := Lib.hid hR4
    have HF4 := Lib.hid hF4
    have HY4 := Lib.hid hY4
    have hX40 := hX4 0
    have hX41 := hX4 1
    have hX42 := hX4 2
    clear hR4 hF4 hY4 hX4
    go_wp2_with fail
    go_loopw [6] (fun kk wr => ∃ (k o : Int), kk = .int .i64 k ∧ 0 ≤ k ∧ k ≤ 2 ∧ Hid (isSmall (1 + x) (1 + y) o = true) ∧ Hid (CurAt wr c v l.length) ∧ Hid (w.grownBy wr (some c)) ∧ wr.cell? ⟨w3.heap.size, 0, none⟩ = some (.int .i64 (1 + x)) ∧ wr.cell? ⟨w3.heap.size, 1, none⟩ = some (.int .i64 (1 + y)) ∧ wr.cell? ⟨w3.heap.size, 2, none⟩ = some (.int .i64 o) ∧ Hid (∀ j, wr.frozen? ⟨w3.heap.size, j, none⟩ = false) ∧ Hid (∀ j, wr.cell? ⟨w.heap.size, j, none⟩ = #[Value.int .i64 0, .int .i64 0, .int .i64 0][j]?) ∧ Hid (∀ j, wr.frozen? ⟨w.heap.size, j, none⟩ = false) ∧ w3.heap.size < wr.heap.size) (fun kk _ => (intOf kk).toNat)
    case atStart => exact ⟨k0, o0, rfl, k00, by omega, HSm, HC4, HG4, hX40, hX41, hX42, HY4, HR4, HF4, by omega⟩
    case round =>
      obtain ⟨k, o, rfl, hk0, hk2, HSo, HCX, HGX, hX0, hX1, hX2, HYX, HRX, HFX, hzX⟩ := hrel
      have hwX : w.heap.size < wr.heap.size := by omega
      have hr := HRX.out
      have hf := HFX.out
      have hy := HYX.out
      have hr0 := hr 0
      have hr1 := hr 1
      have hr2 := hr 2
      by_cases hk : 0 < k
      rotate_left
      · have HCQ := HCX
        have HGQ := HGX
        go_wp2_with fail
        refine bodyPost_ret (v := .agg #[.int .i64 (1 + x), .int .i64 (1 + y), .int .i64 o]) (by simp [results, Try.results103, go_sem, *]) rfl ⟨⟨_, _, o, rfl, HSo.out⟩, ?_, ?_⟩
        · exact HCQ.out.keepB (B := w.heap.size) hcw (by simp) (by (repeat' first | (with_reducible exact Below.refl _ _) | (with_reducible refine Below.alloc ?_ ?_ _) | (with_reducible refine Below.drew ?_) | (with_reducible refine Below.setCell ?_ ?_ _) | (with_reducible refine below_via (by assumption) ?_ ?_) | go_size))
        · exact only_viaB (B := w.heap.size) (by (repeat' first | (with_reducible exact Below.refl _ _) | (with_reducible refine Below.alloc ?_ ?_ _) | (with_reducible refine Below.drew ?_) | (with_reducible refine Below.setCell ?_ ?_ _) | (with_reducible refine below_via (by assumption) ?_ ?_) | go_size)) (Nat.le_refl _) HGQ.out
      · go_wp2_with fail
        refine (sCountHoles_any (1 + x) (1 + y) o wr).mono ?_
        rintro e w5 ⟨rfl, hb5⟩
        have hz5 := hb5.size
        have HCQ := Lib.hid (HCX.out.keep hb5)
        have HGQ := Lib.hid (only_via hb5 HGX.out)
        have hX50 := (hb5.cell (p := ⟨w3.heap.size, 0, none⟩) hzX).trans hX0
        have hX51 := (hb5.cell (p := ⟨w3.heap.size, 1, none⟩) hzX).trans hX1
        have hX52 := (hb5.cell (p := ⟨w3.heap.size, 2, none⟩) hzX).trans hX2
        have HY5 := Lib.hid (fun j => (hb5.frozen (p := ⟨w3.heap.size, j, none⟩) hzX).trans (HYX.out j))
        have HR5 := Lib.hid (fun j => (hb5.cell (p := ⟨w.heap.size, j, none⟩) hwX).trans (HRX.out j))
        have HF5 := Lib.hid (fun j => (hb5.frozen (p := ⟨w.heap.size, j, none⟩) hwX).trans (HFX.out j))
        clear hb5 hr hf hy hr0 hr1 hr2 hX0 hX1 hX2 HYX HRX HFX
        have hzY : w3.heap.size < w5.heap.size := by omega
        have hwY : w.heap.size < w5.heap.size := by omega
        by_cases h5 : 5 < (holesOf (1 + x) (1 + y) o).length
        rotate_left
        · have hd5 : decide ((5 : Int) < ((holesOf (1 + x) (1 + y) o).length : Nat)) = false := by simp; omega
          generalize (holesOf (1 + x) (1 + y) o).length = nh at *
          have hr := HR5.out
          have hf := HF5.out
          have hy := HY5.out
          go_wp2_with fail
          refine bodyPost_ret (v := .agg #[.int .i64 (1 + x), .int .i64 (1 + y), .int .i64 o]) (by simp [results, Try.results103, go_sem, *]) rfl ⟨⟨_, _, o, rfl, HSo.out⟩, ?_, ?_⟩
          · exact HCQ.out.keepB (B := w.heap.size) hcw (by simp) (by (repeat' first | (with_reducible exact Below.refl _ _) | (with_reducible refine Below.alloc ?_ ?_ _) | (with_reducible refine Below.drew ?_) | (with_reducible refine Below.setCell ?_ ?_ _) | (with_reducible refine below_via (by assumption) ?_ ?_) | go_size))
          · exact only_viaB (B := w.heap.size) (by (repeat' first | (with_reducible exact Below.refl _ _) | (with_reducible refine Below.alloc ?_ ?_ _) | (with_reducible refine Below.drew ?_) | (with_reducible refine Below.setCell ?_ ?_ _) | (with_reducible refine below_via (by assumption) ?_ ?_) | go_size)) (Nat.le_refl _) HGQ.out
        · have hd5 : decide ((5 : Int) < ((holesOf (1 + x) (1 + y) o).length : Nat)) = true := by simp; omega
          have HSUB := Lib.hid (fun i (h : tb o i = true) (h0 : 0 ≤ i) => small_sub HSo.out h h0 h5)
          generalize (holesOf (1 + x) (1 + y) o).length = nh at *
          have HL5 := Lib.hid (HL.out.trans ((only_below (Nat.le_of_lt hcw) HGQ.out).mono h0))
          go_wp2_with fail
          refine (l01Below_any c v l ((1 + x) * (1 + y)) (by omega) (by omega) w0 _ HV.out HO.out h0 HL5.out HCQ.out).mono ?_
          rintro e w6 ⟨⟨i, rfl, i0, i1⟩, hcu6, hg6⟩
          have hz6 := hg6.size
          have HC6 := Lib.hid hcu6
          have HG6 := Lib.hid (only_trans HGQ.out hg6)
          have hX60 := (only_cell (o := 0) hg6 hzY (by omega)).trans hX50
          have hX61 := (only_cell (o := 1) hg6 hzY (by omega)).trans hX51
          have hX62 := (only_cell (o := 2) hg6 hzY (by omega)).trans hX52
          have HY6 := Lib.hid (fun j => (only_frozen (o := j) hg6 hzY (by omega)).trans (HY5.out j))
          have HR6 := Lib.hid (fun j => (only_cell (o := j) hg6 hwY (by omega)).trans (HR5.out j))
          have HF6 := Lib.hid (fun j => (only_frozen (o := j) hg6 hwY (by omega)).trans (HF5.out j))
          clear hcu6 hg6 hX50 hX51 hX52 HY5 HR5 HF5
          have ho := HOB.out _ HSo.out
          have hw3 : w.heap.size ≤ w3.heap.size := by omega
          have hw6 : w.heap.size ≤ w6.heap.size := by omega
          have hzZ : w3.heap.size < w6.heap.size := by omega
          have hi48 : i ≤ 48 := by omega
          have hp2 := pw_62 (n := i) i0 (by omega)
          have hp1 := pw_pos i
          have hmin : min i.toNat 64 = i.toNat := by omega
          have hsw : IntKind.i64.wrap (o - pw i) = o - pw i := IntWalk.i64_in _ (by omega)
          have hwr : IntKind.i64.wrap (2 ^ i.toNat) = pw i := IntWalk.i64_in _ (show -9223372036854775808 ≤ pw i ∧ pw i ≤ 9223372036854775807 by omega)
          have hbt := bit_test' (p := o) (k := i) (by clear hsw hwr; omega) (by clear hsw hwr; omega)
          have hf := HY6.out
          have hm1 : k - 1 ≤ 2 := by clear hsw hwr hbt; omega
          have hm2 : (k - 1).toNat < k.toNat := by clear hsw hwr hbt; omega
          have hm3 : 0 ≤ k - 1 := by clear hsw hwr hbt; omega
          cases hb : tb o i
          · rw [hb] at hbt
            clear hb hsw hwr hp1 hp2
            go_wp2_with fail
            go_roundw
            case rel => exact ⟨k - 1, o, by go_num, hm3, hm1, HSo, HC6, HG6, hX60, hX61, hX62, HY6, HR6, HF6, hzZ⟩
            case measure => simp [intOf]; omega
          · have HSN := Lib.hid (HSUB.out i hb i0)
            rw [hb] at hbt
            clear hb
            generalize pw i = I at *
            go_wp2_with fail
            clear hp1 hp2
            go_region
            all_goals (go_wp2_with fail; go_roundw; (case rel => exact ⟨k - 1, o - I, by go_num, hm3, hm1, HSN, by show CurAt _ _ _ _; exact HC6.out.keepB (B := w.heap.size) hcw (by simp) (by (repeat' first | (with_reducible exact Below.refl _ _) | (with_reducible refine Below.alloc ?_ ?_ _) | (with_reducible refine Below.drew ?_) | (with_reducible refine Below.setCell ?_ ?_ _) | (with_reducible refine below_via (by assumption) ?_ ?_) | go_size)), by show World.grownBy _ _ _; exact only_viaB (B := w.heap.size) (by (repeat' first | (with_reducible exact Below.refl _ _) | (with_reducible refine Below.alloc ?_ ?_ _) | (with_reducible refine Below.drew ?_) | (with_reducible refine Below.setCell ?_ ?_ _) | (with_reducible refine below_via (by assumption) ?_ ?_) | go_size)) (Nat.le_refl _) HG6.out, by simp [go_sem, *], by simp [go_sem, *], by simp [go_sem, *], by show ∀ j, _; intro j; simp [go_sem, *], by show ∀ j, _; intro j; have := HR6.out j; simp [go_sem, *], by show ∀ j, _; intro j; have := HF6.out j; simp [go_sem, *], by simp; omega⟩); (case measure => simp [intOf]; omega))
  · have hA1 : (1 + x) * 3 ≤ 16 := by omega
    have hA2 : 1 ≤ (1 + x) * 3 := by
      have := Int.mul_le_mul (show (1 : Int) ≤ 1 + x by omega) (show (1 : Int) ≤ 3 by omega) (by omega) (by omega)
      omega
    go_wp2_with fail
    refine (sRectangle_any (1 + x) 3 (by omega) (by omega) hA1 hA2 _).mono ?_
    rintro e w3 ⟨rfl, hb3⟩
    have hz3 := hb3.size
    have hR3 : ∀ j, w3.cell? ⟨w.heap.size, j, none⟩ = #[Value.int .i64 0, .int .i64 0, .int .i64 0][j]? := fun j => (hb3.cell hwz2).trans (hR2 j)
    have hF3 : ∀ j, w3.frozen? ⟨w.heap.size, j, none⟩ = false := fun j => (hb3.frozen hwz2).trans (hF2 j)
    have HC3 := Lib.hid (HC2.out.keep hb3)
    have HG3 := Lib.hid (only_via hb3 HG2.out)
    have HSm := Lib.hid (rect_small (a := 1 + x) (b := 3) (by omega) (by omega) hA1)
    have HL3 := Lib.hid (HL.out.trans ((only_below (Nat.le_of_lt hcw) HG3.out).mono h0))
    clear hb3 hR2 hF2
    generalize pw ((1 + x) * 3) - 1 = o0 at *
    have hb3a : Below w3.heap.size w3 (w3.alloc (.cells #[.int .i64 (1 + x), .int .i64 3, .int .i64 o0] 27)) := (Below.refl _ _).alloc (Nat.le_refl _) _
    go_wp2_with fail
    refine (l01Below_any c v l 3 (by omega) (by omega) w0 _ HV.out HO.out h0 (HL3.out.trans (hb3a.mono (by have := HL3.out.size; omega))) (HC3.out.keep hb3a)).mono ?_
    rintro e w4 ⟨⟨k0, rfl, k00, k01⟩, hcu4, hg4⟩
    have hz4 := hg4.size
    simp only [World.size_alloc] at hz4
    have hX4 : ∀ j, w4.cell? ⟨w3.heap.size, j, none⟩ = #[Value.int .i64 (1 + x), .int .i64 3, .int .i64 o0][j]? := fun j => (only_cell hg4 (by simp) (by omega)).trans (by simp)
    have hY4 : ∀ j, w4.frozen? ⟨w3.heap.size, j, none⟩ = false := fun j => (only_frozen hg4 (by simp) (by omega)).trans (by simp)
    have hR4 : ∀ j, w4.cell? ⟨w.heap.size, j, none⟩ = #[Value.int .i64 0, .int .i64 0, .int .i64 0][j]? := fun j => (only_cell hg4 (by simp; omega) (by omega)).trans ((hb3a.cell (show w.heap.size < w3.heap.size by omega)).trans (hR3 j))
    have hF4 : ∀ j, w4.frozen? ⟨w.heap.size, j, none⟩ = false := fun j => (only_frozen hg4 (by simp; omega) (by omega)).trans ((hb3a.frozen (show w.heap.size < w3.heap.size by omega)).trans (hF3 j))
    have HC4 := Lib.hid hcu4
    have HG4 := Lib.hid (only_trans HG3.out (only_trans (only_old hb3a) hg4))
    clear hcu4 hg4 hb3a hR3 hF3
    have HR4 := Lib.hid hR4
    have HF4 := Lib.hid hF4
    have HY4 := Lib.hid hY4
    have hX40 := hX4 0
    have hX41 := hX4 1
    have hX42 := hX4 2
    clear hR4 hF4 hY4 hX4
    go_wp2_with fail
    go_loopw [6] (fun kk wr => ∃ (k o : Int), kk = .int .i64 k ∧ 0 ≤ k ∧ k ≤ 2 ∧ Hid (isSmall (1 + x) 3 o = true) ∧ Hid (CurAt wr c v l.length) ∧ Hid (w.grownBy wr (some c)) ∧ wr.cell? ⟨w3.heap.size, 0, none⟩ = some (.int .i64 (1 + x)) ∧ wr.cell? ⟨w3.heap.size, 1, none⟩ = some (.int .i64 3) ∧ wr.cell? ⟨w3.heap.size, 2, none⟩ = some (.int .i64 o) ∧ Hid (∀ j, wr.frozen? ⟨w3.heap.size, j, none⟩ = false) ∧ Hid (∀ j, wr.cell? ⟨w.heap.size, j, none⟩ = #[Value.int .i64 0, .int .i64 0, .int .i64 0][j]?) ∧ Hid (∀ j, wr.frozen? ⟨w.heap.size, j, none⟩ = false) ∧ w3.heap.size < wr.heap.size) (fun kk _ => (intOf kk).toNat)
    case atStart => exact ⟨k0, o0, rfl, k00, by omega, HSm, HC4, HG4, hX40, hX41, hX42, HY4, HR4, HF4, by omega⟩
    case round =>
      obtain ⟨k, o, rfl, hk0, hk2, HSo, HCX, HGX, hX0, hX1, hX2, HYX, HRX, HFX, hzX⟩ := hrel
      have hwX : w.heap.size < wr.heap.size := by omega
      have hr := HRX.out
      have hf := HFX.out
      have hy := HYX.out
      have hr0 := hr 0
      have hr1 := hr 1
      have hr2 := hr 2
      by_cases hk : 0 < k
      rotate_left
      · have HCQ := HCX
        have HGQ := HGX
        go_wp2_with fail
        refine bodyPost_ret (v := .agg #[.int .i64 (1 + x), .int .i64 3, .int .i64 o]) (by simp [results, Try.results103, go_sem, *]) rfl ⟨⟨_, _, o, rfl, HSo.out⟩, ?_, ?_⟩
        · exact HCQ.out.keepB (B := w.heap.size) hcw (by simp) (by (repeat' first | (with_reducible exact Below.refl _ _) | (with_reducible refine Below.alloc ?_ ?_ _) | (with_reducible refine Below.drew ?_) | (with_reducible refine Below.setCell ?_ ?_ _) | (with_reducible refine below_via (by assumption) ?_ ?_) | go_size))
        · exact only_viaB (B := w.heap.size) (by (repeat' first | (with_reducible exact Below.refl _ _) | (with_reducible refine Below.alloc ?_ ?_ _) | (with_reducible refine Below.drew ?_) | (with_reducible refine Below.setCell ?_ ?_ _) | (with_reducible refine below_via (by assumption) ?_ ?_) | go_size)) (Nat.le_refl _) HGQ.out
      · go_wp2_with fail
        refine (sCountHoles_any (1 + x) 3 o wr).mono ?_
        rintro e w5 ⟨rfl, hb5⟩
        have hz5 := hb5.size
        have HCQ := Lib.hid (HCX.out.keep hb5)
        have HGQ := Lib.hid (only_via hb5 HGX.out)
        have hX50 := (hb5.cell (p := ⟨w3.heap.size, 0, none⟩) hzX).trans hX0
        have hX51 := (hb5.cell (p := ⟨w3.heap.size, 1, none⟩) hzX).trans hX1
        have hX52 := (hb5.cell (p := ⟨w3.heap.size, 2, none⟩) hzX).trans hX2
        have HY5 := Lib.hid (fun j => (hb5.frozen (p := ⟨w3.heap.size, j, none⟩) hzX).trans (HYX.out j))
        have HR5 := Lib.hid (fun j => (hb5.cell (p := ⟨w.heap.size, j, none⟩) hwX).trans (HRX.out j))
        have HF5 := Lib.hid (fun j => (hb5.frozen (p := ⟨w.heap.size, j, none⟩) hwX).trans (HFX.out j))
        clear hb5 hr hf hy hr0 hr1 hr2 hX0 hX1 hX2 HYX HRX HFX
        have hzY : w3.heap.size < w5.heap.size := by omega
        have hwY : w.heap.size < w5.heap.size := by omega
        by_cases h5 : 5 < (holesOf (1 + x) 3 o).length
        rotate_left
        · have hd5 : decide ((5 : Int) < ((holesOf (1 + x) 3 o).length : Nat)) = false := by simp; omega
          generalize (holesOf (1 + x) 3 o).length = nh at *
          have hr := HR5.out
          have hf := HF5.out
          have hy := HY5.out
          go_wp2_with fail
          refine bodyPost_ret (v := .agg #[.int .i64 (1 + x), .int .i64 3, .int .i64 o]) (by simp [results, Try.results103, go_sem, *]) rfl ⟨⟨_, _, o, rfl, HSo.out⟩, ?_, ?_⟩
          · exact HCQ.out.keepB (B := w.heap.size) hcw (by simp) (by (repeat' first | (with_reducible exact Below.refl _ _) | (with_reducible refine Below.alloc ?_ ?_ _) | (with_reducible refine Below.drew ?_) | (with_reducible refine Below.setCell ?_ ?_ _) | (with_reducible refine below_via (by assumption) ?_ ?_) | go_size))
          · exact only_viaB (B := w.heap.size) (by (repeat' first | (with_reducible exact Below.refl _ _) | (with_reducible refine Below.alloc ?_ ?_ _) | (with_reducible refine Below.drew ?_) | (with_reducible refine Below.setCell ?_ ?_ _) | (with_reducible refine below_via (by assumption) ?_ ?_) | go_size)) (Nat.le_refl _) HGQ.out
        · have hd5 : decide ((5 : Int) < ((holesOf (1 + x) 3 o).length : Nat)) = true := by simp; omega
          have HSUB := Lib.hid (fun i (h : tb o i = true) (h0 : 0 ≤ i) => small_sub HSo.out h h0 h5)
          generalize (holesOf (1 + x) 3 o).length = nh at *
          have HL5 := Lib.hid (HL.out.trans ((only_below (Nat.le_of_lt hcw) HGQ.out).mono h0))
          go_wp2_with fail
          refine (l01Below_any c v l ((1 + x) * 3) (by omega) (by omega) w0 _ HV.out HO.out h0 HL5.out HCQ.out).mono ?_
          rintro e w6 ⟨⟨i, rfl, i0, i1⟩, hcu6, hg6⟩
          have hz6 := hg6.size
          have HC6 := Lib.hid hcu6
          have HG6 := Lib.hid (only_trans HGQ.out hg6)
          have hX60 := (only_cell (o := 0) hg6 hzY (by omega)).trans hX50
          have hX61 := (only_cell (o := 1) hg6 hzY (by omega)).trans hX51
          have hX62 := (only_cell (o := 2) hg6 hzY (by omega)).trans hX52
          have HY6 := Lib.hid (fun j => (only_frozen (o := j) hg6 hzY (by omega)).trans (HY5.out j))
          have HR6 := Lib.hid (fun j => (only_cell (o := j) hg6 hwY (by omega)).trans (HR5.out j))
          have HF6 := Lib.hid (fun j => (only_frozen (o := j) hg6 hwY (by omega)).trans (HF5.out j))
          clear hcu6 hg6 hX50 hX51 hX52 HY5 HR5 HF5
          have ho := HOB.out _ HSo.out
          have hw3 : w.heap.size ≤ w3.heap.size := by omega
          have hw6 : w.heap.size ≤ w6.heap.size := by omega
          have hzZ : w3.heap.size < w6.heap.size := by omega
          have hi48 : i ≤ 48 := by omega
          have hp2 := pw_62 (n := i) i0 (by omega)
          have hp1 := pw_pos i
          have hmin : min i.toNat 64 = i.toNat := by omega
          have hsw : IntKind.i64.wrap (o - pw i) = o - pw i := IntWalk.i64_in _ (by omega)
          have hwr : IntKind.i64.wrap (2 ^ i.toNat) = pw i := IntWalk.i64_in _ (show -9223372036854775808 ≤ pw i ∧ pw i ≤ 9223372036854775807 by omega)
          have hbt := bit_test' (p := o) (k := i) (by clear hsw hwr; omega) (by clear hsw hwr; omega)
          have hf := HY6.out
          have hm1 : k - 1 ≤ 2 := by clear hsw hwr hbt; omega
          have hm2 : (k - 1).toNat < k.toNat := by clear hsw hwr hbt; omega
          have hm3 : 0 ≤ k - 1 := by clear hsw hwr hbt; omega
          cases hb : tb o i
          · rw [hb] at hbt
            clear hb hsw hwr hp1 hp2
            go_wp2_with fail
            go_roundw
            case rel => exact ⟨k - 1, o, by go_num, hm3, hm1, HSo, HC6, HG6, hX60, hX61, hX62, HY6, HR6, HF6, hzZ⟩
            case measure => simp [intOf]; omega
          · have HSN := Lib.hid (HSUB.out i hb i0)
            rw [hb] at hbt
            clear hb
            generalize pw i = I at *
            go_wp2_with fail
            clear hp1 hp2
            go_region
            all_goals (go_wp2_with fail; go_roundw; (case rel => exact ⟨k - 1, o - I, by go_num, hm3, hm1, HSN, by show CurAt _ _ _ _; exact HC6.out.keepB (B := w.heap.size) hcw (by simp) (by (repeat' first | (with_reducible exact Below.refl _ _) | (with_reducible refine Below.alloc ?_ ?_ _) | (with_reducible refine Below.drew ?_) | (with_reducible refine Below.setCell ?_ ?_ _) | (with_reducible refine below_via (by assumption) ?_ ?_) | go_size)), by show World.grownBy _ _ _; exact only_viaB (B := w.heap.size) (by (repeat' first | (with_reducible exact Below.refl _ _) | (with_reducible refine Below.alloc ?_ ?_ _) | (with_reducible refine Below.drew ?_) | (with_reducible refine Below.setCell ?_ ?_ _) | (with_reducible refine below_via (by assumption) ?_ ?_) | go_size)) (Nat.le_refl _) HG6.out, by simp [go_sem, *], by simp [go_sem, *], by simp [go_sem, *], by show ∀ j, _; intro j; simp [go_sem, *], by show ∀ j, _; intro j; have := HR6.out j; simp [go_sem, *], by show ∀ j, _; intro j; have := HF6.out j; simp [go_sem, *], by simp; omega⟩); (case measure => simp [intOf]; omega))
end Go.Proofs.Ytledmebhlmpjaaa
namespace Go.Proofs.Ytledmebhlmpjaaa
open Go.ChangeShapes Go.WideShapes Go.ChangeAt Go.RowKit Peg Go.Sort
end Go.Proofs.Ytledmebhlmpjaaa
