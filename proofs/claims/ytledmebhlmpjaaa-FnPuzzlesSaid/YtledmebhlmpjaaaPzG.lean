/- PzG: several texts in one (DrawG0, DrawG, DrawG2). Conditions: those that each theorem names. -/
import Derived.Test.YtledmebhlmpjaaaPlay
import Derived.Test.YtledmebhlmpjaaaWay0
import Derived.Test.YtledmebhlmpjaaaPzD
import Derived.Test.YtledmebhlmpjaaaPzB
import Derived.Deep.RegionWith
import Derived.IntWalk
import Derived.Deep.DeepCutAuto
set_option linter.unusedVariables false
set_option linter.unusedSimpArgs false
namespace Peg
theorem band_bit {p i : Int} (h : tb p i = true) : band p (pw i) = pw i := by
  refine tb_ext (band_nonneg _ _) (by have := pw_pos i; omega) fun j => ?_
  rw [band_tb, pw_tb]
  by_cases e : i.toNat = j
  · subst e; rw [tb_nat] at h; simp [h]
  · simp [e]
theorem sub_bit {p i : Int} (h : tb p i = true) : p - pw i = bdel p (pw i) := by rw [bdel, band_bit h]
theorem pos_sub_bit {a b o p i : Int} (hp : posOk a b o p = true) (h : tb p i = true) : posOk a b o (p - pw i) = true := by
  obtain ⟨h1, h2, h3⟩ := posOk_bd hp
  have hle := band_le_left p (pw i) h2
  rw [sub_bit h]
  have h0 : 0 ≤ bdel p (pw i) := by unfold bdel; omega
  have he : band (bdel p (pw i)) o = bdel p (pw i) := by
    refine tb_ext (band_nonneg _ _) h0 fun j => ?_
    have h4 : p.toNat.testBit j = (p.toNat.testBit j && o.toNat.testBit j) := by rw [← band_tb, h3]
    rw [band_tb, bdel_tb h2]
    rw [h4]
    cases p.toNat.testBit j <;> cases o.toNat.testBit j <;> simp
  simp only [posOk, Bool.and_eq_true, decide_eq_true_eq, beq_iff_eq]
  exact ⟨⟨h1, h0⟩, he⟩
theorem pos_add_bit {a b o p i : Int} (hp : posOk a b o p = true) (h : tb o i = true) : posOk a b o (bor p (pw i)) = true := by
  obtain ⟨h1, h2, h3⟩ := posOk_bd hp
  have he : band (bor p (pw i)) o = bor p (pw i) := by
    refine tb_ext (band_nonneg _ _) (bor_nonneg _ _) fun j => ?_
    have h4 : p.toNat.testBit j = (p.toNat.testBit j && o.toNat.testBit j) := by rw [← band_tb, h3]
    rw [band_tb, bor_tb, pw_tb, h4]
    by_cases e : i.toNat = j
    · subst e; rw [tb_nat] at h; simp [h]
    · simp [e]
  simp only [posOk, Bool.and_eq_true, decide_eq_true_eq, beq_iff_eq]
  exact ⟨⟨h1, bor_nonneg _ _⟩, he⟩
theorem pos_zero {a b o : Int} (hb : boardOk a b o = true) : posOk a b o 0 = true := by
  simp only [posOk, Bool.and_eq_true, decide_eq_true_eq, beq_iff_eq]
  refine ⟨⟨hb, by omega⟩, ?_⟩
  unfold band; simp
theorem pos_all {a b o : Int} (hb : boardOk a b o = true) : posOk a b o o = true := by
  have h0 := holes_lt hb
  simp only [posOk, Bool.and_eq_true, decide_eq_true_eq, beq_iff_eq]
  refine ⟨⟨hb, by omega⟩, ?_⟩
  unfold band; simp; omega
theorem pegs_one (k : Nat) (h : k < 49) : pegs (pw (k : Int)) = 1 := by
  rw [pegs_eq, show (pw (k : Int)).toNat = 2 ^ k by rw [pw_nat]; rfl]
  have : ∀ j, j < 49 → (List.range 49).countP (fun i : Nat => (2 ^ j).testBit i) = 1 := by decide
  exact this k h
theorem holes_pegs {a b o : Int} (hb : boardOk a b o = true) : (holesOf a b o).length = pegs o := by rw [holesOf_49 hb]; rfl
theorem isSmall_iff {a b o : Int} : isSmall a b o = true ↔ boardOk a b o = true ∧ a * b ≤ 16 := by simp [isSmall]
theorem tb_lt {a b o i : Int} (hb : boardOk a b o = true) (h : tb o i = true) (h0 : 0 ≤ i) : i < a * b := by
  have h1 := boardOk_holes hb
  have h8 := area (boardOk_sides hb).1 (boardOk_sides hb).2
  by_cases hlt : i < a * b
  · exact hlt
  · have := tb_high (p := o) (k := a * b) (by omega) (by omega) (by omega) i (by omega)
    rw [h] at this; cases this
theorem small_sub {a b o i : Int} (hs : isSmall a b o = true) (h : tb o i = true) (h0 : 0 ≤ i) (h5 : 5 < (holesOf a b o).length) : isSmall a b (o - pw i) = true := by
  obtain ⟨hb, h16⟩ := isSmall_iff.1 hs
  have hlt := tb_lt hb h h0
  have hle : pw i ≤ o := by
    have := band_bit h
    have h1 := band_le_left o (pw i) (by have := holes_lt hb; omega)
    omega
  have hne : o ≠ pw i := by
    intro e
    rw [holes_pegs hb, e] at h5
    obtain ⟨k, rfl⟩ : ∃ k : Nat, i = k := ⟨i.toNat, by omega⟩
    rw [pegs_one k (by omega)] at h5
    omega
  have hp := pw_pos i
  have hbo := boardOk_holes hb
  refine isSmall_iff.2 ⟨?_, h16⟩
  simp only [boardOk, Bool.and_eq_true] at hb ⊢
  exact ⟨hb.1, inR_iff.2 (by omega)⟩
theorem rect_small {a b : Int} (ha : 1 ≤ a ∧ a ≤ 7) (hb : 1 ≤ b ∧ b ≤ 7) (h : a * b ≤ 16) : isSmall a b (pw (a * b) - 1) = true := by
  have h1 : 1 ≤ a * b := by
    have := Int.mul_le_mul ha.1 hb.1 (by omega) (by omega)
    omega
  have h2 : pw 1 ≤ pw (a * b) := pw_le (by omega) h1
  have h3 : pw 1 = 2 := rfl
  refine isSmall_iff.2 ⟨?_, h⟩
  simp only [boardOk, Bool.and_eq_true]
  exact ⟨⟨inR_iff.2 ha, inR_iff.2 hb⟩, inR_iff.2 (by omega)⟩
theorem jumpsOf_do {a b o p : Int} {l : Ln} (h : l ∈ jumpsOf a b o p) : doOk false a b o p l = true := by
  simp only [jumpsOf] at h
  split at h
  · rename_i hp
    obtain ⟨h1, h2⟩ := List.mem_filter.1 h
    simp only [doOk, Bool.and_eq_true, can]
    exact ⟨⟨hp, isLn_of h1⟩, h2⟩
  · cases h
theorem jumpsOf_le (a b o p : Int) : (jumpsOf a b o p).length ≤ 196 := by
  unfold jumpsOf
  split
  · exact Nat.le_trans (List.length_filter_le _ _) (linesOf_le a b o)
  · simp
theorem holes_tb {a b o x : Int} (h : x ∈ holesOf a b o) : 0 ≤ x ∧ tb o x = true ∧ boardOk a b o = true := by
  obtain ⟨h1, h2⟩ := holesOf_mem h
  have h3 := hasHole_bd h1
  exact ⟨h3.2.1, by simp only [hasHole, Bool.and_eq_true] at h1; exact h1.2, h2⟩
theorem holes_some {a b o : Int} (hb : boardOk a b o = true) : 0 < (holesOf a b o).length := by
  rw [holes_pegs hb, pegs_eq]
  have h0 := boardOk_holes hb
  have h1 := holes_lt hb
  rw [List.countP_pos_iff]
  obtain ⟨i, hi⟩ := Nat.exists_testBit_of_ne_zero (x := o.toNat) (by omega)
  have hlt := tb_lt (i := i) hb (by rw [tb_nat]; simpa using hi) (by omega)
  have h8 := area (boardOk_sides hb).1 (boardOk_sides hb).2
  exact ⟨i, List.mem_range.2 (by omega), hi⟩
end Peg
namespace Go.Proofs.Ytledmebhlmpjaaa
open Go.ChangeShapes Go.WideShapes Go.ChangeAt Go.RowKit Peg Go.Sort
theorem sCountHoles_any (a b o : Int) (w : World) :
    Calls Try.prog 99 #[.agg #[.int .i64 a, .int .i64 b, .int .i64 o]] w fun e w' => e = .returned (.int .i64 ((holesOf a b o).length : Nat)) ∧ Below w.heap.size w w' := by
  have hle := holesOf_length a b o
  go_enter Try.func99, Try.ntmps99
  go_wp2_with fail
  refine (sHolesOf_any _ _ _ _).mono ?_
  rintro e w' ⟨hv, rfl, hownH, hb⟩
  obtain ⟨aH, cH, rfl, _, _⟩ := hownH.intG
  go_wp2_with fail
  all_goals go_ret
  all_goals exact ⟨by simp, by (repeat' first | (with_reducible exact Below.refl _ _) | (with_reducible refine Below.alloc ?_ ?_ _) | (with_reducible refine Below.drew ?_) | (with_reducible refine Below.setCell ?_ ?_ _) | (with_reducible refine below_via (by assumption) ?_ ?_) | go_size)⟩
theorem sRectangle_any (a b : Int) (ha : 1 ≤ a ∧ a ≤ 7) (hb : 1 ≤ b ∧ b ≤ 7) (h16 : a * b ≤ 16) (h1 : 1 ≤ a * b) (w : World) :
    Calls Try.prog 65 #[.int .i64 a, .int .i64 b] w fun e w' => e = .returned (.agg #[.int .i64 a, .int .i64 b, .int .i64 (pw (a * b) - 1)]) ∧ Below w.heap.size w w' := by
  have HI : Hid (∀ W, Calls Try.prog 58 #[.int .i64 a, .int .i64 1, .int .i64 7] W fun e w' => e = .returned (.bool true) ∧ W = w') := fun W => by have := l01In_any a 1 7 W; rwa [inR_iff.2 ha] at this
  have HJ : Hid (∀ W, Calls Try.prog 58 #[.int .i64 b, .int .i64 1, .int .i64 7] W fun e w' => e = .returned (.bool true) ∧ W = w') := fun W => by have := l01In_any b 1 7 W; rwa [inR_iff.2 hb] at this
  have hwr := pw_wrap (n := a * b) (by omega) (by omega)
  have hw1 := pw_wrap1 (n := a * b) (by omega) (by omega)
  have hmin : min (a * b).toNat 64 = (a * b).toNat := by omega
  go_enter Try.func65, Try.ntmps65
  go_wp2_with (go_at_call 58; first | ((with_reducible refine (HI.out _).mono ?_); rintro e w' ⟨rfl, rfl⟩) | ((with_reducible refine (HJ.out _).mono ?_); rintro e w' ⟨rfl, rfl⟩))
  all_goals ((try simp only [Exit.inBlock, Exit.then]); refine bodyPost_ret (v := .agg #[.int .i64 a, .int .i64 b, .int .i64 (pw (a * b) - 1)]) (by simp [results, Try.results65, go_sem, *]) rfl ⟨rfl, by (repeat' first | (with_reducible exact Below.refl _ _) | (with_reducible refine Below.alloc ?_ ?_ _) | (with_reducible refine Below.drew ?_) | (with_reducible refine Below.setCell ?_ ?_ _) | (with_reducible refine below_via (by assumption) ?_ ?_) | go_size)⟩)
set_option maxHeartbeats 4000000 in
set_option maxRecDepth 100000 in
theorem l04Some_any (a b o : Int) (hbk : boardOk a b o = true) (c : Nat) (v : Value) (l : List Int) (w0 w : World) (hv : Rd EBy w0 v l) (hok : ∀ y ∈ l, ByOk y) (h0 : w0.heap.size ≤ c) (hbel : Below w0.heap.size w0 w) (hcur : CurAt w c v l.length) :
    Calls Try.prog 91 #[.pointer (some ⟨c, 0, none⟩), .agg #[.int .i64 a, .int .i64 b, .int .i64 o]] w fun e w' => (∃ p : Int, e = .returned (.int .i64 p) ∧ posOk a b o p = true) ∧ CurAt w' c v l.length ∧ w.grownBy w' (some c) := by
  have HV := Lib.hid hv
  have HO := Lib.hid hok
  have HL := Lib.hid hbel
  have hcw := hcur.1
  have HC := Lib.hid hcur
  have HM : Hid (∀ x ∈ holesOf a b o, 0 ≤ x ∧ x ≤ 48 ∧ tb o x = true) := by
    show ∀ x ∈ holesOf a b o, _
    intro x hx
    have h1 := holes_tb hx
    have h2 := tb_lt hbk h1.2.1 h1.1
    have ⟨h8, h9⟩ := area (boardOk_sides hbk).1 (boardOk_sides hbk).2
    exact ⟨h1.1, by omega, h1.2.1⟩
  have HZ := Lib.hid (pos_zero hbk)
  have HA := Lib.hid (fun p i => @pos_add_bit a b o p i)
  have HPL := Lib.hid (fun p => @pos_lt a b o p)
  have hle := holesOf_length a b o
  clear hv hok hbel hcur hbk
  go_enter Try.func91, Try.ntmps91
  go_wp2_with fail
  refine (sHolesOf_any _ _ _ _).mono ?_
  rintro e w3 ⟨vH, rfl, ownH, hb⟩
  have hz3 := hb.size
  simp only [World.size_alloc] at hz3
  have HG3 := Lib.hid (show w.grownBy w3 (some c) from only_via hb (only_alloc (only_refl w c) _))
  have HC3 := Lib.hid (HC.out.keep (((Below.refl _ _).alloc (Nat.le_refl _) _).trans (hb.mono (by simp))))
  obtain ⟨aH, cH, rfl, _, hgetH⟩ := ownH.intG
  have HGT := Lib.hid hgetH
  clear hgetH ownH hb
  generalize holesOf a b o = H at *
  go_wp2_with fail
  go_loopw [5, 7] (fun q k wr => ∃ (j : Nat) (p : Int), j ≤ H.length ∧ k = .int .i64 j ∧ q = .int .i64 p ∧ Hid (posOk a b o p = true) ∧ Hid (CurAt wr c v l.length) ∧ Hid (w3.grownBy wr (some c))) (fun _ k _ => H.length - (intOf k).toNat)
  case atStart => exact ⟨0, 0, by omega, rfl, rfl, HZ, HC3, by show w3.grownBy w3 (some c); exact only_refl _ _⟩
  case round =>
    obtain ⟨j, p, hj, rfl, rfl, HP, HCr, HGr⟩ := hrel
    have hzr := HGr.out.size
    by_cases hlt : j < H.length
    · go_wp2_with fail
      have HGw := Lib.hid (only_trans HG3.out HGr.out)
      refine (l01Below_any c v l 3 (by omega) (by omega) w0 _ HV.out HO.out h0 (HL.out.trans ((only_below (Nat.le_of_lt hcw) HGw.out).mono h0)) HCr.out).mono ?_
      rintro e w4 ⟨⟨x, rfl, x0, x1⟩, hcu4, hg4⟩
      have HC4 := Lib.hid hcu4
      have HG4 := Lib.hid (only_trans HGr.out hg4)
      have hz4 := hg4.size
      clear hcu4 hg4
      by_cases hx : 0 < x
      · obtain ⟨bH, rfl, hbH0, hbH1, hcH⟩ := HGT.out j hlt
        simp only [World.size_alloc] at hbH0
        obtain ⟨m0, m1, m2⟩ := HM.out _ (gD_mem H 0 j hlt)
        have hcH4 : w4.cell? ⟨bH, j, none⟩ = some (.int .i64 (gD H 0 j)) := (only_cell HG4.out hbH1 (by omega)).trans hcH
        have hbH4 : bH < w4.heap.size := by have := HG4.out.size; omega
        have HP2 := Lib.hid (HA.out p _ HP.out m2)
        have hpl := HPL.out p HP.out
        clear hcH
        generalize gD H 0 j = y at *
        have hwr := pw_wrap (n := y) m0 (by omega)
        have hp2 := pw_62 (n := y) m0 (by omega)
        have hp1 := pw_pos y
        have hor := bits_or (a := p) (b := pw y) hpl.1 (by omega) (by omega) (by omega)
        have hmin : min y.toNat 64 = y.toNat := by omega
        generalize hF : bor p (pw y) = F at *
        generalize pw y = Y at *
        clear hF hp1 hp2
        go_wp2_with fail
        go_roundw
        case rel => exact ⟨j + 1, F, by omega, by go_num, rfl, HP2, HC4, HG4⟩
        case measure => simp [intOf]; omega
      · have hx' : ¬ (0 < x) := hx
        go_wp2_with fail
        go_roundw
        case rel => exact ⟨j + 1, p, by omega, by go_num, rfl, HP, HC4, HG4⟩
        case measure => simp [intOf]; omega
    · obtain rfl : j = H.length := by omega
      go_wp2_with fail
      go_ret
      exact ⟨⟨p, rfl, HP.out⟩, HCr.out, only_trans HG3.out HGr.out⟩
end Go.Proofs.Ytledmebhlmpjaaa
namespace Go.Proofs.Ytledmebhlmpjaaa
open Go.ChangeShapes Go.WideShapes Go.ChangeAt Go.RowKit Peg Go.Sort
theorem sub_wrap {x : Int} (h0 : 0 ≤ x) (h1 : x < 562949953421312) : wrap64 x = x := by
  unfold wrap64; omega
set_option maxHeartbeats 4000000 in
set_option maxRecDepth 100000 in
theorem l06Start_any (a b o : Int) (hbk : boardOk a b o = true) (c : Nat) (v : Value) (l : List Int) (w0 w : World) (hv : Rd EBy w0 v l) (hok : ∀ y ∈ l, ByOk y) (h0 : w0.heap.size ≤ c) (hbel : Below w0.heap.size w0 w) (hcur : CurAt w c v l.length) :
    Calls Try.prog 68 #[.pointer (some ⟨c, 0, none⟩), .agg #[.int .i64 a, .int .i64 b, .int .i64 o]] w fun e w' => (∃ p : Int, e = .returned (.int .i64 p) ∧ posOk a b o p = true) ∧ CurAt w' c v l.length ∧ w.grownBy w' (some c) := by
  have HV := Lib.hid hv
  have HO := Lib.hid hok
  have HL := Lib.hid hbel
  have hcw := hcur.1
  have HC := Lib.hid hcur
  have HM : Hid (∀ x ∈ holesOf a b o, 0 ≤ x ∧ x ≤ 48 ∧ tb o x = true) := by
    show ∀ x ∈ holesOf a b o, _
    intro x hx
    have h1 := holes_tb hx
    have h2 := tb_lt hbk h1.2.1 h1.1
    have ⟨h8, h9⟩ := area (boardOk_sides hbk).1 (boardOk_sides hbk).2
    exact ⟨h1.1, by omega, h1.2.1⟩
  have HA := Lib.hid (pos_all hbk)
  have HS := Lib.hid (fun p i => @pos_sub_bit a b o p i)
  have HPL := Lib.hid (fun p => @pos_lt a b o p)
  have HSM := Lib.hid (l04Some_any a b o hbk c v l w0)
  have hle := holesOf_length a b o
  have hpos := holes_some hbk
  have hol := holes_lt hbk
  clear hv hok hbel hcur hbk
  go_enter Try.func68, Try.ntmps68
  go_wp2_with fail
  refine (sHolesOf_any _ _ _ _).mono ?_
  rintro e w3 ⟨vH, rfl, ownH, hb⟩
  have hz3 := hb.size
  simp only [World.size_alloc] at hz3
  have HG3 := Lib.hid (show w.grownBy w3 (some c) from only_via hb (only_alloc (only_refl w c) _))
  have HC3 := Lib.hid (HC.out.keep (((Below.refl _ _).alloc (Nat.le_refl _) _).trans (hb.mono (by simp))))
  have hbox3 : ∀ j, w3.cell? ⟨w.heap.size, j, none⟩ = #[Value.int .i64 a, .int .i64 b, .int .i64 o][j]? := fun j => (hb.cell (by simp)).trans (by simp)
  obtain ⟨aH, cH, rfl, _, hgetH⟩ := ownH.intG
  obtain ⟨bH, rfl, hbH0, hbH1, _⟩ := hgetH 0 hpos
  have HGT : Hid (∀ k, k < (holesOf a b o).length → w3.cell? ⟨bH, k, none⟩ = some (.int .i64 (gD (holesOf a b o) 0 k))) := fun k hk => by
    obtain ⟨b', e, _, _, h4⟩ := hgetH k hk
    obtain rfl : bH = b' := by simpa using e
    exact h4
  simp only [World.size_alloc] at hbH0
  clear hgetH ownH hb
  generalize holesOf a b o = H at *
  have hne : ((H.length : Int) == 0) = false := by rw [beq_eq_false_iff_ne]; omega
  go_wp2_with fail
  refine (l01Once_any c v l 3 (by omega) (by omega) w0 _ HV.out HO.out h0 (HL.out.trans ((only_below (Nat.le_of_lt hcw) HG3.out).mono h0)) HC3.out).mono ?_
  rintro e w4 ⟨⟨x, rfl⟩, hcu4, hg4⟩
  have hz4 := hg4.size
  have HC4 := Lib.hid hcu4
  have hbox4 : ∀ j, w4.cell? ⟨w.heap.size, j, none⟩ = #[Value.int .i64 a, .int .i64 b, .int .i64 o][j]? := fun j => (only_cell hg4 (by omega) (by omega)).trans (hbox3 j)
  have HG4 := Lib.hid hg4
  have HGW4 := Lib.hid (only_trans HG3.out hg4)
  have HL4 := Lib.hid (HL.out.trans ((only_below (Nat.le_of_lt hcw) HGW4.out).mono h0))
  clear hcu4 hg4 hbox3
  cases x
  rotate_left
  · go_wp2_with fail
    refine (HSM.out _ HV.out HO.out h0 HL4.out HC4.out).mono ?_
    rintro e w5 ⟨⟨p, rfl, hp⟩, hcu5, hg5⟩
    have HP := Lib.hid hp
    have HC5 := Lib.hid hcu5
    have HG5 := Lib.hid (only_trans HGW4.out hg5)
    clear hp hcu5 hg5
    go_wp2_with fail
    go_ret
    exact ⟨⟨p, rfl, HP.out⟩, HC5.out, HG5.out⟩
  go_wp2_with fail
  have hwz : w.heap.size < w4.heap.size := by omega
  have hcc : c ≠ w.heap.size := by omega
  have hcb : bH ≠ c := by omega
  have hbH4 : bH < w4.heap.size := by omega
  go_cut [6] (fun u wx => ∃ y : Int, u = .int .i64 (o - pw y) ∧ 0 ≤ y ∧ y ≤ 48 ∧ Hid (tb o y = true) ∧ Hid (CurAt wx c v l.length) ∧ Hid (w4.grownBy wx (some c)))
  case first =>
    have HB4 : Hid (Below w4.heap.size w4 w4.drew) := (Below.refl _ _).drew
    have HCALL := Lib.hid (l01Below_any c v l H.length (by omega) (by omega) w0 w4.drew HV.out HO.out h0 (HL4.out.trans (HB4.out.mono HL4.out.size)) (HC4.out.keep HB4.out))
    go_region_with (go_at_call 67; refine HCALL.out.mono ?_; rintro e w5 ⟨⟨x, rfl, x0, x1⟩, hcu5, hg5⟩; obtain ⟨k, rfl⟩ : ∃ k : Nat, x = k := ⟨x.toNat, by omega⟩; have hk : k < H.length := (by omega); obtain ⟨m0, m1, m2⟩ := HM.out _ (gD_mem H 0 k hk); have HTB := Lib.hid m2; have hz5 := hg5.size; simp only [World.size_drew] at hz5; have hcH5 : w5.cell? ⟨bH, k, none⟩ = some (.int .i64 (gD H 0 k)) := (only_cell hg5 (by simp only [World.size_drew]; omega) hcb).trans ((show w4.cell? ⟨bH, k, none⟩ = some (.int .i64 (gD H 0 k)) from (only_cell HG4.out hbH1 hcb).trans (HGT.out k hk))); have hbox5 : ∀ j, w5.cell? ⟨w.heap.size, j, none⟩ = #[Value.int .i64 a, .int .i64 b, .int .i64 o][j]? := (fun j => (only_cell hg5 (by simp only [World.size_drew]; omega) (by omega)).trans (hbox4 j)); clear m2; generalize gD H 0 k = y at *; have hp2 := pw_62 (n := y) m0 (by omega); have hp1 := pw_pos y; have hmin : min y.toNat 64 = y.toNat := (by omega); have hsw : IntKind.i64.wrap (o - pw y) = o - pw y := (IntWalk.i64_in _ (by omega)); have hwr : IntKind.i64.wrap (2 ^ y.toNat) = pw y := (IntWalk.i64_in _ (show -9223372036854775808 ≤ pw y ∧ pw y ≤ 9223372036854775807 by omega)); have HC5 := Lib.hid hcu5; have HG5 := Lib.hid (only_trans (only_old HB4.out) hg5); clear hcu5 hg5 hp1 hp2)
    all_goals (go_wp2_with fail; go_meet; case rel => exact ⟨_, rfl, by assumption, by assumption, HTB, HC5, HG5⟩)
  obtain ⟨y, rfl, m0, m1, HTB, HC5, HG5⟩ := hcut
  obtain ⟨w5, rfl⟩ : ∃ w5 : World, w5 = wc := ⟨_, rfl⟩
  have HP1 := Lib.hid (HS.out o y HA.out HTB.out)
  have hp1 := HPL.out _ HP1.out
  generalize o - pw y = p1 at *
  have HL5 := Lib.hid (HL4.out.trans ((only_below (by omega) HG5.out).mono h0))
  have hz5 := HG5.out.size
  go_wp2_with fail
  refine (l01Below_any c v l H.length (by omega) (by omega) w0 _ HV.out HO.out h0 HL5.out HC5.out).mono ?_
  rintro e w6 ⟨⟨x, rfl, x0, x1⟩, hcu6, hg6⟩
  obtain ⟨k, rfl⟩ : ∃ k : Nat, x = k := ⟨x.toNat, by omega⟩
  have hk : k < H.length := by omega
  obtain ⟨q0, q1, _⟩ := HM.out _ (gD_mem H 0 k hk)
  have hz6 := hg6.size
  have HG6 := Lib.hid (only_trans HG5.out hg6)
  have hcH6 : w6.cell? ⟨bH, k, none⟩ = some (.int .i64 (gD H 0 k)) := (only_cell HG6.out hbH4 hcb).trans ((only_cell HG4.out hbH1 hcb).trans (HGT.out k hk))
  have hbH6 : bH < w6.heap.size := by omega
  have HC6 := Lib.hid hcu6
  clear hcu6 hg6 hk
  generalize gD H 0 k = z at *
  have HL6 := Lib.hid (HL4.out.trans ((only_below (by omega) HG6.out).mono h0))
  have hbt := bit_test (p := p1) (k := z) (by omega) (by omega)
  have hzz2 := pw_62 (n := z) q0 (by omega)
  have hzz1 := pw_pos z
  have hwr := pw_wrap (n := z) q0 (by omega)
  have hmin : min z.toNat 64 = z.toNat := by omega
  cases hb : tb p1 z
  · rw [hb] at hbt
    clear hb hwr hzz1 hzz2
    have hbt2 : (bits BinOp.and IntKind.i64 (p1 / 2 ^ z.toNat) 1 == 1) = false := by rw [← hmin]; exact hbt
    go_wp2_with fail
    go_ret
    exact ⟨⟨p1, rfl, HP1.out⟩, HC6.out, only_trans HGW4.out HG6.out⟩
  have HS2 := Lib.hid (HS.out p1 z HP1.out hb)
  have HWW := Lib.hid (sub_wrap (x := p1 - pw z) (by have := HPL.out _ HS2.out; clear hbt hwr hmin hb; omega) (by have := HPL.out _ HS2.out; clear hbt hwr hmin hb; omega))
  rw [hb] at hbt
  clear hb
  generalize pw z = Z at *
  have hbt2 : (bits BinOp.and IntKind.i64 (p1 / 2 ^ z.toNat) 1 == 1) = true := by rw [← hmin]; exact hbt
  go_wp2_with fail
  refine (l01Once_any c v l 2 (by decide) (by decide) w0 _ HV.out HO.out h0 HL6.out HC6.out).mono ?_
  rintro e w7 ⟨⟨x, rfl⟩, hcu7, hg7⟩
  have HC7 := Lib.hid hcu7
  have HG7 := Lib.hid (only_trans HGW4.out (only_trans HG6.out hg7))
  clear hcu7 hg7 hbt hbt2
  cases x
  · clear hwr hmin
    go_wp2_with fail
    go_ret
    exact ⟨⟨p1, rfl, HP1.out⟩, HC7.out, HG7.out⟩
  · clear hzz1 hzz2 hp1
    go_wp2_with fail
    go_ret
    refine ⟨⟨wrap64 (p1 - Z), rfl, ?_⟩, HC7.out, HG7.out⟩
    rw [HWW.out]
    exact HS2.out
end Go.Proofs.Ytledmebhlmpjaaa
