/- DrawG: contracts of the reference's draws of boards, positions and games. Conditions: the cursor's form. -/
import Derived.Test.YtfmplmlilmalpaaGreatDrawG0
import Derived.Test.YtfmplmlilmalpaaGreatDrawK
import Derived.Test.YtfmplmlilmalpaaGreatMem3
import Derived.Test.YtfmplmlilmalpaaGreatCur2
import Derived.Deep.RegionWith
import Derived.IntWalk
set_option linter.unusedVariables false
set_option linter.unusedSimpArgs false
namespace Go.Proofs.YtfmplmlilmalpaaGreat
open Go.ChangeShapes Go.WideShapes Go.ChangeAt Go.RowKit Peg Go.Sort
theorem sCountHoles_any (a b o : Int) (w : World) :
    Calls Tryz.prog 121 #[.agg #[.int .i64 a, .int .i64 b, .int .i64 o]] w fun e w' => e = .returned (.int .i64 ((holesOf a b o).length : Nat)) ∧ Below w.heap.size w w' := by
  have hle := holesOf_length a b o
  go_enter Tryz.func121, Tryz.ntmps121
  go_wp2_with fail
  refine (sHolesOf_any _ _ _ _).mono ?_
  rintro e w' ⟨hv, rfl, hownH, hb⟩
  obtain ⟨aH, cH, rfl, _, _⟩ := hownH.intG
  go_wp2_with fail
  all_goals go_ret
  all_goals exact ⟨by simp, by (repeat' first | (with_reducible exact Below.refl _ _) | (with_reducible refine Below.alloc ?_ ?_ _) | (with_reducible refine Below.drew ?_) | (with_reducible refine Below.setCell ?_ ?_ _) | (with_reducible refine below_via (by assumption) ?_ ?_) | go_size)⟩
theorem sRectangle_any (a b : Int) (ha : 1 ≤ a ∧ a ≤ 7) (hb : 1 ≤ b ∧ b ≤ 7) (h16 : a * b ≤ 16) (h1 : 1 ≤ a * b) (w : World) :
    Calls Tryz.prog 122 #[.int .i64 a, .int .i64 b] w fun e w' => e = .returned (.agg #[.int .i64 a, .int .i64 b, .int .i64 (pw (a * b) - 1)]) ∧ Below w.heap.size w w' := by
  have HI : Hid (∀ W, Calls Tryz.prog 63 #[.int .i64 a, .int .i64 1, .int .i64 7] W fun e w' => e = .returned (.bool true) ∧ W = w') := fun W => by have := l01In_any a 1 7 W; rwa [inR_iff.2 ha] at this
  have HJ : Hid (∀ W, Calls Tryz.prog 63 #[.int .i64 b, .int .i64 1, .int .i64 7] W fun e w' => e = .returned (.bool true) ∧ W = w') := fun W => by have := l01In_any b 1 7 W; rwa [inR_iff.2 hb] at this
  have hwr := pw_wrap (n := a * b) (by omega) (by omega)
  have hw1 := pw_wrap1 (n := a * b) (by omega) (by omega)
  have hmin : min (a * b).toNat 64 = (a * b).toNat := by omega
  go_enter Tryz.func122, Tryz.ntmps122
  go_wp2_with (go_at_call 63; first | ((with_reducible refine (HI.out _).mono ?_); rintro e w' ⟨rfl, rfl⟩) | ((with_reducible refine (HJ.out _).mono ?_); rintro e w' ⟨rfl, rfl⟩))
  all_goals ((try simp only [Exit.inBlock, Exit.then]); refine bodyPost_ret (v := .agg #[.int .i64 a, .int .i64 b, .int .i64 (pw (a * b) - 1)]) (by simp [results, Tryz.results122, go_sem, *]) rfl ⟨rfl, by (repeat' first | (with_reducible exact Below.refl _ _) | (with_reducible refine Below.alloc ?_ ?_ _) | (with_reducible refine Below.drew ?_) | (with_reducible refine Below.setCell ?_ ?_ _) | (with_reducible refine below_via (by assumption) ?_ ?_) | go_size)⟩)
set_option maxHeartbeats 4000000 in
set_option maxRecDepth 100000 in
theorem l04Some_any (a b o : Int) (hbk : boardOk a b o = true) (c : Nat) (v : Value) (l : List Int) (w0 w : World) (hv : Rd EBy w0 v l) (hok : ∀ y ∈ l, ByOk y) (h0 : w0.heap.size ≤ c) (hbel : Below w0.heap.size w0 w) (hcur : CurAt w c v l.length) :
    Calls Tryz.prog 45 #[.pointer (some ⟨c, 0, none⟩), .agg #[.int .i64 a, .int .i64 b, .int .i64 o]] w fun e w' => (∃ p : Int, e = .returned (.int .i64 p) ∧ posOk a b o p = true) ∧ CurAt w' c v l.length ∧ w.grownBy w' (some c) := by
  have HV := Lib.hid hv
  have HO := Lib.hid hok
  have HL := Lib.hid hbel
  have hcw := hcur.1
  have HC := Lib.hid hcur
  have HM : Hid (∀ x ∈ holesOf a b o, 0 ≤ x ∧ x ≤ 48 ∧ tb o x = true) := by
    show ∀ x ∈ holesOf a b o, _
    intro x hx
    have h1 := holes_tb hx
    have h2 := tb_lt hbk h1.2.1 h1.1
    have ⟨h8, h9⟩ := area (boardOk_sides hbk).1 (boardOk_sides hbk).2
    exact ⟨h1.1, by omega, h1.2.1⟩
  have HZ := Lib.hid (pos_zero hbk)
  have HA := Lib.hid (fun p i => @pos_add_bit a b o p i)
  have HPL := Lib.hid (fun p => @pos_lt a b o p)
  have hle := holesOf_length a b o
  clear hv hok hbel hcur hbk
  go_enter Tryz.func45, Tryz.ntmps45
  go_wp2_with fail
  refine (sHolesOf_any _ _ _ _).mono ?_
  rintro e w3 ⟨vH, rfl, ownH, hb⟩
  have hz3 := hb.size
  simp only [World.size_alloc] at hz3
  have HG3 := Lib.hid (show w.grownBy w3 (some c) from only_via hb (only_alloc (only_refl w c) _))
  have HC3 := Lib.hid (HC.out.keep (((Below.refl _ _).alloc (Nat.le_refl _) _).trans (hb.mono (by simp))))
  obtain ⟨aH, cH, rfl, _, hgetH⟩ := ownH.intG
  have HGT := Lib.hid hgetH
  clear hgetH ownH hb
  generalize holesOf a b o = H at *
  go_wp2_with fail
  go_loopw [5, 7] (fun q k wr => ∃ (j : Nat) (p : Int), j ≤ H.length ∧ k = .int .i64 j ∧ q = .int .i64 p ∧ Hid (posOk a b o p = true) ∧ Hid (CurAt wr c v l.length) ∧ Hid (w3.grownBy wr (some c))) (fun _ k _ => H.length - (intOf k).toNat)
  case atStart => exact ⟨0, 0, by omega, rfl, rfl, HZ, HC3, by show w3.grownBy w3 (some c); exact only_refl _ _⟩
  case round =>
    obtain ⟨j, p, hj, rfl, rfl, HP, HCr, HGr⟩ := hrel
    have hzr := HGr.out.size
    by_cases hlt : j < H.length
    · go_wp2_with fail
      have HGw := Lib.hid (only_trans HG3.out HGr.out)
      refine (l01Below_any c v l 3 (by omega) (by omega) w0 _ HV.out HO.out h0 (HL.out.trans ((only_below (Nat.le_of_lt hcw) HGw.out).mono h0)) HCr.out).mono ?_
      rintro e w4 ⟨⟨x, rfl, x0, x1⟩, hcu4, hg4⟩
      have HC4 := Lib.hid hcu4
      have HG4 := Lib.hid (only_trans HGr.out hg4)
      have hz4 := hg4.size
      clear hcu4 hg4
      by_cases hx : 0 < x
      · obtain ⟨bH, rfl, hbH0, hbH1, hcH⟩ := HGT.out j hlt
        simp only [World.size_alloc] at hbH0
        obtain ⟨m0, m1, m2⟩ := HM.out _ (gD_mem H 0 j hlt)
        have hcH4 : w4.cell? ⟨bH, j, none⟩ = some (.int .i64 (gD H 0 j)) := (only_cell HG4.out hbH1 (by omega)).trans hcH
        have hbH4 : bH < w4.heap.size := by have := HG4.out.size; omega
        have HP2 := Lib.hid (HA.out p _ HP.out m2)
        have hpl := HPL.out p HP.out
        clear hcH
        generalize gD H 0 j = y at *
        have hwr := pw_wrap (n := y) m0 (by omega)
        have hp2 := pw_62 (n := y) m0 (by omega)
        have hp1 := pw_pos y
        have hor := bits_or (a := p) (b := pw y) hpl.1 (by omega) (by omega) (by omega)
        have hmin : min y.toNat 64 = y.toNat := by omega
        generalize hF : bor p (pw y) = F at *
        generalize pw y = Y at *
        clear hF hp1 hp2
        go_wp2_with fail
        go_roundw
        case rel => exact ⟨j + 1, F, by omega, by go_num, rfl, HP2, HC4, HG4⟩
        case measure => simp [intOf]; omega
      · have hx' : ¬ (0 < x) := hx
        go_wp2_with fail
        go_roundw
        case rel => exact ⟨j + 1, p, by omega, by go_num, rfl, HP, HC4, HG4⟩
        case measure => simp [intOf]; omega
    · obtain rfl : j = H.length := by omega
      go_wp2_with fail
      go_ret
      exact ⟨⟨p, rfl, HP.out⟩, HCr.out, only_trans HG3.out HGr.out⟩
end Go.Proofs.YtfmplmlilmalpaaGreat
