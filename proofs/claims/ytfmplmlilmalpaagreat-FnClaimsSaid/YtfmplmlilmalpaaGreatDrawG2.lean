/- DrawG2: contracts of the reference's draws of starts. Conditions: the cursor's form. -/
import Derived.Test.YtfmplmlilmalpaaGreatDrawG
import Derived.Deep.DeepCutAuto
set_option linter.unusedVariables false
set_option linter.unusedSimpArgs false
namespace Go.Proofs.YtfmplmlilmalpaaGreat
open Go.ChangeShapes Go.WideShapes Go.ChangeAt Go.RowKit Peg Go.Sort
theorem sub_wrap {x : Int} (h0 : 0 ≤ x) (h1 : x < 562949953421312) : wrap64 x = x := by
  unfold wrap64; omega
set_option maxHeartbeats 4000000 in
set_option maxRecDepth 100000 in
theorem l06Start_any (a b o : Int) (hbk : boardOk a b o = true) (c : Nat) (v : Value) (l : List Int) (w0 w : World) (hv : Rd EBy w0 v l) (hok : ∀ y ∈ l, ByOk y) (h0 : w0.heap.size ≤ c) (hbel : Below w0.heap.size w0 w) (hcur : CurAt w c v l.length) :
    Calls Tryz.prog 123 #[.pointer (some ⟨c, 0, none⟩), .agg #[.int .i64 a, .int .i64 b, .int .i64 o]] w fun e w' => (∃ p : Int, e = .returned (.int .i64 p) ∧ posOk a b o p = true) ∧ CurAt w' c v l.length ∧ w.grownBy w' (some c) := by
  have HV := Lib.hid hv
  have HO := Lib.hid hok
  have HL := Lib.hid hbel
  have hcw := hcur.1
  have HC := Lib.hid hcur
  have HM : Hid (∀ x ∈ holesOf a b o, 0 ≤ x ∧ x ≤ 48 ∧ tb o x = true) := by
    show ∀ x ∈ holesOf a b o, _
    intro x hx
    have h1 := holes_tb hx
    have h2 := tb_lt hbk h1.2.1 h1.1
    have ⟨h8, h9⟩ := area (boardOk_sides hbk).1 (boardOk_sides hbk).2
    exact ⟨h1.1, by omega, h1.2.1⟩
  have HA := Lib.hid (pos_all hbk)
  have HS := Lib.hid (fun p i => @pos_sub_bit a b o p i)
  have HPL := Lib.hid (fun p => @pos_lt a b o p)
  have HSM := Lib.hid (l04Some_any a b o hbk c v l w0)
  have hle := holesOf_length a b o
  have hpos := holes_some hbk
  have hol := holes_lt hbk
  clear hv hok hbel hcur hbk
  go_enter Tryz.func123, Tryz.ntmps123
  go_wp2_with fail
  refine (sHolesOf_any _ _ _ _).mono ?_
  rintro e w3 ⟨vH, rfl, ownH, hb⟩
  have hz3 := hb.size
  simp only [World.size_alloc] at hz3
  have HG3 := Lib.hid (show w.grownBy w3 (some c) from only_via hb (only_alloc (only_refl w c) _))
  have HC3 := Lib.hid (HC.out.keep (((Below.refl _ _).alloc (Nat.le_refl _) _).trans (hb.mono (by simp))))
  have hbox3 : ∀ j, w3.cell? ⟨w.heap.size, j, none⟩ = #[Value.int .i64 a, .int .i64 b, .int .i64 o][j]? := fun j => (hb.cell (by simp)).trans (by simp)
  obtain ⟨aH, cH, rfl, _, hgetH⟩ := ownH.intG
  obtain ⟨bH, rfl, hbH0, hbH1, _⟩ := hgetH 0 hpos
  have HGT : Hid (∀ k, k < (holesOf a b o).length → w3.cell? ⟨bH, k, none⟩ = some (.int .i64 (gD (holesOf a b o) 0 k))) := fun k hk => by
    obtain ⟨b', e, _, _, h4⟩ := hgetH k hk
    obtain rfl : bH = b' := by simpa using e
    exact h4
  simp only [World.size_alloc] at hbH0
  clear hgetH ownH hb
  generalize holesOf a b o = H at *
  have hne : ((H.length : Int) == 0) = false := by rw [beq_eq_false_iff_ne]; omega
  go_wp2_with fail
  refine (l01Once_any c v l 3 (by omega) (by omega) w0 _ HV.out HO.out h0 (HL.out.trans ((only_below (Nat.le_of_lt hcw) HG3.out).mono h0)) HC3.out).mono ?_
  rintro e w4 ⟨⟨x, rfl⟩, hcu4, hg4⟩
  have hz4 := hg4.size
  have HC4 := Lib.hid hcu4
  have hbox4 : ∀ j, w4.cell? ⟨w.heap.size, j, none⟩ = #[Value.int .i64 a, .int .i64 b, .int .i64 o][j]? := fun j => (only_cell hg4 (by omega) (by omega)).trans (hbox3 j)
  have HG4 := Lib.hid hg4
  have HGW4 := Lib.hid (only_trans HG3.out hg4)
  have HL4 := Lib.hid (HL.out.trans ((only_below (Nat.le_of_lt hcw) HGW4.out).mono h0))
  clear hcu4 hg4 hbox3
  cases x
  rotate_left
  · go_wp2_with fail
    refine (HSM.out _ HV.out HO.out h0 HL4.out HC4.out).mono ?_
    rintro e w5 ⟨⟨p, rfl, hp⟩, hcu5, hg5⟩
    have HP := Lib.hid hp
    have HC5 := Lib.hid hcu5
    have HG5 := Lib.hid (only_trans HGW4.out hg5)
    clear hp hcu5 hg5
    go_wp2_with fail
    go_ret
    exact ⟨⟨p, rfl, HP.out⟩, HC5.out, HG5.out⟩
  go_wp2_with fail
  have hwz : w.heap.size < w4.heap.size := by omega
  have hcc : c ≠ w.heap.size := by omega
  have hcb : bH ≠ c := by omega
  have hbH4 : bH < w4.heap.size := by omega
  go_cut [6] (fun u wx => ∃ y : Int, u = .int .i64 (o - pw y) ∧ 0 ≤ y ∧ y ≤ 48 ∧ Hid (tb o y = true) ∧ Hid (CurAt wx c v l.length) ∧ Hid (w4.grownBy wx (some c)))
  case first =>
    have HB4 : Hid (Below w4.heap.size w4 w4.drew) := (Below.refl _ _).drew
    have HCALL := Lib.hid (l01Below_any c v l H.length (by omega) (by omega) w0 w4.drew HV.out HO.out h0 (HL4.out.trans (HB4.out.mono HL4.out.size)) (HC4.out.keep HB4.out))
    go_region_with (go_at_call 47; refine HCALL.out.mono ?_; rintro e w5 ⟨⟨x, rfl, x0, x1⟩, hcu5, hg5⟩; obtain ⟨k, rfl⟩ : ∃ k : Nat, x = k := ⟨x.toNat, by omega⟩; have hk : k < H.length := (by omega); obtain ⟨m0, m1, m2⟩ := HM.out _ (gD_mem H 0 k hk); have HTB := Lib.hid m2; have hz5 := hg5.size; simp only [World.size_drew] at hz5; have hcH5 : w5.cell? ⟨bH, k, none⟩ = some (.int .i64 (gD H 0 k)) := (only_cell hg5 (by simp only [World.size_drew]; omega) hcb).trans ((show w4.cell? ⟨bH, k, none⟩ = some (.int .i64 (gD H 0 k)) from (only_cell HG4.out hbH1 hcb).trans (HGT.out k hk))); have hbox5 : ∀ j, w5.cell? ⟨w.heap.size, j, none⟩ = #[Value.int .i64 a, .int .i64 b, .int .i64 o][j]? := (fun j => (only_cell hg5 (by simp only [World.size_drew]; omega) (by omega)).trans (hbox4 j)); clear m2; generalize gD H 0 k = y at *; have hp2 := pw_62 (n := y) m0 (by omega); have hp1 := pw_pos y; have hmin : min y.toNat 64 = y.toNat := (by omega); have hsw : IntKind.i64.wrap (o - pw y) = o - pw y := (IntWalk.i64_in _ (by omega)); have hwr : IntKind.i64.wrap (2 ^ y.toNat) = pw y := (IntWalk.i64_in _ (show -9223372036854775808 ≤ pw y ∧ pw y ≤ 9223372036854775807 by omega)); have HC5 := Lib.hid hcu5; have HG5 := Lib.hid (only_trans (only_old HB4.out) hg5); clear hcu5 hg5 hp1 hp2)
    all_goals (go_wp2_with fail; go_meet; case rel => exact ⟨_, rfl, by assumption, by assumption, HTB, HC5, HG5⟩)
  obtain ⟨y, rfl, m0, m1, HTB, HC5, HG5⟩ := hcut
  obtain ⟨w5, rfl⟩ : ∃ w5 : World, w5 = wc := ⟨_, rfl⟩
  have HP1 := Lib.hid (HS.out o y HA.out HTB.out)
  have hp1 := HPL.out _ HP1.out
  generalize o - pw y = p1 at *
  have HL5 := Lib.hid (HL4.out.trans ((only_below (by omega) HG5.out).mono h0))
  have hz5 := HG5.out.size
  go_wp2_with fail
  refine (l01Below_any c v l H.length (by omega) (by omega) w0 _ HV.out HO.out h0 HL5.out HC5.out).mono ?_
  rintro e w6 ⟨⟨x, rfl, x0, x1⟩, hcu6, hg6⟩
  obtain ⟨k, rfl⟩ : ∃ k : Nat, x = k := ⟨x.toNat, by omega⟩
  have hk : k < H.length := by omega
  obtain ⟨q0, q1, _⟩ := HM.out _ (gD_mem H 0 k hk)
  have hz6 := hg6.size
  have HG6 := Lib.hid (only_trans HG5.out hg6)
  have hcH6 : w6.cell? ⟨bH, k, none⟩ = some (.int .i64 (gD H 0 k)) := (only_cell HG6.out hbH4 hcb).trans ((only_cell HG4.out hbH1 hcb).trans (HGT.out k hk))
  have hbH6 : bH < w6.heap.size := by omega
  have HC6 := Lib.hid hcu6
  clear hcu6 hg6 hk
  generalize gD H 0 k = z at *
  have HL6 := Lib.hid (HL4.out.trans ((only_below (by omega) HG6.out).mono h0))
  have hbt := bit_test (p := p1) (k := z) (by omega) (by omega)
  have hzz2 := pw_62 (n := z) q0 (by omega)
  have hzz1 := pw_pos z
  have hwr := pw_wrap (n := z) q0 (by omega)
  have hmin : min z.toNat 64 = z.toNat := by omega
  cases hb : tb p1 z
  · rw [hb] at hbt
    clear hb hwr hzz1 hzz2
    have hbt2 : (bits BinOp.and IntKind.i64 (p1 / 2 ^ z.toNat) 1 == 1) = false := by rw [← hmin]; exact hbt
    go_wp2_with fail
    go_ret
    exact ⟨⟨p1, rfl, HP1.out⟩, HC6.out, only_trans HGW4.out HG6.out⟩
  have HS2 := Lib.hid (HS.out p1 z HP1.out hb)
  have HWW := Lib.hid (sub_wrap (x := p1 - pw z) (by have := HPL.out _ HS2.out; clear hbt hwr hmin hb; omega) (by have := HPL.out _ HS2.out; clear hbt hwr hmin hb; omega))
  rw [hb] at hbt
  clear hb
  generalize pw z = Z at *
  have hbt2 : (bits BinOp.and IntKind.i64 (p1 / 2 ^ z.toNat) 1 == 1) = true := by rw [← hmin]; exact hbt
  go_wp2_with fail
  refine (l01Once_any c v l 2 (by decide) (by decide) w0 _ HV.out HO.out h0 HL6.out HC6.out).mono ?_
  rintro e w7 ⟨⟨x, rfl⟩, hcu7, hg7⟩
  have HC7 := Lib.hid hcu7
  have HG7 := Lib.hid (only_trans HGW4.out (only_trans HG6.out hg7))
  clear hcu7 hg7 hbt hbt2
  cases x
  · clear hwr hmin
    go_wp2_with fail
    go_ret
    exact ⟨⟨p1, rfl, HP1.out⟩, HC7.out, HG7.out⟩
  · clear hzz1 hzz2 hp1
    go_wp2_with fail
    go_ret
    refine ⟨⟨wrap64 (p1 - Z), rfl, ?_⟩, HC7.out, HG7.out⟩
    rw [HWW.out]
    exact HS2.out
end Go.Proofs.YtfmplmlilmalpaaGreat
