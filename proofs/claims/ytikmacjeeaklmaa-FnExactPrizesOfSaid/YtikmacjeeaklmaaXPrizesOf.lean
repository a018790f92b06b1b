/- The program's PrizesOf returns what the reference's returns, for all arguments. No condition. -/
import Derived.Test.YtikmacjeeaklmaaPrizes
import Derived.Test.YtikmacjeeaklmaaEntT
import Derived.Test.YtikmacjeeaklmaaArgI
import Derived.Test.YtikmacjeeaklmaaOpenS
set_option linter.unusedVariables false
set_option linter.unusedSimpArgs false
namespace Go.Proofs.Ytikmacjeeaklmaa.fnExactPrizesOf
open Go.ChangeShapes Go.WideShapes Go.ChangeAt Go.RowKit Peg Go.Sort

set_option maxHeartbeats 1000000 in
set_option maxRecDepth 100000 in
theorem law_any (v : Value) (es : List Ent) (vp : Value) (pr : List Int) (w : World) (hv : RdEnts w v es) (hok : ∀ e ∈ es, (Lit.int .i64 e.n).wf = true) (hp : Rd EInt w vp pr) (hok2 : ∀ y ∈ pr, IntWf y) :
    Calls Try.prog 11 #[v, vp] w fun e w' => e = .returned (.bool true) ∧ Below w.heap.size w w' := by
  have HR := Lib.hid (fun w' (hb : Below w.heap.size w w') => hv.keep hb)
  have HSZ := Lib.hid (szEntrantS_any v es 1048576 (by omega) (by omega) w hv)
  have HP := Lib.hid (fun w' (hb : Below w.heap.size w w') => hp.keep hb)
  obtain ⟨ap, capp, hvp, hpm, _⟩ := hp
  subst hvp
  clear hv hok hok2
  by_cases hpl : pr.length ≤ 1048576
  rotate_left
  · go_enter Try.func11, Try.ntmps11
    go_wp2_with fail
    go_ret
    exact ⟨by simp, Below.refl _ _⟩
  by_cases hneg : szEnts 1048576 es < 0
  · generalize szEnts 1048576 es = z at *
    go_enter Try.func11, Try.ntmps11
    go_wp2_with fail
    refine HSZ.out.mono ?_
    rintro e' w' ⟨rfl, hb⟩
    go_wp2_with fail
    go_ret
    exact ⟨by simp, hb⟩
  obtain ⟨hl1, hl2⟩ := szEnts_ok (es := es) (left := 1048576) (by omega) (by omega)
  have hsum := szEnts_sum (es := es) (left := 1048576) (by omega)
  have hl1' : es.length ≤ 1048576 := by omega
  have hls : es.length + lenSum es ≤ 1048576 := by omega
  have HL := Lib.hid (show ∀ e ∈ es, e.rs.length ≤ 1048576 from fun e he => by have := hl2 e he; omega)
  have hneg' : 0 ≤ szEnts 1048576 es := by omega
  generalize szEnts 1048576 es = z at *
  have hP12 : (prizesOf es pr).length ≤ 12 := by
    unfold prizesOf; split
    · split
      · rw [sharesTo_len]; exact (places_bd es).1
      · simp
    · simp
  have HA : Hid (∀ W B B2 x y, OwnEnts W B x es → Own EInt W B2 y pr → Calls Try.prog 48 #[x, y] W (RetInts W (prizesOf es pr))) := fun W B B2 x y hx hy => PrizesOf_any x y es pr W hx hy
  have HB : Hid (∀ W B B2 x y, OwnEnts W B x es → Own EInt W B2 y pr → Calls Try.prog 46 #[x, y] W (RetInts W (prizesOf es pr))) := fun W B B2 x y hx hy => sPrizesOf_any x y es pr W hx hy
  generalize prizesOf es pr = L at *
  clear hneg hl1 hl2 hsum
  go_enter Try.func11, Try.ntmps11
  go_wp2_with fail
  refine HSZ.out.mono ?_
  rintro e' w' ⟨rfl, hb⟩
  have HB1 := Lib.hid hb
  clear hb
  go_wp2_with fail
  refine (toEntrantS_any _ es _ (HR.out _ HB1.out) hl1' HL.out).mono ?_
  rintro e' w' ⟨x1, rfl, ho1, hb⟩
  have HB2 := Lib.hid (HB1.out.trans (hb.mono HB1.out.size))
  clear hb HB1
  go_wp2_with fail
  refine (toIntS_any _ _ _ (HP.out _ HB2.out) hpl).mono ?_
  rintro e' w' ⟨y1, rfl, hi1, hb⟩
  have HB2b := Lib.hid (HB2.out.trans (hb.mono HB2.out.size))
  have ho1b := ho1.keep hb
  clear hb HB2 ho1
  go_wp2_with fail
  refine (HB.out _ _ _ _ _ ho1b hi1).mono ?_
  rintro e' w' ⟨v1, rfl, own1, hb⟩
  have HB3 := Lib.hid (HB2b.out.trans (hb.mono HB2b.out.size))
  obtain ⟨w1, rfl⟩ : ∃ w1 : World, w1 = w' := ⟨_, rfl⟩
  have O1 := Lib.hid own1
  clear hb HB2b ho1b own1 hi1
  go_wp2_with fail
  refine (toEntrantS_P _ es _ (HR.out _ HB3.out) hl1' HL.out).mono ?_
  rintro e' w' ⟨x2, rfl, ho2, hb⟩
  obtain ⟨wX, rfl⟩ : ∃ wX : World, wX = w' := ⟨_, rfl⟩
  have HBX := Lib.hid (HB3.out.trans (hb.mono HB3.out.size))
  have OX := Lib.hid ho2
  have O1x := Lib.hid (O1.out.keep hb)
  have hX1 := hb.size
  have hsz1 := HB3.out.size
  clear hb HB3 ho2
  go_wp2_with fail
  refine (toIntS_any _ _ _ (HP.out _ HBX.out) hpl).mono ?_
  rintro e' w' ⟨y2, rfl, hi2, hb⟩
  obtain ⟨wY, rfl⟩ : ∃ wY : World, wY = w' := ⟨_, rfl⟩
  have HXY := Lib.hid hb
  have OY := Lib.hid hi2
  have O1y := Lib.hid (O1x.out.keep hb)
  have hY1 := hb.size
  clear hb hi2 O1x
  go_wp2_with fail
  refine (HA.out _ _ _ _ _ (OX.out.keep HXY.out).ents OY.out).mono ?_
  rintro e' w' ⟨v2, rfl, own2, hb⟩
  have HX1 := Lib.hid hb
  have O1a := Lib.hid (O1y.out.keep hb)
  have O2a := Lib.hid own2
  clear hb O1y own2
  go_wp2_with fail
  refine (eqIntS_same _ _ _ _ O2a.out O1a.out).mono ?_
  rintro e' w' ⟨rfl, hb⟩
  have HX2 := Lib.hid (HX1.out.trans (hb.mono HX1.out.size))
  have O1b := Lib.hid (O1a.out.keep hb)
  have O2b := Lib.hid (O2a.out.keep hb)
  clear hb O1a O2a HX1
  go_wp2_with fail
  refine (toEntrantS_any _ es _ (HR.out _ ((HBX.out.trans (HXY.out.mono HBX.out.size)).trans (HX2.out.mono (Nat.le_trans HBX.out.size hY1)))) hl1' HL.out).mono ?_
  rintro e' w' ⟨x3, rfl, ho4, hb⟩
  have HX3 := Lib.hid (HX2.out.trans (hb.mono HX2.out.size))
  have O1c := Lib.hid (O1b.out.keep hb)
  have O2c := Lib.hid (O2b.out.keep hb)
  have HO4 := Lib.hid ho4
  clear hb HX2 O1b O2b ho4
  go_wp2_with fail
  refine (eqEntrantS_same _ _ es _ ((OX.out.keep HXY.out).keep HX3.out).ents HO4.out).mono ?_
  rintro e' w' ⟨rfl, hb⟩
  have HX4 := Lib.hid (HX3.out.trans (hb.mono HX3.out.size))
  have O1d := Lib.hid (O1c.out.keep hb)
  have O2d := Lib.hid (O2c.out.keep hb)
  clear hb HX3 O1c O2c HO4
  go_wp2_with fail
  refine (toIntS_any _ _ _ (HP.out _ ((HBX.out.trans (HXY.out.mono HBX.out.size)).trans (HX4.out.mono (Nat.le_trans HBX.out.size hY1)))) hpl).mono ?_
  rintro e' w' ⟨y3, rfl, hi4, hb⟩
  have HX4b := Lib.hid (HX4.out.trans (hb.mono HX4.out.size))
  have O1d2 := Lib.hid (O1d.out.keep hb)
  have O2d2 := Lib.hid (O2d.out.keep hb)
  clear hb HX4 O1d O2d
  go_wp2_with fail
  refine (eqIntS_same _ _ _ _ (OY.out.keep HX4b.out) hi4).mono ?_
  rintro e' w' ⟨rfl, hb⟩
  have HX5 := Lib.hid (HX4b.out.trans (hb.mono HX4b.out.size))
  have O1d3 := Lib.hid (O1d2.out.keep hb)
  have O2d3 := Lib.hid (O2d2.out.keep hb)
  clear hb HX4b O1d2 O2d2 hi4
  go_wp2_with fail
  refine (markEntrantS_any _ es _ (by omega) (by omega) hls _ _ OX.out (HXY.out.trans (HX5.out.mono hY1))).mono ?_
  rintro e' w' ⟨⟨k1, hk0, hk1, rfl⟩, hbt⟩
  have O1e := Lib.hid (O1d3.out.older O1.out (Nat.le_refl _) hbt)
  have O2e := Lib.hid (O2d3.out.newer hbt hY1)
  have OYe := Lib.hid ((OY.out.keep HX5.out).newer hbt (Nat.le_refl _))
  have HB5 := Lib.hid (((HBX.out.trans (HXY.out.mono HBX.out.size)).trans (HX5.out.mono (Nat.le_trans HBX.out.size hY1))).trans (hbt.lo.mono hsz1))
  have hY5 : wY.heap.size ≤ w'.heap.size := Nat.le_trans HX5.out.size hbt.lo.size
  clear hbt O1d3 O2d3 HX5 OX
  go_wp2_with fail
  refine (markIntS_any _ _ _ (by omega) (by omega) (by omega) _ OYe.out).mono ?_
  rintro e' w' ⟨rfl, ownY, hgY⟩
  have HBT : Hid (Between wX.heap.size wY.heap.size _ w') := Between.of_grown (Nat.le_trans hY1 hY5) hgY (fun k hk => OY.out.blockGe k hk)
  have O1e2 := Lib.hid (O1e.out.older O1.out hX1 HBT.out)
  have O2e2 := Lib.hid (O2e.out.newer HBT.out (Nat.le_refl _))
  have HB5b := Lib.hid (HB5.out.trans (HBT.out.lo.mono (Nat.le_trans hsz1 hX1)))
  clear hgY ownY HBT O1e O2e HB5 OYe OY
  go_wp2_with fail
  refine (eqIntS_same _ _ _ _ O2e2.out O1e2.out).mono ?_
  rintro e' w' ⟨rfl, hb⟩
  have HB6 := Lib.hid (HB5b.out.trans (hb.mono HB5b.out.size))
  have O1f := Lib.hid (O1e2.out.keep hb)
  have O2f := Lib.hid (O2e2.out.keep hb)
  clear hb HB5b O1e2 O2e2
  go_wp2_with fail
  refine (markIntS_any _ _ _ (by omega) (by omega) (by omega) _ O2f.out).mono ?_
  rintro e' w' ⟨rfl, own2, hg2⟩
  have O1g := Lib.hid (O1f.out.apart O1.out O2f.out (Nat.le_trans hX1 hY1) hg2)
  have O2g := Lib.hid own2
  have HB7 := Lib.hid (HB6.out.trans (O2f.out.apartBelow (B := w.heap.size) (Nat.le_trans hsz1 (Nat.le_trans hX1 hY1)) HB6.out.size hg2))
  clear HB6 O1f O2f own2 hg2
  go_wp2_with fail
  refine (heldIntS_same _ _ _ (by omega) (by omega) (by omega) _ O2g.out).mono ?_
  rintro e' w' ⟨rfl, rfl⟩
  go_wp2_with fail
  refine (toEntrantS_any _ es _ (HR.out _ HB7.out) hl1' HL.out).mono ?_
  rintro e' w' ⟨x4, rfl, ho5, hb⟩
  have HB8 := Lib.hid (HB7.out.trans (hb.mono HB7.out.size))
  have O1h := Lib.hid (O1g.out.keep hb)
  have O2h := Lib.hid (O2g.out.keep hb)
  clear HB7 O1g O2g hb
  go_wp2_with fail
  refine (toIntS_any _ _ _ (HP.out _ HB8.out) hpl).mono ?_
  rintro e' w' ⟨y5, rfl, hi5, hb⟩
  have HB8b := Lib.hid (HB8.out.trans (hb.mono HB8.out.size))
  have O1h2 := Lib.hid (O1h.out.keep hb)
  have O2h2 := Lib.hid (O2h.out.keep hb)
  have ho6 := ho5.keep hb
  clear HB8 O1h O2h hb ho5
  go_wp2_with fail
  refine (HA.out _ _ _ _ _ ho6 hi5).mono ?_
  rintro e' w' ⟨v3, rfl, own3, hb⟩
  have HB9 := Lib.hid (HB8b.out.trans (hb.mono HB8b.out.size))
  have O1i := Lib.hid (O1h2.out.keep hb)
  have O2i := Lib.hid (O2h2.out.keep hb)
  have O3 := Lib.hid own3
  clear HB8b O1h2 O2h2 hb own3 ho6 hi5
  go_wp2_with fail
  refine (eqIntS_same _ _ _ _ O3.out O1i.out).mono ?_
  rintro e' w' ⟨rfl, hb⟩
  have HB10 := Lib.hid (HB9.out.trans (hb.mono HB9.out.size))
  have O2j := Lib.hid (O2i.out.keep hb)
  clear HB9 O1i O2i hb O3
  go_wp2_with fail
  refine (heldIntS_same _ _ _ (by omega) (by omega) (by omega) _ O2j.out).mono ?_
  rintro e' w' ⟨rfl, rfl⟩
  go_wp2_with fail
  go_ret
  exact ⟨by simp, HB10.out⟩

set_option maxRecDepth 100000 in
theorem law_walk : LawWalk 11 Try.f11.params.toList := by
  intro H enc W base args ds ps hval hA
  rw [Try.params11] at hA hval
  obtain ⟨v0, vs0, d0, ds0, p0, q0, hargs, rfl, rfl, h0, r0⟩ := trodAll_cons hA
  obtain ⟨v1, vs1, d1, ds1, p1, q1, rfl, rfl, rfl, h1, r1⟩ := trodAll_cons r0
  obtain ⟨rfl, rfl, rfl⟩ := trodAll_nil r1
  obtain rfl : args = #[v0, v1] := by cases args; simp_all
  obtain ⟨l0, rd0, ok0⟩ := arg_EntrantS (hval 0 _ _ rfl rfl) h0
  obtain ⟨l1, rd1, ok1⟩ := arg_IntS (hval 1 _ _ rfl rfl) h1
  exact law_any v0 l0 v1 l1 W rd0 ok0 rd1 ok1

set_option maxRecDepth 100000 in
theorem lifted (os : Os) (started : os.Started) (H : Type) (enc : TypeId × Value → H) :
    ReturnsInHanded {} Try.checked os 11 .any (Rows.fnExactPrizesOfSpec.pre6 enc Try.prog Try.f11 Rows.fnExactPrizesOfRow.domain false) (Rows.fnExactPrizesOfSpec.post enc Try.prog Try.f11 false true false false) :=
  law_lift started (by kernel_rfl) Try.func11
    (ChangeSpec.witness6 (enc := enc) (C := Try.checked) false ⟨#[], #[.slice none 0 0, .slice none 0 0], []⟩ 8 (by kernel_rfl) (by kernel_rfl) (by kernel_rfl) (by kernel_rfl))
    rfl rfl (readable_all (by kernel_rfl)) (by intro ds h; match ds, h with | [a0, a1], _ => rfl) law_walk

theorem over : Rows.fnExactPrizesOfRow.holds Try.pinned (OpenSpec.ofChange Rows.fnExactPrizesOfSpec) :=
  OpenClaim.holds_of_wide 11 Try.f11 rfl rfl rfl rfl rfl rfl rfl ⟨rfl, rfl, rfl, rfl, rfl⟩ rfl rfl rfl rfl rfl (by kernel_rfl) Try.func11 (by kernel_rfl)
    (of_decide_eq_true (by kernel_rfl)) (by unfold Func.isWrapper; first | (rw [if_pos (by decide +kernel)]; kernel_rfl) | (rw [if_neg (by decide +kernel)]; exact ⟨rfl, rfl⟩))
    (fun os started H enc _ => lifted os started H enc)

theorem proved : Rows.FnExactPrizesOfSaid := over
#print axioms proved
end Go.Proofs.Ytikmacjeeaklmaa.fnExactPrizesOf
