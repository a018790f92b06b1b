/- The program's RankingOf returns what the reference's returns, for all arguments. No condition. -/
import Derived.Test.YtikmacjeeaklmaaRank2
import Derived.Test.YtikmacjeeaklmaaEntT
import Derived.Test.YtikmacjeeaklmaaArgI
set_option linter.unusedVariables false
set_option linter.unusedSimpArgs false
namespace Go.Proofs.Ytikmacjeeaklmaa.fnExactRankingOf
open Go.ChangeShapes Go.WideShapes Go.ChangeAt Go.RowKit Peg Go.Sort

set_option maxHeartbeats 1000000 in
set_option maxRecDepth 100000 in
theorem law_any (v : Value) (es : List Ent) (w : World) (hv : RdEnts w v es) (hok : ∀ e ∈ es, (Lit.int .i64 e.n).wf = true) :
    Calls Try.prog 12 #[v] w fun e w' => e = .returned (.bool true) ∧ Below w.heap.size w w' := by
  have HR := Lib.hid (fun w' (hb : Below w.heap.size w w') => hv.keep hb)
  have HSZ := Lib.hid (szEntrantS_any v es 1048576 (by omega) (by omega) w hv)
  clear hv hok
  by_cases hneg : szEnts 1048576 es < 0
  · generalize szEnts 1048576 es = z at *
    go_enter Try.func12, Try.ntmps12
    go_wp2_with fail
    refine HSZ.out.mono ?_
    rintro e' w' ⟨rfl, hb⟩
    go_wp2_with fail
    go_ret
    exact ⟨by simp, hb⟩
  obtain ⟨hl1, hl2⟩ := szEnts_ok (es := es) (left := 1048576) (by omega) (by omega)
  have hsum := szEnts_sum (es := es) (left := 1048576) (by omega)
  have hl1' : es.length ≤ 1048576 := by omega
  have hls : es.length + lenSum es ≤ 1048576 := by omega
  have HL := Lib.hid (show ∀ e ∈ es, e.rs.length ≤ 1048576 from fun e he => by have := hl2 e he; omega)
  have hneg' : 0 ≤ szEnts 1048576 es := by omega
  generalize szEnts 1048576 es = z at *
  have hP12 : (ranking es).length ≤ 12 := by
    unfold ranking; split
    · rename_i h; rw [List.length_map, rankTo_length]; have := (entsOk_bd h).1; omega
    · simp
  have HA : Hid (∀ W B x, OwnEnts W B x es → Calls Try.prog 50 #[x] W (RetInts W (ranking es))) := fun W B x hx => RankingOf_any x es W hx
  have HB : Hid (∀ W B x, OwnEnts W B x es → Calls Try.prog 49 #[x] W (RetInts W (ranking es))) := fun W B x hx => sRankingOf_any x es W hx
  generalize ranking es = L at *
  clear hneg hl1 hl2 hsum
  go_enter Try.func12, Try.ntmps12
  go_wp2_with fail
  refine HSZ.out.mono ?_
  rintro e' w' ⟨rfl, hb⟩
  have HB1 := Lib.hid hb
  clear hb
  go_wp2_with fail
  refine (toEntrantS_any _ es _ (HR.out _ HB1.out) hl1' HL.out).mono ?_
  rintro e' w' ⟨x1, rfl, ho1, hb⟩
  have HB2 := Lib.hid (HB1.out.trans (hb.mono HB1.out.size))
  clear hb HB1
  go_wp2_with fail
  refine (HB.out _ _ _ ho1).mono ?_
  rintro e' w' ⟨v1, rfl, own1, hb⟩
  have HB3 := Lib.hid (HB2.out.trans (hb.mono HB2.out.size))
  obtain ⟨w1, rfl⟩ : ∃ w1 : World, w1 = w' := ⟨_, rfl⟩
  have O1 := Lib.hid own1
  clear hb HB2 ho1 own1
  go_wp2_with fail
  refine (toEntrantS_P _ es _ (HR.out _ HB3.out) hl1' HL.out).mono ?_
  rintro e' w' ⟨x2, rfl, ho2, hb⟩
  obtain ⟨wX, rfl⟩ : ∃ wX : World, wX = w' := ⟨_, rfl⟩
  have HBX := Lib.hid (HB3.out.trans (hb.mono HB3.out.size))
  have OX := Lib.hid ho2
  have O1x := Lib.hid (O1.out.keep hb)
  have hX1 := hb.size
  have hsz1 := HB3.out.size
  clear hb HB3 ho2
  go_wp2_with fail
  refine (HA.out _ _ _ OX.out.ents).mono ?_
  rintro e' w' ⟨v2, rfl, own2, hb⟩
  have HX1 := Lib.hid hb
  have O1a := Lib.hid (O1x.out.keep hb)
  have O2a := Lib.hid own2
  clear hb O1x own2
  go_wp2_with fail
  refine (eqIntS_same _ _ _ _ O2a.out O1a.out).mono ?_
  rintro e' w' ⟨rfl, hb⟩
  have HX2 := Lib.hid (HX1.out.trans (hb.mono HX1.out.size))
  have O1b := Lib.hid (O1a.out.keep hb)
  have O2b := Lib.hid (O2a.out.keep hb)
  clear hb O1a O2a HX1
  go_wp2_with fail
  refine (toEntrantS_any _ es _ (HR.out _ (HBX.out.trans (HX2.out.mono HBX.out.size))) hl1' HL.out).mono ?_
  rintro e' w' ⟨x3, rfl, ho4, hb⟩
  have HX3 := Lib.hid (HX2.out.trans (hb.mono HX2.out.size))
  have O1c := Lib.hid (O1b.out.keep hb)
  have O2c := Lib.hid (O2b.out.keep hb)
  have HO4 := Lib.hid ho4
  clear hb HX2 O1b O2b ho4
  go_wp2_with fail
  refine (eqEntrantS_same _ _ es _ (OX.out.keep HX3.out).ents HO4.out).mono ?_
  rintro e' w' ⟨rfl, hb⟩
  have HX4 := Lib.hid (HX3.out.trans (hb.mono HX3.out.size))
  have O1d := Lib.hid (O1c.out.keep hb)
  have O2d := Lib.hid (O2c.out.keep hb)
  clear hb HX3 O1c O2c HO4
  go_wp2_with fail
  refine (markEntrantS_any _ es _ (by omega) (by omega) hls _ _ OX.out HX4.out).mono ?_
  rintro e' w' ⟨⟨k1, hk0, hk1, rfl⟩, hbt⟩
  have O1e := Lib.hid (O1d.out.older O1.out (Nat.le_refl _) hbt)
  have O2e := Lib.hid (O2d.out.newer hbt (Nat.le_refl _))
  have HB5 := Lib.hid ((HBX.out.trans (HX4.out.mono HBX.out.size)).trans (hbt.lo.mono hsz1))
  clear hbt O1d O2d HX4 OX
  go_wp2_with fail
  refine (eqIntS_same _ _ _ _ O2e.out O1e.out).mono ?_
  rintro e' w' ⟨rfl, hb⟩
  have HB6 := Lib.hid (HB5.out.trans (hb.mono HB5.out.size))
  have O1f := Lib.hid (O1e.out.keep hb)
  have O2f := Lib.hid (O2e.out.keep hb)
  clear hb HB5 O1e O2e
  go_wp2_with fail
  refine (markIntS_any _ _ _ (by omega) (by omega) (by omega) _ O2f.out).mono ?_
  rintro e' w' ⟨rfl, own2, hg2⟩
  have O1g := Lib.hid (O1f.out.apart O1.out O2f.out hX1 hg2)
  have O2g := Lib.hid own2
  have HB7 := Lib.hid (HB6.out.trans (O2f.out.apartBelow (B := w.heap.size) (Nat.le_trans hsz1 hX1) HB6.out.size hg2))
  clear HB6 O1f O2f own2 hg2
  go_wp2_with fail
  refine (heldIntS_same _ _ _ (by omega) (by omega) (by omega) _ O2g.out).mono ?_
  rintro e' w' ⟨rfl, rfl⟩
  go_wp2_with fail
  refine (toEntrantS_any _ es _ (HR.out _ HB7.out) hl1' HL.out).mono ?_
  rintro e' w' ⟨x4, rfl, ho5, hb⟩
  have HB8 := Lib.hid (HB7.out.trans (hb.mono HB7.out.size))
  have O1h := Lib.hid (O1g.out.keep hb)
  have O2h := Lib.hid (O2g.out.keep hb)
  clear HB7 O1g O2g hb
  go_wp2_with fail
  refine (HA.out _ _ _ ho5).mono ?_
  rintro e' w' ⟨v3, rfl, own3, hb⟩
  have HB9 := Lib.hid (HB8.out.trans (hb.mono HB8.out.size))
  have O1i := Lib.hid (O1h.out.keep hb)
  have O2i := Lib.hid (O2h.out.keep hb)
  have O3 := Lib.hid own3
  clear HB8 O1h O2h hb own3 ho5
  go_wp2_with fail
  refine (eqIntS_same _ _ _ _ O3.out O1i.out).mono ?_
  rintro e' w' ⟨rfl, hb⟩
  have HB10 := Lib.hid (HB9.out.trans (hb.mono HB9.out.size))
  have O2j := Lib.hid (O2i.out.keep hb)
  clear HB9 O1i O2i hb O3
  go_wp2_with fail
  refine (heldIntS_same _ _ _ (by omega) (by omega) (by omega) _ O2j.out).mono ?_
  rintro e' w' ⟨rfl, rfl⟩
  go_wp2_with fail
  go_ret
  exact ⟨by simp, HB10.out⟩

set_option maxRecDepth 100000 in
theorem law_walk : LawWalk 12 Try.f12.params.toList := by
  intro H enc W base args ds ps hval hA
  rw [Try.params12] at hA hval
  obtain ⟨v0, vs0, d0, ds0, p0, q0, hargs, rfl, rfl, h0, r0⟩ := trodAll_cons hA
  obtain ⟨rfl, rfl, rfl⟩ := trodAll_nil r0
  obtain rfl : args = #[v0] := by cases args; simp_all
  obtain ⟨l0, rd0, ok0⟩ := arg_EntrantS (hval 0 _ _ rfl rfl) h0
  exact law_any v0 l0 W rd0 ok0

set_option maxRecDepth 100000 in
theorem lifted (os : Os) (started : os.Started) (H : Type) (enc : TypeId × Value → H) :
    ReturnsInHanded {} Try.checked os 12 .any (Rows.fnExactRankingOfSpec.pre6 enc Try.prog Try.f12 Rows.fnExactRankingOfRow.domain false) (Rows.fnExactRankingOfSpec.post enc Try.prog Try.f12 false true false false) :=
  law_lift started (by kernel_rfl) Try.func12
    (ChangeSpec.witness6 (enc := enc) (C := Try.checked) false ⟨#[], #[.slice none 0 0], []⟩ 8 (by kernel_rfl) (by kernel_rfl) (by kernel_rfl) (by kernel_rfl))
    rfl rfl (readable_all (by kernel_rfl)) (by intro ds h; match ds, h with | [a0], _ => rfl) law_walk

theorem over : Rows.fnExactRankingOfRow.holds Try.pinned (OpenSpec.ofChange Rows.fnExactRankingOfSpec) :=
  OpenClaim.holds_of_wide 12 Try.f12 rfl rfl rfl rfl rfl rfl rfl ⟨rfl, rfl, rfl, rfl, rfl⟩ rfl rfl rfl rfl rfl (by kernel_rfl) Try.func12 (by kernel_rfl)
    (of_decide_eq_true (by kernel_rfl)) (by unfold Func.isWrapper; first | (rw [if_pos (by decide +kernel)]; kernel_rfl) | (rw [if_neg (by decide +kernel)]; exact ⟨rfl, rfl⟩))
    (fun os started H enc _ => lifted os started H enc)

theorem proved : Rows.FnExactRankingOfSaid := over
#print axioms proved
end Go.Proofs.Ytikmacjeeaklmaa.fnExactRankingOf
