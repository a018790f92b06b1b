/- The program's EntrantsOk returns what the reference's returns, for all arguments. No condition. -/
import Derived.Test.YteipebedoalafaaEntOk
set_option linter.unusedVariables false
set_option linter.unusedSimpArgs false
namespace Go.Proofs.Yteipebedoalafaa.fnExactEntrantsOk
open Go.ChangeShapes Go.WideShapes Go.ChangeAt Go.RowKit Peg Go.Sort

set_option maxHeartbeats 1000000 in
set_option maxRecDepth 100000 in
theorem law_any (v : Value) (es : List Ent) (w : World) (hv : RdEnts w v es) (hok : ∀ e ∈ es, (Lit.int .i64 e.n).wf = true) :
    Calls Try.prog 7 #[v] w fun e w' => e = .returned (.bool true) ∧ Below w.heap.size w w' := by
  have HR := Lib.hid (fun w' (hb : Below w.heap.size w w') => hv.keep hb)
  have HSZ := Lib.hid (szEntrantS_any v es 1048576 (by omega) (by omega) w hv)
  clear hv hok
  by_cases hneg : szEnts 1048576 es < 0
  · generalize szEnts 1048576 es = z at *
    go_enter Try.func7, Try.ntmps7
    go_wp2_with fail
    refine HSZ.out.mono ?_
    rintro e' w' ⟨rfl, hb⟩
    go_wp2_with fail
    go_ret
    exact ⟨by simp, hb⟩
  obtain ⟨hl1, hl2⟩ := szEnts_ok (es := es) (left := 1048576) (by omega) (by omega)
  have hl1' : es.length ≤ 1048576 := by omega
  have HL := Lib.hid (show ∀ e ∈ es, e.rs.length ≤ 1048576 from fun e he => by have := hl2 e he; omega)
  have hneg' : 0 ≤ szEnts 1048576 es := by omega
  generalize szEnts 1048576 es = z at *
  clear hneg hl1 hl2
  go_enter Try.func7, Try.ntmps7
  go_wp2_with fail
  refine HSZ.out.mono ?_
  rintro e' w' ⟨rfl, hb⟩
  have HB1 := Lib.hid hb
  clear hb
  go_wp2_with fail
  refine (toEntrantS_any _ es _ (HR.out _ HB1.out) hl1' HL.out).mono ?_
  rintro e' w' ⟨x1, rfl, ho1, hb⟩
  have HB2 := Lib.hid (HB1.out.trans (hb.mono HB1.out.size))
  clear hb HB1
  go_wp2_with fail
  refine (sEntrantsOk_any _ _ _ ho1).mono ?_
  rintro e' w' ⟨rfl, hb⟩
  have HB3 := Lib.hid (HB2.out.trans (hb.mono HB2.out.size))
  clear hb HB2 ho1
  go_wp2_with fail
  refine (toEntrantS_any _ es _ (HR.out _ HB3.out) hl1' HL.out).mono ?_
  rintro e' w' ⟨x2, rfl, ho2, hb⟩
  have HB4 := Lib.hid (HB3.out.trans (hb.mono HB3.out.size))
  have HO2 := Lib.hid ho2
  clear hb HB3 ho2
  go_wp2_with fail
  refine (EntrantsOk_any _ _ _ HO2.out).mono ?_
  rintro e' w' ⟨rfl, hb⟩
  have HB5 := Lib.hid (HB4.out.trans (hb.mono HB4.out.size))
  have HO3 := Lib.hid (HO2.out.keep hb)
  clear hb HB4 HO2
  go_wp2_with fail
  refine (toEntrantS_any _ es _ (HR.out _ HB5.out) hl1' HL.out).mono ?_
  rintro e' w' ⟨x3, rfl, ho4, hb⟩
  have HB6 := Lib.hid (HB5.out.trans (hb.mono HB5.out.size))
  have HO4 := Lib.hid ho4
  have HO5 := Lib.hid (HO3.out.keep hb)
  clear hb HB5 HO3 ho4
  go_wp2_with fail
  refine (eqEntrantS_same _ _ es _ HO5.out HO4.out).mono ?_
  rintro e' w' ⟨rfl, hb⟩
  have HB7 := Lib.hid (HB6.out.trans (hb.mono HB6.out.size))
  clear hb
  go_wp2_with fail
  go_ret
  exact ⟨by simp, HB7.out⟩

set_option maxRecDepth 100000 in
theorem law_walk : LawWalk 7 Try.f7.params.toList := by
  intro H enc W base args ds ps hval hA
  rw [Try.params7] at hA hval
  obtain ⟨v0, vs0, d0, ds0, p0, q0, hargs, rfl, rfl, h0, r0⟩ := trodAll_cons hA
  obtain ⟨rfl, rfl, rfl⟩ := trodAll_nil r0
  obtain rfl : args = #[v0] := by cases args; simp_all
  obtain ⟨l0, rd0, ok0⟩ := arg_EntrantS (hval 0 _ _ rfl rfl) h0
  exact law_any v0 l0 W rd0 ok0

set_option maxRecDepth 100000 in
theorem lifted (os : Os) (started : os.Started) (H : Type) (enc : TypeId × Value → H) :
    ReturnsInHanded {} Try.checked os 7 .any (Rows.fnExactEntrantsOkSpec.pre6 enc Try.prog Try.f7 Rows.fnExactEntrantsOkRow.domain false) (Rows.fnExactEntrantsOkSpec.post enc Try.prog Try.f7 false true false false) :=
  law_lift started (by kernel_rfl) Try.func7
    (ChangeSpec.witness6 (enc := enc) (C := Try.checked) false ⟨#[], #[.slice none 0 0], []⟩ 8 (by kernel_rfl) (by kernel_rfl) (by kernel_rfl) (by kernel_rfl))
    rfl rfl (readable_all (by kernel_rfl)) (by intro ds h; match ds, h with | [a0], _ => rfl) law_walk

theorem over : Rows.fnExactEntrantsOkRow.holds Try.pinned (OpenSpec.ofChange Rows.fnExactEntrantsOkSpec) :=
  OpenClaim.holds_of_wide 7 Try.f7 rfl rfl rfl rfl rfl rfl rfl ⟨rfl, rfl, rfl, rfl, rfl⟩ rfl rfl rfl rfl rfl (by kernel_rfl) Try.func7 (by kernel_rfl)
    (of_decide_eq_true (by kernel_rfl)) (by unfold Func.isWrapper; first | (rw [if_pos (by decide +kernel)]; kernel_rfl) | (rw [if_neg (by decide +kernel)]; exact ⟨rfl, rfl⟩))
    (fun os started H enc _ => lifted os started H enc)

theorem proved : Rows.FnExactEntrantsOkSaid := over
#print axioms proved
end Go.Proofs.Yteipebedoalafaa.fnExactEntrantsOk
