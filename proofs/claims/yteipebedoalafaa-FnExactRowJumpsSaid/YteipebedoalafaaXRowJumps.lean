/- The program's RowJumps returns what the reference's returns, for all arguments. No condition. -/
import Derived.Test.YteipebedoalafaaRowJ
import Derived.Test.YteipebedoalafaaArgS
import Derived.Test.YteipebedoalafaaOpen
set_option linter.unusedVariables false
set_option linter.unusedSimpArgs false
namespace Go.Proofs.Yteipebedoalafaa.fnExactRowJumps
open Go.ChangeShapes Go.WideShapes Go.ChangeAt Go.RowKit Peg Go.Sort
open Go.ChangeMaps (open_string)

set_option maxHeartbeats 1000000 in
set_option maxRecDepth 100000 in
theorem law_any (s : ByteArray) (hs : s.size ≤ maxLen) (w : World) :
    Calls Try.prog 3 #[.string s] w fun e w' => e = .returned (.bool true) ∧ Below w.heap.size w w' := by
  unfold maxLen at hs
  by_cases hl : s.size ≤ 1048576
  rotate_left
  · have hl' : 1048576 < s.size := by omega
    go_enter Try.func3, Try.ntmps3
    go_wp2_with fail
    go_ret
    exact ⟨by simp, Below.refl _ _⟩
  have HA : Hid (∀ W, Calls Try.prog 15 #[.string s] W (RetStrs W (rowJumps s))) := fun W => RowJumps_any s hl W
  have HB : Hid (∀ W, Calls Try.prog 14 #[.string s] W (RetStrs W (rowJumps s))) := fun W => sRowJumps_any s hl W
  have h40 : (rowJumps s).length ≤ 1048576 := by
    unfold rowJumps
    split
    · have := rjTo_le s (s.size - 2); omega
    · simp
  generalize rowJumps s = L at *
  go_enter Try.func3, Try.ntmps3
  go_wp2_with fail
  refine (HB.out _).mono ?_
  rintro e w' ⟨v1, rfl, own1, hb⟩
  obtain ⟨w1, rfl⟩ : ∃ w1 : World, w1 = w' := ⟨_, rfl⟩
  have O1 := Lib.hid own1
  have HW1 := Lib.hid hb
  clear own1 hb
  go_wp2_with fail
  refine (HA.out _).mono ?_
  rintro e w' ⟨v2, rfl, own2, hb⟩
  have O1c := Lib.hid (O1.out.keep hb)
  have HB3 := Lib.hid hb
  have O2 := Lib.hid own2
  clear own2 hb
  go_wp2_with fail
  refine (eqStringS_same _ _ _ _ O2.out O1c.out).mono ?_
  rintro e w' ⟨rfl, hb⟩
  have O1d := Lib.hid (O1c.out.keep hb)
  have O2d := Lib.hid (O2.out.keep hb)
  have HB4 := Lib.hid (HB3.out.trans (hb.mono HB3.out.size))
  clear O1c O2 HB3 hb
  go_wp2_with fail
  refine (markStringS_any _ _ 1 (by omega) (by omega) _ O2d.out).mono ?_
  rintro e w' ⟨rfl, own2, hg2⟩
  have O1e := Lib.hid (O1d.out.apart O1.out O2d.out (Nat.le_refl _) hg2)
  have O2e := Lib.hid own2
  have HB5 := Lib.hid (HB4.out.trans (O2d.out.apartBelow (B := w1.heap.size) (Nat.le_refl _) HB4.out.size hg2))
  clear O1d O2d HB4 own2 hg2
  go_wp2_with fail
  refine (heldStringS_same _ _ 1 (by omega) (by omega) _ O2e.out).mono ?_
  rintro e w' ⟨rfl, hb⟩
  have O1e := Lib.hid (O1e.out.keep hb)
  have O2e := Lib.hid (O2e.out.keep hb)
  have HB5 := Lib.hid (HB5.out.trans (hb.mono HB5.out.size))
  clear hb
  go_wp2_with fail
  refine (HA.out _).mono ?_
  rintro e w' ⟨v3, rfl, own3, hb⟩
  have O1g := Lib.hid (O1e.out.keep hb)
  have O2g := Lib.hid (O2e.out.keep hb)
  have HB7 := Lib.hid (HB5.out.trans (hb.mono HB5.out.size))
  clear O1e O2e HB5 hb
  go_wp2_with fail
  refine (eqStringS_same _ _ _ _ own3 O1g.out).mono ?_
  rintro e w' ⟨rfl, hb⟩
  have O2h := Lib.hid (O2g.out.keep hb)
  have HB8 := Lib.hid (HB7.out.trans (hb.mono HB7.out.size))
  clear O1g O2g HB7 hb
  go_wp2_with fail
  refine (heldStringS_same _ _ 1 (by omega) (by omega) _ O2h.out).mono ?_
  rintro e w' ⟨rfl, hb⟩
  have HB9 := Lib.hid (HB8.out.trans (hb.mono HB8.out.size))
  clear hb
  go_wp2_with fail
  go_ret
  exact ⟨by simp, HW1.out.trans (HB9.out.mono HW1.out.size)⟩

set_option maxRecDepth 100000 in
theorem law_walk : LawWalk 3 Try.f3.params.toList := by
  intro H enc W base args ds ps hval hA
  rw [Try.params3] at hA hval
  obtain ⟨v0, vs0, d0, ds0, p0, q0, hargs, rfl, rfl, h0, r0⟩ := trodAll_cons hA
  obtain ⟨rfl, rfl, rfl⟩ := trodAll_nil r0
  obtain rfl : args = #[v0] := by cases args; simp_all
  obtain ⟨x0, rfl, rfl, rfl, w0⟩ := open_string Try.underlying9 (hval 0 _ _ rfl rfl) h0
  exact law_any x0 w0 W

set_option maxRecDepth 100000 in
theorem lifted (os : Os) (started : os.Started) (H : Type) (enc : TypeId × Value → H) :
    ReturnsInHanded {} Try.checked os 3 .any (Rows.fnExactRowJumpsSpec.pre6 enc Try.prog Try.f3 Rows.fnExactRowJumpsRow.domain false) (Rows.fnExactRowJumpsSpec.post enc Try.prog Try.f3 false true false false) :=
  law_lift started (by kernel_rfl) Try.func3
    (ChangeSpec.witness6 (enc := enc) (C := Try.checked) false ⟨#[], #[.string ByteArray.empty], []⟩ 8 (by kernel_rfl) (by kernel_rfl) (by kernel_rfl) (by kernel_rfl))
    rfl rfl (readable_all (by kernel_rfl)) (by intro ds h; match ds, h with | [a0], _ => rfl) law_walk

theorem over : Rows.fnExactRowJumpsRow.holds Try.pinned (OpenSpec.ofChange Rows.fnExactRowJumpsSpec) :=
  OpenClaim.holds_of_wide 3 Try.f3 rfl rfl rfl rfl rfl rfl rfl ⟨rfl, rfl, rfl, rfl, rfl⟩ rfl rfl rfl rfl rfl (by kernel_rfl) Try.func3 (by kernel_rfl)
    (of_decide_eq_true (by kernel_rfl)) (by unfold Func.isWrapper; first | (rw [if_pos (by decide +kernel)]; kernel_rfl) | (rw [if_neg (by decide +kernel)]; exact ⟨rfl, rfl⟩))
    (fun os started H enc _ => lifted os started H enc)

theorem proved : Rows.FnExactRowJumpsSaid := over
#print axioms proved
end Go.Proofs.Yteipebedoalafaa.fnExactRowJumps
