/- OrdA: contract of AreSameUpToOrder of the program. No condition but the slices' form. -/
import Derived.Test.YtledmebhlmpjaaaOrdN2
import Derived.Test.YtledmebhlmpjaaaPzV
set_option linter.unusedVariables false
set_option linter.unusedSimpArgs false
namespace Go.Proofs.Ytledmebhlmpjaaa
open Go.ChangeShapes Go.WideShapes Go.ChangeAt Go.RowKit Peg Go.Sort
set_option maxRecDepth 100000 in
theorem AreSameUpToOrder_any (L M : List Ln) (v1 v2 : Value) (w : World) (h1 : Rd ELine w v1 L) (h2 : Rd ELine w v2 M) :
    Calls Try.prog 33 #[v1, v2] w fun e w' => e = .returned (.bool (same10 L M)) ∧ Below w.heap.size w w' := by
  obtain ⟨a1, c1, rfl, z1, g1⟩ := h1
  obtain ⟨a2, c2, rfl, z2, g2⟩ := h2
  have H1 : Hid (Rd ELine w (.slice a1 L.length c1) L) := ⟨a1, c1, rfl, z1, g1⟩
  have H2 : Hid (Rd ELine w (.slice a2 M.length c2) M) := ⟨a2, c2, rfl, z2, g2⟩
  clear g1 g2
  have N1 : ∀ (L : List Ln) v W, Rd ELine W v L → 10 < L.length → Calls Try.prog 63 #[v] W fun e w' => e = .returned (.tuple #[.slice none 0 0, .bool false]) ∧ Below W.heap.size W w' := fun L v W h => NormalForm_long L v W h
  have N2 : ∀ (L : List Ln) v W, Rd ELine W v L → L.length ≤ 10 → Calls Try.prog 63 #[v] W fun e w' => ∃ v', e = .returned (.tuple #[v', .bool true]) ∧ Own ELine w' W.heap.size v' (nform L.length L) ∧ Below W.heap.size W w' := fun L v W h => NormalForm_any L v W h
  have HS : Hid (∀ (A C : List Ln) v1 v2 W B1 B2, Own ELine W B1 v1 A → Own ELine W B2 v2 C → Calls Try.prog 64 #[v1, v2] W fun e w' => e = .returned (.bool (decide (A = C))) ∧ Below W.heap.size W w') := fun A C v1 v2 W B1 B2 h1 h2 => SameJumps_any A C v1 v2 W h1 h2
  have HN1 := Lib.hid N1
  have HN2 := Lib.hid N2
  clear N1 N2
  by_cases hL : L.length ≤ 10 <;> by_cases hM : M.length ≤ 10
  · have HE : Hid (same10 L M = decide (nform L.length L = nform M.length M)) := by show _ = _; rw [nform_iff]; simp [same10, hL, hM]
    go_enter Try.func33, Try.ntmps33
    go_wp2_with fail
    refine (HN2.out L _ _ H1.out hL).mono ?_
    rintro e w1 ⟨x1, rfl, ho1, hb1⟩
    have HO1 := Lib.hid ho1
    have HB1 := Lib.hid hb1
    have HR2 := Lib.hid (H2.out.keep hb1)
    clear ho1 hb1
    go_wp2_with fail
    refine (HN2.out M _ _ HR2.out hM).mono ?_
    rintro e w2 ⟨x2, rfl, ho2, hb2⟩
    have HO2 := Lib.hid ho2
    have HO3 := Lib.hid (HO1.out.keep hb2)
    have HB2 := Lib.hid (HB1.out.trans (hb2.mono HB1.out.size))
    clear ho2 hb2
    go_wp2_with (go_at_call 64; refine (HS.out _ _ _ _ _ _ _ HO3.out HO2.out).mono ?_; rintro e w3 ⟨rfl, hb3⟩)
    all_goals go_ret
    all_goals exact ⟨by rw [HE.out]; rfl, HB2.out.trans (hb3.mono HB2.out.size)⟩
  · have HE : Hid (same10 L M = false) := by show _ = _; simp [same10, hM]
    go_enter Try.func33, Try.ntmps33
    go_wp2_with fail
    refine (HN2.out L _ _ H1.out hL).mono ?_
    rintro e w1 ⟨x1, rfl, ho1, hb1⟩
    have HB1 := Lib.hid hb1
    have HR2 := Lib.hid (H2.out.keep hb1)
    clear ho1 hb1
    go_wp2_with fail
    refine (HN1.out M _ _ HR2.out (by omega)).mono ?_
    rintro e w2 ⟨rfl, hb2⟩
    have HB2 := Lib.hid (HB1.out.trans (hb2.mono HB1.out.size))
    clear hb2
    go_wp2_with fail
    all_goals go_ret
    all_goals exact ⟨by rw [HE.out]; rfl, HB2.out⟩
  · have HE : Hid (same10 L M = false) := by show _ = _; simp [same10, hL]
    go_enter Try.func33, Try.ntmps33
    go_wp2_with fail
    refine (HN1.out L _ _ H1.out (by omega)).mono ?_
    rintro e w1 ⟨rfl, hb1⟩
    have HB1 := Lib.hid hb1
    have HR2 := Lib.hid (H2.out.keep hb1)
    clear hb1
    go_wp2_with fail
    refine (HN2.out M _ _ HR2.out hM).mono ?_
    rintro e w2 ⟨x2, rfl, ho2, hb2⟩
    have HB2 := Lib.hid (HB1.out.trans (hb2.mono HB1.out.size))
    clear hb2
    go_wp2_with fail
    all_goals go_ret
    all_goals exact ⟨by rw [HE.out]; rfl, HB2.out⟩
  · have HE : Hid (same10 L M = false) := by show _ = _; simp [same10, hL]
    go_enter Try.func33, Try.ntmps33
    go_wp2_with fail
    refine (HN1.out L _ _ H1.out (by omega)).mono ?_
    rintro e w1 ⟨rfl, hb1⟩
    have HB1 := Lib.hid hb1
    have HR2 := Lib.hid (H2.out.keep hb1)
    clear hb1
    go_wp2_with fail
    refine (HN1.out M _ _ HR2.out (by omega)).mono ?_
    rintro e w2 ⟨rfl, hb2⟩
    have HB2 := Lib.hid (HB1.out.trans (hb2.mono HB1.out.size))
    clear hb2
    go_wp2_with fail
    all_goals go_ret
    all_goals exact ⟨by rw [HE.out]; rfl, HB2.out⟩
end Go.Proofs.Ytledmebhlmpjaaa
