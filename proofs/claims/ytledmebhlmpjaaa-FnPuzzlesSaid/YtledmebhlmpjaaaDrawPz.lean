/- DrawPz: contracts of the reference's DrawShort and DrawPuzzle. Conditions: the code's form. -/
import Derived.Test.YtledmebhlmpjaaaDrawSh
import Derived.Test.YtledmebhlmpjaaaDrawP3
set_option linter.unusedVariables false
set_option linter.unusedSimpArgs false
namespace Go.Proofs.Ytledmebhlmpjaaa
open Go.ChangeShapes Go.WideShapes Go.ChangeAt Go.RowKit Peg Go.Sort
set_option maxHeartbeats 4000000 in
set_option maxRecDepth 100000 in
theorem DrawShort_any (v : Value) (l : List Int) (w : World) (hv : Rd EBy w v l) (hok : ∀ y ∈ l, ByOk y) (hl : l.length ≤ 1048576) :
    Calls Try.prog 9 #[v] w fun e w' => (∃ (a b o p q : Int) (J : List Ln), e = .returned (.agg #[.int .i64 a, .int .i64 b, .int .i64 o, .int .i64 p, .int .i64 q]) ∧ isSmall a b o = true ∧ posOk a b o p = true ∧ posOk a b o q = true ∧ playTo false a b o p J = some q ∧ J.length ≤ 5) ∧ Below w.heap.size w w' := by
  have hA : Below w.heap.size w (w.alloc (.cells #[.int .i64 0, .int .i64 0, .int .i64 0, .int .i64 0, .int .i64 0] 29)) := (Below.refl _ _).alloc (Nat.le_refl _) _
  have HV := Lib.hid (hv.keep hA)
  have HO := Lib.hid hok
  have HN := Lib.hid (l01New_any v l _ (hv.keep hA) hok hl)
  have R1 := Lib.hid (BoxAt.new w #[.int .i64 0, .int .i64 0, .int .i64 0, .int .i64 0, .int .i64 0] 29)
  have HA := Lib.hid hA
  clear hv hok hA
  go_enter Try.func9, Try.ntmps9
  go_wp2_with fail
  refine HN.out.mono ?_
  rintro e w1 ⟨c, rfl, hc, hcu1, hb1⟩
  have R2 := Lib.hid (R1.out.keep hb1)
  have HB1 := Lib.hid (HA.out.trans (hb1.mono (by simp)))
  simp only [World.size_alloc] at hc
  have hcw := hcu1.1
  have HC := Lib.hid (l26Short_any c v l _ w1 HV.out HO.out (by simpa using hc) hb1 hcu1)
  clear HN R1 HA hcu1 hb1
  go_wp2_with fail
  refine HC.out.mono ?_
  rintro e w2 ⟨⟨a, b, o, p, q, J, rfl, hsm, hp, hq, hpt, hJ⟩, hcu2, hg2⟩
  obtain ⟨r1, r2, r3⟩ := R2.out.only hg2 (by omega)
  have HB2 := Lib.hid (HB1.out.trans ((only_below (Nat.le_of_lt hcw) hg2).mono (by omega)))
  have HR := Lib.hid (show isSmall a b o = true ∧ posOk a b o p = true ∧ posOk a b o q = true ∧ playTo false a b o p J = some q ∧ J.length ≤ 5 from ⟨hsm, hp, hq, hpt, hJ⟩)
  clear hcu2 hg2 HC hsm hp hq hpt hJ R2
  have hbF := HB2.out
  go_wp2_with fail
  refine bodyPost_ret (v := .agg #[.int .i64 a, .int .i64 b, .int .i64 o, .int .i64 p, .int .i64 q]) (by simp [results, Try.results9, go_sem, *]) rfl ⟨⟨a, b, o, p, q, J, rfl, HR.out⟩, by (repeat' first | (with_reducible exact Below.refl _ _) | (with_reducible refine Below.alloc ?_ ?_ _) | (with_reducible refine Below.drew ?_) | (with_reducible refine Below.setCell ?_ ?_ _) | (with_reducible refine below_via (by assumption) ?_ ?_) | go_size)⟩
set_option maxHeartbeats 4000000 in
set_option maxRecDepth 100000 in
theorem DrawPuzzle_any (v : Value) (l : List Int) (w : World) (hv : Rd EBy w v l) (hok : ∀ y ∈ l, ByOk y) (hl : l.length ≤ 1048576) :
    Calls Try.prog 18 #[v] w fun e w' => (∃ (a b o p q : Int), e = .returned (.agg #[.int .i64 a, .int .i64 b, .int .i64 o, .int .i64 p, .int .i64 q]) ∧ puzzleOk a b o p q = true) ∧ Below w.heap.size w w' := by
  have hA : Below w.heap.size w (w.alloc (.cells #[.int .i64 0, .int .i64 0, .int .i64 0, .int .i64 0, .int .i64 0] 29)) := (Below.refl _ _).alloc (Nat.le_refl _) _
  have HV := Lib.hid (hv.keep hA)
  have HO := Lib.hid hok
  have HN := Lib.hid (l01New_any v l _ (hv.keep hA) hok hl)
  have R1 := Lib.hid (BoxAt.new w #[.int .i64 0, .int .i64 0, .int .i64 0, .int .i64 0, .int .i64 0] 29)
  have HA := Lib.hid hA
  clear hv hok hA
  go_enter Try.func18, Try.ntmps18
  go_wp2_with fail
  refine HN.out.mono ?_
  rintro e w1 ⟨c, rfl, hc, hcu1, hb1⟩
  have R2 := Lib.hid (R1.out.keep hb1)
  have HB1 := Lib.hid (HA.out.trans (hb1.mono (by simp)))
  simp only [World.size_alloc] at hc
  have hcw := hcu1.1
  have HC := Lib.hid (l26Puzzle_any c v l _ w1 HV.out HO.out (by simpa using hc) hb1 hcu1)
  clear HN R1 HA hcu1 hb1
  go_wp2_with fail
  refine HC.out.mono ?_
  rintro e w2 ⟨⟨a, b, o, p, q, rfl, hpz⟩, hcu2, hg2⟩
  obtain ⟨r1, r2, r3⟩ := R2.out.only hg2 (by omega)
  have HB2 := Lib.hid (HB1.out.trans ((only_below (Nat.le_of_lt hcw) hg2).mono (by omega)))
  have HR := Lib.hid hpz
  clear hcu2 hg2 HC hpz R2
  have hbF := HB2.out
  go_wp2_with fail
  refine bodyPost_ret (v := .agg #[.int .i64 a, .int .i64 b, .int .i64 o, .int .i64 p, .int .i64 q]) (by simp [results, Try.results18, go_sem, *]) rfl ⟨⟨a, b, o, p, q, rfl, HR.out⟩, by (repeat' first | (with_reducible exact Below.refl _ _) | (with_reducible refine Below.alloc ?_ ?_ _) | (with_reducible refine Below.drew ?_) | (with_reducible refine Below.setCell ?_ ?_ _) | (with_reducible refine below_via (by assumption) ?_ ?_) | go_size)⟩
end Go.Proofs.Ytledmebhlmpjaaa
