/- DrawG: contracts of the reference's draws of boards, positions and games. Conditions: the cursor's form. -/
import Derived.Test.YtfpofhkggojaoaaDrawG0
import Derived.Test.YtfpofhkggojaoaaCur2
import Derived.Deep.RegionWith
import Derived.IntWalk
set_option linter.unusedVariables false
set_option linter.unusedSimpArgs false
namespace Go.Proofs.Ytfpofhkggojaoaa
open Go.ChangeShapes Go.WideShapes Go.ChangeAt Go.RowKit Peg Go.Sort
theorem only_new {a w : World} {c b o : Nat} {u : Value} (h : a.grownBy w (some c)) (hb : a.heap.size ≤ b) : a.grownBy (w.setCell ⟨b, o, none⟩ u) (some c) :=
  ⟨h.os, h.tape, h.output, by have := h.size; simpa using this, fun k hk hne => (Below.heap_setCell _ _ _ _ (fun e => by have e2 : k = b := e; omega)).trans (h.block k hk hne)⟩
theorem only_alloc {a w : World} {c : Nat} (h : a.grownBy w (some c)) (ob : Obj) : a.grownBy (w.alloc ob) (some c) := only_via ((Below.refl _ _).alloc (Nat.le_refl _) _) h
theorem only_old {w w' : World} {c : Nat} (hb : Below w.heap.size w w') : w.grownBy w' (some c) := only_via hb (only_refl w c)
theorem Own.only {α : Type} {E : Elt α} {w w' : World} {B c : Nat} {v : Value} {l : List α} (h : Own E w B v l) (hg : w.grownBy w' (some c)) (hc : c < B) : Own E w' B v l := by
  rcases h with h | h
  · exact .inl h
  · by_cases h0 : v.ownBlock = some c
    · have := (World.ownsRow.lt h c h0).1; omega
    · exact Own.grown (.inr h) hg (.inl h0)
set_option maxRecDepth 100000 in
theorem l01Once_any (c : Nat) (v : Value) (l : List Int) (n : Int) (n0 : 0 < n) (n1 : n ≤ 256) (w0 w : World) (hv : Rd EBy w0 v l) (hok : ∀ y ∈ l, ByOk y) (h0 : w0.heap.size ≤ c) (hbel : Below w0.heap.size w0 w) (hcur : CurAt w c v l.length) :
    Calls Try.prog 180 #[.pointer (some ⟨c, 0, none⟩), .int .i64 n] w fun e w' => (∃ x : Bool, e = .returned (.bool x)) ∧ CurAt w' c v l.length ∧ w.grownBy w' (some c) := by
  have HB := Lib.hid (l01Below_any c v l n n0 n1 w0 w hv hok h0 hbel hcur)
  clear hv hok hbel hcur
  go_enter Try.func180, Try.ntmps180
  go_wp2_with (go_at_call 117; refine HB.out.mono ?_; rintro e w' ⟨⟨x, rfl, x0, x1⟩, hcu, hb⟩)
  all_goals go_ret
  all_goals exact ⟨⟨_, rfl⟩, by assumption, by assumption⟩
theorem sCountHoles_any (a b o : Int) (w : World) :
    Calls Try.prog 186 #[.agg #[.int .i64 a, .int .i64 b, .int .i64 o]] w fun e w' => e = .returned (.int .i64 ((holesOf a b o).length : Nat)) ∧ Below w.heap.size w w' := by
  have hle := holesOf_length a b o
  go_enter Try.func186, Try.ntmps186
  go_wp2_with fail
  refine (sHolesOf_any _ _ _ _).mono ?_
  rintro e w' ⟨hv, rfl, hownH, hb⟩
  obtain ⟨aH, cH, rfl, _, _⟩ := hownH.intG
  go_wp2_with fail
  all_goals go_ret
  all_goals exact ⟨by simp, by (repeat' first | (with_reducible exact Below.refl _ _) | (with_reducible refine Below.alloc ?_ ?_ _) | (with_reducible refine Below.drew ?_) | (with_reducible refine Below.setCell ?_ ?_ _) | (with_reducible refine below_via (by assumption) ?_ ?_) | go_size)⟩
theorem sRectangle_any (a b : Int) (ha : 1 ≤ a ∧ a ≤ 7) (hb : 1 ≤ b ∧ b ≤ 7) (h16 : a * b ≤ 16) (h1 : 1 ≤ a * b) (w : World) :
    Calls Try.prog 185 #[.int .i64 a, .int .i64 b] w fun e w' => e = .returned (.agg #[.int .i64 a, .int .i64 b, .int .i64 (pw (a * b) - 1)]) ∧ Below w.heap.size w w' := by
  have HI : Hid (∀ W, Calls Try.prog 133 #[.int .i64 a, .int .i64 1, .int .i64 7] W fun e w' => e = .returned (.bool true) ∧ W = w') := fun W => by have := l01In_any a 1 7 W; rwa [inR_iff.2 ha] at this
  have HJ : Hid (∀ W, Calls Try.prog 133 #[.int .i64 b, .int .i64 1, .int .i64 7] W fun e w' => e = .returned (.bool true) ∧ W = w') := fun W => by have := l01In_any b 1 7 W; rwa [inR_iff.2 hb] at this
  have hwr := pw_wrap (n := a * b) (by omega) (by omega)
  have hw1 := pw_wrap1 (n := a * b) (by omega) (by omega)
  have hmin : min (a * b).toNat 64 = (a * b).toNat := by omega
  go_enter Try.func185, Try.ntmps185
  go_wp2_with (go_at_call 133; first | ((with_reducible refine (HI.out _).mono ?_); rintro e w' ⟨rfl, rfl⟩) | ((with_reducible refine (HJ.out _).mono ?_); rintro e w' ⟨rfl, rfl⟩))
  all_goals ((try simp only [Exit.inBlock, Exit.then]); refine bodyPost_ret (v := .agg #[.int .i64 a, .int .i64 b, .int .i64 (pw (a * b) - 1)]) (by simp [results, Try.results185, go_sem, *]) rfl ⟨rfl, by (repeat' first | (with_reducible exact Below.refl _ _) | (with_reducible refine Below.alloc ?_ ?_ _) | (with_reducible refine Below.drew ?_) | (with_reducible refine Below.setCell ?_ ?_ _) | (with_reducible refine below_via (by assumption) ?_ ?_) | go_size)⟩)
end Go.Proofs.Ytfpofhkggojaoaa
