/- DrawK: what a cursor's calls keep; contract of the reference's l01Once. Conditions: the cursor's form. -/
import Derived.Test.YtfmplmlilmalpaaGreatCur2
import Derived.Test.YtfmplmlilmalpaaGreatMem3
set_option linter.unusedVariables false
set_option linter.unusedSimpArgs false
namespace Go.Proofs.YtfmplmlilmalpaaGreat
open Go.ChangeShapes Go.WideShapes Go.ChangeAt Go.RowKit Peg Go.Sort
theorem only_new {a w : World} {c b o : Nat} {u : Value} (h : a.grownBy w (some c)) (hb : a.heap.size ≤ b) : a.grownBy (w.setCell ⟨b, o, none⟩ u) (some c) :=
  ⟨h.os, h.tape, h.output, by have := h.size; simpa using this, fun k hk hne => (Below.heap_setCell _ _ _ _ (fun e => by have e2 : k = b := e; omega)).trans (h.block k hk hne)⟩
theorem only_alloc {a w : World} {c : Nat} (h : a.grownBy w (some c)) (ob : Obj) : a.grownBy (w.alloc ob) (some c) := only_via ((Below.refl _ _).alloc (Nat.le_refl _) _) h
theorem only_old {w w' : World} {c : Nat} (hb : Below w.heap.size w w') : w.grownBy w' (some c) := only_via hb (only_refl w c)
theorem Own.only {α : Type} {E : Elt α} {w w' : World} {B c : Nat} {v : Value} {l : List α} (h : Own E w B v l) (hg : w.grownBy w' (some c)) (hc : c < B) : Own E w' B v l := by
  rcases h with h | h
  · exact .inl h
  · by_cases h0 : v.ownBlock = some c
    · have := (World.ownsRow.lt h c h0).1; omega
    · exact Own.grown (.inr h) hg (.inl h0)
theorem CurAt.keepB {w w' : World} {c n B : Nat} {v : Value} (h : CurAt w c v n) (hc : c < B) (hz : w.heap.size ≤ w'.heap.size) (hb : Below B w w') : CurAt w' c v n := by
  obtain ⟨h1, h2, ⟨i, h3, h4, h5⟩, ⟨x, h6⟩, h7⟩ := h
  exact ⟨Nat.lt_of_lt_of_le h1 hz, (hb.cell hc).trans h2, ⟨i, (hb.cell hc).trans h3, h4, h5⟩, ⟨x, (hb.cell hc).trans h6⟩, fun j => (hb.frozen hc).trans (h7 j)⟩
theorem only_viaB {a w w' : World} {c B : Nat} (hb : Below B w w') (hB : a.heap.size ≤ B) (h : a.grownBy w (some c)) : a.grownBy w' (some c) :=
  ⟨hb.os.trans h.os, hb.tape.trans h.tape, hb.output.trans h.output, Nat.le_trans h.size hb.size, fun k hk hne => (hb.block k (Nat.lt_of_lt_of_le hk hB)).trans (h.block k hk hne)⟩
set_option maxRecDepth 100000 in
theorem l01Once_any (c : Nat) (v : Value) (l : List Int) (n : Int) (n0 : 0 < n) (n1 : n ≤ 256) (w0 w : World) (hv : Rd EBy w0 v l) (hok : ∀ y ∈ l, ByOk y) (h0 : w0.heap.size ≤ c) (hbel : Below w0.heap.size w0 w) (hcur : CurAt w c v l.length) :
    Calls Tryz.prog 44 #[.pointer (some ⟨c, 0, none⟩), .int .i64 n] w fun e w' => (∃ x : Bool, e = .returned (.bool x)) ∧ CurAt w' c v l.length ∧ w.grownBy w' (some c) := by
  have HB := Lib.hid (l01Below_any c v l n n0 n1 w0 w hv hok h0 hbel hcur)
  clear hv hok hbel hcur
  go_enter Tryz.func44, Tryz.ntmps44
  go_wp2_with (go_at_call 47; refine HB.out.mono ?_; rintro e w' ⟨⟨x, rfl, x0, x1⟩, hcu, hb⟩)
  all_goals go_ret
  all_goals exact ⟨⟨_, rfl⟩, by assumption, by assumption⟩
end Go.Proofs.YtfmplmlilmalpaaGreat
