/- ClO: several texts in one (MemR, Score, Ent0, Eqs, ArgL, ArgI, OpenE, ClaimL). Conditions: those that each theorem names. -/
import Derived.Test.YtfmplmlilmalpaaGreatMem3
import Derived.Test.YtfmplmlilmalpaaGreatNum
import Derived.Test.YtfmplmlilmalpaaGreatBoard
import Derived.Test.YtfmplmlilmalpaaGreatOpenS
set_option linter.unusedVariables false
set_option linter.unusedSimpArgs false
namespace Peg
structure Rs where
  l : Int
  c : Bool
  s : Int
  t : Int
deriving DecidableEq
def Rs0 : Rs := ⟨0, false, 0, 0⟩
end Peg
namespace Go.Proofs.YtfmplmlilmalpaaGreat
open Go.ChangeShapes Go.WideShapes Go.ChangeAt Go.RowKit Go.Sort
section
variable {α : Type} {E : Elt α} {w w' : World} {base B : Nat} {v : Value} {l : List α}
theorem Own.st1 {b n cap : Nat} (h : Own E w base (.slice (some ⟨b, 0, none⟩) n cap) l) (hs : E.size = 1) (i : Nat) (hi : i < l.length) (x : α) (c0 : Value) (hc : E.enc x = [c0]) :
    Own E (w.setCell ⟨b, i, none⟩ c0) base (.slice (some ⟨b, 0, none⟩) n cap) (l.set i x) ∧ w.grownBy (w.setCell ⟨b, i, none⟩ c0) (some b) := by
  obtain ⟨hr, hn⟩ := h.raw (by omega)
  exact ⟨(h.store hs i hi x c0 hc).1, by subst hn; exact (hr.stored i c0).2⟩
/-- the store of a whole element of 2 cells -/
theorem Own.st2 {b n cap : Nat} (h : Own E w base (.slice (some ⟨b, 0, none⟩) n cap) l) (hs : E.size = 2) (i : Nat) (hi : i < l.length) (x : α) (c0 c1 : Value) (hc : E.enc x = [c0, c1]) :
    Own E ((w.setCell ⟨b, i * 2, none⟩ c0).setCell ⟨b, i * 2 + 1, none⟩ c1) base (.slice (some ⟨b, 0, none⟩) n cap) (l.set i x) ∧ w.grownBy ((w.setCell ⟨b, i * 2, none⟩ c0).setCell ⟨b, i * 2 + 1, none⟩ c1) (some b) := by
  obtain ⟨hr, hn⟩ := h.raw (by omega)
  subst hn
  obtain ⟨h1, g1⟩ := hr.stored (i * 2) c0
  obtain ⟨h2, g2⟩ := h1.stored (i * 2 + 1) c1
  refine ⟨.inr ?_, (g1.trans g2)⟩
  rw [List.length_set]
  rw [show (l.set i x).flatMap E.enc = ((l.flatMap E.enc).set (i * 2) c0).set (i * 2 + 1) c1 from ?_]
  · exact h2
  · rw [flat_set E l i x hi, hc, hs]
    have hL : (l.flatMap E.enc).length = l.length * 2 := by rw [flat_length, hs]
    generalize l.flatMap E.enc = xs at *
    apply List.ext_getElem?
    intro j
    simp only [List.getElem?_append, List.getElem?_set, List.length_append, List.length_take, List.length_set, List.length_cons, List.length_nil, List.getElem?_take, List.getElem?_drop]
    have hm : min (i * 2) xs.length = i * 2 := by omega
    rw [hm]
    by_cases a0 : j < i * 2
    · simp [a0, show j < i * 2 + 2 from by omega, show ¬ i * 2 = j from by omega, show ¬ i * 2 + 1 = j from by omega]
    by_cases b0 : j = i * 2
    · subst b0; simp [hL, hi, show i * 2 < l.length * 2 from by omega, show i * 2 + 1 < l.length * 2 from by omega, show i * 2 + 1 - i * 2 = 1 from by omega, show ¬ (i * 2 + 1 < i * 2) from by omega]
    by_cases b1 : j = i * 2 + 1
    · subst b1; simp [hL, hi, show i * 2 < l.length * 2 from by omega, show i * 2 + 1 < l.length * 2 from by omega, show i * 2 + 1 - i * 2 = 1 from by omega, show ¬ (i * 2 + 1 < i * 2) from by omega]
    · have e1 : (i + 1) * 2 + (j - (i * 2 + 2)) = j := by omega
      have e2 : j - i * 2 = (j - (i * 2 + 2)) + 2 := by omega
      simp [a0, show ¬ j < i * 2 + 2 from by omega, show ¬ i * 2 = j from by omega, show ¬ i * 2 + 1 = j from by omega, e1]
/-- the store of a whole element of 4 cells -/
theorem Own.st4 {b n cap : Nat} (h : Own E w base (.slice (some ⟨b, 0, none⟩) n cap) l) (hs : E.size = 4) (i : Nat) (hi : i < l.length) (x : α) (c0 c1 c2 c3 : Value) (hc : E.enc x = [c0, c1, c2, c3]) :
    Own E ((((w.setCell ⟨b, i * 4, none⟩ c0).setCell ⟨b, i * 4 + 1, none⟩ c1).setCell ⟨b, i * 4 + 2, none⟩ c2).setCell ⟨b, i * 4 + 3, none⟩ c3) base (.slice (some ⟨b, 0, none⟩) n cap) (l.set i x) ∧ w.grownBy ((((w.setCell ⟨b, i * 4, none⟩ c0).setCell ⟨b, i * 4 + 1, none⟩ c1).setCell ⟨b, i * 4 + 2, none⟩ c2).setCell ⟨b, i * 4 + 3, none⟩ c3) (some b) := by
  obtain ⟨hr, hn⟩ := h.raw (by omega)
  subst hn
  obtain ⟨h1, g1⟩ := hr.stored (i * 4) c0
  obtain ⟨h2, g2⟩ := h1.stored (i * 4 + 1) c1
  obtain ⟨h3, g3⟩ := h2.stored (i * 4 + 2) c2
  obtain ⟨h4, g4⟩ := h3.stored (i * 4 + 3) c3
  refine ⟨.inr ?_, (((g1.trans g2).trans g3).trans g4)⟩
  rw [List.length_set]
  rw [show (l.set i x).flatMap E.enc = ((((l.flatMap E.enc).set (i * 4) c0).set (i * 4 + 1) c1).set (i * 4 + 2) c2).set (i * 4 + 3) c3 from ?_]
  · exact h4
  · rw [flat_set E l i x hi, hc, hs]
    have hL : (l.flatMap E.enc).length = l.length * 4 := by rw [flat_length, hs]
    generalize l.flatMap E.enc = xs at *
    apply List.ext_getElem?
    intro j
    simp only [List.getElem?_append, List.getElem?_set, List.length_append, List.length_take, List.length_set, List.length_cons, List.length_nil, List.getElem?_take, List.getElem?_drop]
    have hm : min (i * 4) xs.length = i * 4 := by omega
    rw [hm]
    by_cases a0 : j < i * 4
    · simp [a0, show j < i * 4 + 4 from by omega, show ¬ i * 4 = j from by omega, show ¬ i * 4 + 1 = j from by omega, show ¬ i * 4 + 2 = j from by omega, show ¬ i * 4 + 3 = j from by omega]
    by_cases b0 : j = i * 4
    · subst b0; simp [hL, hi, show i * 4 < l.length * 4 from by omega, show i * 4 + 1 < l.length * 4 from by omega, show i * 4 + 2 < l.length * 4 from by omega, show i * 4 + 3 < l.length * 4 from by omega, show i * 4 + 1 - i * 4 = 1 from by omega, show i * 4 + 2 - i * 4 = 2 from by omega, show i * 4 + 3 - i * 4 = 3 from by omega, show ¬ (i * 4 + 1 < i * 4) from by omega, show ¬ (i * 4 + 2 < i * 4) from by omega, show ¬ (i * 4 + 3 < i * 4) from by omega]
    by_cases b1 : j = i * 4 + 1
    · subst b1; simp [hL, hi, show i * 4 < l.length * 4 from by omega, show i * 4 + 1 < l.length * 4 from by omega, show i * 4 + 2 < l.length * 4 from by omega, show i * 4 + 3 < l.length * 4 from by omega, show i * 4 + 1 - i * 4 = 1 from by omega, show i * 4 + 2 - i * 4 = 2 from by omega, show i * 4 + 3 - i * 4 = 3 from by omega, show ¬ (i * 4 + 1 < i * 4) from by omega, show ¬ (i * 4 + 2 < i * 4) from by omega, show ¬ (i * 4 + 3 < i * 4) from by omega]
    by_cases b2 : j = i * 4 + 2
    · subst b2; simp [hL, hi, show i * 4 < l.length * 4 from by omega, show i * 4 + 1 < l.length * 4 from by omega, show i * 4 + 2 < l.length * 4 from by omega, show i * 4 + 3 < l.length * 4 from by omega, show i * 4 + 1 - i * 4 = 1 from by omega, show i * 4 + 2 - i * 4 = 2 from by omega, show i * 4 + 3 - i * 4 = 3 from by omega, show ¬ (i * 4 + 1 < i * 4) from by omega, show ¬ (i * 4 + 2 < i * 4) from by omega, show ¬ (i * 4 + 3 < i * 4) from by omega]
    by_cases b3 : j = i * 4 + 3
    · subst b3; simp [hL, hi, show i * 4 < l.length * 4 from by omega, show i * 4 + 1 < l.length * 4 from by omega, show i * 4 + 2 < l.length * 4 from by omega, show i * 4 + 3 < l.length * 4 from by omega, show i * 4 + 1 - i * 4 = 1 from by omega, show i * 4 + 2 - i * 4 = 2 from by omega, show i * 4 + 3 - i * 4 = 3 from by omega, show ¬ (i * 4 + 1 < i * 4) from by omega, show ¬ (i * 4 + 2 < i * 4) from by omega, show ¬ (i * 4 + 3 < i * 4) from by omega]
    · have e1 : (i + 1) * 4 + (j - (i * 4 + 4)) = j := by omega
      have e2 : j - i * 4 = (j - (i * 4 + 4)) + 4 := by omega
      simp [a0, show ¬ j < i * 4 + 4 from by omega, show ¬ i * 4 = j from by omega, show ¬ i * 4 + 1 = j from by omega, show ¬ i * 4 + 2 = j from by omega, show ¬ i * 4 + 3 = j from by omega, e1]
theorem Own.some1 {b n cap : Nat} (h : Own E w base (.slice (some ⟨b, 0, none⟩) n cap) l) (i : Nat) (hi : i < l.length) (j : Nat) (hj : j < E.size) : ∃ u, w.cell? ⟨b, i * E.size + j, none⟩ = some u := by
  have h1 : i * E.size + j < l.length * E.size := by
    have : (i + 1) * E.size ≤ l.length * E.size := Nat.mul_le_mul_right _ hi
    rw [Nat.succ_mul] at this
    omega
  exact Option.isSome_iff_exists.1 (h.some3 _ h1).1
theorem Own.fz {b n cap : Nat} (h : Own E w base (.slice (some ⟨b, 0, none⟩) n cap) l) (hl : 0 < l.length) : ∀ j, w.frozen? ⟨b, j, none⟩ = false :=
  (h.some3 0 (Nat.mul_pos hl E.pos)).2
end
end Go.Proofs.YtfmplmlilmalpaaGreat
namespace Peg
def pts (l : Int) (c : Bool) : Int := if l = 1 then (if c then 125 else 100) else if l = 2 then 60 else if l = 3 then 30 else if l = 4 then 10 else 0
def pointsOf (l : Int) (c : Bool) (s t : Int) : Int := if resultOk l s t then pts l c else 0
def isBetter (l : Int) (c : Bool) (s t : Int) (l' : Int) (c' : Bool) (s' t' : Int) : Bool :=
  if resultOk l s t = true then if resultOk l' s' t' = true then
    if pointsOf l c s t = pointsOf l' c' s' t' then
      if l = l' then if s = s' then decide (t < t') else decide (s < s') else decide (l < l')
    else decide (pointsOf l' c' s' t' < pointsOf l c s t)
  else false else false
def areTied (l : Int) (c : Bool) (s t : Int) (l' : Int) (c' : Bool) (s' t' : Int) : Bool :=
  resultOk l s t && resultOk l' s' t' && !isBetter l c s t l' c' s' t' && !isBetter l' c' s' t' l c s t
def secondsUsed (st x y z : Int) : Int := if clockOk x y z = true then if inR st 0 100000 = true then st + y * z - x else 0 else 0
def nextSeed (s : Int) : Int := if inR s 0 65536 = true then (75 * s + 74) % 65537 else 0
theorem resultOk_bd {l s t : Int} (h : resultOk l s t = true) : (1 ≤ l ∧ l ≤ 49) ∧ (0 ≤ s ∧ s ≤ 60) ∧ (0 ≤ t ∧ t ≤ 100000) := by
  simp [resultOk, inR] at h; omega
theorem clockOk_bd {l b m : Int} (h : clockOk l b m = true) : (0 ≤ l ∧ l ≤ 100000) ∧ (0 ≤ b ∧ b ≤ 600) ∧ (0 ≤ m ∧ m ≤ 1000) := by
  simp [clockOk, inR] at h; omega
theorem prod_bd {y z : Int} (h : 0 ≤ y ∧ y ≤ 600) (h' : 0 ≤ z ∧ z ≤ 1000) : 0 ≤ y * z ∧ y * z ≤ 600000 := by
  have h1 : y * z ≤ 600 * 1000 := Int.mul_le_mul h.2 h'.2 h'.1 (by omega)
  have h2 : 0 ≤ y * z := Int.mul_nonneg h.1 h'.1
  omega
end Peg
namespace Go.Proofs.YtfmplmlilmalpaaGreat
open Go.ChangeShapes Go.WideShapes Go.ChangeAt Go.RowKit Peg Go.Sort
theorem ret_int {k : IntKind} {a b : Int} (h : a = b) : Ending.returned (.int k a) = .returned (.int k b) := by rw [h]
end Go.Proofs.YtfmplmlilmalpaaGreat
namespace Peg
def ptsR (r : Rs) : Int := pointsOf r.l r.c r.s r.t
def okR (r : Rs) : Bool := resultOk r.l r.s r.t
def betR (r s : Rs) : Bool := isBetter r.l r.c r.s r.t s.l s.c s.s s.t
theorem ptsR_bd (r : Rs) : 0 ≤ ptsR r ∧ ptsR r ≤ 125 := by
  unfold ptsR pointsOf pts
  repeat' split
  all_goals omega
def totalOf : List Rs → Int
  | [] => 0
  | r :: l => ptsR r + totalOf l
theorem totalOf_append (l m : List Rs) : totalOf (l ++ m) = totalOf l + totalOf m := by
  induction l with
  | nil => simp [totalOf]
  | cons x l ih => simp [totalOf, ih]; omega
theorem totalOf_bd (l : List Rs) : 0 ≤ totalOf l ∧ totalOf l ≤ 125 * l.length := by
  induction l with
  | nil => simp [totalOf]
  | cons x l ih => have := ptsR_bd x; simp [totalOf]; omega
theorem totalOf_take {l : List Rs} {k : Nat} (h : k < l.length) : totalOf (l.take (k + 1)) = totalOf (l.take k) + ptsR (gD l Rs0 k) := by
  rw [take_gD l Rs0 k h, totalOf_append]; simp [totalOf]
theorem totalOf_take_bd (l : List Rs) (k : Nat) : 0 ≤ totalOf (l.take k) ∧ totalOf (l.take k) ≤ 125 * k := by
  have h1 := totalOf_bd (l.take k)
  have : (l.take k).length ≤ k := List.length_take_le _ _
  omega
def bestStep (rs : List Rs) (best : Int) (i : Nat) : Int := if best < 0 then i else if betR (gD rs Rs0 i) (gD rs Rs0 best.toNat) = true then i else best
def bestRun (rs : List Rs) : Nat → Int
  | 0 => -1
  | k + 1 => bestStep rs (bestRun rs k) k
theorem bestRun_bd (rs : List Rs) (k : Nat) : -1 ≤ bestRun rs k ∧ bestRun rs k < k ∧ (0 < k → 0 ≤ bestRun rs k) := by
  induction k with
  | zero => simp [bestRun]
  | succ k ih =>
    simp only [bestRun, bestStep]
    repeat' split
    all_goals omega
def bestOf (rs : List Rs) : Int := if rs.all okR = true then bestRun rs rs.length else -1
theorem all_take_yes {α : Type} {P : α → Bool} {l : List α} {d : α} {k : Nat} (h : k < l.length) (h0 : (l.take k).all P = true) (h1 : P (gD l d k) = true) : (l.take (k + 1)).all P = true := by
  rw [take_gD l d k h, List.all_append, h0]; simp [h1]
theorem all_take_no {α : Type} {P : α → Bool} {l : List α} {d : α} {k : Nat} (h : k < l.length) (h1 : P (gD l d k) = false) : l.all P = false := by
  rw [List.all_eq_false]
  exact ⟨_, gD_mem l d k h, by simp [h1]⟩
end Peg
namespace Go.Proofs.YtfmplmlilmalpaaGreat
open Go.ChangeShapes Go.WideShapes Go.ChangeAt Go.RowKit Peg Go.Sort
end Go.Proofs.YtfmplmlilmalpaaGreat
namespace Peg
/-- the marks from k on, as lines -/
def markLn (k : Int) (i : Nat) : Ln := ⟨k + 3 * i, k + 3 * i + 1, k + 3 * i + 1 + 1⟩
def marksL (k : Int) (n : Nat) : List Ln := (List.range n).map (markLn k)
end Peg
namespace Go.Proofs.YtfmplmlilmalpaaGreat
open Go.ChangeShapes Go.WideShapes Go.ChangeAt Go.RowKit Peg Go.Sort
end Go.Proofs.YtfmplmlilmalpaaGreat
namespace Peg
def markInt (k : Int) (j : Nat) : Int := k + j
def marksInt (k : Int) (n : Nat) : List Int := (List.range n).map (markInt k)
end Peg
namespace Go.Proofs.YtfmplmlilmalpaaGreat
open Go.ChangeShapes Go.WideShapes Go.ChangeAt Go.RowKit Peg Go.Sort
end Go.Proofs.YtfmplmlilmalpaaGreat
namespace Peg
structure Ent where
  n : Int
  rs : List Rs
def Ent0 : Ent := ⟨0, []⟩
end Peg
namespace Go.Proofs.YtfmplmlilmalpaaGreat
open Go.ChangeShapes Go.WideShapes Go.ChangeAt Go.RowKit
set_option maxRecDepth 100000
theorem Own.setLow {α : Type} {E : Elt α} {w : World} {base : Nat} {v : Value} {l : List α} (h : Own E w base v l) {a : Addr} (ha : a.block < base) (u : Value) : Own E (w.setCell a u) base v l :=
  h.keep_of fun k hk _ _ => Below.heap_setCell _ _ _ _ (fun e => by omega)
section
variable {H : Type} {enc : TypeId × Value → H} {W : World} {sp : Nat → Bool}
/-- a claim by value -/
structure ClaimP where
  kind : Int
  num : Int
  js : List Peg.Ln
  ws : List Int
def ClaimArg (W : World) (v : Value) (c : ClaimP) : Prop := ∃ vj vw, v = .agg #[.int .i64 c.kind, .int .i64 c.num, vj, vw] ∧ Rd ELine W vj c.js ∧ Rd EInt W vw c.ws
def ClaimWf (c : ClaimP) : Prop := (∀ y ∈ c.js, LnWf y) ∧ (∀ y ∈ c.ws, IntWf y) ∧ (Lit.int .i64 c.kind).wf = true ∧ (Lit.int .i64 c.num).wf = true
end
end Go.Proofs.YtfmplmlilmalpaaGreat
namespace Peg
def claimOk (k n : Int) (len : Nat) : Bool := inR k 1 4 && inR n 0 60 && decide (len ≤ 60)
end Peg
namespace Go.Proofs.YtfmplmlilmalpaaGreat
open Go.ChangeShapes Go.WideShapes Go.ChangeAt Go.RowKit Peg Go.Sort
def szTwo (x y : Nat) (left : Int) : Int := if (x : Int) ≤ left then if (y : Int) ≤ left - x then left - x - y else -1 else -1
def RetClaim (w : World) (c : ClaimP) (en : Ending) (w' : World) : Prop := ∃ vj vw, en = .returned (.agg #[.int .i64 c.kind, .int .i64 c.num, vj, vw]) ∧ Own ELine w' w.heap.size vj c.js ∧ Own EInt w' w.heap.size vw c.ws ∧ Below w.heap.size w w'
set_option maxRecDepth 100000 in
theorem ClaimOk_any (k n : Int) (js : List Ln) (vj vw : Value) (w : World) {B : Nat} (hj : Own ELine w B vj js) :
    Calls Tryz.prog 10 #[.agg #[.int .i64 k, .int .i64 n, vj, vw]] w fun e w' => e = .returned (.bool (claimOk k n js.length)) ∧ Below w.heap.size w w' := by
  obtain ⟨a, cap, rfl, hl, _⟩ := hj.lineG
  clear hj
  have HN : Hid (∀ W, Calls Tryz.prog 35 #[.int .i64 k, .int .i64 1, .int .i64 4] W fun e w' => e = .returned (.bool (inR k 1 4)) ∧ W = w') := fun W => within_any k 1 4 W
  have HS : Hid (∀ W, Calls Tryz.prog 35 #[.int .i64 n, .int .i64 0, .int .i64 60] W fun e w' => e = .returned (.bool (inR n 0 60)) ∧ W = w') := fun W => within_any n 0 60 W
  have HC : Hid (claimOk k n js.length = (inR k 1 4 && inR n 0 60 && decide (js.length ≤ 60))) := rfl
  cases h1 : inR k 1 4
  · rw [h1] at HN
    have HE : Hid (claimOk k n js.length = false) := by show _ = _; rw [HC.out, h1]; rfl
    clear h1
    go_enter Tryz.func10, Tryz.ntmps10
    go_wp2_with (go_at_call 35; (with_reducible refine (HN.out _).mono ?_); rintro e w' ⟨rfl, rfl⟩)
    all_goals go_ret
    all_goals exact ⟨by rw [HE.out]; rfl, by (repeat' first | (with_reducible exact Below.refl _ _) | (with_reducible refine Below.alloc ?_ ?_ _) | (with_reducible refine Below.drew ?_) | (with_reducible refine Below.setCell ?_ ?_ _) | (with_reducible refine below_via (by assumption) ?_ ?_) | go_size)⟩
  cases h2 : inR n 0 60
  · rw [h1] at HN; rw [h2] at HS
    have HE : Hid (claimOk k n js.length = false) := by show _ = _; rw [HC.out, h1, h2]; rfl
    clear h1 h2
    go_enter Tryz.func10, Tryz.ntmps10
    go_wp2_with (first | (go_at_call 35; (with_reducible refine (HN.out _).mono ?_); rintro e w' ⟨rfl, rfl⟩) | (go_at_call 35; (with_reducible refine (HS.out _).mono ?_); rintro e w' ⟨rfl, rfl⟩))
    all_goals go_ret
    all_goals exact ⟨by rw [HE.out]; rfl, by (repeat' first | (with_reducible exact Below.refl _ _) | (with_reducible refine Below.alloc ?_ ?_ _) | (with_reducible refine Below.drew ?_) | (with_reducible refine Below.setCell ?_ ?_ _) | (with_reducible refine below_via (by assumption) ?_ ?_) | go_size)⟩
  rw [h1] at HN; rw [h2] at HS
  have HE : Hid (claimOk k n js.length = decide (js.length ≤ 60)) := by show _ = _; rw [HC.out, h1, h2]; rfl
  clear h1 h2
  go_enter Tryz.func10, Tryz.ntmps10
  go_wp2_with (first | (go_at_call 35; (with_reducible refine (HN.out _).mono ?_); rintro e w' ⟨rfl, rfl⟩) | (go_at_call 35; (with_reducible refine (HS.out _).mono ?_); rintro e w' ⟨rfl, rfl⟩))
  all_goals go_ret
  all_goals exact ⟨by rw [HE.out]; simp; try omega, by (repeat' first | (with_reducible exact Below.refl _ _) | (with_reducible refine Below.alloc ?_ ?_ _) | (with_reducible refine Below.drew ?_) | (with_reducible refine Below.setCell ?_ ?_ _) | (with_reducible refine below_via (by assumption) ?_ ?_) | go_size)⟩
set_option maxRecDepth 100000 in
theorem sClaimOk_any (k n : Int) (js : List Ln) (vj vw : Value) (w : World) {B : Nat} (hj : Own ELine w B vj js) :
    Calls Tryz.prog 27 #[.agg #[.int .i64 k, .int .i64 n, vj, vw]] w fun e w' => e = .returned (.bool (claimOk k n js.length)) ∧ Below w.heap.size w w' := by
  obtain ⟨a, cap, rfl, hl, _⟩ := hj.lineG
  clear hj
  have HN : Hid (∀ W, Calls Tryz.prog 63 #[.int .i64 k, .int .i64 1, .int .i64 4] W fun e w' => e = .returned (.bool (inR k 1 4)) ∧ W = w') := fun W => l01In_any k 1 4 W
  have HS : Hid (∀ W, Calls Tryz.prog 63 #[.int .i64 n, .int .i64 0, .int .i64 60] W fun e w' => e = .returned (.bool (inR n 0 60)) ∧ W = w') := fun W => l01In_any n 0 60 W
  have HC : Hid (claimOk k n js.length = (inR k 1 4 && inR n 0 60 && decide (js.length ≤ 60))) := rfl
  cases h1 : inR k 1 4
  · rw [h1] at HN
    have HE : Hid (claimOk k n js.length = false) := by show _ = _; rw [HC.out, h1]; rfl
    clear h1
    go_enter Tryz.func27, Tryz.ntmps27
    go_wp2_with (go_at_call 63; (with_reducible refine (HN.out _).mono ?_); rintro e w' ⟨rfl, rfl⟩)
    all_goals go_ret
    all_goals exact ⟨by rw [HE.out]; rfl, by (repeat' first | (with_reducible exact Below.refl _ _) | (with_reducible refine Below.alloc ?_ ?_ _) | (with_reducible refine Below.drew ?_) | (with_reducible refine Below.setCell ?_ ?_ _) | (with_reducible refine below_via (by assumption) ?_ ?_) | go_size)⟩
  cases h2 : inR n 0 60
  · rw [h1] at HN; rw [h2] at HS
    have HE : Hid (claimOk k n js.length = false) := by show _ = _; rw [HC.out, h1, h2]; rfl
    clear h1 h2
    go_enter Tryz.func27, Tryz.ntmps27
    go_wp2_with (first | (go_at_call 63; (with_reducible refine (HN.out _).mono ?_); rintro e w' ⟨rfl, rfl⟩) | (go_at_call 63; (with_reducible refine (HS.out _).mono ?_); rintro e w' ⟨rfl, rfl⟩))
    all_goals go_ret
    all_goals exact ⟨by rw [HE.out]; rfl, by (repeat' first | (with_reducible exact Below.refl _ _) | (with_reducible refine Below.alloc ?_ ?_ _) | (with_reducible refine Below.drew ?_) | (with_reducible refine Below.setCell ?_ ?_ _) | (with_reducible refine below_via (by assumption) ?_ ?_) | go_size)⟩
  rw [h1] at HN; rw [h2] at HS
  have HE : Hid (claimOk k n js.length = decide (js.length ≤ 60)) := by show _ = _; rw [HC.out, h1, h2]; rfl
  clear h1 h2
  go_enter Tryz.func27, Tryz.ntmps27
  go_wp2_with (first | (go_at_call 63; (with_reducible refine (HN.out _).mono ?_); rintro e w' ⟨rfl, rfl⟩) | (go_at_call 63; (with_reducible refine (HS.out _).mono ?_); rintro e w' ⟨rfl, rfl⟩))
  all_goals go_ret
  all_goals exact ⟨by rw [HE.out]; simp; try omega, by (repeat' first | (with_reducible exact Below.refl _ _) | (with_reducible refine Below.alloc ?_ ?_ _) | (with_reducible refine Below.drew ?_) | (with_reducible refine Below.setCell ?_ ?_ _) | (with_reducible refine below_via (by assumption) ?_ ?_) | go_size)⟩
end Go.Proofs.YtfmplmlilmalpaaGreat
