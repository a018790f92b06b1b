/- Make0: games that are made backwards, as plain data; no program in sight. No condition. -/
import Derived.Test.YtfpofhkggojaoaaUndos
import Derived.Test.YtfpofhkggojaoaaApp
import Derived.Test.YtfpofhkggojaoaaScore
set_option linter.unusedVariables false
set_option linter.unusedSimpArgs false
namespace Peg
theorem drop_rev {α : Type} (L : List α) (d : α) (m : Nat) (h : m < L.length) : (L.drop m).reverse = (L.drop (m + 1)).reverse ++ [gD L d m] := by
  rw [List.drop_eq_getElem_cons h, List.reverse_cons, gD_lt L d m h]
structure Mk where
  s : Int
  p : Int
  out : List Ln
def mkLn (a b o : Int) (m : Mk) : Ln := gD (undosOf a b o m.p) Ln0 (nextSeed m.s % (undosOf a b o m.p).length).toNat
def mkNext (a b o : Int) (m : Mk) : Mk := ⟨nextSeed m.s, flip m.p (mkLn a b o m), m.out ++ [mkLn a b o m]⟩
def mkRun (a b o : Int) : Nat → Mk → Mk
  | 0, m => m
  | k + 1, m => if undosOf a b o m.p = [] then m else mkRun a b o k (mkNext a b o m)
def makeOk (a b o g n s : Int) : Bool := posOk a b o g && inR n 0 40 && inR s 0 65536
def makeGame (a b o g n s : Int) : List Ln × Int :=
  if makeOk a b o g n s = true then ((mkRun a b o n.toNat ⟨s, g, []⟩).out.reverse, (mkRun a b o n.toNat ⟨s, g, []⟩).p) else ([], g)
theorem nextSeed_bd (s : Int) : 0 ≤ nextSeed s ∧ nextSeed s ≤ 65536 := by
  unfold nextSeed
  split
  · omega
  · omega
theorem mkLn_in {a b o : Int} {m : Mk} (h : undosOf a b o m.p ≠ []) : mkLn a b o m ∈ undosOf a b o m.p := by
  have hl : 0 < (undosOf a b o m.p).length := List.length_pos_iff.2 h
  have h0 := nextSeed_bd m.s
  exact gD_mem _ _ _ (by
    have h1 := Int.emod_lt_of_pos (nextSeed m.s) (show (0 : Int) < (undosOf a b o m.p).length by omega)
    have h2 := Int.emod_nonneg (nextSeed m.s) (show ((undosOf a b o m.p).length : Int) ≠ 0 by omega)
    omega)
theorem mkRun_empty {a b o : Int} {m : Mk} (h : undosOf a b o m.p = []) (k : Nat) : mkRun a b o k m = m := by
  cases k with
  | zero => rfl
  | succ k => simp [mkRun, h]
theorem mkRun_step {a b o : Int} {m : Mk} (h : undosOf a b o m.p ≠ []) (k : Nat) : mkRun a b o (k + 1) m = mkRun a b o k (mkNext a b o m) := by
  simp [mkRun, h]
end Peg
