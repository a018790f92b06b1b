/- OrdN: contracts of copyJumps and NormalForm of the program. Conditions: the slice's length. -/
import Derived.Test.YtledmebhlmpjaaaOrdD
import Derived.Test.YtledmebhlmpjaaaAppR
import Derived.Deep.RegionHeld3
import Derived.Deep.DeepCutAuto
set_option linter.unusedVariables false
set_option linter.unusedSimpArgs false
namespace Peg
theorem free_find (a : List Ln) (k : Nat) : freeAt a k = !((a.take k).find? (dis (gD a Ln0 k))).isSome := by
  unfold freeAt
  show _ = !((a.take k).find? (dis (a.getD k ⟨0, 0, 0⟩))).isSome
  cases e : (a.take k).find? (dis (a.getD k ⟨0, 0, 0⟩)) with
  | none =>
    rw [List.find?_eq_none] at e
    simpa using e
  | some y =>
    have h1 := List.mem_of_find?_eq_some e
    have h2 := List.find?_some e
    simp only [Option.isSome_some, Bool.not_true]
    rw [List.all_eq_false]
    exact ⟨y, h1, by simpa using h2⟩
theorem best_step (a : List Ln) (k : Nat) : bestTo a (k + 1) = if freeAt a k && jlt (gD a Ln0 k) (gD a Ln0 (bestTo a k)) then k else bestTo a k := rfl
theorem nform_step (a : List Ln) (h : 0 < a.length) : nform a.length a = gD a Ln0 (bestTo a a.length) :: nform (a.take (bestTo a a.length) ++ a.drop (bestTo a a.length + 1)).length (a.take (bestTo a a.length) ++ a.drop (bestTo a a.length + 1)) := by
  obtain ⟨n, hn⟩ : ∃ n, a.length = n + 1 := ⟨a.length - 1, by omega⟩
  have hb := bestTo_lt a a.length (by omega)
  have e : (a.take (bestTo a a.length) ++ a.drop (bestTo a a.length + 1)).length = n := by simp; omega
  rw [e, ← List.eraseIdx_eq_take_drop_succ]
  conv => lhs; rw [hn, nform]
  rfl
def slLen : Go.Value → Nat
  | .slice _ n _ => n
  | _ => 0
end Peg
namespace Go.Proofs.Ytledmebhlmpjaaa
open Go.ChangeShapes Go.WideShapes Go.ChangeAt Go.RowKit Peg Go.Sort
theorem Own.takeN {α : Type} {E : Elt α} {w : World} {base : Nat} {a : Option Addr} {cap : Nat} {l : List α} (h : Own E w base (.slice a l.length cap) l) (k : Nat) (hk : k ≤ l.length) : Own E w base (.slice a k cap) (l.take k) := by
  have hl : (l.take k).length = k := by rw [List.length_take]; omega
  rcases h with ⟨rfl, a0, hv⟩ | ⟨hf, ⟨hv, hn⟩ | ⟨g, c, cur, hv, h1, h2, h3, h4, h5, h6⟩⟩
  · simp only [List.length_nil, Value.slice.injEq] at hv hk
    obtain rfl : k = 0 := by omega
    exact .inl ⟨rfl, a, by rw [hv.2.2]⟩
  · simp only [Value.slice.injEq] at hv
    obtain rfl : k = 0 := by omega
    exact .inl ⟨rfl, a, by rw [hv.2.2]⟩
  · simp only [Value.slice.injEq] at hv
    obtain ⟨ha, _, hc⟩ := hv
    subst ha hc
    refine .inr ⟨by rw [flat_length], .inr ⟨g, cap, cur, by rw [hl], h1, h2, by omega, h4, h5, ?_⟩⟩
    rw [hl]
    have e1 : cur.toList.take (k * E.size) = (cur.toList.take (l.length * E.size)).take (k * E.size) := by
      rw [List.take_take]
      congr 1
      exact (Nat.min_eq_left (Nat.mul_le_mul_right _ hk)).symm
    rw [e1, h6]
    have e2 : l.flatMap E.enc = (l.take k).flatMap E.enc ++ (l.drop k).flatMap E.enc := by rw [← List.flatMap_append, List.take_append_drop]
    rw [e2, List.take_append_of_le_length (by rw [flat_length, hl]; exact Nat.le_refl _), List.take_of_length_le (by rw [flat_length, hl]; exact Nat.le_refl _)]
/-- a slice of the call's own has room for what it holds -/
theorem Own.room {α : Type} {E : Elt α} {w : World} {base : Nat} {a : Option Addr} {n cap : Nat} {l : List α} (h : Own E w base (.slice a n cap) l) : l.length ≤ cap := by
  rcases h with ⟨rfl, a0, hv⟩ | ⟨hf, ⟨hv, hn⟩ | ⟨g, c, cur, hv, h1, h2, h3, h4, h5, h6⟩⟩
  · simp
  · omega
  · simp only [Value.slice.injEq] at hv
    obtain ⟨ha, _, hc⟩ := hv
    omega
/-- where the two slices of the normal form lie -/
def Sep (W : World) (vr vo : Value) : Prop := ∃ k, vr.ownBlock = some k ∧ k < W.heap.size ∧ ∀ g, vo.ownBlock = some g → g < W.heap.size ∧ g ≠ k
set_option maxRecDepth 100000 in
theorem copyJumps_any (L : List Ln) (v : Value) (w : World) (hv : Rd ELine w v L) (hl : L.length ≤ 1099511627776) :
    Calls Try.prog 87 #[v] w fun e w' => ∃ v', e = .returned v' ∧ Own ELine w' w.heap.size v' L ∧ Below w.heap.size w w' ∧ ∃ k, v'.ownBlock = some k ∧ w.heap.size ≤ k ∧ k < w'.heap.size := by
  obtain ⟨a, cap, rfl, h1, h2⟩ := hv
  have HV : Hid (Rd ELine w (.slice a L.length cap) L) := ⟨a, cap, rfl, h1, h2⟩
  have hb0 : Below w.heap.size w (w.alloc (.cells #[] 47)) := (Below.refl _ _).alloc (Nat.le_refl _) _
  have HV := Lib.hid (HV.out.keep hb0)
  clear h2
  go_enter Try.func87, Try.ntmps87
  go_wp2_with (at_builtin; (refine appendRd (E := ELine) (base := w.heap.size) (l := []) (l2 := L) rfl rfl _ _ 36 rfl Try.underlying36 rfl rfl (Own.emptyAny _ _ _ _) HV.out (by simpa using hl) (by simp) ?_); intro v' w2 hown5 hb5 hg5 hob5)
  all_goals go_ret
  have hz5 := hb5.size
  simp only [World.size_alloc] at hz5
  have BLK : ∃ k, v'.ownBlock = some k ∧ w.heap.size ≤ k ∧ k < w2.heap.size := by
    rcases hob5 with h | h
    · exact ⟨w.heap.size, h, Nat.le_refl _, by omega⟩
    · exact ⟨_, h.1, by simp, h.2⟩
  exact ⟨_, rfl, by simpa using hown5, hb0.trans (hb5.mono (by simp)), BLK⟩
end Go.Proofs.Ytledmebhlmpjaaa
