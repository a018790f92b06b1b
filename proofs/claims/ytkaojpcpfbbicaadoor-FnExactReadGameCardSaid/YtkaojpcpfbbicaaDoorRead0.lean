/- Read0: reading a jump's text, plain: the names of holes are apart and hold no hyphen, so the text's two names fix the line; no program in sight. No condition. -/
import Derived.Test.YtkaojpcpfbbicaaDoorJumpT
import Derived.Test.YtkaojpcpfbbicaaDoorPlay0
import Derived.Lib.IndexLaws
set_option linter.unusedVariables false
set_option linter.unusedSimpArgs false
namespace Peg
open Go
def named (a b o : Int) (n : ByteArray) : Int := ((holesOf a b o).find? fun k => decide (holeName a b o k = n)).getD (-1)
def readJump (a b o : Int) (s : ByteArray) : Option Ln := (linesOf a b o).find? fun l => decide (jumpText a b o l = s)
theorem ba_ext {x y : ByteArray} (h : x.data.toList = y.data.toList) : x = y := by
  cases x; cases y
  simp only at h
  rw [Array.ext' h]
theorem dd_inj {m n : Nat} (hm : m < 100) (hn : n < 100) (h : Lib.decDigits m = Lib.decDigits n) : m = n := by
  by_cases h1 : m < 10 <;> by_cases h2 : n < 10
  · rw [Lib.decDigits_one h1, Lib.decDigits_one h2] at h
    have := congrArg UInt8.toNat (List.cons.inj h).1
    simp at this
    omega
  · rw [Lib.decDigits_one h1, Lib.decDigits_two h2 hn] at h
    simp at h
  · rw [Lib.decDigits_two h1 hm, Lib.decDigits_one h2] at h
    simp at h
  · rw [Lib.decDigits_two h1 hm, Lib.decDigits_two h2 hn] at h
    have e1 := congrArg UInt8.toNat (List.cons.inj h).1
    have e2 := congrArg UInt8.toNat (List.cons.inj (List.cons.inj h).2).1
    simp at e1 e2
    omega
theorem dd_no45 {m : Nat} (hm : m < 100) : (45 : UInt8) ∉ Lib.decDigits m := by
  have key : ∀ j, j < 10 → (45 : UInt8) ≠ UInt8.ofNat (48 + j) := by decide
  by_cases h1 : m < 10
  · rw [Lib.decDigits_one h1]
    simp only [List.mem_singleton]
    exact key m h1
  · rw [Lib.decDigits_two h1 hm]
    simp only [List.mem_cons, List.not_mem_nil, or_false, not_or]
    exact ⟨key _ (by omega), key _ (by omega)⟩
theorem nl_hole {a b o k : Int} (h : hasHole a b o k = true) : (holeName a b o k).data.toList = UInt8.ofNat (97 + (k % a).toNat) :: Lib.decDigits (k / a + 1).toNat := by
  simp [holeName, h, dText]
theorem name_no45 {a b o k : Int} (h : hasHole a b o k = true) : (45 : UInt8) ∉ (holeName a b o k).data.toList := by
  have key : ∀ j, j < 7 → (45 : UInt8) ≠ UInt8.ofNat (97 + j) := by decide
  have := hole_dm h
  rw [nl_hole h, List.mem_cons, not_or]
  exact ⟨key _ (by omega), dd_no45 (by omega)⟩
theorem name_inj {a b o k q : Int} (h : hasHole a b o k = true) (h2 : hasHole a b o q = true) (e : holeName a b o k = holeName a b o q) : k = q := by
  have e1 := congrArg (fun x => x.data.toList) e
  simp only [nl_hole h, nl_hole h2] at e1
  have d1 := hole_dm h
  have d2 := hole_dm h2
  have e2 := congrArg UInt8.toNat (List.cons.inj e1).1
  have e3 := dd_inj (by omega) (by omega) (List.cons.inj e1).2
  simp at e2
  have e4 : k % a = q % a := by omega
  have e5 : k / a = q / a := by omega
  rw [← Int.mul_ediv_add_emod k a, ← Int.mul_ediv_add_emod q a, e4, e5]
theorem holesOf_of {a b o k : Int} (h : hasHole a b o k = true) : k ∈ holesOf a b o := by
  obtain ⟨h1, h2, h3, h4⟩ := hasHole_bd h
  simp only [holesOf, h1, if_true, holesTo, List.mem_map, List.mem_filter, List.mem_range]
  exact ⟨k.toNat, ⟨by omega, by rw [Int.toNat_of_nonneg h2]; exact h4⟩, by omega⟩
theorem named_name {a b o k : Int} (h : hasHole a b o k = true) : named a b o (holeName a b o k) = k := by
  unfold named
  cases hx : (holesOf a b o).find? fun q => decide (holeName a b o q = holeName a b o k) with
  | none =>
    have := List.find?_eq_none.1 hx k (holesOf_of h)
    simp at this
  | some q =>
    have h1 := List.mem_of_find?_eq_some hx
    have h2 := List.find?_some hx
    simp only [decide_eq_true_eq] at h2
    exact name_inj (holesOf_mem h1).1 h h2
theorem named_back {a b o : Int} {n : ByteArray} (h : 0 ≤ named a b o n) : holeName a b o (named a b o n) = n := by
  unfold named at h ⊢
  cases hx : (holesOf a b o).find? fun q => decide (holeName a b o q = n) with
  | none => rw [hx] at h; simp at h
  | some q =>
    have h2 := List.find?_some hx
    simpa using h2
theorem index_at : ∀ (A B : List UInt8), (45 : UInt8) ∉ A → Lib.indexByte (A ++ 45 :: B) 45 = A.length
  | [], B, _ => by simp [Lib.indexByte]
  | x :: A, B, h => by
    have h1 : (45 : UInt8) ≠ x := fun e => h (by simp [e])
    have h2 := index_at A B (fun e => h (by simp [e]))
    have h3 : (x == (45 : UInt8)) = false := by rw [beq_eq_false_iff_ne]; exact fun e => h1 e.symm
    rw [List.cons_append, Lib.indexByte, h3, h2]
    have h4 : (((A.length : Nat) : Int) == -1) = false := by rw [beq_eq_false_iff_ne]; omega
    simp [h4]
theorem drop_mid : ∀ (A B : List UInt8) (x : UInt8), (A ++ x :: B).drop (A.length + 1) = B
  | [], _, _ => rfl
  | _ :: A, B, x => by rw [List.cons_append, List.length_cons, List.drop_succ_cons]; exact drop_mid A B x
theorem jumpText_list {a b o : Int} {l : Ln} (h : l ∈ linesOf a b o) : (jumpText a b o l).data.toList = (holeName a b o l.f).data.toList ++ 45 :: (holeName a b o l.t).data.toList := by
  simp [jumpText, isLn_of h]
theorem line_holes {a b o : Int} {l : Ln} (h : l ∈ linesOf a b o) : hasHole a b o l.f = true ∧ hasHole a b o l.t = true := by
  obtain ⟨h1, h2, _, h4⟩ := linesOf_tb h
  obtain ⟨hok, h5, h6, h7⟩ := linesOf_in h
  have h8 := hok
  unfold LnOk at h8
  simp only [hasHole, h1, h2, h4, Bool.and_true, Bool.true_and]
  exact ⟨inR_iff.2 (by omega), inR_iff.2 (by omega)⟩
theorem readJump_miss {a b o : Int} {s : ByteArray} (h : Lib.indexByte s.data.toList 45 = -1) : readJump a b o s = none := by
  unfold readJump
  rw [List.find?_eq_none]
  intro l hl
  simp only [decide_eq_true_eq]
  intro e
  have := index_at _ (holeName a b o l.t).data.toList (name_no45 (line_holes hl).1)
  rw [← jumpText_list hl, e, h] at this
  omega
theorem readJump_hit {a b o : Int} {s fr to : ByteArray} {i : Nat} (h : Lib.indexByte s.data.toList 45 = i) (hf : fr.data.toList = s.data.toList.take i) (ht : to.data.toList = s.data.toList.drop (i + 1)) :
    readJump a b o s = lineBetween a b o (named a b o fr) (named a b o to) := by
  unfold readJump lineBetween
  have hs := (Lib.indexByte_some h).1
  have hsp : s.data.toList = fr.data.toList ++ 45 :: to.data.toList := by
    obtain ⟨hlt, hg⟩ := List.getElem?_eq_some_iff.1 hs
    rw [hf, ht, ← hg, ← List.drop_eq_getElem_cons hlt, List.take_append_drop]
  have key : ∀ l ∈ linesOf a b o, decide (jumpText a b o l = s) = isBetween (named a b o fr) (named a b o to) l := by
    intro l hl
    obtain ⟨l1, l2⟩ := line_holes hl
    have b1 := hasHole_bd l1
    have b2 := hasHole_bd l2
    rw [Bool.eq_iff_iff]
    simp only [decide_eq_true_eq, isBetween, Bool.and_eq_true, beq_iff_eq]
    constructor
    · intro e
      have e1 := jumpText_list hl
      rw [e] at e1
      have e2 := index_at _ (holeName a b o l.t).data.toList (name_no45 l1)
      rw [← e1, h] at e2
      have e3 : i = (holeName a b o l.f).data.toList.length := by omega
      have f1 : holeName a b o l.f = fr := ba_ext (by rw [hf, e1, e3]; simp)
      have f2 : holeName a b o l.t = to := ba_ext (by rw [ht, e1, e3]; exact (drop_mid _ _ _).symm)
      rw [← f1, ← f2, named_name l1, named_name l2]
      exact ⟨rfl, rfl⟩
    · rintro ⟨e1, e2⟩
      have f1 := named_back (a := a) (b := b) (o := o) (n := fr) (by omega)
      have f2 := named_back (a := a) (b := b) (o := o) (n := to) (by omega)
      rw [← e1] at f1
      rw [← e2] at f2
      exact ba_ext (by rw [jumpText_list hl, f1, f2, hsp])
  have fc : ∀ (L : List Ln), (∀ l ∈ L, decide (jumpText a b o l = s) = isBetween (named a b o fr) (named a b o to) l) → (L.find? fun l => decide (jumpText a b o l = s)) = L.find? (isBetween (named a b o fr) (named a b o to)) := by
    intro L
    induction L with
    | nil => intro _; rfl
    | cons x L ih =>
      intro h
      rw [List.find?_cons, List.find?_cons, h x (by simp), ih (fun l hl => h l (by simp [hl]))]
  exact fc _ key
end Peg
