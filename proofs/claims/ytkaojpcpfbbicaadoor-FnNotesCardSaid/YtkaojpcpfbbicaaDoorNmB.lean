/- NmB: reading of holes, jumps and games (several texts in one). Conditions: as each contract states. -/
import Derived.Test.YtkaojpcpfbbicaaDoorJumpT
import Derived.Test.YtkaojpcpfbbicaaDoorPlay0
import Derived.Lib.IndexLaws
import Derived.Test.YtkaojpcpfbbicaaDoorPlay
import Derived.Test.YtkaojpcpfbbicaaDoorHoles
import Derived.Test.YtkaojpcpfbbicaaDoorShelfX
import Derived.Deep.RegionWith
import Derived.Deep.DeepCutAuto
import Derived.Deep.RegionHeld3
import Derived.Test.YtkaojpcpfbbicaaDoorGameT
import Derived.Lib.SplitLaws
import Derived.Lib.IndexBytes
import Derived.Test.YtkaojpcpfbbicaaDoorShelfS
import Derived.Test.YtkaojpcpfbbicaaDoorMem3
import Derived.Test.YtkaojpcpfbbicaaDoorNmA
import Derived.Deep.Cut
import Derived.IntWalk
set_option linter.unusedVariables false
set_option linter.unusedSimpArgs false
namespace Peg
open Go
def named (a b o : Int) (n : ByteArray) : Int := ((holesOf a b o).find? fun k => decide (holeName a b o k = n)).getD (-1)
def readJump (a b o : Int) (s : ByteArray) : Option Ln := (linesOf a b o).find? fun l => decide (jumpText a b o l = s)
theorem ba_ext {x y : ByteArray} (h : x.data.toList = y.data.toList) : x = y := by
  cases x; cases y
  simp only at h
  rw [Array.ext' h]
theorem dd_inj {m n : Nat} (hm : m < 100) (hn : n < 100) (h : Lib.decDigits m = Lib.decDigits n) : m = n := by
  by_cases h1 : m < 10 <;> by_cases h2 : n < 10
  · rw [Lib.decDigits_one h1, Lib.decDigits_one h2] at h
    have := congrArg UInt8.toNat (List.cons.inj h).1
    simp at this
    omega
  · rw [Lib.decDigits_one h1, Lib.decDigits_two h2 hn] at h
    simp at h
  · rw [Lib.decDigits_two h1 hm, Lib.decDigits_one h2] at h
    simp at h
  · rw [Lib.decDigits_two h1 hm, Lib.decDigits_two h2 hn] at h
    have e1 := congrArg UInt8.toNat (List.cons.inj h).1
    have e2 := congrArg UInt8.toNat (List.cons.inj (List.cons.inj h).2).1
    simp at e1 e2
    omega
theorem dd_no45 {m : Nat} (hm : m < 100) : (45 : UInt8) ∉ Lib.decDigits m := by
  have key : ∀ j, j < 10 → (45 : UInt8) ≠ UInt8.ofNat (48 + j) := by decide
  by_cases h1 : m < 10
  · rw [Lib.decDigits_one h1]
    simp only [List.mem_singleton]
    exact key m h1
  · rw [Lib.decDigits_two h1 hm]
    simp only [List.mem_cons, List.not_mem_nil, or_false, not_or]
    exact ⟨key _ (by omega), key _ (by omega)⟩
theorem nl_hole {a b o k : Int} (h : hasHole a b o k = true) : (holeName a b o k).data.toList = UInt8.ofNat (97 + (k % a).toNat) :: Lib.decDigits (k / a + 1).toNat := by
  simp [holeName, h, dText]
theorem name_no45 {a b o k : Int} (h : hasHole a b o k = true) : (45 : UInt8) ∉ (holeName a b o k).data.toList := by
  have key : ∀ j, j < 7 → (45 : UInt8) ≠ UInt8.ofNat (97 + j) := by decide
  have := hole_dm h
  rw [nl_hole h, List.mem_cons, not_or]
  exact ⟨key _ (by omega), dd_no45 (by omega)⟩
theorem name_inj {a b o k q : Int} (h : hasHole a b o k = true) (h2 : hasHole a b o q = true) (e : holeName a b o k = holeName a b o q) : k = q := by
  have e1 := congrArg (fun x => x.data.toList) e
  simp only [nl_hole h, nl_hole h2] at e1
  have d1 := hole_dm h
  have d2 := hole_dm h2
  have e2 := congrArg UInt8.toNat (List.cons.inj e1).1
  have e3 := dd_inj (by omega) (by omega) (List.cons.inj e1).2
  simp at e2
  have e4 : k % a = q % a := by omega
  have e5 : k / a = q / a := by omega
  rw [← Int.mul_ediv_add_emod k a, ← Int.mul_ediv_add_emod q a, e4, e5]
theorem holesOf_of {a b o k : Int} (h : hasHole a b o k = true) : k ∈ holesOf a b o := by
  obtain ⟨h1, h2, h3, h4⟩ := hasHole_bd h
  simp only [holesOf, h1, if_true, holesTo, List.mem_map, List.mem_filter, List.mem_range]
  exact ⟨k.toNat, ⟨by omega, by rw [Int.toNat_of_nonneg h2]; exact h4⟩, by omega⟩
theorem named_name {a b o k : Int} (h : hasHole a b o k = true) : named a b o (holeName a b o k) = k := by
  unfold named
  cases hx : (holesOf a b o).find? fun q => decide (holeName a b o q = holeName a b o k) with
  | none =>
    have := List.find?_eq_none.1 hx k (holesOf_of h)
    simp at this
  | some q =>
    have h1 := List.mem_of_find?_eq_some hx
    have h2 := List.find?_some hx
    simp only [decide_eq_true_eq] at h2
    exact name_inj (holesOf_mem h1).1 h h2
theorem named_back {a b o : Int} {n : ByteArray} (h : 0 ≤ named a b o n) : holeName a b o (named a b o n) = n := by
  unfold named at h ⊢
  cases hx : (holesOf a b o).find? fun q => decide (holeName a b o q = n) with
  | none => rw [hx] at h; simp at h
  | some q =>
    have h2 := List.find?_some hx
    simpa using h2
theorem index_at : ∀ (A B : List UInt8), (45 : UInt8) ∉ A → Lib.indexByte (A ++ 45 :: B) 45 = A.length
  | [], B, _ => by simp [Lib.indexByte]
  | x :: A, B, h => by
    have h1 : (45 : UInt8) ≠ x := fun e => h (by simp [e])
    have h2 := index_at A B (fun e => h (by simp [e]))
    have h3 : (x == (45 : UInt8)) = false := by rw [beq_eq_false_iff_ne]; exact fun e => h1 e.symm
    rw [List.cons_append, Lib.indexByte, h3, h2]
    have h4 : (((A.length : Nat) : Int) == -1) = false := by rw [beq_eq_false_iff_ne]; omega
    simp [h4]
theorem drop_mid : ∀ (A B : List UInt8) (x : UInt8), (A ++ x :: B).drop (A.length + 1) = B
  | [], _, _ => rfl
  | _ :: A, B, x => by rw [List.cons_append, List.length_cons, List.drop_succ_cons]; exact drop_mid A B x
theorem jumpText_list {a b o : Int} {l : Ln} (h : l ∈ linesOf a b o) : (jumpText a b o l).data.toList = (holeName a b o l.f).data.toList ++ 45 :: (holeName a b o l.t).data.toList := by
  simp [jumpText, isLn_of h]
theorem line_holes {a b o : Int} {l : Ln} (h : l ∈ linesOf a b o) : hasHole a b o l.f = true ∧ hasHole a b o l.t = true := by
  obtain ⟨h1, h2, _, h4⟩ := linesOf_tb h
  obtain ⟨hok, h5, h6, h7⟩ := linesOf_in h
  have h8 := hok
  unfold LnOk at h8
  simp only [hasHole, h1, h2, h4, Bool.and_true, Bool.true_and]
  exact ⟨inR_iff.2 (by omega), inR_iff.2 (by omega)⟩
theorem readJump_miss {a b o : Int} {s : ByteArray} (h : Lib.indexByte s.data.toList 45 = -1) : readJump a b o s = none := by
  unfold readJump
  rw [List.find?_eq_none]
  intro l hl
  simp only [decide_eq_true_eq]
  intro e
  have := index_at _ (holeName a b o l.t).data.toList (name_no45 (line_holes hl).1)
  rw [← jumpText_list hl, e, h] at this
  omega
theorem readJump_hit {a b o : Int} {s fr to_ : ByteArray} {i : Nat} (h : Lib.indexByte s.data.toList 45 = i) (hf : fr.data.toList = s.data.toList.take i) (ht : to_.data.toList = s.data.toList.drop (i + 1)) :
    readJump a b o s = lineBetween a b o (named a b o fr) (named a b o to_) := by
  unfold readJump lineBetween
  have hs := (Lib.indexByte_some h).1
  have hsp : s.data.toList = fr.data.toList ++ 45 :: to_.data.toList := by
    obtain ⟨hlt, hg⟩ := List.getElem?_eq_some_iff.1 hs
    rw [hf, ht, ← hg, ← List.drop_eq_getElem_cons hlt, List.take_append_drop]
  have key : ∀ l ∈ linesOf a b o, decide (jumpText a b o l = s) = isBetween (named a b o fr) (named a b o to_) l := by
    intro l hl
    obtain ⟨l1, l2⟩ := line_holes hl
    have b1 := hasHole_bd l1
    have b2 := hasHole_bd l2
    rw [Bool.eq_iff_iff]
    simp only [decide_eq_true_eq, isBetween, Bool.and_eq_true, beq_iff_eq]
    constructor
    · intro e
      have e1 := jumpText_list hl
      rw [e] at e1
      have e2 := index_at _ (holeName a b o l.t).data.toList (name_no45 l1)
      rw [← e1, h] at e2
      have e3 : i = (holeName a b o l.f).data.toList.length := by omega
      have f1 : holeName a b o l.f = fr := ba_ext (by rw [hf, e1, e3]; simp)
      have f2 : holeName a b o l.t = to_ := ba_ext (by rw [ht, e1, e3]; exact (drop_mid _ _ _).symm)
      rw [← f1, ← f2, named_name l1, named_name l2]
      exact ⟨rfl, rfl⟩
    · rintro ⟨e1, e2⟩
      have f1 := named_back (a := a) (b := b) (o := o) (n := fr) (by omega)
      have f2 := named_back (a := a) (b := b) (o := o) (n := to_) (by omega)
      rw [← e1] at f1
      rw [← e2] at f2
      exact ba_ext (by rw [jumpText_list hl, f1, f2, hsp])
  have fc : ∀ (L : List Ln), (∀ l ∈ L, decide (jumpText a b o l = s) = isBetween (named a b o fr) (named a b o to_) l) → (L.find? fun l => decide (jumpText a b o l = s)) = L.find? (isBetween (named a b o fr) (named a b o to_)) := by
    intro L
    induction L with
    | nil => intro _; rfl
    | cons x L ih =>
      intro h
      rw [List.find?_cons, List.find?_cons, h x (by simp), ih (fun l hl => h l (by simp [hl]))]
  exact fc _ key
end Peg
namespace Go.Proofs.YtkaojpcpfbbicaaDoor
open Go.ChangeShapes Go.WideShapes Go.ChangeAt Go.RowKit Peg Go.Sort
set_option maxHeartbeats 1000000 in
set_option maxRecDepth 100000 in
theorem cut_miss (s : ByteArray) (hs : s.size ≤ 1048576) (h : Lib.indexByte s.data.toList 45 = -1) (w : World) :
    Calls Tryd.prog 50 #[.string s, .string ⟨#[45]⟩] w fun e w' => e = .returned (.tuple #[.string s, .string ⟨#[]⟩, .bool false]) ∧ Below w.heap.size w w' := by
  have HX : Hid (∀ W, Calls Tryd.prog 86 #[.string s, .string ⟨#[45]⟩] W fun e w' => e = .returned (.int .i64 (-1)) ∧ w' = W) := fun W => by
    have := Any.stringslite_Index_one Tryd.sl219 s 45 W
    rwa [h] at this
  have HC : Hid (∀ W, Calls Tryd.prog 71 #[.string s, .string ⟨#[45]⟩] W fun e w' => e = .returned (.tuple #[.string s, .string ⟨#[]⟩, .bool false]) ∧ w' = W) := fun W => by
    clear h
    go_enter Tryd.func71, Tryd.ntmps71
    go_wp2_with (go_at_call 86; refine (HX.out _).mono ?_; rintro e w' ⟨rfl, rfl⟩)
    all_goals ((try simp only [Exit.inBlock, Exit.then]); refine bodyPost_ret (v := .tuple #[.string s, .string ⟨#[]⟩, .bool false]) (by simp [results, Tryd.results71, go_sem, *]) rfl ⟨rfl, by (repeat' first | (with_reducible exact Below.refl _ _) | (with_reducible refine Below.alloc ?_ ?_ _) | (with_reducible refine Below.drew ?_) | (with_reducible refine Below.setCell ?_ ?_ _) | (with_reducible refine below_via (by assumption) ?_ ?_) | go_size)⟩)
  clear h HX
  go_enter Tryd.func50, Tryd.ntmps50
  go_wp2_with (go_at_call 71; refine (HC.out _).mono ?_; rintro e w' ⟨rfl, rfl⟩)
  all_goals ((try simp only [Exit.inBlock, Exit.then]); refine bodyPost_ret (v := .tuple #[.string s, .string ⟨#[]⟩, .bool false]) (by simp [results, Tryd.results50, go_sem, *]) rfl ⟨rfl, by (repeat' first | (with_reducible exact Below.refl _ _) | (with_reducible refine Below.alloc ?_ ?_ _) | (with_reducible refine Below.drew ?_) | (with_reducible refine Below.setCell ?_ ?_ _) | (with_reducible refine below_via (by assumption) ?_ ?_) | go_size)⟩)
set_option maxHeartbeats 1000000 in
set_option maxRecDepth 100000 in
theorem cut_hit (s : ByteArray) (hs : s.size ≤ 1048576) (i : Nat) (h : Lib.indexByte s.data.toList 45 = i) (hi : i < s.size) (w : World) :
    Calls Tryd.prog 50 #[.string s, .string ⟨#[45]⟩] w fun e w' => e = .returned (.tuple #[.string (s.extract 0 i), .string (s.extract (i + 1) s.size), .bool true]) ∧ Below w.heap.size w w' := by
  have HX : Hid (∀ W, Calls Tryd.prog 86 #[.string s, .string ⟨#[45]⟩] W fun e w' => e = .returned (.int .i64 i) ∧ w' = W) := fun W => by
    have := Any.stringslite_Index_one Tryd.sl219 s 45 W
    rwa [h] at this
  have hi0 : (0 : Int) ≤ (i : Int) := by omega
  have hi1 : (i : Int) ≤ (s.size : Int) := by omega
  have hi2 : (0 : Int) ≤ (i : Int) + 1 := by omega
  have hi3 : (i : Int) + 1 ≤ (s.size : Int) := by omega
  have HC : Hid (∀ W, Calls Tryd.prog 71 #[.string s, .string ⟨#[45]⟩] W fun e w' => e = .returned (.tuple #[.string (s.extract 0 i), .string (s.extract (i + 1) s.size), .bool true]) ∧ Below W.heap.size W w') := fun W => by
    clear h
    go_enter Tryd.func71, Tryd.ntmps71
    go_wp2_with (first | (go_at_call 86; refine (HX.out _).mono ?_; rintro e w' ⟨rfl, rfl⟩) | ((with_reducible refine wp_region_qb ?_ ?_ (fun hq => ?_)); (focus kernel_rfl); (focus kernel_rfl); (repeat (go_big_quiet_step (fail))); refine wpQuiet_nil ?_; intro wq hb))
    all_goals ((try simp only [Exit.inBlock, Exit.then]); refine bodyPost_ret (v := .tuple #[.string (s.extract 0 i), .string (s.extract (i + 1) s.size), .bool true]) (by simp [results, Tryd.results71, go_sem, *]) rfl ⟨rfl, by (repeat' first | (with_reducible exact Below.refl _ _) | (with_reducible refine Below.alloc ?_ ?_ _) | (with_reducible refine Below.drew ?_) | (with_reducible refine Below.setCell ?_ ?_ _) | (with_reducible refine below_via (by assumption) ?_ ?_) | go_size)⟩)
  clear h HX
  go_enter Tryd.func50, Tryd.ntmps50
  go_wp2_with (go_at_call 71; refine (HC.out _).mono ?_; rintro e w' ⟨rfl, hb⟩; obtain ⟨hc, hf, hz, hy⟩ := bcell hb; clear hy; (try simp only [World.size_alloc, World.size_setCell, World.size_drew] at hz); (try have gQ0 : w.heap.size < w'.heap.size := by omega); (try have gQ1 : w.heap.size + 1 < w'.heap.size := by omega); (try have gQ2 : w.heap.size + 1 + 1 < w'.heap.size := by omega); (try have gQ3 : w.heap.size + 1 + 1 + 1 < w'.heap.size := by omega); (try have gQ4 : w.heap.size + 1 + 1 + 1 + 1 < w'.heap.size := by omega); (try have gQ5 : w.heap.size + 1 + 1 + 1 + 1 + 1 < w'.heap.size := by omega); (try have dQ0 : _ < w'.heap.size := Nat.lt_of_lt_of_le dQ0 (by omega)); (try have dQ1 : _ < w'.heap.size := Nat.lt_of_lt_of_le dQ1 (by omega)); (try have dQ2 : _ < w'.heap.size := Nat.lt_of_lt_of_le dQ2 (by omega)); (try have dQ3 : _ < w'.heap.size := Nat.lt_of_lt_of_le dQ3 (by omega)); (try have dQ4 : _ < w'.heap.size := Nat.lt_of_lt_of_le dQ4 (by omega)); (try have dQ5 : _ < w'.heap.size := Nat.lt_of_lt_of_le dQ5 (by omega)); (try (have hnQ := Nat.lt_of_succ_le hz; first | (have _x := dQ0; first | (have _x := dQ1; first | (have _x := dQ2; first | (have _x := dQ3; first | (have _x := dQ4; have dQ5 := hnQ) | have dQ4 := hnQ) | have dQ3 := hnQ) | have dQ2 := hnQ) | have dQ1 := hnQ) | have dQ0 := hnQ)); (try (have hmQ := Nat.lt_of_succ_lt (Nat.lt_of_succ_le hz); first | (have _x := dQ0; first | (have _x := dQ1; first | (have _x := dQ2; first | (have _x := dQ3; first | (have _x := dQ4; have dQ5 := hmQ) | have dQ4 := hmQ) | have dQ3 := hmQ) | have dQ2 := hmQ) | have dQ1 := hmQ) | have dQ0 := hmQ)))
  all_goals ((try simp only [Exit.inBlock, Exit.then]); refine bodyPost_ret (v := .tuple #[.string (s.extract 0 i), .string (s.extract (i + 1) s.size), .bool true]) (by simp [results, Tryd.results50, go_sem, *]) rfl ⟨rfl, by (repeat' first | (with_reducible exact Below.refl _ _) | (with_reducible refine Below.alloc ?_ ?_ _) | (with_reducible refine Below.drew ?_) | (with_reducible refine Below.setCell ?_ ?_ _) | (with_reducible refine below_via (by assumption) ?_ ?_) | go_size)⟩)
end Go.Proofs.YtkaojpcpfbbicaaDoor
namespace Peg
theorem str_ne {x y : ByteArray} (h : x ≠ y) : (x.toList == y.toList) = false := by
  rw [beq_eq_false_iff_ne]
  intro e
  rw [Go.Lib.toList_data, Go.Lib.toList_data] at e
  exact h (ba_ext e)
end Peg
namespace Go.Proofs.YtkaojpcpfbbicaaDoor
open Go.ChangeShapes Go.WideShapes Go.ChangeAt Go.RowKit Peg Go.Sort
set_option maxHeartbeats 1000000 in
set_option maxRecDepth 100000 in
theorem holeNamed_any (a b o : Int) (n : ByteArray) (w : World) :
    Calls Tryd.prog 52 #[.agg #[.int .i64 a, .int .i64 b, .int .i64 o], .string n] w fun e w' => e = .returned (.int .i64 (named a b o n)) ∧ Below w.heap.size w w' := by
  have HHO := Lib.hid (HolesOf_any a b o)
  have HHN : Hid (∀ k W, Calls Tryd.prog 48 #[.agg #[.int .i64 a, .int .i64 b, .int .i64 o], .int .i64 k] W fun e w' => e = .returned (.string (holeName a b o k)) ∧ Below W.heap.size W w') := fun k W => HoleName_any a b o k W
  have HF : Hid (named a b o n = ((holesOf a b o).find? fun k => decide (holeName a b o k = n)).getD (-1)) := rfl
  have hl49 := holesOf_length a b o
  generalize holeName a b o = nm at *
  generalize holesOf a b o = L at *
  go_enter Tryd.func52, Tryd.ntmps52
  go_wp2_with fail
  refine (HHO.out _).mono ?_
  rintro e w' ⟨vL, rfl, hownL, hb⟩
  obtain ⟨hc, hf, hz, hy⟩ := bcell hb; clear hy; (try simp only [World.size_alloc, World.size_setCell, World.size_drew] at hz); (try have gQ0 : w.heap.size < w'.heap.size := by omega); (try have gQ1 : w.heap.size + 1 < w'.heap.size := by omega); (try have gQ2 : w.heap.size + 1 + 1 < w'.heap.size := by omega); (try have gQ3 : w.heap.size + 1 + 1 + 1 < w'.heap.size := by omega); (try have gQ4 : w.heap.size + 1 + 1 + 1 + 1 < w'.heap.size := by omega); (try have gQ5 : w.heap.size + 1 + 1 + 1 + 1 + 1 < w'.heap.size := by omega); (try have dQ0 : _ < w'.heap.size := Nat.lt_of_lt_of_le dQ0 (by omega)); (try have dQ1 : _ < w'.heap.size := Nat.lt_of_lt_of_le dQ1 (by omega)); (try have dQ2 : _ < w'.heap.size := Nat.lt_of_lt_of_le dQ2 (by omega)); (try have dQ3 : _ < w'.heap.size := Nat.lt_of_lt_of_le dQ3 (by omega)); (try have dQ4 : _ < w'.heap.size := Nat.lt_of_lt_of_le dQ4 (by omega)); (try have dQ5 : _ < w'.heap.size := Nat.lt_of_lt_of_le dQ5 (by omega)); (try (have hnQ := Nat.lt_of_succ_le hz; first | (have _x := dQ0; first | (have _x := dQ1; first | (have _x := dQ2; first | (have _x := dQ3; first | (have _x := dQ4; have dQ5 := hnQ) | have dQ4 := hnQ) | have dQ3 := hnQ) | have dQ2 := hnQ) | have dQ1 := hnQ) | have dQ0 := hnQ)); (try (have hmQ := Nat.lt_of_succ_lt (Nat.lt_of_succ_le hz); first | (have _x := dQ0; first | (have _x := dQ1; first | (have _x := dQ2; first | (have _x := dQ3; first | (have _x := dQ4; have dQ5 := hmQ) | have dQ4 := hmQ) | have dQ3 := hmQ) | have dQ2 := hmQ) | have dQ1 := hmQ) | have dQ0 := hmQ))
  obtain ⟨w3, rfl⟩ : ∃ w3 : World, w3 = w' := ⟨_, rfl⟩
  have HW3 := Lib.hid (show Below w.heap.size w w3 by (repeat' first | (with_reducible exact Below.refl _ _) | (with_reducible refine Below.alloc ?_ ?_ _) | (with_reducible refine Below.drew ?_) | (with_reducible refine Below.setCell ?_ ?_ _) | (with_reducible refine below_via (by assumption) ?_ ?_) | go_size))
  have hbox0 : ∀ j, w3.cell? ⟨w.heap.size, j, none⟩ = #[Value.int .i64 a, .int .i64 b, .int .i64 o][j]? := fun j => by rw [hc _ _ (by simp)]; simp
  obtain ⟨aL, capL, rfl, hnL, hgetL⟩ := hownL.intG
  have HGL := Lib.hid hgetL
  clear hgetL hownL hc hf
  go_wp2_with fail
  go_loopw [10] (fun i wr => ∃ k : Nat, k ≤ L.length ∧ i = .int .i64 k ∧ Hid ((L.take k).find? (fun k => decide (nm k = n)) = none) ∧ Below w3.heap.size w3 wr) (fun i _ => L.length - (intOf i).toNat)
  case atStart => exact ⟨0, by omega, rfl, by show _ = _; simp, Below.refl _ _⟩
  case round =>
    obtain ⟨k, hk, rfl, hno, hbw⟩ := hrel
    have hz5 := hbw.size
    have hbox : ∀ j, wr.cell? ⟨w.heap.size, j, none⟩ = #[Value.int .i64 a, .int .i64 b, .int .i64 o][j]? := fun j => (hbw.cell (by simp; omega)).trans (hbox0 j)
    have gW0 : w.heap.size < wr.heap.size := by omega
    by_cases hlt : k < L.length
    · obtain ⟨bL, rfl, _, hbL, hc0⟩ := HGL.out k hlt
      rw [← hbw.cell (by simpa using hbL)] at hc0
      have HY := Lib.hid (find_take_yes (fun k => decide (nm k = n)) L 0 k hlt hno.out)
      have HN := Lib.hid (find_take_no (fun k => decide (nm k = n)) L 0 k hlt hno.out)
      have HC := Lib.hid (HHN.out (gD L 0 k))
      generalize gD L 0 k = q at *
      have gW1 : bL < wr.heap.size := by omega
      by_cases hq : nm q = n
      · have HR : Hid (named a b o n = q) := by show _ = _; rw [HF.out, HY.out (by simpa using hq)]; rfl
        rw [hq] at HC
        clear HY HN
        go_wp2_with (go_at_call 48; refine (HC.out _).mono ?_; rintro e w' ⟨rfl, hb⟩; obtain ⟨hc, hf, hz, hy⟩ := bcell hb; clear hy; (try simp only [World.size_alloc, World.size_setCell, World.size_drew] at hz); (try have gQ0 : w.heap.size < w'.heap.size := by omega); (try have gQ1 : w.heap.size + 1 < w'.heap.size := by omega); (try have gQ2 : w.heap.size + 1 + 1 < w'.heap.size := by omega); (try have gQ3 : w.heap.size + 1 + 1 + 1 < w'.heap.size := by omega); (try have gQ4 : w.heap.size + 1 + 1 + 1 + 1 < w'.heap.size := by omega); (try have gQ5 : w.heap.size + 1 + 1 + 1 + 1 + 1 < w'.heap.size := by omega); (try have dQ0 : _ < w'.heap.size := Nat.lt_of_lt_of_le dQ0 (by omega)); (try have dQ1 : _ < w'.heap.size := Nat.lt_of_lt_of_le dQ1 (by omega)); (try have dQ2 : _ < w'.heap.size := Nat.lt_of_lt_of_le dQ2 (by omega)); (try have dQ3 : _ < w'.heap.size := Nat.lt_of_lt_of_le dQ3 (by omega)); (try have dQ4 : _ < w'.heap.size := Nat.lt_of_lt_of_le dQ4 (by omega)); (try have dQ5 : _ < w'.heap.size := Nat.lt_of_lt_of_le dQ5 (by omega)); (try (have hnQ := Nat.lt_of_succ_le hz; first | (have _x := dQ0; first | (have _x := dQ1; first | (have _x := dQ2; first | (have _x := dQ3; first | (have _x := dQ4; have dQ5 := hnQ) | have dQ4 := hnQ) | have dQ3 := hnQ) | have dQ2 := hnQ) | have dQ1 := hnQ) | have dQ0 := hnQ)); (try (have hmQ := Nat.lt_of_succ_lt (Nat.lt_of_succ_le hz); first | (have _x := dQ0; first | (have _x := dQ1; first | (have _x := dQ2; first | (have _x := dQ3; first | (have _x := dQ4; have dQ5 := hmQ) | have dQ4 := hmQ) | have dQ3 := hmQ) | have dQ2 := hmQ) | have dQ1 := hmQ) | have dQ0 := hmQ)))
        all_goals go_ret
        all_goals exact ⟨by rw [HR.out]; rfl, by have := HW3.out; (repeat' first | (with_reducible exact Below.refl _ _) | (with_reducible refine Below.alloc ?_ ?_ _) | (with_reducible refine Below.drew ?_) | (with_reducible refine Below.setCell ?_ ?_ _) | (with_reducible refine below_via (by assumption) ?_ ?_) | go_size)⟩
      · have HR := Lib.hid (HN.out (by simpa using hq))
        have hne := str_ne hq
        clear HY HN
        go_wp2_with (go_at_call 48; refine (HC.out _).mono ?_; rintro e w' ⟨rfl, hb⟩; obtain ⟨hc, hf, hz, hy⟩ := bcell hb; clear hy; (try simp only [World.size_alloc, World.size_setCell, World.size_drew] at hz); (try have gQ0 : w.heap.size < w'.heap.size := by omega); (try have gQ1 : w.heap.size + 1 < w'.heap.size := by omega); (try have gQ2 : w.heap.size + 1 + 1 < w'.heap.size := by omega); (try have gQ3 : w.heap.size + 1 + 1 + 1 < w'.heap.size := by omega); (try have gQ4 : w.heap.size + 1 + 1 + 1 + 1 < w'.heap.size := by omega); (try have gQ5 : w.heap.size + 1 + 1 + 1 + 1 + 1 < w'.heap.size := by omega); (try have dQ0 : _ < w'.heap.size := Nat.lt_of_lt_of_le dQ0 (by omega)); (try have dQ1 : _ < w'.heap.size := Nat.lt_of_lt_of_le dQ1 (by omega)); (try have dQ2 : _ < w'.heap.size := Nat.lt_of_lt_of_le dQ2 (by omega)); (try have dQ3 : _ < w'.heap.size := Nat.lt_of_lt_of_le dQ3 (by omega)); (try have dQ4 : _ < w'.heap.size := Nat.lt_of_lt_of_le dQ4 (by omega)); (try have dQ5 : _ < w'.heap.size := Nat.lt_of_lt_of_le dQ5 (by omega)); (try (have hnQ := Nat.lt_of_succ_le hz; first | (have _x := dQ0; first | (have _x := dQ1; first | (have _x := dQ2; first | (have _x := dQ3; first | (have _x := dQ4; have dQ5 := hnQ) | have dQ4 := hnQ) | have dQ3 := hnQ) | have dQ2 := hnQ) | have dQ1 := hnQ) | have dQ0 := hnQ)); (try (have hmQ := Nat.lt_of_succ_lt (Nat.lt_of_succ_le hz); first | (have _x := dQ0; first | (have _x := dQ1; first | (have _x := dQ2; first | (have _x := dQ3; first | (have _x := dQ4; have dQ5 := hmQ) | have dQ4 := hmQ) | have dQ3 := hmQ) | have dQ2 := hmQ) | have dQ1 := hmQ) | have dQ0 := hmQ)))
        all_goals go_roundw
        case rel => exact ⟨k + 1, by omega, by go_num, HR, by (repeat' first | (with_reducible exact Below.refl _ _) | (with_reducible refine Below.alloc ?_ ?_ _) | (with_reducible refine Below.drew ?_) | (with_reducible refine Below.setCell ?_ ?_ _) | (with_reducible refine below_via (by assumption) ?_ ?_) | go_size)⟩
        case measure => simp [intOf]; omega
    · obtain rfl : k = L.length := by omega
      have HR : Hid (named a b o n = -1) := by
        show _ = _
        rw [HF.out]
        have := hno.out
        rw [List.take_length] at this
        rw [this]; rfl
      go_wp2_with fail
      all_goals go_ret
      all_goals exact ⟨by rw [HR.out]; rfl, by have := HW3.out; (repeat' first | (with_reducible exact Below.refl _ _) | (with_reducible refine Below.alloc ?_ ?_ _) | (with_reducible refine Below.drew ?_) | (with_reducible refine Below.setCell ?_ ?_ _) | (with_reducible refine below_via (by assumption) ?_ ?_) | go_size)⟩
set_option maxHeartbeats 2000000 in
set_option maxRecDepth 100000 in
theorem ReadJump_any (a b o : Int) (s : ByteArray) (hs : s.size ≤ 1048576) (w : World) :
    Calls Tryd.prog 22 #[.agg #[.int .i64 a, .int .i64 b, .int .i64 o], .string s] w fun e w' => e = .returned (optLn (readJump a b o s)) ∧ Below w.heap.size w w' := by
  by_cases hm : Lib.indexByte s.data.toList 45 = -1
  · have HR : Hid (readJump a b o s = none) := by show _ = _; exact readJump_miss hm
    have HC := Lib.hid (cut_miss s hs hm)
    clear hm
    go_enter Tryd.func22, Tryd.ntmps22
    go_wp2_with (go_at_call 50; refine (HC.out _).mono ?_; rintro e w' ⟨rfl, hb⟩; obtain ⟨hc, hf, hz, hy⟩ := bcell hb; clear hy; (try simp only [World.size_alloc, World.size_setCell, World.size_drew] at hz); (try have gQ0 : w.heap.size < w'.heap.size := by omega); (try have gQ1 : w.heap.size + 1 < w'.heap.size := by omega); (try have gQ2 : w.heap.size + 1 + 1 < w'.heap.size := by omega); (try have gQ3 : w.heap.size + 1 + 1 + 1 < w'.heap.size := by omega); (try have gQ4 : w.heap.size + 1 + 1 + 1 + 1 < w'.heap.size := by omega); (try have gQ5 : w.heap.size + 1 + 1 + 1 + 1 + 1 < w'.heap.size := by omega); (try have dQ0 : _ < w'.heap.size := Nat.lt_of_lt_of_le dQ0 (by omega)); (try have dQ1 : _ < w'.heap.size := Nat.lt_of_lt_of_le dQ1 (by omega)); (try have dQ2 : _ < w'.heap.size := Nat.lt_of_lt_of_le dQ2 (by omega)); (try have dQ3 : _ < w'.heap.size := Nat.lt_of_lt_of_le dQ3 (by omega)); (try have dQ4 : _ < w'.heap.size := Nat.lt_of_lt_of_le dQ4 (by omega)); (try have dQ5 : _ < w'.heap.size := Nat.lt_of_lt_of_le dQ5 (by omega)); (try (have hnQ := Nat.lt_of_succ_le hz; first | (have _x := dQ0; first | (have _x := dQ1; first | (have _x := dQ2; first | (have _x := dQ3; first | (have _x := dQ4; have dQ5 := hnQ) | have dQ4 := hnQ) | have dQ3 := hnQ) | have dQ2 := hnQ) | have dQ1 := hnQ) | have dQ0 := hnQ)); (try (have hmQ := Nat.lt_of_succ_lt (Nat.lt_of_succ_le hz); first | (have _x := dQ0; first | (have _x := dQ1; first | (have _x := dQ2; first | (have _x := dQ3; first | (have _x := dQ4; have dQ5 := hmQ) | have dQ4 := hmQ) | have dQ3 := hmQ) | have dQ2 := hmQ) | have dQ1 := hmQ) | have dQ0 := hmQ)); (try have sQ00 : (w'.cell? ⟨w.heap.size, 0, none⟩).isSome = true := by simp [go_sem, *]); (try have sQ01 : (w'.cell? ⟨w.heap.size, 1, none⟩).isSome = true := by simp [go_sem, *]); (try have sQ02 : (w'.cell? ⟨w.heap.size, 2, none⟩).isSome = true := by simp [go_sem, *]); (try have sQ03 : (w'.cell? ⟨w.heap.size, 3, none⟩).isSome = true := by simp [go_sem, *]); (try have sQ04 : (w'.cell? ⟨w.heap.size, 4, none⟩).isSome = true := by simp [go_sem, *]); (try have sQ10 : (w'.cell? ⟨w.heap.size + 1, 0, none⟩).isSome = true := by simp [go_sem, *]); (try have sQ11 : (w'.cell? ⟨w.heap.size + 1, 1, none⟩).isSome = true := by simp [go_sem, *]); (try have sQ12 : (w'.cell? ⟨w.heap.size + 1, 2, none⟩).isSome = true := by simp [go_sem, *]); (try have sQ13 : (w'.cell? ⟨w.heap.size + 1, 3, none⟩).isSome = true := by simp [go_sem, *]); (try have sQ14 : (w'.cell? ⟨w.heap.size + 1, 4, none⟩).isSome = true := by simp [go_sem, *]); (try have sQ20 : (w'.cell? ⟨w.heap.size + 1 + 1, 0, none⟩).isSome = true := by simp [go_sem, *]); (try have sQ21 : (w'.cell? ⟨w.heap.size + 1 + 1, 1, none⟩).isSome = true := by simp [go_sem, *]); (try have sQ22 : (w'.cell? ⟨w.heap.size + 1 + 1, 2, none⟩).isSome = true := by simp [go_sem, *]); (try have sQ23 : (w'.cell? ⟨w.heap.size + 1 + 1, 3, none⟩).isSome = true := by simp [go_sem, *]); (try have sQ24 : (w'.cell? ⟨w.heap.size + 1 + 1, 4, none⟩).isSome = true := by simp [go_sem, *]); (try have fQ0 : ∀ j, w'.frozen? ⟨w.heap.size, j, none⟩ = false := by intro j; simp [go_sem, *]); (try have fQ1 : ∀ j, w'.frozen? ⟨w.heap.size + 1, j, none⟩ = false := by intro j; simp [go_sem, *]); (try have fQ2 : ∀ j, w'.frozen? ⟨w.heap.size + 1 + 1, j, none⟩ = false := by intro j; simp [go_sem, *]))
    all_goals ((try simp only [Exit.inBlock, Exit.then]); refine bodyPost_ret (v := .tuple #[.agg #[.int .i64 0, .int .i64 0, .int .i64 0], .bool false]) (by simp [results, Tryd.results22, go_sem, *]) rfl ⟨by rw [HR.out]; rfl, by (repeat' first | (with_reducible exact Below.refl _ _) | (with_reducible refine Below.alloc ?_ ?_ _) | (with_reducible refine Below.drew ?_) | (with_reducible refine Below.setCell ?_ ?_ _) | (with_reducible refine below_via (by assumption) ?_ ?_) | go_size)⟩)
  obtain ⟨i, hi⟩ : ∃ i : Nat, Lib.indexByte s.data.toList 45 = i := ⟨(Lib.indexByte s.data.toList 45).toNat, by have := Lib.indexByte_ge s.data.toList 45; omega⟩
  have hlt : i < s.size := by
    obtain ⟨h, _⟩ := List.getElem?_eq_some_iff.1 (Lib.indexByte_some hi).1
    rw [Array.length_toList] at h
    exact h
  have HR : Hid (readJump a b o s = lineBetween a b o (named a b o (s.extract 0 i)) (named a b o (s.extract (i + 1) s.size))) := by
    show _ = _
    exact readJump_hit hi (by simp [ByteArray.data_extract]) (by
      rw [ByteArray.data_extract, Array.toList_extract]
      show ((s.data.toList.drop (i + 1)).take (s.size - (i + 1))) = _
      exact List.take_of_length_le (by rw [List.length_drop, Array.length_toList]; exact Nat.le_refl _))
  have HC := Lib.hid (cut_hit s hs i hi hlt)
  clear hm hi
  have HN : Hid (∀ n W, Calls Tryd.prog 52 #[.agg #[.int .i64 a, .int .i64 b, .int .i64 o], .string n] W fun e w' => e = .returned (.int .i64 (named a b o n)) ∧ Below W.heap.size W w') := fun n W => holeNamed_any a b o n W
  have HL : Hid (∀ f t W, Calls Tryd.prog 51 #[.agg #[.int .i64 a, .int .i64 b, .int .i64 o], .int .i64 f, .int .i64 t] W fun e w' => e = .returned (optLn (lineBetween a b o f t)) ∧ Below W.heap.size W w') := fun f t W => LineBetween_any a b o f t W
  generalize s.extract 0 i = fr at *
  generalize s.extract (i + 1) s.size = tx at *
  generalize named a b o = nm at *
  generalize lineBetween a b o = lb at *
  have HRV : Hid (optLn (readJump a b o s) = .tuple #[.agg #[.int .i64 ((lb (nm fr) (nm tx)).getD Ln0).f, .int .i64 ((lb (nm fr) (nm tx)).getD Ln0).o, .int .i64 ((lb (nm fr) (nm tx)).getD Ln0).t], .bool (lb (nm fr) (nm tx)).isSome]) := by show _ = _; rw [HR.out]; rfl
  simp only [optLn] at HL
  go_enter Tryd.func22, Tryd.ntmps22
  go_wp2_with (go_at_call 50; refine (HC.out _).mono ?_; rintro e w5 ⟨rfl, hb⟩)
  have hz5 := hb.size
  simp only [World.size_alloc] at hz5
  have g0 : w.heap.size < w5.heap.size := by omega
  have g1 : w.heap.size + 1 < w5.heap.size := by omega
  have hbA : Below w.heap.size w w5 := (((Below.refl _ _).alloc (Nat.le_refl _) _).alloc (by simp) _).trans (hb.mono (by simp; omega))
  have hbx : ∀ j, w5.cell? ⟨w.heap.size, j, none⟩ = #[Value.int .i64 a, .int .i64 b, .int .i64 o][j]? := fun j => (hb.cell (by simp; omega)).trans (by simp [go_sem])
  have hrx : ∀ j, w5.cell? ⟨w.heap.size + 1, j, none⟩ = #[Value.int .i64 0, .int .i64 0, .int .i64 0][j]? := fun j => (hb.cell (by simp)).trans (by simp [go_sem])
  have hrf : ∀ j, w5.frozen? ⟨w.heap.size + 1, j, none⟩ = false := fun j => (hb.frozen (by simp)).trans (by simp [go_sem])
  have gg := g1
  have p0 := hbx 0
  have p1 := hbx 1
  have p2 := hbx 2
  have z0 := hrx 0
  have z1 := hrx 1
  have z2 := hrx 2
  have f0 := hrf 0
  have f1 := hrf 1
  have f2 := hrf 2
  simp only [List.getElem?_toArray, List.getElem?_cons_zero, List.getElem?_cons_succ] at p0 p1 p2 z0 z1 z2
  clear hb HR HC hbx hrx hrf
  go_wp2_with fail
  go_cut [5] (fun u wx => u = .bool (lb (nm fr) (nm tx)).isSome ∧ w.heap.size + 1 < wx.heap.size ∧ wx.cell? ⟨w.heap.size + 1, 0, none⟩ = some (.int .i64 ((lb (nm fr) (nm tx)).getD Ln0).f) ∧ wx.cell? ⟨w.heap.size + 1, 1, none⟩ = some (.int .i64 ((lb (nm fr) (nm tx)).getD Ln0).o) ∧ wx.cell? ⟨w.heap.size + 1, 2, none⟩ = some (.int .i64 ((lb (nm fr) (nm tx)).getD Ln0).t) ∧ Below w.heap.size w wx)
  case first =>
    go_region_with (first | (go_at_call 52; refine (HN.out _ _).mono ?_; rintro e' w' ⟨rfl, hb⟩; (have gg' := gg); (have g0' := g0); (have gg := Nat.lt_of_lt_of_le gg hb.size); (have g0 := Nat.lt_of_lt_of_le g0 hb.size); (have p0 := (hb.cell (p := ⟨w.heap.size, 0, none⟩) g0').trans p0); (have p1 := (hb.cell (p := ⟨w.heap.size, 1, none⟩) g0').trans p1); (have p2 := (hb.cell (p := ⟨w.heap.size, 2, none⟩) g0').trans p2); (have z0 := (hb.cell (p := ⟨w.heap.size + 1, 0, none⟩) gg').trans z0); (have z1 := (hb.cell (p := ⟨w.heap.size + 1, 1, none⟩) gg').trans z1); (have z2 := (hb.cell (p := ⟨w.heap.size + 1, 2, none⟩) gg').trans z2); (have f0 := (hb.frozen (p := ⟨w.heap.size + 1, 0, none⟩) gg').trans f0); (have f1 := (hb.frozen (p := ⟨w.heap.size + 1, 1, none⟩) gg').trans f1); (have f2 := (hb.frozen (p := ⟨w.heap.size + 1, 2, none⟩) gg').trans f2)) | (go_at_call 51; refine (HL.out _ _ _).mono ?_; rintro e' w' ⟨rfl, hb⟩; (have gg' := gg); (have g0' := g0); (have gg := Nat.lt_of_lt_of_le gg hb.size); (have g0 := Nat.lt_of_lt_of_le g0 hb.size); (have p0 := (hb.cell (p := ⟨w.heap.size, 0, none⟩) g0').trans p0); (have p1 := (hb.cell (p := ⟨w.heap.size, 1, none⟩) g0').trans p1); (have p2 := (hb.cell (p := ⟨w.heap.size, 2, none⟩) g0').trans p2); (have z0 := (hb.cell (p := ⟨w.heap.size + 1, 0, none⟩) gg').trans z0); (have z1 := (hb.cell (p := ⟨w.heap.size + 1, 1, none⟩) gg').trans z1); (have z2 := (hb.cell (p := ⟨w.heap.size + 1, 2, none⟩) gg').trans z2); (have f0 := (hb.frozen (p := ⟨w.heap.size + 1, 0, none⟩) gg').trans f0); (have f1 := (hb.frozen (p := ⟨w.heap.size + 1, 1, none⟩) gg').trans f1); (have f2 := (hb.frozen (p := ⟨w.heap.size + 1, 2, none⟩) gg').trans f2)))
    all_goals (go_wp2_with fail; go_meet; case rel => exact ⟨rfl, by (try simp only [World.size_alloc, World.size_setCell, World.size_drew] at *); omega, by simp (maxDischargeDepth := 7) [go_sem, *], by simp (maxDischargeDepth := 7) [go_sem, *], by simp (maxDischargeDepth := 7) [go_sem, *], by (go_split_ands; (repeat' first | (with_reducible exact Below.refl _ _) | (with_reducible refine Below.alloc ?_ ?_ _) | (with_reducible refine Below.drew ?_) | (with_reducible refine Below.setCell ?_ ?_ _) | (with_reducible refine below_via (by assumption) ?_ ?_) | (with_reducible assumption) | ((try simp only [World.size_alloc, World.size_setCell, World.size_drew] at *); omega) | go_size))⟩)
  obtain ⟨rfl, hg, r0, r1, r2, hb4⟩ := hcut
  go_wp2_with fail
  all_goals ((try simp only [Exit.inBlock, Exit.then]); refine bodyPost_ret (v := .tuple #[.agg #[.int .i64 ((lb (nm fr) (nm tx)).getD Ln0).f, .int .i64 ((lb (nm fr) (nm tx)).getD Ln0).o, .int .i64 ((lb (nm fr) (nm tx)).getD Ln0).t], .bool (lb (nm fr) (nm tx)).isSome]) (by simp [results, Tryd.results22, go_sem, *]) rfl ⟨by rw [HRV.out], by (repeat' first | (with_reducible exact Below.refl _ _) | (with_reducible refine Below.alloc ?_ ?_ _) | (with_reducible refine Below.drew ?_) | (with_reducible refine Below.setCell ?_ ?_ _) | (with_reducible refine below_via (by assumption) ?_ ?_) | go_size)⟩)
end Go.Proofs.YtkaojpcpfbbicaaDoor
namespace Peg
/-- a text cut at a byte -/
def spl (c : UInt8) : List UInt8 → List (List UInt8)
  | [] => [[]]
  | x :: s => if x = c then [] :: spl c s else match spl c s with
    | w :: r => (x :: w) :: r
    | [] => [[x]]
theorem spl_ne (c : UInt8) (s : List UInt8) : spl c s ≠ [] := by
  cases s with
  | nil => simp [spl]
  | cons x s =>
    unfold spl
    split
    · simp
    · split <;> simp
theorem spl_free {c : UInt8} : ∀ {v : List UInt8}, c ∉ v → spl c v = [v]
  | [], _ => rfl
  | x :: v, h => by
    have h1 : ¬ x = c := fun e => h (by simp [e])
    have h2 := spl_free (c := c) (v := v) (fun e => h (by simp [e]))
    simp only [spl]
    rw [if_neg h1, h2]
theorem spl_sep (c : UInt8) : ∀ (s v : List UInt8), spl c (s ++ c :: v) = spl c s ++ spl c v
  | [], v => by simp [spl]
  | x :: s, v => by
    have ih := spl_sep c s v
    rw [List.cons_append]
    simp only [spl]
    by_cases h : x = c
    · rw [if_pos h, if_pos h, ih]; rfl
    · rw [if_neg h, if_neg h, ih]
      cases hs : spl c s with
      | nil => exact absurd hs (spl_ne c s)
      | cons w r => rfl
theorem spl_app {c : UInt8} {u : List UInt8} (hu : c ∉ u) : ∀ (s : List UInt8) (A : List (List UInt8)) (w : List UInt8), spl c s = A ++ [w] → spl c (s ++ u) = A ++ [w ++ u]
  | [], A, w, h => by
    have h1 : A = [] ∧ w = [] := by
      cases A with
      | nil => simp [spl] at h; exact ⟨rfl, h⟩
      | cons x A => have := congrArg List.length h; simp [spl] at this
    rw [h1.1, h1.2]
    simpa using spl_free hu
  | x :: s, A, w, h => by
    rw [List.cons_append]
    simp only [spl] at h ⊢
    by_cases hx : x = c
    · rw [if_pos hx] at h ⊢
      cases A with
      | nil =>
        have := congrArg List.length h
        have h2 := spl_ne c s
        simp at this
        exact absurd this h2
      | cons y A =>
        rw [List.cons_append] at h
        obtain ⟨h1, h2⟩ := List.cons.inj h
        rw [spl_app hu s A w h2, ← h1]; rfl
    · rw [if_neg hx] at h ⊢
      cases hs : spl c s with
      | nil => exact absurd hs (spl_ne c s)
      | cons y r =>
        rw [hs] at h
        simp only at h
        cases A with
        | nil =>
          obtain ⟨h1, h2⟩ := List.cons.inj (show (x :: y) :: r = w :: [] from h)
          subst h2
          rw [spl_app hu s [] y (by rw [hs]; rfl), ← h1]; rfl
        | cons z A =>
          rw [List.cons_append] at h
          obtain ⟨h1, h2⟩ := List.cons.inj h
          rw [spl_app hu s (y :: A) w (by rw [hs, h2]; rfl), ← h1]; rfl
theorem take_snoc {α : Type} (l : List α) (d : α) {k : Nat} (hk : k < l.length) : l.take (k + 1) = l.take k ++ [gD l d k] := by
  rw [List.take_succ_eq_append_getElem hk]
  congr 2
  simp [gD, hk]
/-- the hole of a name, as bytes -/
def nmd (a b o : Int) (l : List UInt8) : Int := named a b o ⟨l.toArray⟩
/-- the jumps of a word -/
def wordJ (lb : List UInt8 → List UInt8 → Option Ln) : List (List UInt8) → Option (List Ln)
  | x :: y :: r => match lb x y with
    | none => none
    | some l => (wordJ lb (y :: r)).map (l :: ·)
  | _ => some []
def textJ (lb : List UInt8 → List UInt8 → Option Ln) : List (List UInt8) → Option (List Ln)
  | [] => some []
  | w :: r => (wordJ lb (spl 45 w)).bind fun A => (textJ lb r).map (A ++ ·)
theorem wordJ_two (lb : List UInt8 → List UInt8 → Option Ln) (x y : List UInt8) (r : List (List UInt8)) : wordJ lb (x :: y :: r) = match lb x y with
    | none => none
    | some l => (wordJ lb (y :: r)).map (l :: ·) := by rw [wordJ]
theorem wordJ_snoc (lb : List UInt8 → List UInt8 → Option Ln) (y : List UInt8) : ∀ (ms : List (List UInt8)) (x : List UInt8), wordJ lb (ms ++ [x] ++ [y]) = (wordJ lb (ms ++ [x])).bind fun B => (lb x y).map fun l => B ++ [l]
  | [], x => by
    simp only [List.nil_append, List.cons_append, wordJ]
    cases lb x y <;> rfl
  | [m], x => by
    have ih := wordJ_snoc lb y [] x
    simp only [List.nil_append, List.cons_append] at ih ⊢
    rw [wordJ_two lb m x [y], wordJ_two lb m x []]
    cases lb m x with
    | none => rfl
    | some l =>
      simp only [ih]
      cases wordJ lb [x] with
      | none => rfl
      | some B => cases lb x y <;> rfl
  | m :: n :: ms, x => by
    have ih := wordJ_snoc lb y (n :: ms) x
    simp only [List.cons_append] at ih ⊢
    rw [wordJ_two lb m n _, wordJ_two lb m n _]
    cases lb m n with
    | none => rfl
    | some l =>
      simp only [ih]
      cases wordJ lb (n :: (ms ++ [x])) with
      | none => rfl
      | some B => cases lb x y <;> rfl
theorem textJ_append (lb : List UInt8 → List UInt8 → Option Ln) (B : List (List UInt8)) : ∀ A, textJ lb (A ++ B) = (textJ lb A).bind fun x => (textJ lb B).map (x ++ ·)
  | [] => by simp [textJ]
  | w :: A => by
    rw [List.cons_append, textJ, textJ, textJ_append lb B A]
    cases wordJ lb (spl 45 w) with
    | none => rfl
    | some X =>
      cases textJ lb A with
      | none => rfl
      | some Y =>
        cases textJ lb B with
        | none => rfl
        | some Z => simp
theorem textJ_one (lb : List UInt8 → List UInt8 → Option Ln) (w : List UInt8) : textJ lb [w] = wordJ lb (spl 45 w) := by
  rw [textJ]
  cases wordJ lb (spl 45 w) <;> simp [textJ]
/-- the reference's reading -/
structure RSt where
  out : List Ln
  last : List UInt8
  word : List UInt8
def flushS (rj : List UInt8 → Option Ln) (st : RSt) : Option RSt :=
  if st.last ≠ [] then match rj (st.last ++ 45 :: st.word) with
    | none => none
    | some l => some ⟨st.out ++ [l], st.word, []⟩
  else some ⟨st.out, st.word, []⟩
def stepS (rj : List UInt8 → Option Ln) (st : RSt) (x : UInt8) : Option RSt :=
  if x ≠ 45 ∧ x ≠ 32 then some ⟨st.out, st.last, st.word ++ [x]⟩
  else (flushS rj st).map fun t => if x = 32 then ⟨t.out, [], t.word⟩ else t
def runS (rj : List UInt8 → Option Ln) : RSt → List UInt8 → Option RSt
  | st, [] => some st
  | st, x :: s => (stepS rj st x).bind fun t => runS rj t s
theorem runS_append (rj : List UInt8 → Option Ln) : ∀ (s v : List UInt8) (st : RSt), runS rj st (s ++ v) = (runS rj st s).bind fun t => runS rj t v
  | [], _, _ => rfl
  | x :: s, v, st => by
    rw [List.cons_append, runS, runS]
    cases stepS rj st x with
    | none => rfl
    | some t => exact runS_append rj s v t
theorem runS_free (rj : List UInt8 → Option Ln) : ∀ (v : List UInt8) (st : RSt), (45 : UInt8) ∉ v → (32 : UInt8) ∉ v → runS rj st v = some ⟨st.out, st.last, st.word ++ v⟩
  | [], st, _, _ => by simp [runS]
  | x :: v, st, h1, h2 => by
    have e1 : x ≠ 45 := fun e => h1 (by simp [e])
    have e2 : x ≠ 32 := fun e => h2 (by simp [e])
    rw [runS, stepS, if_pos ⟨e1, e2⟩]
    simp only [Option.bind_some]
    rw [runS_free rj v _ (fun e => h1 (by simp [e])) (fun e => h2 (by simp [e]))]
    simp
def readSp (rj : List UInt8 → Option Ln) (s : List UInt8) : Option (List Ln) := ((runS rj ⟨[], [], []⟩ s).bind (flushS rj)).map RSt.out
def lbB (a b o : Int) (x y : List UInt8) : Option Ln := lineBetween a b o (nmd a b o x) (nmd a b o y)
def rjB (a b o : Int) (x : List UInt8) : Option Ln := readJump a b o ⟨x.toArray⟩
def readGI (a b o : Int) (s : ByteArray) : Option (List Ln) :=
  if s.size = 0 ∨ 360 < s.size then none else match textJ (lbB a b o) (spl 32 s.data.toList) with
    | none => none
    | some L => if gameText a b o L = s then some L else none
def readGS (a b o : Int) (s : ByteArray) : Option (List Ln) :=
  match (if s.size ≤ 400 then readSp (rjB a b o) s.data.toList else some []) with
    | none => none
    | some L => if L = [] ∨ gameText a b o L ≠ s then none else some L
/-! the texts of games -/
def nl (a b o k : Int) : List UInt8 := (holeName a b o k).data.toList
theorem nl_two {a b o k : Int} (h : hasHole a b o k = true) : ∃ x y : UInt8, nl a b o k = [x, y] ∧ x ≠ 45 ∧ x ≠ 32 ∧ y ≠ 45 ∧ y ≠ 32 := by
  have key : ∀ j, j < 7 → UInt8.ofNat (97 + j) ≠ 45 ∧ UInt8.ofNat (97 + j) ≠ 32 := by decide
  have key2 : ∀ j, j < 10 → UInt8.ofNat (48 + j) ≠ 45 ∧ UInt8.ofNat (48 + j) ≠ 32 := by decide
  have d := hole_dm h
  obtain ⟨h1, h2, h3, _⟩ := hasHole_bd h
  obtain ⟨s1, s2⟩ := boardOk_sides h1
  have hb := (inR_iff.1 s2).2
  have hk : k / a < b := Int.ediv_lt_of_lt_mul (by omega) (by rw [Int.mul_comm]; omega)
  refine ⟨_, _, by rw [nl, nl_hole h, Go.Lib.decDigits_one (show (k / a + 1).toNat < 10 by omega)], (key _ (by omega)).1, (key _ (by omega)).2, (key2 _ (by omega)).1, (key2 _ (by omega)).2⟩
theorem nl_no {a b o k : Int} (h : hasHole a b o k = true) : (45 : UInt8) ∉ nl a b o k ∧ (32 : UInt8) ∉ nl a b o k ∧ nl a b o k ≠ [] ∧ (nl a b o k).length = 2 := by
  obtain ⟨x, y, e, h1, h2, h3, h4⟩ := nl_two h
  rw [e]
  simp [h1.symm, h2.symm, h3.symm, h4.symm]
theorem toArr_nl (a b o k : Int) : (⟨(nl a b o k).toArray⟩ : ByteArray) = holeName a b o k := ba_ext (by simp [nl])
theorem lb_line {a b o : Int} {l : Ln} (h : isLn a b o l = true) : lbB a b o (nl a b o l.f) (nl a b o l.t) = some l := by
  obtain ⟨h1, h2⟩ := line_holes (isLn_mem h)
  unfold lbB nmd
  rw [toArr_nl, toArr_nl, named_name h1, named_name h2]
  simpa [isLn] using h
theorem jt_list {a b o : Int} {l : Ln} (h : isLn a b o l = true) : (jumpText a b o l).data.toList = nl a b o l.f ++ 45 :: nl a b o l.t := jumpText_list (isLn_mem h)
theorem rj_line {a b o : Int} {l : Ln} (h : isLn a b o l = true) : rjB a b o (nl a b o l.f ++ 45 :: nl a b o l.t) = some l := by
  obtain ⟨h1, h2⟩ := line_holes (isLn_mem h)
  unfold rjB
  have hi := index_at (nl a b o l.f) (nl a b o l.t) (nl_no h1).1
  rw [readJump_hit (fr := holeName a b o l.f) (to_ := holeName a b o l.t) (i := (nl a b o l.f).length) (by simpa using hi) (by simp [nl]) (by exact (drop_mid (nl a b o l.f) (nl a b o l.t) 45).symm), named_name h1, named_name h2]
  simpa [isLn] using h
/-- what stands behind k + 1 jumps -/
theorem game_parse {a b o : Int} {L : List Ln} : ∀ (k : Nat) (s : ByteArray), k < L.length → gtTo (isLn a b o) (holeName a b o) (jumpText a b o) L (k + 1) = some s →
    isLn a b o (gD L Ln0 k) = true ∧ s.size ≤ 6 * (k + 1) - 1 ∧
    (∃ Ws w ms, spl 32 s.data.toList = Ws ++ [w] ∧ spl 45 w = ms ++ [nl a b o (gD L Ln0 k).t] ∧ textJ (lbB a b o) (Ws ++ [w]) = some (L.take (k + 1))) ∧
    runS (rjB a b o) ⟨[], [], []⟩ s.data.toList = some ⟨L.take k, nl a b o (gD L Ln0 k).f, nl a b o (gD L Ln0 k).t⟩ := by
  intro k
  induction k with
  | zero =>
    intro s hk h
    simp only [gtTo, Option.bind_some] at h
    split at h
    · rename_i hl
      obtain ⟨h1, h2⟩ := line_holes (isLn_mem hl)
      have n1 := nl_no h1
      have n2 := nl_no h2
      have e0 := Option.some.inj h
      rw [empty_app] at e0
      have e1 : s.data.toList = nl a b o (gD L Ln0 0).f ++ 45 :: nl a b o (gD L Ln0 0).t := by rw [← e0]; exact jt_list hl
      have hsz : s.size = s.data.toList.length := Go.Lib.size_eq s
      have h32 : (32 : UInt8) ∉ nl a b o (gD L Ln0 0).f ++ 45 :: nl a b o (gD L Ln0 0).t := by
        simp only [List.mem_append, List.mem_cons, not_or]
        exact ⟨n1.2.1, by decide, n2.2.1⟩
      have hsp : spl 45 (nl a b o (gD L Ln0 0).f ++ 45 :: nl a b o (gD L Ln0 0).t) = [nl a b o (gD L Ln0 0).f, nl a b o (gD L Ln0 0).t] := by rw [spl_sep, spl_free n1.1, spl_free n2.1]; rfl
      have ht : L.take (0 + 1) = [gD L Ln0 0] := by rw [take_snoc L Ln0 hk]; rfl
      refine ⟨hl, ?_, ⟨[], _, [nl a b o (gD L Ln0 0).f], by rw [e1, spl_free h32]; rfl, by rw [hsp]; rfl, ?_⟩, ?_⟩
      · rw [hsz, e1]; simp [n1.2.2.2, n2.2.2.2]
      · rw [List.nil_append, textJ_one, hsp, wordJ, lb_line hl, ht]
        simp [wordJ]
      · rw [e1, runS_append, runS_free _ _ _ n1.1 n1.2.1]
        simp only [Option.bind_some, List.nil_append]
        rw [runS, stepS, if_neg (by simp)]
        simp only [flushS, ne_eq, not_true_eq_false, if_false, Option.map_some, Option.bind_some]
        rw [if_neg (by decide), runS_free _ _ _ n2.1 n2.2.1]
        simp
    · cases h
  | succ k ih =>
    intro s hk h
    rw [gtTo] at h
    cases hp : gtTo (isLn a b o) (holeName a b o) (jumpText a b o) L (k + 1) with
    | none => rw [hp] at h; cases h
    | some p =>
      rw [hp] at h
      simp only [Option.bind_some] at h
      split at h
      · rename_i hl
        obtain ⟨hl0, hsz0, ⟨Ws, w, ms, hW, hw, hT⟩, hR⟩ := ih p (by omega) hp
        have e0 := Option.some.inj h
        obtain ⟨h1, h2⟩ := line_holes (isLn_mem hl)
        have n1 := nl_no h1
        have n2 := nl_no h2
        have ht1 : L.take (k + 1 + 1) = L.take (k + 1) ++ [gD L Ln0 (k + 1)] := take_snoc L Ln0 hk
        have ht0 : L.take (k + 1) = L.take k ++ [gD L Ln0 k] := take_snoc L Ln0 (by omega)
        have hfl : flushS (rjB a b o) ⟨L.take k, nl a b o (gD L Ln0 k).f, nl a b o (gD L Ln0 k).t⟩ = some ⟨L.take (k + 1), nl a b o (gD L Ln0 k).t, []⟩ := by
          obtain ⟨g1, _⟩ := line_holes (isLn_mem hl0)
          rw [flushS, if_pos (nl_no g1).2.2.1]
          simp only [rj_line hl0, ht0]
        have hsz : s.size = s.data.toList.length := Go.Lib.size_eq s
        have hszp : p.size = p.data.toList.length := Go.Lib.size_eq p
        by_cases hc : (gD L Ln0 k).t = (gD L Ln0 (k + 1)).f
        · rw [gPiece_same hc] at e0
          have e1 : s.data.toList = p.data.toList ++ 45 :: nl a b o (gD L Ln0 (k + 1)).t := by rw [← e0]; simp [nl]
          have h32 : (32 : UInt8) ∉ (45 : UInt8) :: nl a b o (gD L Ln0 (k + 1)).t := by
            simp only [List.mem_cons, not_or]
            exact ⟨by decide, n2.2.1⟩
          have hsp : spl 45 (w ++ 45 :: nl a b o (gD L Ln0 (k + 1)).t) = ms ++ [nl a b o (gD L Ln0 k).t] ++ [nl a b o (gD L Ln0 (k + 1)).t] := by rw [spl_sep, hw, spl_free n2.1]
          refine ⟨hl, ?_, ⟨Ws, _, ms ++ [nl a b o (gD L Ln0 k).t], by rw [e1, spl_app h32 _ Ws w hW], hsp, ?_⟩, ?_⟩
          · rw [hsz, e1]; simp [n2.2.2.2]; omega
          · rw [textJ_append, textJ_one] at hT ⊢
            rw [hsp, wordJ_snoc, ← hw]
            cases hA : textJ (lbB a b o) Ws with
            | none => rw [hA] at hT; cases hT
            | some A =>
              rw [hA] at hT
              simp only [Option.bind_some] at hT ⊢
              cases hB : wordJ (lbB a b o) (spl 45 w) with
              | none => rw [hB] at hT; cases hT
              | some B =>
                rw [hB] at hT
                simp only [Option.map_some, Option.some.injEq] at hT
                rw [hc, lb_line hl, ht1, ← hT]
                simp
          · rw [e1, runS_append, hR]
            simp only [Option.bind_some]
            rw [runS, stepS, if_neg (by simp), hfl]
            simp only [Option.map_some, Option.bind_some]
            rw [if_neg (by decide), runS_free _ _ _ n2.1 n2.2.1, hc]
            simp
        · rw [gPiece_new hc] at e0
          have e1 : s.data.toList = p.data.toList ++ 32 :: (nl a b o (gD L Ln0 (k + 1)).f ++ 45 :: nl a b o (gD L Ln0 (k + 1)).t) := by rw [← e0]; simp [jt_list hl]
          have h32 : (32 : UInt8) ∉ nl a b o (gD L Ln0 (k + 1)).f ++ 45 :: nl a b o (gD L Ln0 (k + 1)).t := by
            simp only [List.mem_append, List.mem_cons, not_or]
            exact ⟨n1.2.1, by decide, n2.2.1⟩
          have hsp : spl 45 (nl a b o (gD L Ln0 (k + 1)).f ++ 45 :: nl a b o (gD L Ln0 (k + 1)).t) = [nl a b o (gD L Ln0 (k + 1)).f, nl a b o (gD L Ln0 (k + 1)).t] := by rw [spl_sep, spl_free n1.1, spl_free n2.1]; rfl
          refine ⟨hl, ?_, ⟨Ws ++ [w], _, [nl a b o (gD L Ln0 (k + 1)).f], by rw [e1, spl_sep, hW, spl_free h32], by rw [hsp]; rfl, ?_⟩, ?_⟩
          · rw [hsz, e1]; simp [n1.2.2.2, n2.2.2.2]; omega
          · rw [textJ_append, hT, textJ_one, hsp, wordJ, lb_line hl, ht1]
            simp [wordJ]
          · rw [e1, runS_append, hR]
            simp only [Option.bind_some]
            rw [runS, stepS, if_neg (by simp), hfl]
            simp only [Option.map_some, Option.bind_some]
            rw [if_pos trivial, runS_append, runS_free _ _ _ n1.1 n1.2.1]
            simp only [Option.bind_some, List.nil_append]
            rw [runS, stepS, if_neg (by simp)]
            simp only [flushS, ne_eq, not_true_eq_false, if_false, Option.map_some, Option.bind_some]
            rw [if_neg (by decide), runS_free _ _ _ n2.1 n2.2.1]
            simp
      · cases h
theorem game_valid {a b o : Int} {L : List Ln} {s : ByteArray} (hs : s.size ≠ 0) (h : gameText a b o L = s) : L ≠ [] ∧ L.length ≤ 60 ∧ s.size ≤ 359 ∧ textJ (lbB a b o) (spl 32 s.data.toList) = some L ∧ readSp (rjB a b o) s.data.toList = some L := by
  unfold gameText at h
  split at h
  · rename_i h60
    cases hg : gtTo (isLn a b o) (holeName a b o) (jumpText a b o) L L.length with
    | none => rw [hg] at h; exact absurd (by rw [← h]; rfl) hs
    | some t =>
      rw [hg] at h
      simp only [Option.getD_some] at h
      subst h
      cases hL : L.length with
      | zero =>
        rw [hL] at hg
        exact absurd (by rw [← Option.some.inj hg]; rfl) hs
      | succ k =>
        rw [hL] at hg
        obtain ⟨hl, hz, ⟨Ws, w, ms, hW, _, hT⟩, hR⟩ := game_parse k t (by omega) hg
        have ht : L.take (k + 1) = L := List.take_of_length_le (by omega)
        refine ⟨by intro e; rw [e] at hL; simp at hL, by omega, by omega, by rw [hW, hT, ht], ?_⟩
        rw [readSp, hR]
        simp only [Option.bind_some]
        obtain ⟨g1, _⟩ := line_holes (isLn_mem hl)
        rw [flushS, if_pos (nl_no g1).2.2.1]
        simp only [rj_line hl, Option.map_some]
        rw [← take_snoc L Ln0 (by omega), ht]
  · exact absurd (by rw [← h]; rfl) hs
theorem readGI_iff {a b o : Int} {s : ByteArray} {L : List Ln} : readGI a b o s = some L ↔ s.size ≠ 0 ∧ gameText a b o L = s := by
  unfold readGI
  constructor
  · intro h
    split at h
    · cases h
    · rename_i hs
      split at h
      · cases h
      · split at h
        · rename_i hg
          have e := Option.some.inj h
          subst e
          exact ⟨by omega, hg⟩
        · cases h
  · rintro ⟨hs, hg⟩
    obtain ⟨_, _, h3, h4, _⟩ := game_valid hs hg
    rw [if_neg (by omega), h4]
    simp only [hg, if_true]
theorem readGS_iff {a b o : Int} {s : ByteArray} {L : List Ln} : readGS a b o s = some L ↔ s.size ≠ 0 ∧ gameText a b o L = s := by
  unfold readGS
  constructor
  · intro h
    split at h
    · cases h
    · rename_i M hM
      split at h
      · cases h
      · rename_i hs
        have e := Option.some.inj h
        subst e
        rw [not_or] at hs
        refine ⟨fun h0 => ?_, by simpa using hs.2⟩
        rw [if_pos (by omega)] at hM
        have hnil : s.data.toList = [] := by
          have h1 : s.size = s.data.toList.length := Go.Lib.size_eq s
          have : s.data.toList.length = 0 := by omega
          exact List.length_eq_zero_iff.1 this
        rw [hnil] at hM
        simp [readSp, runS, flushS] at hM
        first | exact hs.1 hM.symm | exact hs.1 hM
  · rintro ⟨hs, hg⟩
    obtain ⟨h1, _, h3, _, h5⟩ := game_valid hs hg
    rw [if_pos (by omega), h5]
    simp only [h1, hg, ne_eq, not_true_eq_false, or_self, if_false]
theorem readG_same (a b o : Int) (s : ByteArray) : readGI a b o s = readGS a b o s := by
  cases h : readGI a b o s with
  | none =>
    cases h2 : readGS a b o s with
    | none => rfl
    | some L =>
      rw [readGI_iff.2 (readGS_iff.1 h2)] at h
      cases h
  | some L => rw [readGS_iff.2 (readGI_iff.1 h)]
theorem splitK_spl (c : UInt8) : ∀ (k : Nat) (s : List UInt8), Go.Lib.count s [c] = k → Go.Lib.splitK [c] 0 k s = spl c s
  | 0, s, h => by
    rw [Go.Lib.count_one, List.count_eq_zero] at h
    rw [Go.Lib.splitK, spl_free h]
  | k + 1, s, h => by
    have hge := Go.Lib.indexByte_ge s c
    by_cases hm : Go.Lib.index s [c] = -1
    · rw [Go.Lib.count_miss hm] at h; omega
    · have h1 := Go.Lib.index_one s c
      obtain ⟨i, hi⟩ : ∃ i : Nat, Go.Lib.index s [c] = i := ⟨(Go.Lib.index s [c]).toNat, by omega⟩
      have hn : ¬ (Go.Lib.index s [c] == -1) = true := fun e => hm (beq_iff_eq.1 e)
      have hc := Go.Lib.count_hit (s := s) (sub := [c]) (by simp) hi
      simp only [List.length_cons, List.length_nil, Nat.zero_add] at hc
      have ih := splitK_spl c k (s.drop (i + 1)) (by omega)
      rw [Go.Lib.splitK, if_neg hn, hi]
      simp only [Int.toNat_natCast, Nat.add_zero, List.length_cons, List.length_nil, Nat.zero_add]
      rw [ih]
      rw [h1] at hi
      obtain ⟨g1, g2⟩ := Go.Lib.indexByte_some hi
      obtain ⟨hlt, hg⟩ := List.getElem?_eq_some_iff.1 g1
      have hs : s = s.take i ++ c :: s.drop (i + 1) := by
        rw [← hg, ← List.drop_eq_getElem_cons hlt, List.take_append_drop]
      have hf : c ∉ s.take i := fun hmem => by
        obtain ⟨j, hj, e⟩ := List.getElem_of_mem hmem
        have hj2 : j < i := by rw [List.length_take] at hj; omega
        refine g2 j hj2 ?_
        rw [List.getElem_take] at e
        rw [List.getElem?_eq_getElem (by omega), e]
      conv => rhs; rw [hs, spl_sep, spl_free hf]
      rfl
/-- strings.Split at one byte -/
theorem splitB_spl (c : UInt8) (s : ByteArray) : (Go.Lib.splitB ⟨#[c]⟩ 0 (Go.Lib.countB s ⟨#[c]⟩) s).map (·.data.toList) = spl c s.data.toList := by
  rw [Go.Lib.splitB_data]
  exact splitK_spl c _ _ rfl
theorem splitB_spl_len (c : UInt8) (s : ByteArray) : (Go.Lib.splitB ⟨#[c]⟩ 0 (Go.Lib.countB s ⟨#[c]⟩) s).length = Go.Lib.countB s ⟨#[c]⟩ + 1 := Go.Lib.splitB_all _ (by simp [ByteArray.size]) 0 _ s rfl
end Peg
namespace Peg
theorem spl_part (c : UInt8) : ∀ (s w : List UInt8), w ∈ spl c s → w.length ≤ s.length
  | [], w, h => by simp [spl] at h; subst h; simp
  | x :: s, w, h => by
    unfold spl at h
    split at h
    · rcases List.mem_cons.1 h with rfl | h
      · simp
      · have := spl_part c s w h; simp; omega
    · split at h
      · rename_i v r e
        rcases List.mem_cons.1 h with rfl | h
        · have := spl_part c s v (by rw [e]; simp); simp; omega
        · have := spl_part c s w (by rw [e]; simp [h]); simp; omega
      · simp at h; subst h; simp
theorem spl_count (c : UInt8) : ∀ (s : List UInt8), (spl c s).length ≤ s.length + 1
  | [] => by simp [spl]
  | x :: s => by
    have ih := spl_count c s
    unfold spl
    split
    · simp; omega
    · split
      · rename_i v r e
        rw [e] at ih
        simp at ih ⊢; omega
      · simp
theorem wordJ_none (lb : List UInt8 → List UInt8 → Option Ln) (r : List (List UInt8)) : ∀ ms, wordJ lb ms = none → wordJ lb (ms ++ r) = none
  | [], h => by simp [wordJ] at h
  | [x], h => by simp [wordJ] at h
  | x :: y :: ms, h => by
    rw [wordJ_two] at h
    show wordJ lb (x :: y :: (ms ++ r)) = none
    rw [wordJ_two]
    cases e : lb x y with
    | none => rfl
    | some l =>
      rw [e] at h
      simp only at h ⊢
      have h2 : wordJ lb (y :: ms) = none := by simpa using h
      have := wordJ_none lb r (y :: ms) h2
      simp only [List.cons_append] at this
      rw [this]
      rfl
theorem wordJ_next {lb : List UInt8 → List UInt8 → Option Ln} {NS : List (List UInt8)} {k : Nat} {B : List Ln} (h1 : 1 ≤ k) (hk : k < NS.length) (h : wordJ lb (NS.take k) = some B) :
    wordJ lb (NS.take (k + 1)) = (lb (gD NS [] (k - 1)) (gD NS [] k)).map fun l => B ++ [l] := by
  obtain ⟨m, rfl⟩ : ∃ m, k = m + 1 := ⟨k - 1, by omega⟩
  have e1 : NS.take (m + 1) = NS.take m ++ [gD NS [] m] := take_gD NS [] m (by omega)
  have e2 : NS.take (m + 1 + 1) = NS.take m ++ [gD NS [] m] ++ [gD NS [] (m + 1)] := by rw [take_gD NS [] (m + 1) hk, e1]
  rw [e1] at h
  rw [e2, wordJ_snoc, h]
  rfl
theorem wordJ_fail {lb : List UInt8 → List UInt8 → Option Ln} {NS : List (List UInt8)} {k : Nat} {B : List Ln} (h1 : 1 ≤ k) (hk : k < NS.length) (h : wordJ lb (NS.take k) = some B) (hn : lb (gD NS [] (k - 1)) (gD NS [] k) = none) : wordJ lb NS = none := by
  have h2 := wordJ_next h1 hk h
  rw [hn] at h2
  have := wordJ_none lb (NS.drop (k + 1)) _ h2
  rwa [List.take_append_drop] at this
theorem textJ_next {lb : List UInt8 → List UInt8 → Option Ln} {WS : List (List UInt8)} {i : Nat} {A : List Ln} (hi : i < WS.length) (h : textJ lb (WS.take i) = some A) :
    textJ lb (WS.take (i + 1)) = (wordJ lb (spl 45 (gD WS [] i))).map (A ++ ·) := by
  rw [take_gD WS [] i hi, textJ_append, h, textJ_one]
  rfl
theorem textJ_fail {lb : List UInt8 → List UInt8 → Option Ln} {WS : List (List UInt8)} {i : Nat} {A : List Ln} (hi : i < WS.length) (h : textJ lb (WS.take i) = some A) (hn : wordJ lb (spl 45 (gD WS [] i)) = none) : textJ lb WS = none := by
  have h2 := textJ_next hi h
  rw [hn] at h2
  have e := textJ_append lb (WS.drop (i + 1)) (WS.take (i + 1))
  rw [List.take_append_drop, h2] at e
  rw [e]; rfl
theorem wordJ_len {lb : List UInt8 → List UInt8 → Option Ln} : ∀ {ms : List (List UInt8)} {B : List Ln}, wordJ lb ms = some B → B.length + 1 ≤ ms.length + 1
  | [], B, h => by simp [wordJ] at h; subst h; simp
  | [x], B, h => by simp [wordJ] at h; subst h; simp
  | x :: y :: ms, B, h => by
    rw [wordJ_two] at h
    cases e : lb x y with
    | none => simp [e] at h
    | some l =>
      simp only [e] at h
      cases e2 : wordJ lb (y :: ms) with
      | none => simp [e2] at h
      | some C =>
        simp [e2] at h
        subst h
        have := wordJ_len e2
        simp at this ⊢; omega
end Peg
namespace Go.Proofs.YtkaojpcpfbbicaaDoor
open Go.ChangeShapes Go.WideShapes Go.ChangeAt Go.RowKit Peg Go.Sort
/-- the cell of the search's longest piece -/
def MaxCell (W : World) : Prop := ∃ m, W.cell? ⟨Tryd.slM146_ren.g 1, 0, none⟩ = some (.int .i64 m) ∧ Tryd.slM146_ren.g 1 < W.heap.size
theorem MaxCell.of (W : World) (h : W.ShapedOpen Tryd.prog) : MaxCell W := by
  obtain ⟨m, hm⟩ := Tryd.slM146.s1_3 W h
  refine ⟨m, hm, ?_⟩
  rcases Nat.lt_or_ge (Tryd.slM146_ren.g 1) W.heap.size with h1 | h1
  · exact h1
  · simp [World.cell?, Array.getElem?_eq_none h1] at hm
theorem MaxCell.keep {W W' : World} (h : MaxCell W) (hb : Below W.heap.size W W') : MaxCell W' := by
  obtain ⟨m, hm, hl⟩ := h
  exact ⟨m, (hb.cell (p := ⟨Tryd.slM146_ren.g 1, 0, none⟩) hl).trans hm, Nat.lt_of_lt_of_le hl hb.size⟩
def RetRG (w : World) (r : Option (List Ln)) (e : Ending) (w' : World) : Prop := ∃ v, e = .returned (.tuple #[v, .bool r.isSome]) ∧ Own ELine w' w.heap.size v (r.getD []) ∧ Below w.heap.size w w'
def RetSplit (W : World) (c : UInt8) (s : ByteArray) (e : Ending) (W' : World) : Prop :=
  ∃ WS : List ByteArray, WS.map (·.data.toList) = spl c s.data.toList ∧ e = .returned (.slice (some ⟨W.heap.size, 0, none⟩) WS.length WS.length) ∧ (∀ i, i < WS.length → W'.cell? ⟨W.heap.size, i, none⟩ = some (.string (gD WS ⟨#[]⟩ i))) ∧ W.heap.size < W'.heap.size ∧ Below W.heap.size W W'
theorem Split_any (c : UInt8) (s : ByteArray) (hs : s.size ≤ 1048576) (W : World) (hm : MaxCell W) :
    Calls Tryd.prog 53 #[.string s, .string ⟨#[c]⟩] W (RetSplit W c s) := by
  obtain ⟨m, hm, hl⟩ := hm
  refine (Any.strings_Split { Tryd.slM146 with } Tryd.slM146.i9 s ⟨#[c]⟩ m W (by omega) hm (by simp [ByteArray.size])).mono ?_
  rintro e w' ⟨rfl, rfl⟩
  have hlen := splitB_spl_len c s
  refine ⟨Lib.splitB ⟨#[c]⟩ 0 (Lib.countB s ⟨#[c]⟩) s, splitB_spl c s, by rw [hlen], fun i hi => ?_, by simp, (Below.refl _ _).alloc (Nat.le_refl _) _⟩
  simp [hi, gD]
end Go.Proofs.YtkaojpcpfbbicaaDoor
namespace Go.Proofs.YtkaojpcpfbbicaaDoor
open Go.ChangeShapes Go.WideShapes Go.ChangeAt Go.RowKit Peg Go.Sort
/-- what a region of ReadGame reads: the board's box at X, two names at N -/
structure K0 (w8 : World) (X N : Nat) (a b o : Int) (k : Nat) (n0 n1 : ByteArray) (W : World) : Prop where
  box : ∀ j, W.cell? ⟨X, j, none⟩ = #[Value.int .i64 a, .int .i64 b, .int .i64 o][j]?
  m0 : W.cell? ⟨N, k, none⟩ = some (.string n0)
  m1 : W.cell? ⟨N, k + 1, none⟩ = some (.string n1)
  gX : X < W.heap.size
  gN : N < W.heap.size
  bel : Hid (Below w8.heap.size w8 W)
theorem K0.next {w8 W W' : World} {X N k : Nat} {a b o : Int} {n0 n1 : ByteArray} (h : K0 w8 X N a b o k n0 n1 W) (hb : Below W.heap.size W W') : K0 w8 X N a b o k n0 n1 W' :=
  ⟨fun j => (hb.cell (p := ⟨X, j, none⟩) h.gX).trans (h.box j), (hb.cell (p := ⟨N, k, none⟩) h.gN).trans h.m0, (hb.cell (p := ⟨N, k + 1, none⟩) h.gN).trans h.m1, Nat.lt_of_lt_of_le h.gX hb.size, Nat.lt_of_lt_of_le h.gN hb.size, h.bel.out.trans (hb.mono h.bel.out.size)⟩
theorem K0.drew {w8 W : World} {X N k : Nat} {a b o : Int} {n0 n1 : ByteArray} (h : K0 w8 X N a b o k n0 n1 W) : K0 w8 X N a b o k n0 n1 W.drew := h.next ((Below.refl _ _).drew)
theorem K0.alloc {w8 W : World} {X N k : Nat} {a b o : Int} {n0 n1 : ByteArray} (h : K0 w8 X N a b o k n0 n1 W) (ob : Obj) : K0 w8 X N a b o k n0 n1 (W.alloc ob) := h.next ((Below.refl _ _).alloc (Nat.le_refl _) _)
/-- a new box of a line at B -/
structure K1 (w8 : World) (B : Nat) (W : World) : Prop where
  cell : ∀ j, W.cell? ⟨B, j, none⟩ = #[Value.int .i64 0, .int .i64 0, .int .i64 0][j]?
  fro : ∀ j, W.frozen? ⟨B, j, none⟩ = false
  lt : B < W.heap.size
  le : w8.heap.size ≤ B
theorem K1.next {w8 W W' : World} {B : Nat} (h : K1 w8 B W) (hb : Below W.heap.size W W') : K1 w8 B W' :=
  ⟨fun j => (hb.cell (p := ⟨B, j, none⟩) h.lt).trans (h.cell j), fun j => (hb.frozen (p := ⟨B, j, none⟩) h.lt).trans (h.fro j), Nat.lt_of_lt_of_le h.lt hb.size, h.le⟩
theorem K1.drew {w8 W : World} {B : Nat} (h : K1 w8 B W) : K1 w8 B W.drew := h.next ((Below.refl _ _).drew)
theorem K1.made (w8 W : World) (h : w8.heap.size ≤ W.heap.size) : K1 w8 W.heap.size (W.alloc (.cells #[.int .i64 0, .int .i64 0, .int .i64 0] 31)) :=
  ⟨fun j => by simp, fun j => by simp, by simp, h⟩
theorem box3_put (w : World) (g : Nat) (x0 x1 x2 u0 u1 u2 : Value) (h : ∀ j, w.cell? ⟨g, j, none⟩ = #[x0, x1, x2][j]?) (j : Nat) : (((w.setCell ⟨g, 0, none⟩ u0).setCell ⟨g, 1, none⟩ u1).setCell ⟨g, 2, none⟩ u2).cell? ⟨g, j, none⟩ = #[u0, u1, u2][j]? := by
  have k0 := h 0
  have k1 := h 1
  have k2 := h 2
  simp only [List.getElem?_toArray, List.getElem?_cons_succ, List.getElem?_cons_zero] at k0 k1 k2
  match j with
  | 0 | 1 | 2 => simp [go_sem, *]
  | j + 3 =>
    have k := h (j + 3)
    simp [go_sem] at k ⊢
    exact k
set_option maxHeartbeats 4000000 in
set_option maxRecDepth 100000 in
theorem ReadGame_any (a b o : Int) (s : ByteArray) (hs : s.size ≤ 1048576) (w : World) (hm : MaxCell w) :
    Calls Tryd.prog 25 #[.agg #[.int .i64 a, .int .i64 b, .int .i64 o], .string s] w (RetRG w (readGI a b o s)) := by
  have HGI : Hid (readGI a b o s = if s.size = 0 ∨ 360 < s.size then none else match textJ (lbB a b o) (spl 32 s.data.toList) with
    | none => none
    | some L => if gameText a b o L = s then some L else none) := rfl
  by_cases h0 : s.size = 0 ∨ 360 < s.size
  · have HR : Hid (readGI a b o s = none) := by show _ = _; rw [HGI.out, if_pos h0]
    rw [HR.out]
    clear HR HGI hm
    rcases h0 with h0 | h0
    · obtain rfl : s = ⟨#[]⟩ := ba_ext (by
        have h3 : s.data.toList.length = 0 := by rw [Array.length_toList]; exact h0
        rw [List.eq_nil_of_length_eq_zero h3])
      go_enter Tryd.func25, Tryd.ntmps25
      go_wp2_with fail
      all_goals go_ret2
      all_goals exact ⟨_, rfl, Own.nil _ _ _, by (repeat' first | (with_reducible exact Below.refl _ _) | (with_reducible refine Below.alloc ?_ ?_ _) | (with_reducible refine Below.drew ?_) | (with_reducible refine Below.setCell ?_ ?_ _) | (with_reducible refine below_via (by assumption) ?_ ?_) | go_size)⟩
    · have hE1 : s.toList.isEmpty = false := by
        cases he : s.toList with
        | nil =>
          rw [Go.Lib.toList_data] at he
          have : s.size = 0 := by have := congrArg List.length he; rw [Array.length_toList] at this; exact this
          omega
        | cons x y => rfl
      have hd : decide ((360 : Int) < (s.size : Int)) = true := decide_eq_true (by omega)
      have hd2 : (360 : Int) < (s.size : Int) := by omega
      go_enter Tryd.func25, Tryd.ntmps25
      go_wp2_with fail
      all_goals go_ret2
      all_goals exact ⟨_, rfl, Own.nil _ _ _, by (repeat' first | (with_reducible exact Below.refl _ _) | (with_reducible refine Below.alloc ?_ ?_ _) | (with_reducible refine Below.drew ?_) | (with_reducible refine Below.setCell ?_ ?_ _) | (with_reducible refine below_via (by assumption) ?_ ?_) | go_size)⟩
  have h1 : s.size ≠ 0 := fun e => h0 (Or.inl e)
  have h2 : s.size ≤ 360 := by
    rcases Nat.lt_or_ge 360 s.size with h | h
    · exact absurd (Or.inr h) h0
    · exact h
  have HR : Hid (readGI a b o s = match textJ (lbB a b o) (spl 32 s.data.toList) with
    | none => none
    | some L => if gameText a b o L = s then some L else none) := by show _ = _; rw [HGI.out, if_neg h0]
  clear HGI h0
  have hE1 : s.toList.isEmpty = false := by
    cases he : s.toList with
    | nil =>
      rw [Go.Lib.toList_data] at he
      have : s.size = 0 := by have := congrArg List.length he; rw [Array.length_toList] at this; exact this
      omega
    | cons x y => rfl
  have hE2 : (s.toList == []) = false := by cases he : s.toList with
    | nil => rw [he] at hE1; cases hE1
    | cons x y => rfl
  have hd : decide ((360 : Int) < (s.size : Int)) = false := decide_eq_false (by omega)
  have hd2 : ¬ (360 : Int) < (s.size : Int) := by omega
  have HMX := Lib.hid hm
  have HSP : Hid (∀ c s W, s.size ≤ 1048576 → MaxCell W → Calls Tryd.prog 53 #[.string s, .string ⟨#[c]⟩] W (RetSplit W c s)) := fun c s W h hm => Split_any c s h W hm
  clear hm
  go_enter Tryd.func25, Tryd.ntmps25
  go_wp2_with fail
  have hbA : Below w.heap.size w ((w.alloc (.cells #[.int .i64 a, .int .i64 b, .int .i64 o] 29)).alloc (.cells #[] 31)) := ((Below.refl _ _).alloc (Nat.le_refl _) _).alloc (by simp) _
  refine (HSP.out 32 s _ hs (HMX.out.keep hbA)).mono ?_
  rintro e w1 ⟨WS, hWS, rfl, hWc, hWz, hb1⟩
  simp only [World.size_alloc] at hWc hWz hb1
  have HB1 := Lib.hid (hbA.trans (hb1.mono (by omega)))
  have hbx1 : ∀ j, w1.cell? ⟨w.heap.size, j, none⟩ = #[Value.int .i64 a, .int .i64 b, .int .i64 o][j]? := fun j => (hb1.cell (p := ⟨w.heap.size, j, none⟩) (by show w.heap.size < _; omega)).trans (by simp)
  have HWC := Lib.hid hWc
  have HWS := Lib.hid hWS
  have hwz1 : w.heap.size + 1 + 1 < w1.heap.size := hWz
  have HWL : Hid (∀ k, k < WS.length → gD (spl 32 s.data.toList) [] k = (gD WS ⟨#[]⟩ k).data.toList ∧ (gD WS ⟨#[]⟩ k).size ≤ 360) := fun k hk => by
    have e : gD (spl 32 s.data.toList) [] k = (gD WS ⟨#[]⟩ k).data.toList := by
      rw [← hWS, gD_lt _ _ _ (by simpa using hk), gD_lt _ _ _ hk]; simp
    refine ⟨e, ?_⟩
    have hm2 : gD (spl 32 s.data.toList) [] k ∈ spl 32 s.data.toList := gD_mem _ _ _ (by rw [← hWS]; simpa using hk)
    have h3 := spl_part 32 _ _ hm2
    rw [e, Array.length_toList, Array.length_toList] at h3
    exact Nat.le_trans h3 h2
  have hWlen : WS.length = (spl 32 s.data.toList).length := by rw [← hWS]; simp
  have hW361 : WS.length ≤ 361 := by
    rw [hWlen]
    have h3 := spl_count 32 s.data.toList
    rw [Array.length_toList] at h3
    exact Nat.le_trans h3 (by show s.size + 1 ≤ _; omega)
  have HTN := Lib.hid (fun i A => @textJ_next (lbB a b o) (spl 32 s.data.toList) i A)
  have HTF := Lib.hid (fun i A => @textJ_fail (lbB a b o) (spl 32 s.data.toList) i A)
  have HLB : Hid (∀ x y : ByteArray, lbB a b o x.data.toList y.data.toList = lineBetween a b o (named a b o x) (named a b o y)) := fun x y => by
    unfold lbB nmd
    rw [show (⟨x.data.toList.toArray⟩ : ByteArray) = x from ba_ext (by simp), show (⟨y.data.toList.toArray⟩ : ByteArray) = y from ba_ext (by simp)]
  rw [← hWlen] at HTN HTF
  have HT0 : Hid (textJ (lbB a b o) ((spl 32 s.data.toList).take 0) = some []) := by show _ = _; simp [textJ]
  have HTE : Hid ((spl 32 s.data.toList).take WS.length = spl 32 s.data.toList) := by show _ = _; rw [hWlen, List.take_length]
  clear hb1 hWc hWS hbA hWlen
  generalize spl 32 s.data.toList = SL at *
  go_wp2_with fail
  go_loopw [6, 24] (fun v i wr => ∃ (k : Nat) (A : List Ln), k ≤ WS.length ∧ i = .int .i64 k ∧ Hid (Own ELine wr w1.heap.size v A) ∧ A.length ≤ k * 361 ∧ Hid (textJ (lbB a b o) (SL.take k) = some A) ∧ Hid (∀ g, v.ownBlock = some g → g < wr.heap.size) ∧ Hid (Below w1.heap.size w1 wr)) (fun _ i _ => WS.length - (intOf i).toNat)
  case atStart => exact ⟨0, [], by omega, rfl, by show Own _ _ _ _ _; exact Own.emptyAny _ _ _ _, by simp, HT0, by show ∀ g, _ → _; intro g hg; simp [Value.ownBlock] at hg; omega, Below.refl _ _⟩
  case round =>
    obtain ⟨k, A, hk, rfl, HOW, hAl, HTX, HVB, HBr⟩ := hrel
    have hzr := HBr.out.size
    have hbxr : ∀ j, wr.cell? ⟨w.heap.size, j, none⟩ = #[Value.int .i64 a, .int .i64 b, .int .i64 o][j]? := fun j => (HBr.out.cell (p := ⟨w.heap.size, j, none⟩) (by show w.heap.size < _; omega)).trans (hbx1 j)
    have gXr : w.heap.size < wr.heap.size := by omega
    obtain ⟨aD, cD, rfl, -, -⟩ := HOW.out.lineG
    obtain ⟨wo, rfl⟩ : ∃ wo : World, wo = wr := ⟨_, rfl⟩
    by_cases hke : k < WS.length
    rotate_left
    · obtain rfl : k = WS.length := by omega
      have HVE : Hid (textJ (lbB a b o) SL = some A) := by show _ = _; have h := HTX.out; rwa [HTE.out] at h
      have HG1 := Lib.hid (GameText_any a b o A _ wo HOW.out)
      go_wp2_with fail
      refine HG1.out.mono ?_
      rintro e w5 ⟨rfl, hb5⟩
      by_cases hge : gameText a b o A = s
      · have HN1 : Hid (readGI a b o s = some A) := by show _ = _; rw [HR.out, HVE.out]; simp [hge]
        rw [hge]
        have HB5 := Lib.hid (HB1.out.trans ((HBr.out.trans (hb5.mono hzr)).mono (by omega)))
        have HO5 := Lib.hid (HOW.out.keep hb5)
        clear hb5 hge
        go_wp2_with fail
        all_goals go_ret2
        all_goals (unfold RetRG; rw [HN1.out]; exact ⟨_, rfl, HO5.out.mono (by omega), HB5.out⟩)
      · have HN1 : Hid (readGI a b o s = none) := by show _ = _; rw [HR.out, HVE.out]; simp [hge]
        have hne : ((gameText a b o A).toList == s.toList) = false := str_ne hge
        have HB5 := Lib.hid (HB1.out.trans ((HBr.out.trans (hb5.mono hzr)).mono (by omega)))
        clear hb5
        generalize gameText a b o A = gt at *
        go_wp2_with fail
        all_goals go_ret2
        all_goals (unfold RetRG; rw [HN1.out]; exact ⟨_, rfl, Own.nil _ _ _, HB5.out⟩)
    · have hwc : wo.cell? ⟨w.heap.size + 1 + 1, k, none⟩ = some (.string (gD WS ⟨#[]⟩ k)) := (HBr.out.cell (p := ⟨w.heap.size + 1 + 1, k, none⟩) (by show w.heap.size + 1 + 1 < _; omega)).trans (HWC.out k hke)
      have gWr : w.heap.size + 1 + 1 < wo.heap.size := by omega
      obtain ⟨HW1, hW2⟩ := HWL.out k hke
      have HWE := Lib.hid HW1
      clear HW1
      generalize gD WS ⟨#[]⟩ k = wd at *
      go_wp2_with fail
      refine (HSP.out 45 wd wo (by omega) (HMX.out.keep (HB1.out.trans (HBr.out.mono (by omega))))).mono ?_
      rintro e w2 ⟨NS, hNS, rfl, hNc, hNz, hb2⟩
      have HWJ : Hid (textJ (lbB a b o) (SL.take (k + 1)) = (wordJ (lbB a b o) (spl 45 wd.data.toList)).map (A ++ ·)) := by show _ = _; rw [HTN.out k A hke HTX.out, HWE.out]
      have HWF : Hid (wordJ (lbB a b o) (spl 45 wd.data.toList) = none → readGI a b o s = none) := fun h => by
        rw [HR.out, HTF.out k A hke HTX.out (by rw [HWE.out]; exact h)]
      have hNlen : NS.length = (spl 45 wd.data.toList).length := by rw [← hNS]; simp
      have hN361 : NS.length ≤ 361 := by
        rw [hNlen]
        have h3 := spl_count 45 wd.data.toList
        rw [Array.length_toList] at h3
        exact Nat.le_trans h3 (by show wd.size + 1 ≤ _; omega)
      have hN1 : 1 ≤ NS.length := by
        rw [hNlen]
        have := List.length_pos_iff.2 (spl_ne 45 wd.data.toList)
        omega
      have HNL : Hid (∀ k, k < NS.length → gD (spl 45 wd.data.toList) [] k = (gD NS ⟨#[]⟩ k).data.toList) := fun k hk => by
        rw [← hNS, gD_lt _ _ _ (by simpa using hk), gD_lt _ _ _ hk]; simp
      have HJN := Lib.hid (fun i B => @wordJ_next (lbB a b o) (spl 45 wd.data.toList) i B)
      have HJF := Lib.hid (fun i B => @wordJ_fail (lbB a b o) (spl 45 wd.data.toList) i B)
      rw [← hNlen] at HJN HJF
      have HJ1 : Hid (wordJ (lbB a b o) ((spl 45 wd.data.toList).take 1) = some []) := by
        show _ = _
        cases h : spl 45 wd.data.toList with
        | nil => rfl
        | cons x y => rfl
      have HJE : Hid ((spl 45 wd.data.toList).take NS.length = spl 45 wd.data.toList) := by show _ = _; rw [hNlen, List.take_length]
      have HB2 := Lib.hid (HBr.out.trans (hb2.mono hzr))
      have HNC := Lib.hid hNc
      have HO2 := Lib.hid (HOW.out.keep hb2)
      have HVB2 : Hid (∀ g, (Value.slice aD A.length cD).ownBlock = some g → g < wo.heap.size) := HVB.out
      have hz2 := hb2.size
      clear hb2 hNc hNS hNlen HVB
      generalize spl 45 wd.data.toList = NL at *
      go_wp2_with fail
      go_loopw [6, 10] (fun v i wx => ∃ (j : Nat) (B : List Ln), 1 ≤ j ∧ j ≤ NS.length ∧ i = .int .i64 j ∧ Hid (Own ELine wx w1.heap.size v (A ++ B)) ∧ B.length + 1 ≤ j ∧ Hid (wordJ (lbB a b o) (NL.take j) = some B) ∧ Hid (∀ g, v.ownBlock = some g → g < wx.heap.size ∧ g ≠ wo.heap.size) ∧ Hid (∀ i, i < NS.length → wx.cell? ⟨wo.heap.size, i, none⟩ = some (.string (gD NS ⟨#[]⟩ i))) ∧ wo.heap.size < wx.heap.size ∧ Hid (Below w1.heap.size w1 wx)) (fun _ i _ => NS.length - (intOf i).toNat)
      case atStart => exact ⟨1, [], by omega, hN1, rfl, by show Own _ _ _ _ _; rw [List.append_nil]; exact HO2.out, by simp, HJ1, by show ∀ g, _ → _; intro g hg; have := HVB2.out g hg; exact ⟨by omega, by omega⟩, HNC, hNz, HB2⟩
      case round =>
        obtain ⟨j, B, hj1, hj, rfl, HOX, hBl, HJX, HVX, HNX, hNx, HBx⟩ := hrel
        obtain ⟨aE, cE, rfl, -, -⟩ := HOX.out.lineG
        have hzx := HBx.out.size
        by_cases hje : j < NS.length
        rotate_left
        · obtain rfl : j = NS.length := by omega
          have HFX : Hid (textJ (lbB a b o) (SL.take (k + 1)) = some (A ++ B)) := by
            show _ = _
            rw [HWJ.out]
            have h := HJX.out
            rw [HJE.out] at h
            rw [h]; rfl
          go_wp2_with fail
          go_roundw
          case rel => exact ⟨k + 1, A ++ B, by omega, by go_num, HOX, by rw [List.length_append]; omega, HFX, fun g hg => (HVX.out g hg).1, HBx⟩
          case measure => simp [intOf]; omega
        · obtain ⟨m, hjm⟩ : ∃ m, j = m + 1 := ⟨j - 1, by omega⟩
          have hABl : (A ++ B).length ≤ 400000 := by rw [List.length_append]; have : k * 361 ≤ 361 * 361 := Nat.mul_le_mul_right _ (by omega); omega
          generalize hAB : A ++ B = AB at *
          have HAB := Lib.hid hAB
          clear hAB
          have hm1 : m < NS.length := by omega
          have HN0 := HNL.out m hm1
          have HN1' := HNL.out j hje
          have hc0 := HNX.out m hm1
          have hc1 := HNX.out j hje
          have HBW := Lib.hid (HB1.out.trans (HBx.out.mono (by omega)))
          have hbxx : ∀ j, wr.cell? ⟨w.heap.size, j, none⟩ = #[Value.int .i64 a, .int .i64 b, .int .i64 o][j]? := fun j => (HBx.out.cell (p := ⟨w.heap.size, j, none⟩) (by show w.heap.size < _; omega)).trans (hbx1 j)
          have gXx : w.heap.size < wr.heap.size := by omega
          have HFJ : Hid (lbB a b o (gD NL [] m) (gD NL [] j) = lineBetween a b o (named a b o (gD NS ⟨#[]⟩ m)) (named a b o (gD NS ⟨#[]⟩ j))) := by show _ = _; rw [HN0, HN1', HLB.out]
          clear HN0 HN1'
          have hi0 : (0 : Int) ≤ (m : Int) := by omega
          have hi1 : (m : Int) < (NS.length : Int) := by omega
          have hi2 : ¬ (m : Int) < 0 := by omega
          have hi3 : ¬ (NS.length : Int) ≤ (m : Int) := by omega
          have hi4 : (0 : Int) ≤ (j : Int) := by omega
          have hi5 : (j : Int) < (NS.length : Int) := by omega
          have hwr : IntKind.i64.wrap ((j : Int) - 1) = (m : Int) := by rw [IntWalk.i64_in _ (by omega)]; omega
          have hwr2 : IntKind.i64.wrap ((j : Int) + -1) = (m : Int) := by rw [IntWalk.i64_in _ (by omega)]; omega
          have HJM := Lib.hid hjm
          clear hjm
          generalize gD NS ⟨#[]⟩ m = n0 at *
          generalize gD NS ⟨#[]⟩ j = n1 at *
          obtain ⟨w8, rfl⟩ : ∃ w8 : World, w8 = wr := ⟨_, rfl⟩
          have HS : Hid (∀ W, Below w8.heap.size w8 W → Below w8.heap.size w8 W ∧ w8.heap.size ≤ W.heap.size ∧ W.cell? ⟨w.heap.size, 0, none⟩ = some (.int .i64 a) ∧ W.cell? ⟨w.heap.size, 1, none⟩ = some (.int .i64 b) ∧ W.cell? ⟨w.heap.size, 2, none⟩ = some (.int .i64 o) ∧ W.cell? ⟨wo.heap.size, m, none⟩ = some (.string n0) ∧ W.cell? ⟨wo.heap.size, j, none⟩ = some (.string n1)) := fun W hb =>
            ⟨hb, hb.size, (hb.cell (p := ⟨w.heap.size, 0, none⟩) gXx).trans (hbxx 0), (hb.cell (p := ⟨w.heap.size, 1, none⟩) gXx).trans (hbxx 1), (hb.cell (p := ⟨w.heap.size, 2, none⟩) gXx).trans (hbxx 2), (hb.cell (p := ⟨wo.heap.size, m, none⟩) hNx).trans hc0, (hb.cell (p := ⟨wo.heap.size, j, none⟩) hNx).trans hc1⟩
          have HN : Hid (∀ n W, Below w8.heap.size w8 W → Calls Tryd.prog 52 #[.agg #[.int .i64 a, .int .i64 b, .int .i64 o], .string n] W fun e w' => e = .returned (.int .i64 (named a b o n)) ∧ Hid (Below w8.heap.size w8 w') ∧ ∀ B, K1 w8 B W → K1 w8 B w') := fun n W hk => (holeNamed_any a b o n W).mono fun e w' ⟨he, hb⟩ => ⟨he, hk.trans (hb.mono hk.size), fun B h => h.next hb⟩
          have HL : Hid (∀ f t W, Below w8.heap.size w8 W → Calls Tryd.prog 51 #[.agg #[.int .i64 a, .int .i64 b, .int .i64 o], .int .i64 f, .int .i64 t] W fun e w' => e = .returned (.tuple #[.agg #[.int .i64 ((lineBetween a b o f t).getD Ln0).f, .int .i64 ((lineBetween a b o f t).getD Ln0).o, .int .i64 ((lineBetween a b o f t).getD Ln0).t], .bool (lineBetween a b o f t).isSome]) ∧ Hid (Below w8.heap.size w8 w') ∧ ∀ B, K1 w8 B W → K1 w8 B w') := fun f t W hk => by
            have h := LineBetween_any a b o f t W
            simp only [optLn] at h
            exact h.mono fun e w' ⟨he, hb⟩ => ⟨he, hk.trans (hb.mono hk.size), fun B h => h.next hb⟩
          clear hc0 hc1 hbxx
          generalize named a b o = nm at *
          generalize hlb : lineBetween a b o = lb at *
          clear hlb
          generalize hr : lb (nm n0) (nm n1) = r at *
          go_upto_region 11 with fail
          go_cut [11, 12] (fun p t wx => ∃ B : Nat, p = .pointer (some ⟨B, 0, none⟩) ∧ t = .bool r.isSome ∧ w8.heap.size ≤ B ∧ B < wx.heap.size ∧ Hid (∀ j, wx.cell? ⟨B, j, none⟩ = #[Value.int .i64 (r.getD Ln0).f, .int .i64 (r.getD Ln0).o, .int .i64 (r.getD Ln0).t][j]?) ∧ Hid (Below w8.heap.size w8 wx))
          case first =>
            have HD8 : Hid (Below w8.heap.size w8 w8.drew) := (Below.refl _ _).drew
            have HA8 : Hid (Below w8.heap.size w8 (w8.alloc (.cells #[.int .i64 0, .int .i64 0, .int .i64 0] 31)).drew) := ((Below.refl _ _).alloc (Nat.le_refl _) _).drew
            go_region_held3 (fun W : World => Below w8.heap.size w8 W ∧ w8.heap.size ≤ W.heap.size ∧ W.cell? ⟨w.heap.size, 0, none⟩ = some (.int .i64 a) ∧ W.cell? ⟨w.heap.size, 1, none⟩ = some (.int .i64 b) ∧ W.cell? ⟨w.heap.size, 2, none⟩ = some (.int .i64 o) ∧ W.cell? ⟨wo.heap.size, m, none⟩ = some (.string n0) ∧ W.cell? ⟨wo.heap.size, j, none⟩ = some (.string n1)) ((exact HS.out _ (by (repeat' first | exact HB11.out | exact HB10.out | exact HB9.out | exact Below.refl _ _ | exact e11 | (with_reducible refine Below.drew ?_) | (with_reducible refine Below.alloc ?_ ?_ _) | (with_reducible refine Below.setCell ?_ ?_ _) | exact Nat.le_refl _ | exact HB11.out.size | exact HB10.out.size | exact HB9.out.size)))) ((first
              | (go_at_call 52; with_reducible refine (HN.out n0 w8.drew HD8.out).mono ?_; rintro e w9 ⟨rfl, HB9, K9⟩)
              | (go_at_call 52; with_reducible refine (HN.out n0 (w8.alloc (.cells #[.int .i64 0, .int .i64 0, .int .i64 0] 31)).drew HA8.out).mono ?_; rintro e w9 ⟨rfl, HB9, K9⟩; have z9 := Lib.hid (K9 _ (K1.made w8 w8 (Nat.le_refl _)).drew))
              | (go_at_call 52; with_reducible refine (HN.out n1 w9 HB9.out).mono ?_; rintro e w10 ⟨rfl, HB10, K10⟩; (try have z10 := Lib.hid (K10 _ z9.out)))
              | (go_at_call 52; with_reducible refine (HN.out n1 (w9.alloc (.cells #[.int .i64 0, .int .i64 0, .int .i64 0] 31)) (HB9.out.alloc HB9.out.size _)).mono ?_; rintro e w10 ⟨rfl, HB10, K10⟩; have z10 := Lib.hid (K10 _ (K1.made w8 w9 HB9.out.size)))
              | (go_at_call 51; with_reducible refine (HL.out (nm n0) (nm n1) w10 HB10.out).mono ?_; rintro e w11 ⟨rfl, HB11, K11⟩; (try (have z11 := K11 _ z10.out; obtain ⟨c11, f11, l11, e11⟩ := z11)))
              | (go_at_call 51; with_reducible refine (HL.out (nm n0) (nm n1) (w10.alloc (.cells #[.int .i64 0, .int .i64 0, .int .i64 0] 31)) (HB10.out.alloc HB10.out.size _)).mono ?_; rintro e w11 ⟨rfl, HB11, K11⟩; have z11 := K11 _ (K1.made w8 w10 HB10.out.size); obtain ⟨c11, f11, l11, e11⟩ := z11)))
            all_goals (go_wp2_with fail; go_meet; case rel => first | (exact ⟨w11.heap.size, rfl, rfl, HB11.out.size, by simp, fun j => by simp, HB11.out.alloc HB11.out.size _⟩) | (exact ⟨_, rfl, rfl, e11, by simpa using l11, box3_put _ _ _ _ _ _ _ _ c11, ((HB11.out.setCell e11 _).setCell e11 _).setCell e11 _⟩))
          obtain ⟨Bx, rfl, rfl, hBx8, hBxc, hY, hbc⟩ := hcut
          obtain ⟨w12, rfl⟩ : ∃ w12 : World, w12 = wc := ⟨_, rfl⟩
          have hz12 := hbc.out.size
          have HB12 := Lib.hid (HBx.out.trans (hbc.out.mono hzx))
          have hY12 := hY.out
          have hlt12 : w.heap.size < w12.heap.size := by omega
          clear HN HL HS
          have hjm1 : j - 1 = m := by have := HJM.out; omega
          cases r with
          | none =>
            have HN1 : Hid (readGI a b o s = none) := HWF.out (HJF.out j B hj1 hje HJX.out (by rw [hjm1]; exact HFJ.out))
            have HBW12 := Lib.hid (HBW.out.trans (hbc.out.mono (by omega)))
            clear hY hY12 hr
            go_wp2_with fail
            all_goals go_ret2
            all_goals (unfold RetRG; rw [HN1.out]; exact ⟨_, rfl, Own.nil _ _ _, HBW12.out⟩)
          | some l =>
            have HJ2 : Hid (wordJ (lbB a b o) (NL.take (j + 1)) = some (B ++ [l])) := by
              show _ = _
              rw [HJN.out j B hj1 hje HJX.out, hjm1, HFJ.out]; rfl
            have hl : (some l : Option Ln).getD Ln0 = l := rfl
            rw [hl] at hY12
            have hown12 := HOX.out.keep hbc.out
            have HNX12 : Hid (∀ i, i < NS.length → w12.cell? ⟨wo.heap.size, i, none⟩ = some (.string (gD NS ⟨#[]⟩ i))) := fun i hi => (hbc.out.cell (p := ⟨wo.heap.size, i, none⟩) hNx).trans (HNX.out i hi)
            have HV12 : Hid (∀ g, (Value.slice aE AB.length cE).ownBlock = some g → g < w12.heap.size ∧ g ≠ wo.heap.size) := fun g hg => ⟨by have := (HVX.out g hg).1; omega, (HVX.out g hg).2⟩
            have hw1le : w1.heap.size ≤ w12.heap.size := by omega
            have hNx12 : wo.heap.size < w12.heap.size := by omega
            clear hY hr hl hjm1
            have hsing := Own.single (E := ELine) l w12 w12.heap.size (Nat.le_refl _)
            have hownA := hown12.alloc (.cells (ELine.enc l).toArray ELine.e)
            go_wp2_with (at_builtin; (refine appendN (E := ELine) (l := AB) (l2 := [l]) rfl rfl _ _ 37 rfl Tryd.underlying37 rfl rfl hownA hsing (by simp; omega) (by simp only [World.size_alloc]; omega) ?_); intro v' w13 hown13 hb13 hg13 hv13)
            have hG : World.grownBy (w12.alloc (.cells (ELine.enc l).toArray ELine.e)) w13 (Value.slice aE AB.length cE).ownBlock := hg13
            have hV : v'.ownBlock = (Value.slice aE AB.length cE).ownBlock ∨ v'.ownBlock = some (w12.alloc (.cells (ELine.enc l).toArray ELine.e)).heap.size := hv13
            have hz13 : w12.heap.size + 1 ≤ w13.heap.size := by have h := hb13.size; rw [World.size_alloc] at h; exact h
            clear hg13 hv13
            have HVN : Hid (∀ g, v'.ownBlock = some g → g < w13.heap.size ∧ g ≠ wo.heap.size) := fun g hg => by
              obtain ⟨a', c', hv', _, hgl⟩ := hown13.lineG
              obtain ⟨b', hb', _, hlt', _⟩ := hgl AB.length (by simp)
              have hgb : g = b' := by
                have h := hg
                rw [hv', hb'] at h
                simp [Value.ownBlock] at h
                exact h.symm
              refine ⟨by omega, ?_⟩
              rcases hV with h | h
              · rw [h] at hg; exact (HV12.out g hg).2
              · rw [h, World.size_alloc] at hg
                have := Option.some.inj hg
                omega
            have HNX13 : Hid (∀ i, i < NS.length → w13.cell? ⟨wo.heap.size, i, none⟩ = some (.string (gD NS ⟨#[]⟩ i))) := fun i hi => by
              have h1 : (w12.alloc (.cells (ELine.enc l).toArray ELine.e)).cell? ⟨wo.heap.size, i, none⟩ = w12.cell? ⟨wo.heap.size, i, none⟩ := ((Below.refl w12.heap.size w12).alloc (Nat.le_refl _) _).cell (p := ⟨wo.heap.size, i, none⟩) hNx12
              refine (World.cell?_of_block (hG.block wo.heap.size (by rw [World.size_alloc]; omega) (fun e => ?_))).trans (h1.trans (HNX12.out i hi))
              first | exact (HV12.out _ e).2 rfl | exact (HV12.out _ e.symm).2 rfl
            have HB13 : Hid (Below w1.heap.size w1 w13) := (HB12.out.alloc hw1le _).trans hb13
            have HOW13 : Hid (Own ELine w13 w1.heap.size v' (A ++ (B ++ [l]))) := by show Own _ _ _ _ _; rw [← List.append_assoc, HAB.out]; exact hown13
            have hBl2 : (B ++ [l]).length + 1 ≤ j + 1 := by rw [List.length_append]; simp; omega
            exact ⟨⟨j + 1, B ++ [l], by omega, by omega, by go_num, HOW13, hBl2, HJ2, HVN, HNX13, by omega, HB13⟩, by simp [intOf] <;> omega⟩
end Go.Proofs.YtkaojpcpfbbicaaDoor
