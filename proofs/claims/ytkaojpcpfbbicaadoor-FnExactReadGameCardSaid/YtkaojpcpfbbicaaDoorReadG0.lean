/- ReadG0: reading a game's text, plain: the program's reading (words, names) and the reference's (byte by byte) hand back the same; no program in sight. No condition. -/
import Derived.Test.YtkaojpcpfbbicaaDoorRead0
import Derived.Test.YtkaojpcpfbbicaaDoorGameT
import Derived.Lib.SplitLaws
import Derived.Lib.IndexBytes
set_option linter.unusedVariables false
set_option linter.unusedSimpArgs false
namespace Peg
/-- a text cut at a byte -/
def spl (c : UInt8) : List UInt8 → List (List UInt8)
  | [] => [[]]
  | x :: s => if x = c then [] :: spl c s else match spl c s with
    | w :: r => (x :: w) :: r
    | [] => [[x]]
theorem spl_ne (c : UInt8) (s : List UInt8) : spl c s ≠ [] := by
  cases s with
  | nil => simp [spl]
  | cons x s =>
    unfold spl
    split
    · simp
    · split <;> simp
theorem spl_free {c : UInt8} : ∀ {v : List UInt8}, c ∉ v → spl c v = [v]
  | [], _ => rfl
  | x :: v, h => by
    have h1 : ¬ x = c := fun e => h (by simp [e])
    have h2 := spl_free (c := c) (v := v) (fun e => h (by simp [e]))
    simp only [spl]
    rw [if_neg h1, h2]
theorem spl_sep (c : UInt8) : ∀ (s v : List UInt8), spl c (s ++ c :: v) = spl c s ++ spl c v
  | [], v => by simp [spl]
  | x :: s, v => by
    have ih := spl_sep c s v
    rw [List.cons_append]
    simp only [spl]
    by_cases h : x = c
    · rw [if_pos h, if_pos h, ih]; rfl
    · rw [if_neg h, if_neg h, ih]
      cases hs : spl c s with
      | nil => exact absurd hs (spl_ne c s)
      | cons w r => rfl
theorem spl_app {c : UInt8} {u : List UInt8} (hu : c ∉ u) : ∀ (s : List UInt8) (A : List (List UInt8)) (w : List UInt8), spl c s = A ++ [w] → spl c (s ++ u) = A ++ [w ++ u]
  | [], A, w, h => by
    have h1 : A = [] ∧ w = [] := by
      cases A with
      | nil => simp [spl] at h; exact ⟨rfl, h⟩
      | cons x A => have := congrArg List.length h; simp [spl] at this
    rw [h1.1, h1.2]
    simpa using spl_free hu
  | x :: s, A, w, h => by
    rw [List.cons_append]
    simp only [spl] at h ⊢
    by_cases hx : x = c
    · rw [if_pos hx] at h ⊢
      cases A with
      | nil =>
        have := congrArg List.length h
        have h2 := spl_ne c s
        simp at this
        exact absurd this h2
      | cons y A =>
        rw [List.cons_append] at h
        obtain ⟨h1, h2⟩ := List.cons.inj h
        rw [spl_app hu s A w h2, ← h1]; rfl
    · rw [if_neg hx] at h ⊢
      cases hs : spl c s with
      | nil => exact absurd hs (spl_ne c s)
      | cons y r =>
        rw [hs] at h
        simp only at h
        cases A with
        | nil =>
          obtain ⟨h1, h2⟩ := List.cons.inj (show (x :: y) :: r = w :: [] from h)
          subst h2
          rw [spl_app hu s [] y (by rw [hs]; rfl), ← h1]; rfl
        | cons z A =>
          rw [List.cons_append] at h
          obtain ⟨h1, h2⟩ := List.cons.inj h
          rw [spl_app hu s (y :: A) w (by rw [hs, h2]; rfl), ← h1]; rfl
theorem take_snoc {α : Type} (l : List α) (d : α) {k : Nat} (hk : k < l.length) : l.take (k + 1) = l.take k ++ [gD l d k] := by
  rw [List.take_succ_eq_append_getElem hk]
  congr 2
  simp [gD, hk]
/-- the hole of a name, as bytes -/
def nmd (a b o : Int) (l : List UInt8) : Int := named a b o ⟨l.toArray⟩
/-- the jumps of a word -/
def wordJ (lb : List UInt8 → List UInt8 → Option Ln) : List (List UInt8) → Option (List Ln)
  | x :: y :: r => match lb x y with
    | none => none
    | some l => (wordJ lb (y :: r)).map (l :: ·)
  | _ => some []
def textJ (lb : List UInt8 → List UInt8 → Option Ln) : List (List UInt8) → Option (List Ln)
  | [] => some []
  | w :: r => (wordJ lb (spl 45 w)).bind fun A => (textJ lb r).map (A ++ ·)
theorem wordJ_two (lb : List UInt8 → List UInt8 → Option Ln) (x y : List UInt8) (r : List (List UInt8)) : wordJ lb (x :: y :: r) = match lb x y with
    | none => none
    | some l => (wordJ lb (y :: r)).map (l :: ·) := by rw [wordJ]
theorem wordJ_snoc (lb : List UInt8 → List UInt8 → Option Ln) (y : List UInt8) : ∀ (ms : List (List UInt8)) (x : List UInt8), wordJ lb (ms ++ [x] ++ [y]) = (wordJ lb (ms ++ [x])).bind fun B => (lb x y).map fun l => B ++ [l]
  | [], x => by
    simp only [List.nil_append, List.cons_append, wordJ]
    cases lb x y <;> rfl
  | [m], x => by
    have ih := wordJ_snoc lb y [] x
    simp only [List.nil_append, List.cons_append] at ih ⊢
    rw [wordJ_two lb m x [y], wordJ_two lb m x []]
    cases lb m x with
    | none => rfl
    | some l =>
      simp only [ih]
      cases wordJ lb [x] with
      | none => rfl
      | some B => cases lb x y <;> rfl
  | m :: n :: ms, x => by
    have ih := wordJ_snoc lb y (n :: ms) x
    simp only [List.cons_append] at ih ⊢
    rw [wordJ_two lb m n _, wordJ_two lb m n _]
    cases lb m n with
    | none => rfl
    | some l =>
      simp only [ih]
      cases wordJ lb (n :: (ms ++ [x])) with
      | none => rfl
      | some B => cases lb x y <;> rfl
theorem textJ_append (lb : List UInt8 → List UInt8 → Option Ln) (B : List (List UInt8)) : ∀ A, textJ lb (A ++ B) = (textJ lb A).bind fun x => (textJ lb B).map (x ++ ·)
  | [] => by simp [textJ]
  | w :: A => by
    rw [List.cons_append, textJ, textJ, textJ_append lb B A]
    cases wordJ lb (spl 45 w) with
    | none => rfl
    | some X =>
      cases textJ lb A with
      | none => rfl
      | some Y =>
        cases textJ lb B with
        | none => rfl
        | some Z => simp
theorem textJ_one (lb : List UInt8 → List UInt8 → Option Ln) (w : List UInt8) : textJ lb [w] = wordJ lb (spl 45 w) := by
  rw [textJ]
  cases wordJ lb (spl 45 w) <;> simp [textJ]
/-- the reference's reading -/
structure RSt where
  out : List Ln
  last : List UInt8
  word : List UInt8
def flushS (rj : List UInt8 → Option Ln) (st : RSt) : Option RSt :=
  if st.last ≠ [] then match rj (st.last ++ 45 :: st.word) with
    | none => none
    | some l => some ⟨st.out ++ [l], st.word, []⟩
  else some ⟨st.out, st.word, []⟩
def stepS (rj : List UInt8 → Option Ln) (st : RSt) (x : UInt8) : Option RSt :=
  if x ≠ 45 ∧ x ≠ 32 then some ⟨st.out, st.last, st.word ++ [x]⟩
  else (flushS rj st).map fun t => if x = 32 then ⟨t.out, [], t.word⟩ else t
def runS (rj : List UInt8 → Option Ln) : RSt → List UInt8 → Option RSt
  | st, [] => some st
  | st, x :: s => (stepS rj st x).bind fun t => runS rj t s
theorem runS_append (rj : List UInt8 → Option Ln) : ∀ (s v : List UInt8) (st : RSt), runS rj st (s ++ v) = (runS rj st s).bind fun t => runS rj t v
  | [], _, _ => rfl
  | x :: s, v, st => by
    rw [List.cons_append, runS, runS]
    cases stepS rj st x with
    | none => rfl
    | some t => exact runS_append rj s v t
theorem runS_free (rj : List UInt8 → Option Ln) : ∀ (v : List UInt8) (st : RSt), (45 : UInt8) ∉ v → (32 : UInt8) ∉ v → runS rj st v = some ⟨st.out, st.last, st.word ++ v⟩
  | [], st, _, _ => by simp [runS]
  | x :: v, st, h1, h2 => by
    have e1 : x ≠ 45 := fun e => h1 (by simp [e])
    have e2 : x ≠ 32 := fun e => h2 (by simp [e])
    rw [runS, stepS, if_pos ⟨e1, e2⟩]
    simp only [Option.bind_some]
    rw [runS_free rj v _ (fun e => h1 (by simp [e])) (fun e => h2 (by simp [e]))]
    simp
def readSp (rj : List UInt8 → Option Ln) (s : List UInt8) : Option (List Ln) := ((runS rj ⟨[], [], []⟩ s).bind (flushS rj)).map RSt.out
def lbB (a b o : Int) (x y : List UInt8) : Option Ln := lineBetween a b o (nmd a b o x) (nmd a b o y)
def rjB (a b o : Int) (x : List UInt8) : Option Ln := readJump a b o ⟨x.toArray⟩
def readGI (a b o : Int) (s : ByteArray) : Option (List Ln) :=
  if s.size = 0 ∨ 360 < s.size then none else match textJ (lbB a b o) (spl 32 s.data.toList) with
    | none => none
    | some L => if gameText a b o L = s then some L else none
def readGS (a b o : Int) (s : ByteArray) : Option (List Ln) :=
  match (if s.size ≤ 400 then readSp (rjB a b o) s.data.toList else some []) with
    | none => none
    | some L => if L = [] ∨ gameText a b o L ≠ s then none else some L
/-! the texts of games -/
def nl (a b o k : Int) : List UInt8 := (holeName a b o k).data.toList
theorem nl_two {a b o k : Int} (h : hasHole a b o k = true) : ∃ x y : UInt8, nl a b o k = [x, y] ∧ x ≠ 45 ∧ x ≠ 32 ∧ y ≠ 45 ∧ y ≠ 32 := by
  have key : ∀ j, j < 7 → UInt8.ofNat (97 + j) ≠ 45 ∧ UInt8.ofNat (97 + j) ≠ 32 := by decide
  have key2 : ∀ j, j < 10 → UInt8.ofNat (48 + j) ≠ 45 ∧ UInt8.ofNat (48 + j) ≠ 32 := by decide
  have d := hole_dm h
  obtain ⟨h1, h2, h3, _⟩ := hasHole_bd h
  obtain ⟨s1, s2⟩ := boardOk_sides h1
  have hb := (inR_iff.1 s2).2
  have hk : k / a < b := Int.ediv_lt_of_lt_mul (by omega) (by rw [Int.mul_comm]; omega)
  refine ⟨_, _, by rw [nl, nl_hole h, Go.Lib.decDigits_one (show (k / a + 1).toNat < 10 by omega)], (key _ (by omega)).1, (key _ (by omega)).2, (key2 _ (by omega)).1, (key2 _ (by omega)).2⟩
theorem nl_no {a b o k : Int} (h : hasHole a b o k = true) : (45 : UInt8) ∉ nl a b o k ∧ (32 : UInt8) ∉ nl a b o k ∧ nl a b o k ≠ [] ∧ (nl a b o k).length = 2 := by
  obtain ⟨x, y, e, h1, h2, h3, h4⟩ := nl_two h
  rw [e]
  simp [h1.symm, h2.symm, h3.symm, h4.symm]
theorem toArr_nl (a b o k : Int) : (⟨(nl a b o k).toArray⟩ : ByteArray) = holeName a b o k := ba_ext (by simp [nl])
theorem lb_line {a b o : Int} {l : Ln} (h : isLn a b o l = true) : lbB a b o (nl a b o l.f) (nl a b o l.t) = some l := by
  obtain ⟨h1, h2⟩ := line_holes (isLn_mem h)
  unfold lbB nmd
  rw [toArr_nl, toArr_nl, named_name h1, named_name h2]
  simpa [isLn] using h
theorem jt_list {a b o : Int} {l : Ln} (h : isLn a b o l = true) : (jumpText a b o l).data.toList = nl a b o l.f ++ 45 :: nl a b o l.t := jumpText_list (isLn_mem h)
theorem rj_line {a b o : Int} {l : Ln} (h : isLn a b o l = true) : rjB a b o (nl a b o l.f ++ 45 :: nl a b o l.t) = some l := by
  obtain ⟨h1, h2⟩ := line_holes (isLn_mem h)
  unfold rjB
  have hi := index_at (nl a b o l.f) (nl a b o l.t) (nl_no h1).1
  rw [readJump_hit (fr := holeName a b o l.f) (to := holeName a b o l.t) (i := (nl a b o l.f).length) (by simpa using hi) (by simp [nl]) (by exact (drop_mid (nl a b o l.f) (nl a b o l.t) 45).symm), named_name h1, named_name h2]
  simpa [isLn] using h
/-- what stands behind k + 1 jumps -/
theorem game_parse {a b o : Int} {L : List Ln} : ∀ (k : Nat) (s : ByteArray), k < L.length → gtTo (isLn a b o) (holeName a b o) (jumpText a b o) L (k + 1) = some s →
    isLn a b o (gD L Ln0 k) = true ∧ s.size ≤ 6 * (k + 1) - 1 ∧
    (∃ Ws w ms, spl 32 s.data.toList = Ws ++ [w] ∧ spl 45 w = ms ++ [nl a b o (gD L Ln0 k).t] ∧ textJ (lbB a b o) (Ws ++ [w]) = some (L.take (k + 1))) ∧
    runS (rjB a b o) ⟨[], [], []⟩ s.data.toList = some ⟨L.take k, nl a b o (gD L Ln0 k).f, nl a b o (gD L Ln0 k).t⟩ := by
  intro k
  induction k with
  | zero =>
    intro s hk h
    simp only [gtTo, Option.bind_some] at h
    split at h
    · rename_i hl
      obtain ⟨h1, h2⟩ := line_holes (isLn_mem hl)
      have n1 := nl_no h1
      have n2 := nl_no h2
      have e0 := Option.some.inj h
      rw [empty_app] at e0
      have e1 : s.data.toList = nl a b o (gD L Ln0 0).f ++ 45 :: nl a b o (gD L Ln0 0).t := by rw [← e0]; exact jt_list hl
      have hsz : s.size = s.data.toList.length := Go.Lib.size_eq s
      have h32 : (32 : UInt8) ∉ nl a b o (gD L Ln0 0).f ++ 45 :: nl a b o (gD L Ln0 0).t := by
        simp only [List.mem_append, List.mem_cons, not_or]
        exact ⟨n1.2.1, by decide, n2.2.1⟩
      have hsp : spl 45 (nl a b o (gD L Ln0 0).f ++ 45 :: nl a b o (gD L Ln0 0).t) = [nl a b o (gD L Ln0 0).f, nl a b o (gD L Ln0 0).t] := by rw [spl_sep, spl_free n1.1, spl_free n2.1]; rfl
      have ht : L.take (0 + 1) = [gD L Ln0 0] := by rw [take_snoc L Ln0 hk]; rfl
      refine ⟨hl, ?_, ⟨[], _, [nl a b o (gD L Ln0 0).f], by rw [e1, spl_free h32]; rfl, by rw [hsp]; rfl, ?_⟩, ?_⟩
      · rw [hsz, e1]; simp [n1.2.2.2, n2.2.2.2]
      · rw [List.nil_append, textJ_one, hsp, wordJ, lb_line hl, ht]
        simp [wordJ]
      · rw [e1, runS_append, runS_free _ _ _ n1.1 n1.2.1]
        simp only [Option.bind_some, List.nil_append]
        rw [runS, stepS, if_neg (by simp)]
        simp only [flushS, ne_eq, not_true_eq_false, if_false, Option.map_some, Option.bind_some]
        rw [if_neg (by decide), runS_free _ _ _ n2.1 n2.2.1]
        simp
    · cases h
  | succ k ih =>
    intro s hk h
    rw [gtTo] at h
    cases hp : gtTo (isLn a b o) (holeName a b o) (jumpText a b o) L (k + 1) with
    | none => rw [hp] at h; cases h
    | some p =>
      rw [hp] at h
      simp only [Option.bind_some] at h
      split at h
      · rename_i hl
        obtain ⟨hl0, hsz0, ⟨Ws, w, ms, hW, hw, hT⟩, hR⟩ := ih p (by omega) hp
        have e0 := Option.some.inj h
        obtain ⟨h1, h2⟩ := line_holes (isLn_mem hl)
        have n1 := nl_no h1
        have n2 := nl_no h2
        have ht1 : L.take (k + 1 + 1) = L.take (k + 1) ++ [gD L Ln0 (k + 1)] := take_snoc L Ln0 hk
        have ht0 : L.take (k + 1) = L.take k ++ [gD L Ln0 k] := take_snoc L Ln0 (by omega)
        have hfl : flushS (rjB a b o) ⟨L.take k, nl a b o (gD L Ln0 k).f, nl a b o (gD L Ln0 k).t⟩ = some ⟨L.take (k + 1), nl a b o (gD L Ln0 k).t, []⟩ := by
          obtain ⟨g1, _⟩ := line_holes (isLn_mem hl0)
          rw [flushS, if_pos (nl_no g1).2.2.1]
          simp only [rj_line hl0, ht0]
        have hsz : s.size = s.data.toList.length := Go.Lib.size_eq s
        have hszp : p.size = p.data.toList.length := Go.Lib.size_eq p
        by_cases hc : (gD L Ln0 k).t = (gD L Ln0 (k + 1)).f
        · rw [gPiece_same hc] at e0
          have e1 : s.data.toList = p.data.toList ++ 45 :: nl a b o (gD L Ln0 (k + 1)).t := by rw [← e0]; simp [nl]
          have h32 : (32 : UInt8) ∉ (45 : UInt8) :: nl a b o (gD L Ln0 (k + 1)).t := by
            simp only [List.mem_cons, not_or]
            exact ⟨by decide, n2.2.1⟩
          have hsp : spl 45 (w ++ 45 :: nl a b o (gD L Ln0 (k + 1)).t) = ms ++ [nl a b o (gD L Ln0 k).t] ++ [nl a b o (gD L Ln0 (k + 1)).t] := by rw [spl_sep, hw, spl_free n2.1]
          refine ⟨hl, ?_, ⟨Ws, _, ms ++ [nl a b o (gD L Ln0 k).t], by rw [e1, spl_app h32 _ Ws w hW], hsp, ?_⟩, ?_⟩
          · rw [hsz, e1]; simp [n2.2.2.2]; omega
          · rw [textJ_append, textJ_one] at hT ⊢
            rw [hsp, wordJ_snoc, ← hw]
            cases hA : textJ (lbB a b o) Ws with
            | none => rw [hA] at hT; cases hT
            | some A =>
              rw [hA] at hT
              simp only [Option.bind_some] at hT ⊢
              cases hB : wordJ (lbB a b o) (spl 45 w) with
              | none => rw [hB] at hT; cases hT
              | some B =>
                rw [hB] at hT
                simp only [Option.map_some, Option.some.injEq] at hT
                rw [hc, lb_line hl, ht1, ← hT]
                simp
          · rw [e1, runS_append, hR]
            simp only [Option.bind_some]
            rw [runS, stepS, if_neg (by simp), hfl]
            simp only [Option.map_some, Option.bind_some]
            rw [if_neg (by decide), runS_free _ _ _ n2.1 n2.2.1, hc]
            simp
        · rw [gPiece_new hc] at e0
          have e1 : s.data.toList = p.data.toList ++ 32 :: (nl a b o (gD L Ln0 (k + 1)).f ++ 45 :: nl a b o (gD L Ln0 (k + 1)).t) := by rw [← e0]; simp [jt_list hl]
          have h32 : (32 : UInt8) ∉ nl a b o (gD L Ln0 (k + 1)).f ++ 45 :: nl a b o (gD L Ln0 (k + 1)).t := by
            simp only [List.mem_append, List.mem_cons, not_or]
            exact ⟨n1.2.1, by decide, n2.2.1⟩
          have hsp : spl 45 (nl a b o (gD L Ln0 (k + 1)).f ++ 45 :: nl a b o (gD L Ln0 (k + 1)).t) = [nl a b o (gD L Ln0 (k + 1)).f, nl a b o (gD L Ln0 (k + 1)).t] := by rw [spl_sep, spl_free n1.1, spl_free n2.1]; rfl
          refine ⟨hl, ?_, ⟨Ws ++ [w], _, [nl a b o (gD L Ln0 (k + 1)).f], by rw [e1, spl_sep, hW, spl_free h32], by rw [hsp]; rfl, ?_⟩, ?_⟩
          · rw [hsz, e1]; simp [n1.2.2.2, n2.2.2.2]; omega
          · rw [textJ_append, hT, textJ_one, hsp, wordJ, lb_line hl, ht1]
            simp [wordJ]
          · rw [e1, runS_append, hR]
            simp only [Option.bind_some]
            rw [runS, stepS, if_neg (by simp), hfl]
            simp only [Option.map_some, Option.bind_some]
            rw [if_pos trivial, runS_append, runS_free _ _ _ n1.1 n1.2.1]
            simp only [Option.bind_some, List.nil_append]
            rw [runS, stepS, if_neg (by simp)]
            simp only [flushS, ne_eq, not_true_eq_false, if_false, Option.map_some, Option.bind_some]
            rw [if_neg (by decide), runS_free _ _ _ n2.1 n2.2.1]
            simp
      · cases h
theorem game_valid {a b o : Int} {L : List Ln} {s : ByteArray} (hs : s.size ≠ 0) (h : gameText a b o L = s) : L ≠ [] ∧ L.length ≤ 60 ∧ s.size ≤ 359 ∧ textJ (lbB a b o) (spl 32 s.data.toList) = some L ∧ readSp (rjB a b o) s.data.toList = some L := by
  unfold gameText at h
  split at h
  · rename_i h60
    cases hg : gtTo (isLn a b o) (holeName a b o) (jumpText a b o) L L.length with
    | none => rw [hg] at h; exact absurd (by rw [← h]; rfl) hs
    | some t =>
      rw [hg] at h
      simp only [Option.getD_some] at h
      subst h
      cases hL : L.length with
      | zero =>
        rw [hL] at hg
        exact absurd (by rw [← Option.some.inj hg]; rfl) hs
      | succ k =>
        rw [hL] at hg
        obtain ⟨hl, hz, ⟨Ws, w, ms, hW, _, hT⟩, hR⟩ := game_parse k t (by omega) hg
        have ht : L.take (k + 1) = L := List.take_of_length_le (by omega)
        refine ⟨by intro e; rw [e] at hL; simp at hL, by omega, by omega, by rw [hW, hT, ht], ?_⟩
        rw [readSp, hR]
        simp only [Option.bind_some]
        obtain ⟨g1, _⟩ := line_holes (isLn_mem hl)
        rw [flushS, if_pos (nl_no g1).2.2.1]
        simp only [rj_line hl, Option.map_some]
        rw [← take_snoc L Ln0 (by omega), ht]
  · exact absurd (by rw [← h]; rfl) hs
theorem readGI_iff {a b o : Int} {s : ByteArray} {L : List Ln} : readGI a b o s = some L ↔ s.size ≠ 0 ∧ gameText a b o L = s := by
  unfold readGI
  constructor
  · intro h
    split at h
    · cases h
    · rename_i hs
      split at h
      · cases h
      · split at h
        · rename_i hg
          have e := Option.some.inj h
          subst e
          exact ⟨by omega, hg⟩
        · cases h
  · rintro ⟨hs, hg⟩
    obtain ⟨_, _, h3, h4, _⟩ := game_valid hs hg
    rw [if_neg (by omega), h4]
    simp only [hg, if_true]
theorem readGS_iff {a b o : Int} {s : ByteArray} {L : List Ln} : readGS a b o s = some L ↔ s.size ≠ 0 ∧ gameText a b o L = s := by
  unfold readGS
  constructor
  · intro h
    split at h
    · cases h
    · rename_i M hM
      split at h
      · cases h
      · rename_i hs
        have e := Option.some.inj h
        subst e
        rw [not_or] at hs
        refine ⟨fun h0 => ?_, by simpa using hs.2⟩
        rw [if_pos (by omega)] at hM
        have hnil : s.data.toList = [] := by
          have h1 : s.size = s.data.toList.length := Go.Lib.size_eq s
          have : s.data.toList.length = 0 := by omega
          exact List.length_eq_zero_iff.1 this
        rw [hnil] at hM
        simp [readSp, runS, flushS] at hM
        first | exact hs.1 hM.symm | exact hs.1 hM
  · rintro ⟨hs, hg⟩
    obtain ⟨h1, _, h3, _, h5⟩ := game_valid hs hg
    rw [if_pos (by omega), h5]
    simp only [h1, hg, ne_eq, not_true_eq_false, or_self, if_false]
theorem readG_same (a b o : Int) (s : ByteArray) : readGI a b o s = readGS a b o s := by
  cases h : readGI a b o s with
  | none =>
    cases h2 : readGS a b o s with
    | none => rfl
    | some L =>
      rw [readGI_iff.2 (readGS_iff.1 h2)] at h
      cases h
  | some L => rw [readGS_iff.2 (readGI_iff.1 h)]
theorem splitK_spl (c : UInt8) : ∀ (k : Nat) (s : List UInt8), Go.Lib.count s [c] = k → Go.Lib.splitK [c] 0 k s = spl c s
  | 0, s, h => by
    rw [Go.Lib.count_one, List.count_eq_zero] at h
    rw [Go.Lib.splitK, spl_free h]
  | k + 1, s, h => by
    have hge := Go.Lib.indexByte_ge s c
    by_cases hm : Go.Lib.index s [c] = -1
    · rw [Go.Lib.count_miss hm] at h; omega
    · have h1 := Go.Lib.index_one s c
      obtain ⟨i, hi⟩ : ∃ i : Nat, Go.Lib.index s [c] = i := ⟨(Go.Lib.index s [c]).toNat, by omega⟩
      have hn : ¬ (Go.Lib.index s [c] == -1) = true := fun e => hm (beq_iff_eq.1 e)
      have hc := Go.Lib.count_hit (s := s) (sub := [c]) (by simp) hi
      simp only [List.length_cons, List.length_nil, Nat.zero_add] at hc
      have ih := splitK_spl c k (s.drop (i + 1)) (by omega)
      rw [Go.Lib.splitK, if_neg hn, hi]
      simp only [Int.toNat_natCast, Nat.add_zero, List.length_cons, List.length_nil, Nat.zero_add]
      rw [ih]
      rw [h1] at hi
      obtain ⟨g1, g2⟩ := Go.Lib.indexByte_some hi
      obtain ⟨hlt, hg⟩ := List.getElem?_eq_some_iff.1 g1
      have hs : s = s.take i ++ c :: s.drop (i + 1) := by
        rw [← hg, ← List.drop_eq_getElem_cons hlt, List.take_append_drop]
      have hf : c ∉ s.take i := fun hmem => by
        obtain ⟨j, hj, e⟩ := List.getElem_of_mem hmem
        have hj2 : j < i := by rw [List.length_take] at hj; omega
        refine g2 j hj2 ?_
        rw [List.getElem_take] at e
        rw [List.getElem?_eq_getElem (by omega), e]
      conv => rhs; rw [hs, spl_sep, spl_free hf]
      rfl
/-- strings.Split at one byte -/
theorem splitB_spl (c : UInt8) (s : ByteArray) : (Go.Lib.splitB ⟨#[c]⟩ 0 (Go.Lib.countB s ⟨#[c]⟩) s).map (·.data.toList) = spl c s.data.toList := by
  rw [Go.Lib.splitB_data]
  exact splitK_spl c _ _ rfl
theorem splitB_spl_len (c : UInt8) (s : ByteArray) : (Go.Lib.splitB ⟨#[c]⟩ 0 (Go.Lib.countB s ⟨#[c]⟩) s).length = Go.Lib.countB s ⟨#[c]⟩ + 1 := Go.Lib.splitB_all _ (by simp [ByteArray.size]) 0 _ s rfl
end Peg
