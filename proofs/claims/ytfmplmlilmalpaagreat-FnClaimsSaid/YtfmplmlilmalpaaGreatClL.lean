/- ClL: several texts in one (LqA, SSpoils, LqB, LqC). Conditions: those that each theorem names. -/
import Derived.Test.YtfmplmlilmalpaaGreatClA
import Derived.Test.YtfmplmlilmalpaaGreatMem3
import Derived.Test.YtfmplmlilmalpaaGreatSpoils
import Derived.Test.YtfmplmlilmalpaaGreatClP
import Derived.Test.YtfmplmlilmalpaaGreatClV
import Derived.Deep.RegionWith
set_option linter.unusedVariables false
set_option linter.unusedSimpArgs false
namespace Peg
def rowF (a b o g : Int) (n1 : Nat) (q : Int) : List Int := (List.range n1).map fun t : Nat => fewest a b o g q t
def rowTo (a b o g : Int) (n1 : Nat) (q : Int) (k : Nat) : List Int := (List.range n1).map fun t : Nat => if t < k then fewest a b o g q t else 0
theorem rowTo_zero (a b o g : Int) (n1 : Nat) (q : Int) : rowTo a b o g n1 q 0 = List.replicate n1 0 := by
  unfold rowTo
  simp [List.map_const']
theorem rowTo_len (a b o g : Int) (n1 : Nat) (q : Int) (k : Nat) : (rowTo a b o g n1 q k).length = n1 := by simp [rowTo]
theorem rowTo_full (a b o g : Int) (n1 : Nat) (q : Int) : rowTo a b o g n1 q n1 = rowF a b o g n1 q := by
  unfold rowTo rowF
  refine List.map_congr_left fun t ht => ?_
  rw [if_pos (List.mem_range.1 ht)]
theorem rowTo_set (a b o g : Int) (n1 : Nat) (q : Int) (k : Nat) : (rowTo a b o g n1 q k).set k (fewest a b o g q k) = rowTo a b o g n1 q (k + 1) := by
  apply List.ext_getElem
  · simp [rowTo]
  · intro i h1 h2
    simp only [rowTo, List.length_set, List.length_map, List.length_range] at h1 h2 ⊢
    rw [List.getElem_set]
    by_cases h : k = i
    · subst h; simp
    · rw [if_neg h]
      simp only [List.getElem_map, List.getElem_range]
      by_cases h3 : i < k
      · rw [if_pos h3, if_pos (by omega)]
      · rw [if_neg h3, if_neg (by omega)]
theorem rowF_at (a b o g : Int) (n1 : Nat) (q : Int) (t : Nat) (h : t < n1) : gD (rowF a b o g n1 q) 0 t = fewest a b o g q t := by
  simp [rowF, gD, h]
def Fil (R : List Int) (pg m i : Nat) (q : Int) : Prop := pg ≤ pegs q ∧ (pegs q < m ∨ (pegs q = m ∧ q ∈ R.take i))
def doneTo (R : List Int) (pg m i : Nat) : Nat := R.countP (fun q => decide (pg ≤ pegs q) && decide (pegs q < m)) + (R.take i).countP (fun q => decide (pegs q = m))
theorem doneTo_start (R : List Int) (pg : Nat) : doneTo R pg pg 0 = 0 := by
  unfold doneTo
  simp
theorem doneTo_le (R : List Int) (pg m i : Nat) : doneTo R pg m i ≤ 2 * R.length := by
  unfold doneTo
  have h1 := List.countP_le_length (p := fun q => decide (pg ≤ pegs q) && decide (pegs q < m)) (l := R)
  have h2 := List.countP_le_length (p := fun q => decide (pegs q = m)) (l := R.take i)
  have h3 : (R.take i).length ≤ R.length := by simp; omega
  omega
theorem doneTo_yes {R : List Int} {pg m i : Nat} (h : i < R.length) (hp : pegs (gD R 0 i) = m) : doneTo R pg m (i + 1) = doneTo R pg m i + 1 := by
  unfold doneTo
  have : R[i]? = some (gD R 0 i) := by simp [gD, h]
  rw [List.take_add_one, this, List.countP_append]
  simp [hp]
  omega
theorem doneTo_no {R : List Int} {pg m i : Nat} (h : i < R.length) (hp : pegs (gD R 0 i) ≠ m) : doneTo R pg m (i + 1) = doneTo R pg m i := by
  unfold doneTo
  have : R[i]? = some (gD R 0 i) := by simp [gD, h]
  rw [List.take_add_one, this, List.countP_append]
  simp [hp]
theorem doneTo_next {R : List Int} {pg m : Nat} (h : pg ≤ m) : doneTo R pg m R.length = doneTo R pg (m + 1) 0 := by
  unfold doneTo
  rw [List.take_length, List.take_zero, List.countP_nil, Nat.add_zero]
  induction R with
  | nil => rfl
  | cons x R ih =>
    simp only [List.countP_cons]
    have e : (if (decide (pg ≤ pegs x) && decide (pegs x < m + 1)) = true then 1 else 0) = (if (decide (pg ≤ pegs x) && decide (pegs x < m)) = true then 1 else 0) + (if decide (pegs x = m) = true then 1 else 0) := by
      simp only [Bool.and_eq_true, decide_eq_true_eq]
      by_cases h1 : pegs x = m
      · rw [if_pos (by omega), if_neg (by omega), if_pos h1]
      · by_cases h2 : pg ≤ pegs x ∧ pegs x < m
        · rw [if_pos (by omega), if_pos h2, if_neg h1]
        · rw [if_neg (by omega), if_neg h2, if_neg h1]
    omega
theorem doneTo_all {R : List Int} {pg m : Nat} (h : R.length ≤ doneTo R pg m 0) : ∀ q ∈ R, Fil R pg m 0 q := by
  unfold doneTo at h
  rw [List.take_zero, List.countP_nil, Nat.add_zero] at h
  have h1 := List.countP_le_length (p := fun q => decide (pg ≤ pegs q) && decide (pegs q < m)) (l := R)
  have h2 := List.countP_eq_length.1 (Nat.le_antisymm h1 h)
  intro q hq
  have := h2 q hq
  simp only [Bool.and_eq_true, decide_eq_true_eq] at this
  exact ⟨this.1, .inl this.2⟩
theorem fil_start {R : List Int} {pg : Nat} (q : Int) : ¬ Fil R pg pg 0 q := by
  rintro ⟨h1, h2 | ⟨_, h2⟩⟩
  · omega
  · simp at h2
theorem fil_next {R : List Int} {pg m : Nat} {q : Int} (hq : q ∈ R) (h : Fil R pg (m + 1) 0 q) : Fil R pg m R.length q := by
  obtain ⟨h1, h2 | ⟨_, h2⟩⟩ := h
  · refine ⟨h1, ?_⟩
    by_cases h3 : pegs q = m
    · exact .inr ⟨h3, by simpa using hq⟩
    · exact .inl (by omega)
  · simp at h2
theorem fil_step {R : List Int} {pg m i : Nat} {q : Int} (hi : i < R.length) (h : Fil R pg m (i + 1) q) : (q = gD R 0 i ∧ pegs q = m) ∨ Fil R pg m i q := by
  obtain ⟨h1, h2 | ⟨h3, h2⟩⟩ := h
  · exact .inr ⟨h1, .inl h2⟩
  · have : R[i]? = some (gD R 0 i) := by simp [gD, hi]
    rw [List.take_add_one, this, List.mem_append] at h2
    rcases h2 with h2 | h2
    · exact .inr ⟨h1, .inr ⟨h3, h2⟩⟩
    · simp at h2
      exact .inl ⟨h2, h3⟩
theorem fewest_bad {a b o g p last : Int} (hs : isSmall a b o = true) (hp : posOk a b o p = true) (hr : reach a b o p g false = false) : fewest a b o g p last = -1 := by
  by_cases hg : p = g
  · subst hg
    have : reach a b o p p false = true := (hasB_iff hs hp).2 (.refl _)
    rw [this] at hr; cases hr
  · rw [fewest_step hg]
    have key : ∀ L : List Ln, (∀ l ∈ L, l ∈ linesOf a b o) → ∀ x : Int, L.foldl (fwStep a b o g p last (fewest a b o g)) x = x := by
      intro L
      induction L with
      | nil => intro _ x; rfl
      | cons l L ih =>
        intro hL x
        rw [List.foldl_cons]
        have : fwStep a b o g p last (fewest a b o g) x l = x := by
          unfold fwStep
          rw [if_neg]
          intro hc
          simp only [onTo, Bool.and_eq_true] at hc
          have h1 := hc.2
          rw [has_reach] at h1
          have hq := posOk_flip hp (hL l (by simp))
          have h2 := (hasB_iff hs hq).1 h1
          have h3 : reach a b o p g false = true := (hasB_iff hs hp).2 (.step (hL l (by simp)) hc.1 h2)
          rw [h3] at hr; cases hr
        rw [this]
        exact ih (fun m hm => hL m (by simp [hm])) x
    exact key _ (fun _ h => h) _
theorem fewest_any_last {a b o g p t u : Int} (h : ∀ l ∈ linesOf a b o, l.f ≠ t ∧ l.f ≠ u) : fewest a b o g p t = fewest a b o g p u := by
  by_cases hg : p = g
  · subst hg; rw [fewest_goal, fewest_goal]
  · rw [fewest_step hg, fewest_step hg]
    refine foldl_congr_mem _ _ _ _ fun l hl x => ?_
    unfold fwStep
    rw [if_neg (h l hl).1, if_neg (h l hl).2]
theorem steps_pegs {a b o p q : Int} (h : Steps (linesOf a b o) false p q) : pegs q ≤ pegs p := by
  induction h with
  | refl p => exact Nat.le_refl _
  | step h1 h2 _ ih =>
    have := pegs_jump (linesOf_in h1).1 h2
    omega
theorem fold_take_succ {α β : Type} (f : β → α → β) (L : List α) (d x : α) (k : Nat) (b : β) (h : k < L.length) (hx : gD L d k = x) : (L.take (k + 1)).foldl f b = f ((L.take k).foldl f b) x := by
  have : L[k]? = some x := by rw [← hx]; simp [gD, h]
  rw [List.take_add_one, this, List.foldl_append]
  rfl
end Peg
namespace Go.Proofs.YtfmplmlilmalpaaGreat
open Go.ChangeShapes Go.WideShapes Go.ChangeAt Go.RowKit Peg Go.Sort
-- type 87
theorem info_sl : (Tryz.prog.info? 29).map (fun i => (i.zero, i.size, i.bytes)) = some (some (.slice none 0 0), 1, 24) := by kernel_rfl
def encSl (n1 : Nat) : Option Nat → Value
  | none => .slice none 0 0
  | some b => .slice (some ⟨b, 0, none⟩) n1 n1
def ESl (n1 : Nat) : Elt (Option Nat) where
  e := 29
  size := 1
  bytes := 24
  enc x := [encSl n1 x]
  len _ := rfl
  one x u hu := by
    simp at hu; subst hu
    cases x <;> rfl
  pos := by decide
  small := by decide
  info := ⟨_, info_sl, rfl⟩
theorem run_make_sl (n : Int) (h0 : 0 ≤ n) (h1 : n ≤ 1099511627776) (w : World) :
    (Instr.makeSlice 87 (.int .i64 n) (.int .i64 n)).run Tryz.prog w = .ok (.slice (some ⟨w.heap.size, 0, none⟩) n.toNat n.toNat) (w.alloc (.cells (fillCells (.slice none 0 0) n.toNat) 29)) := by
  obtain ⟨i, hi, hz, hsize, hby⟩ := info_parts info_sl
  rw [run_make (P := Tryz.prog) w 87 29 i (.slice none 0 0) Tryz.underlying87 hi hz .i64 .i64 n n h0 (Int.le_refl _) (by rw [hby]; omega) (by omega)]
  rw [hsize, Nat.mul_one]
  show Result.ok _ (w.alloc (.cells (madeCells #[.slice none 0 0] n.toNat) 29)) = _
  rw [madeCells_one]
theorem run_make_row (n : Int) (h0 : 0 ≤ n) (h1 : n ≤ 1099511627776) (w : World) :
    (Instr.makeSlice 29 (.int .i64 n) (.int .i64 n)).run Tryz.prog w = .ok (.slice (some ⟨w.heap.size, 0, none⟩) n.toNat n.toNat) (w.alloc (.cells (fillCells (.int .i64 0) n.toNat) 3)) := by
  obtain ⟨i, hi, hz, hsize, hby⟩ := info_parts info_int
  rw [run_make (P := Tryz.prog) w 29 3 i (.int .i64 0) Tryz.underlying29 hi hz .i64 .i64 n n h0 (Int.le_refl _) (by rw [hby]; omega) (by omega)]
  rw [hsize, Nat.mul_one]
  show Result.ok _ (w.alloc (.cells (madeCells #[.int .i64 0] n.toNat) 3)) = _
  rw [madeCells_one]
theorem Own.rowAt {w : World} {base b n cap : Nat} {l : List Int} (h : Own EInt w base (.slice (some ⟨b, 0, none⟩) n cap) l) (i : Nat) (hi : i < l.length) : w.cell? ⟨b, i, none⟩ = some (.int .i64 (gD l 0 i)) ∧ b < w.heap.size ∧ n = l.length := by
  obtain ⟨a, cap', hv, _, hg⟩ := h.intG
  obtain ⟨b', hb', h1, h2, h3⟩ := hg i hi
  simp only [Value.slice.injEq] at hv
  obtain ⟨rfl, rfl, rfl⟩ := hv
  simp only [Option.some.injEq, Addr.mk.injEq, and_true] at hb'
  subst hb'
  exact ⟨h3, h2, rfl⟩
theorem Own.slAt {w : World} {base b n cap n1 : Nat} {l : List (Option Nat)} (h : Own (ESl n1) w base (.slice (some ⟨b, 0, none⟩) n cap) l) (i : Nat) (hi : i < l.length) : w.cell? ⟨b, i, none⟩ = some (encSl n1 (gD l none i)) ∧ b < w.heap.size ∧ n = l.length := by
  obtain ⟨a, cap', hv, h1, h2, h3⟩ := h.form
  obtain ⟨b', hb', h4, h5, h6⟩ := h3 i hi
  simp only [Value.slice.injEq] at hv
  obtain ⟨rfl, rfl, rfl⟩ := hv
  simp only [Option.some.injEq, Addr.mk.injEq, and_true] at hb'
  subst hb'
  have := h6 0 (show 0 < 1 by decide)
  exact ⟨by simpa [ESl, gD, hi] using this, h5, rfl⟩
theorem Own.setE {α : Type} {E : Elt α} {w : World} {base : Nat} {v : Value} {l : List α} (h : Own E w base v l) {a : Addr} (ha : a.block < base) (u : Value) : Own E (w.setCell a u) base v l :=
  h.keep_of fun k hk _ _ => Below.heap_setCell _ _ _ _ (fun e => by omega)
def TabR (W : World) (bT N n1 : Nat) (R : List Int) (row : Int → List Int) (F : Int → Prop) (T : List (Option Nat)) : Prop :=
  Own (ESl n1) W bT (.slice (some ⟨bT, 0, none⟩) N N) T ∧ T.length = N ∧ bT < W.heap.size ∧ ∀ x ∈ R, F x → ∃ b, gD T none x.toNat = some b ∧ Own EInt W (bT + 1) (.slice (some ⟨b, 0, none⟩) n1 n1) (row x)
def TabQ (W : World) (bT N n1 : Nat) (R : List Int) (row : Int → List Int) (F : Int → Prop) (q : Int) (Z : Nat) (T : List (Option Nat)) : Prop :=
  Own (ESl n1) W bT (.slice (some ⟨bT, 0, none⟩) N N) T ∧ T.length = N ∧ bT < Z ∧ gD T none q.toNat = some Z ∧ ∀ x ∈ R, x ≠ q → F x → ∃ b, b < Z ∧ gD T none x.toNat = some b ∧ Own EInt W (bT + 1) (.slice (some ⟨b, 0, none⟩) n1 n1) (row x)
variable {W W' : World} {bT N n1 : Nat} {R : List Int} {row : Int → List Int} {F F' : Int → Prop} {T : List (Option Nat)} {q : Int} {Z : Nat}
theorem TabR.keep (h : TabR W bT N n1 R row F T) (hb : Below W.heap.size W W') : TabR W' bT N n1 R row F T := by
  obtain ⟨h1, h2, h3, h4⟩ := h
  refine ⟨h1.keep hb, h2, Nat.lt_of_lt_of_le h3 hb.size, fun x hx hf => ?_⟩
  obtain ⟨b, h5, h6⟩ := h4 x hx hf
  exact ⟨b, h5, h6.keep hb⟩
theorem TabR.imp (h : TabR W bT N n1 R row F T) (hi : ∀ x ∈ R, F' x → F x) : TabR W bT N n1 R row F' T := by
  obtain ⟨h1, h2, h3, h4⟩ := h
  exact ⟨h1, h2, h3, fun x hx hf => h4 x hx (hi x hx hf)⟩
theorem gD_setO (l : List (Option Nat)) (x : Option Nat) (k i : Nat) (hk : k < l.length) : gD (l.set k x) none i = if i = k then x else gD l none i := by
  unfold gD
  simp only [List.getD_eq_getElem?_getD, List.getElem?_set]
  by_cases h : i = k
  · subst h; simp [hk]
  · rw [if_neg (by omega), if_neg h]
theorem TabR.begin (h : TabR W bT N n1 R row F T) (hR : ∀ x ∈ R, 0 ≤ x ∧ x < N) (hq : q ∈ R) (hrow : ∀ x, (row x).length = n1) (hn1 : 0 < n1) (hn : n1 ≤ maxLen) :
    (Own EInt ((W.alloc (.cells (fillCells (.int .i64 0) n1) 3)).setCell ⟨bT, q.toNat, none⟩ (.slice (some ⟨W.heap.size, 0, none⟩) n1 n1)) (bT + 1) (.slice (some ⟨W.heap.size, 0, none⟩) n1 n1) (List.replicate n1 0) ∧
      ∃ T', TabQ ((W.alloc (.cells (fillCells (.int .i64 0) n1) 3)).setCell ⟨bT, q.toNat, none⟩ (.slice (some ⟨W.heap.size, 0, none⟩) n1 n1)) bT N n1 R row F q W.heap.size T') ∧
      (W.alloc (.cells (fillCells (.int .i64 0) n1) 3)).cell? ⟨bT, q.toNat, none⟩ = some (encSl n1 (gD T none q.toNat)) ∧ ∀ j, (W.alloc (.cells (fillCells (.int .i64 0) n1) 3)).frozen? ⟨bT, j, none⟩ = false := by
  obtain ⟨h1, h2, h3, h4⟩ := h
  have hr := hR q hq
  have hqT : q.toNat < T.length := by rw [h2]; omega
  have h1a := h1.alloc (.cells (fillCells (.int .i64 0) n1) 3)
  obtain ⟨s1, s2, s3⟩ := h1a.store rfl q.toNat hqT (some W.heap.size) (.slice (some ⟨W.heap.size, 0, none⟩) n1 n1) rfl
  refine ⟨⟨?_, T.set q.toNat (some W.heap.size), s1, by simpa using h2, h3, ?_, ?_⟩, (h1a.slAt q.toNat hqT).1, s3⟩
  · exact ((Own.fill (E := EInt) rfl (0 : Int) (.int .i64 0) rfl W n1 hn).mono (by omega)).setE (by simp) _
  · rw [gD_setO _ _ _ _ hqT, if_pos rfl]
  · intro x hx hne hf
    obtain ⟨b, h5, h6⟩ := h4 x hx hf
    have hrx := hR x hx
    have hb := (h6.rowAt 0 (by rw [hrow]; exact hn1)).2.1
    exact ⟨b, hb, by rw [gD_setO _ _ _ _ hqT, if_neg (by omega)]; exact h5, (h6.alloc _).setE (by simp) _⟩
theorem TabQ.keepZ (h : TabQ W bT N n1 R row F q Z T) (hb : Below Z W W') : TabQ W' bT N n1 R row F q Z T := by
  obtain ⟨h1, h2, h3, h4, h5⟩ := h
  refine ⟨h1.keepB (fun k hk => by simp [Value.ownBlock] at hk; omega) hb, h2, h3, h4, fun x hx hne hf => ?_⟩
  obtain ⟨b, h6, h7, h8⟩ := h5 x hx hne hf
  exact ⟨b, h6, h7, h8.keepB (fun k hk => by simp [Value.ownBlock] at hk; omega) hb⟩
theorem TabQ.read (h : TabQ W bT N n1 R row F q Z T) (hR : ∀ x ∈ R, 0 ≤ x ∧ x < N) (hrow : ∀ x, (row x).length = n1) (hn1 : 0 < n1) {x : Int} (hx : x ∈ R) (hne : x ≠ q) (hf : F x) :
    ∃ b, b < Z ∧ W.cell? ⟨bT, x.toNat, none⟩ = some (.slice (some ⟨b, 0, none⟩) n1 n1) ∧ ∀ t, t < n1 → W.cell? ⟨b, t, none⟩ = some (.int .i64 (gD (row x) 0 t)) := by
  obtain ⟨h1, h2, h3, h4, h5⟩ := h
  obtain ⟨b, h6, h7, h8⟩ := h5 x hx hne hf
  have hr := hR x hx
  have h9 := (h1.slAt x.toNat (by rw [h2]; omega)).1
  rw [h7] at h9
  exact ⟨b, h6, h9, fun t ht => (h8.rowAt t (by rw [hrow]; exact ht)).1⟩
theorem TabQ.self (h : TabQ W bT N n1 R row F q Z T) (hR : ∀ x ∈ R, 0 ≤ x ∧ x < N) (hq : q ∈ R) : W.cell? ⟨bT, q.toNat, none⟩ = some (.slice (some ⟨Z, 0, none⟩) n1 n1) := by
  obtain ⟨h1, h2, h3, h4, h5⟩ := h
  have hr := hR q hq
  have h9 := (h1.slAt q.toNat (by rw [h2]; omega)).1
  rw [h4] at h9
  exact h9
theorem TabQ.done (h : TabQ W bT N n1 R row F q Z T) (hZ : Z < W.heap.size) (ho : Own EInt W (bT + 1) (.slice (some ⟨Z, 0, none⟩) n1 n1) (row q)) (hi : ∀ x ∈ R, F' x → x = q ∨ F x) : TabR W bT N n1 R row F' T := by
  obtain ⟨h1, h2, h3, h4, h5⟩ := h
  refine ⟨h1, h2, by omega, fun x hx hf => ?_⟩
  by_cases hne : x = q
  · subst hne
    exact ⟨Z, h4, ho⟩
  · rcases hi x hx hf with h | h
    · exact absurd h hne
    · obtain ⟨b, _, h7, h8⟩ := h5 x hx hne h
      exact ⟨b, h7, h8⟩
theorem TabR.get (h : TabR W bT N n1 R row F T) (hR : ∀ x ∈ R, 0 ≤ x ∧ x < N) (hrow : ∀ x, (row x).length = n1) (hn1 : 0 < n1) {x : Int} (hx : x ∈ R) (hf : F x) :
    ∃ b, b < W.heap.size ∧ W.cell? ⟨bT, x.toNat, none⟩ = some (.slice (some ⟨b, 0, none⟩) n1 n1) ∧ ∀ t, t < n1 → W.cell? ⟨b, t, none⟩ = some (.int .i64 (gD (row x) 0 t)) := by
  obtain ⟨h1, h2, h3, h5⟩ := h
  obtain ⟨b, h7, h8⟩ := h5 x hx hf
  have hr := hR x hx
  have h9 := (h1.slAt x.toNat (by rw [h2]; omega)).1
  rw [h7] at h9
  exact ⟨b, (h8.rowAt 0 (by rw [hrow]; exact hn1)).2.1, h9, fun t ht => (h8.rowAt t (by rw [hrow]; exact ht)).1⟩
end Go.Proofs.YtfmplmlilmalpaaGreat
namespace Go.Proofs.YtfmplmlilmalpaaGreat
open Go.ChangeShapes Go.WideShapes Go.ChangeAt Go.RowKit Peg Go.Sort
end Go.Proofs.YtfmplmlilmalpaaGreat
namespace Go.Proofs.YtfmplmlilmalpaaGreat
open Go.ChangeShapes Go.WideShapes Go.ChangeAt Go.RowKit Peg Go.Sort
theorem le_maxLen {N : Nat} (h : N ≤ 65536) : N ≤ maxLen := by unfold maxLen; omega
/-- what the table says -/
def RetLeast (w : World) (a b o s g : Int) (e : Ending) (w' : World) : Prop :=
  ∃ bT, e = .returned (.slice (some ⟨bT, 0, none⟩) (boardN a b) (boardN a b)) ∧ bT < w'.heap.size ∧
    (∀ x ∈ reachList a b o s, pegs g ≤ pegs x → ∃ b', b' < w'.heap.size ∧ w'.cell? ⟨bT, x.toNat, none⟩ = some (.slice (some ⟨b', 0, none⟩) ((a * b).toNat + 1) ((a * b).toNat + 1)) ∧ ∀ t, t < (a * b).toNat + 1 → w'.cell? ⟨b', t, none⟩ = some (.int .i64 (fewest a b o g x t))) ∧ Below w.heap.size w w'
set_option maxHeartbeats 8000000 in
set_option maxRecDepth 100000 in
theorem l21Least_any (a b o s g : Int) (hsm : isSmall a b o = true) (hso : posOk a b o s = true) (hgo : posOk a b o g = true) (w : World) :
    Calls Tryz.prog 70 #[.agg #[.int .i64 a, .int .i64 b, .int .i64 o], .int .i64 s, .int .i64 g] w (RetLeast w a b o s g) := by
  obtain ⟨hbo, ab1, ab16, hN, hN1⟩ := small_N hsm
  have hs9 := pos_lt hso
  have hg9 := pos_lt hgo
  have hmem : ∀ q, q ∈ reachList a b o s ↔ Peg.Steps (linesOf a b o) false s q := by
    intro q
    rw [← hasB_iff hsm hso]
    constructor
    · intro h
      have h1 := listOf_mem h
      simp only [hasB, Bool.and_eq_true, decide_eq_true_eq]
      exact ⟨⟨h1.1, h1.2.1⟩, h1.2.2⟩
    · intro h
      simp only [hasB, Bool.and_eq_true, decide_eq_true_eq] at h
      unfold reachList listOf listTo
      rw [List.mem_map]
      refine ⟨q.toNat, ?_, by omega⟩
      rw [List.mem_filter, List.mem_range]
      exact ⟨by omega, h.2⟩
  have hpos : ∀ q ∈ reachList a b o s, posOk a b o q = true := fun q hq => Peg.Steps.pos hso ((hmem q).1 hq)
  have hRG : ∀ x ∈ reachList a b o s, 0 ≤ x ∧ x < boardN a b := fun x hx => pos_N (hpos x hx)
  have HRG := Lib.hid hRG
  have HI : Hid (∀ l ∈ linesOf a b o, LnIn a b l) := fun l hl => linesOf_in hl
  have HLd : Hid (Leads (boardN a b) (linesOf a b o)) := leads_of hbo
  have HJ : Hid (∀ x ∈ reachList a b o s, ∀ l ∈ linesOf a b o, canJ x l = true → Peg.flip x l ∈ reachList a b o s ∧ pegs (Peg.flip x l) + 1 = pegs x) := fun x hx l hl hc => ⟨(hmem _).2 (((hmem x).1 hx).snoc hl hc), pegs_jump (linesOf_in hl).1 hc⟩
  have HPG : Hid (∀ x ∈ reachList a b o s, hasB (spreadOf a b o g true) x = true → pegs g ≤ pegs x) := by
    intro x hx h
    rw [has_reach] at h
    exact steps_pegs ((hasB_iff hsm (hpos x hx)).1 h)
  have HBD : Hid (∀ x ∈ reachList a b o s, hasB (spreadOf a b o g true) x = true → ∀ t, 0 ≤ fewest a b o g x t ∧ fewest a b o g x t ≤ 49) := by
    intro x hx h t
    rw [has_reach] at h
    have h1 := fewest_bd hsm hgo _ x rfl (hpos x hx) h t
    have h2 := pegs_le x
    omega
  have HBAD : Hid (∀ x ∈ reachList a b o s, hasB (spreadOf a b o g true) x = false → ∀ t, fewest a b o g x t = -1) := by
    intro x hx h t
    rw [has_reach] at h
    exact fewest_bad hsm (hpos x hx) h
  have HGOAL : Hid (∀ t, fewest a b o g g t = 0) := fun t => fewest_goal a b o g t
  have HSTEP : Hid (∀ x t, x ≠ g → fewest a b o g x t = (linesOf a b o).foldl (fwStep a b o g x t (fewest a b o g)) (-1)) := fun x t h => fewest_step h
  have HFS : Hid (∀ x t best l, fwStep a b o g x t (fewest a b o g) best l = if canJ x l = true then if hasB (spreadOf a b o g true) (Peg.flip x l) = true then lessOf best (fewest a b o g (Peg.flip x l) l.t + if l.f = t then 0 else 1) else best else best) := by
    intro x t best l
    unfold fwStep onTo
    cases canJ x l <;> cases hasB (spreadOf a b o g true) (Peg.flip x l) <;> simp
  have hple : ∀ x, posOk a b o x = true → pegs x ≤ (a * b).toNat := by
    intro x hx
    have hpN := pos_N hx
    have hpw : x < pw ((a * b).toNat : Int) := by
      rw [show (((a * b).toNat : Nat) : Int) = a * b from by omega, pwN (by omega)]; exact hpN.2
    rw [pegs_cells (n := (a * b).toNat) (by omega) hpN.1 hpw]
    exact holesTo_length _ _
  have HPLE : Hid (∀ x ∈ reachList a b o s, pegs x ≤ (a * b).toNat) := fun x hx => hple x (hpos x hx)
  have hpgn := hple g hgo
  have HCP : Hid (∀ q, posOk a b o q = true → ∀ W, Calls Tryz.prog 31 #[.agg #[.int .i64 a, .int .i64 b, .int .i64 o], .int .i64 q] W fun e w' => e = .returned (.int .i64 (pegs q : Nat)) ∧ Below W.heap.size W w') := by
    intro q hpq W
    have h := sCountPegs_any a b o q (by have := pos_lt hpq; omega) W
    rwa [if_pos hpq] at h
  have HPOS := Lib.hid hpos
  have HLIST : Hid (∀ W, Calls Tryz.prog 69 #[.agg #[.int .i64 a, .int .i64 b, .int .i64 o], .int .i64 s] W (RetInts W (reachList a b o s))) := fun W => sReachOf_any a b o s (by omega) W
  have HBACK : Hid (∀ W, Calls Tryz.prog 102 #[.agg #[.int .i64 a, .int .i64 b, .int .i64 o], .int .i64 g] W (RetBools W (spreadOf a b o g true))) := fun W => l15Back_any a b o g (by omega) hsm hgo W
  have HLNS : Hid (∀ W, Calls Tryz.prog 77 #[.agg #[.int .i64 a, .int .i64 b, .int .i64 o]] W (RetLines W (linesOf a b o))) := fun W => sLinesOf_any a b o W
  have hBl : (spreadOf a b o g true).length = boardN a b := spreadOf_length hsm hgo
  have HHB : Hid (∀ x : Int, 0 ≤ x → x < boardN a b → (spreadOf a b o g true).getD x.toNat false = hasB (spreadOf a b o g true) x) := by
    intro x h0 h1
    simp [hasB, h0, hBl, h1]
  have hRl : (reachList a b o s).length ≤ 65536 := Nat.le_trans (listTo_length _ _) (spreadOf_le a b o s false)
  have hL196 := linesOf_le a b o
  have hpw := pw_wrap (n := a * b) (by omega) (by omega)
  rw [pwN (by omega)] at hpw
  have hw : IntKind.i64.wrap (a * b) = a * b := IntWalk.i64_in _ (by omega)
  obtain ⟨n, hn⟩ : ∃ n : Nat, a * b = n := ⟨(a * b).toNat, by omega⟩
  have hnn : (a * b).toNat = n := by omega
  have hAB := Lib.hid hn
  have hmk1 := run_make_sl (boardN a b : Int) (by omega) (by omega)
  have hmk2 := run_make_row (a * b + 1) (by omega) (by omega)
  have hw2 : wrap64 (a * b + 1) = a * b + 1 := IntWalk.wrap64_in _ (by omega)
  have hw3 : IntKind.i64.wrap (a * b + 1) = a * b + 1 := IntWalk.i64_in _ (by omega)
  rw [show (a * b + 1).toNat = n + 1 by omega] at hmk2
  rw [hnn] at HPLE hpgn
  have HROW := Lib.hid (fun (t : Nat) (ht : t < n + 1) (x : Int) => rowF_at a b o g (n + 1) x t ht)
  have HRLEN : Hid (∀ x, (rowF a b o g (n + 1) x).length = n + 1) := fun (x : Int) => by simp [rowF]
  have HRT0 := Lib.hid (fun x => rowTo_zero a b o g (n + 1) x)
  have HRTL := Lib.hid (fun x k => rowTo_len a b o g (n + 1) x k)
  have HRTF := Lib.hid (fun x => rowTo_full a b o g (n + 1) x)
  have HRTS := Lib.hid (fun x k => rowTo_set a b o g (n + 1) x k)
  have HLF : Hid (∀ l ∈ linesOf a b o, 0 ≤ l.t ∧ l.t.toNat < n + 1) := by
    intro l hl
    have h := linesOf_in hl
    unfold LnIn LnOk at h
    omega
  have HQG := HGOAL
  unfold RetLeast
  rw [hnn]
  have hnb : n ≤ 16 ∧ 1 ≤ n := by omega
  clear hmem hpos hRG hn hbo hnn hple
  generalize hasB (spreadOf a b o g true) = hb at *
  generalize spreadOf a b o g true = BS at *
  generalize rowF a b o g (n + 1) = rF at *
  generalize rowTo a b o g (n + 1) = rT at *
  generalize hfw : fewest a b o g = fw at *
  generalize fwStep a b o g = fst at *
  clear hfw
  generalize hNN : boardN a b = N at *
  clear hNN
  generalize linesOf a b o = L at *
  generalize reachList a b o s = R at *
  have HCPG := Lib.hid (HCP.out g hgo)
  generalize pegs g = pg at *
  go_enter Tryz.func70, Tryz.ntmps70
  go_wp2_with fail
  refine (HBACK.out _).mono ?_
  rintro e w1 ⟨vB, rfl, hoB, hb1⟩
  have hz1 := hb1.size
  simp only [World.size_alloc] at hz1
  have hB1 : Below (w.heap.size + 1) (w.alloc (.cells #[.int .i64 a, .int .i64 b, .int .i64 o] 25)) w1 := by simpa using hb1
  have HB1 := Lib.hid hB1
  have hbox1 : ∀ j, w1.cell? ⟨w.heap.size, j, none⟩ = #[Value.int .i64 a, .int .i64 b, .int .i64 o][j]? := fun j => (HB1.out.cell (by simp)).trans (by simp)
  have gW1 : w.heap.size < w1.heap.size := by omega
  clear hb1 hB1
  go_wp2_with fail
  refine (HLNS.out _).mono ?_
  rintro e w2 ⟨vL, rfl, hoL, hb2⟩
  have hz2 := hb2.size
  have hoB2 := hoB.keep hb2
  have HB2 := Lib.hid (HB1.out.trans (hb2.mono (by omega)))
  have hbox2 : ∀ j, w2.cell? ⟨w.heap.size, j, none⟩ = #[Value.int .i64 a, .int .i64 b, .int .i64 o][j]? := fun j => (hb2.cell (by simpa using gW1)).trans (hbox1 j)
  have gW2 : w.heap.size < w2.heap.size := by omega
  clear hb2 hoB HB1 hbox1
  go_wp2_with fail
  refine (HLIST.out _).mono ?_
  rintro e w3 ⟨vR, rfl, hoR, hb3⟩
  have hz3 := hb3.size
  have hoB3 := hoB2.keep hb3
  have hoL3 := hoL.keep hb3
  have HB3 := Lib.hid (HB2.out.trans (hb3.mono (by omega)))
  have hbox3 : ∀ j, w3.cell? ⟨w.heap.size, j, none⟩ = #[Value.int .i64 a, .int .i64 b, .int .i64 o][j]? := fun j => (hb3.cell (by simpa using gW2)).trans (hbox2 j)
  have gW3 : w.heap.size < w3.heap.size := by omega
  have HW3 : Hid (Below w.heap.size w w3) := ((Below.refl _ _).alloc (Nat.le_refl _) _).trans (HB3.out.mono (by omega))
  obtain ⟨aL, capL, rfl, hnL, hgetL⟩ := hoL3.lineG
  obtain ⟨aR, capR, rfl, hnR, hgetR⟩ := hoR.intG
  obtain ⟨aB, capB, rfl, hnB, hgetB⟩ := hoB3.bool
  have HGL := Lib.hid hgetL
  have HGR := Lib.hid hgetR
  have HGB := Lib.hid hgetB
  have HT0 : Hid (TabR (w3.alloc (.cells (fillCells (.slice none 0 0) N) 29)) w3.heap.size N (n + 1) R rF (Fil R pg pg 0) (List.replicate N none)) :=
    ⟨Own.fill (E := ESl (n + 1)) rfl none (.slice none 0 0) rfl w3 N (le_maxLen hN), by simp, by simp, fun x _ hf => absurd hf (fil_start x)⟩
  have HAB2 : Hid (Below w3.heap.size w3 (w3.alloc (.cells (fillCells (.slice none 0 0) N) 29))) := (Below.refl _ _).alloc (Nat.le_refl _) _
  clear hgetL hgetR hgetB hoL hoL3 hoR hoB2 hoB3 hb3 HB2 HB3 hbox2
  go_wp2_with fail
  refine (HCPG.out _).mono ?_
  rintro e w4 ⟨rfl, hb4⟩
  have hz4 := hb4.size
  simp only [World.size_alloc] at hz4
  have HT4 := Lib.hid (HT0.out.keep hb4)
  have HB4 := Lib.hid (HAB2.out.trans (hb4.mono (by simp)))
  have hz43 : w3.heap.size < w4.heap.size := by omega
  clear hb4 HT0 HAB2 HCPG hmk1 hpw
  have HD0 := doneTo_start R pg
  go_wp2_with fail
  go_loopw [12, 13] (fun d i wr => ∃ (m : Nat) (T : List (Option Nat)), pg ≤ m ∧ m ≤ n + 1 ∧ d = .int .i64 (doneTo R pg m 0 : Nat) ∧ i = .int .i64 m ∧ Hid (TabR wr w3.heap.size N (n + 1) R rF (Fil R pg m 0) T) ∧ Below w3.heap.size w3 wr ∧ w3.heap.size < wr.heap.size) (fun _ i _ => n + 1 - (intOf i).toNat)
  case atStart => exact ⟨pg, _, Nat.le_refl _, by omega, by rw [HD0]; rfl, rfl, HT4, HB4.out, hz43⟩
  case round =>
    obtain ⟨m, T, hm1, hm2, rfl, rfl, HT, hbw, hzw⟩ := hrel
    obtain ⟨wa, rfl⟩ : ∃ wa : World, wa = wr := ⟨_, rfl⟩
    have HDALL := Lib.hid (fun h => doneTo_all (R := R) (pg := pg) (m := m) h)
    have HDNX := Lib.hid (doneTo_next (R := R) hm1)
    have HDLE := Lib.hid (doneTo_le R pg m)
    have HDY := Lib.hid (fun k (h : k < R.length) => doneTo_yes (pg := pg) (m := m) h)
    have HDN := Lib.hid (fun k (h : k < R.length) => doneTo_no (pg := pg) (m := m) h)
    have HEND : Hid ((∀ x ∈ R, pg ≤ pegs x → Fil R pg m 0 x) → ∀ x ∈ R, pg ≤ pegs x → ∃ b', b' < wa.heap.size ∧ wa.cell? ⟨w3.heap.size, x.toNat, none⟩ = some (.slice (some ⟨b', 0, none⟩) (n + 1) (n + 1)) ∧ ∀ t, t < n + 1 → wa.cell? ⟨b', t, none⟩ = some (.int .i64 (fw x t))) := by
      intro h x hx hp
      obtain ⟨b', h1, h2, h3⟩ := HT.out.get HRG.out HRLEN.out (by omega) hx (h x hx hp)
      exact ⟨b', h1, h2, fun t ht => by rw [h3 t ht, HROW.out t ht x]⟩
    have HW : Hid (Below w.heap.size w wa) := HW3.out.trans (hbw.mono (by omega))
    by_cases hdl : doneTo R pg m 0 < R.length
    rotate_left
    · have hd1 : decide (((doneTo R pg m 0 : Nat) : Int) < R.length) = false := decide_eq_false (by omega)
      have hp1 : ¬ (((doneTo R pg m 0 : Nat) : Int) < R.length) := by omega
      have HF := Lib.hid (HEND.out fun x hx _ => HDALL.out (by omega) x hx)
      generalize doneTo R pg m 0 = dt at *
      clear hdl
      go_wp2_with fail
      all_goals go_ret
      all_goals exact ⟨w3.heap.size, rfl, hzw, HF.out, HW.out⟩
    by_cases hmn : m ≤ n
    rotate_left
    · have hd1 : decide (((doneTo R pg m 0 : Nat) : Int) < R.length) = true := decide_eq_true (by omega)
      have hp1 : ((doneTo R pg m 0 : Nat) : Int) < R.length := by omega
      have hp2 : ¬ (m : Int) ≤ a * b := by have := hAB.out; omega
      have hd2 : decide ((m : Int) ≤ a * b) = false := decide_eq_false (by have := hAB.out; omega)
      have HF := Lib.hid (HEND.out fun x hx hp => ⟨hp, .inl (by have := HPLE.out x hx; omega)⟩)
      generalize doneTo R pg m 0 = dt at *
      clear hdl
      go_wp2_with fail
      all_goals go_ret
      all_goals exact ⟨w3.heap.size, rfl, hzw, HF.out, HW.out⟩
    have hd1 : decide (((doneTo R pg m 0 : Nat) : Int) < R.length) = true := decide_eq_true (by omega)
    have hp1 : ((doneTo R pg m 0 : Nat) : Int) < R.length := by omega
    have hp2 : (m : Int) ≤ a * b := by have := hAB.out; omega
    have hd2 : decide ((m : Int) ≤ a * b) = true := decide_eq_true (by have := hAB.out; omega)
    clear HEND HW HDALL hdl
    generalize hdt : doneTo R pg m 0 = dt at *
    have HDT := Lib.hid hdt
    clear hdt
    go_wp2_with fail
    clear hd1 hd2
    go_loopw [12, 14] (fun d i wr => ∃ (k : Nat) (T : List (Option Nat)), k ≤ R.length ∧ d = .int .i64 (doneTo R pg m k : Nat) ∧ i = .int .i64 k ∧ Hid (TabR wr w3.heap.size N (n + 1) R rF (Fil R pg m k) T) ∧ Below w3.heap.size w3 wr ∧ w3.heap.size < wr.heap.size) (fun _ i _ => R.length - (intOf i).toNat)
    case atStart => exact ⟨0, T, by omega, by rw [HDT.out], rfl, HT, hbw, hzw⟩
    case round =>
      obtain ⟨k, T', hk, rfl, rfl, HT', hbw', hzw'⟩ := hrel
      clear HT T hbw hzw
      obtain ⟨w5, rfl⟩ : ∃ w5 : World, w5 = wr := ⟨_, rfl⟩
      have hbox : ∀ j, w5.cell? ⟨w.heap.size, j, none⟩ = #[Value.int .i64 a, .int .i64 b, .int .i64 o][j]? := fun j => (hbw'.cell (by simpa using gW3)).trans (hbox3 j)
      have gW5 : w.heap.size < w5.heap.size := by omega
      by_cases hkl : k < R.length
      rotate_left
      · obtain rfl : k = R.length := by omega
        have HT2 := Lib.hid (HT'.out.imp (F' := Fil R pg (m + 1) 0) fun x hx h => fil_next hx h)
        have HE := HDNX
        generalize doneTo R pg m R.length = dl at *
        go_wp2_with fail
        go_roundw
        case rel => exact ⟨m + 1, T', by omega, by omega, by rw [HE.out], by go_num, HT2, hbw', hzw'⟩
        case measure => simp [intOf]; omega
      obtain ⟨bR, rfl, hbR1, hbR2, hcR⟩ := HGR.out k hkl
      have hcRw : w5.cell? ⟨bR, k, none⟩ = some (.int .i64 (gD R 0 k)) := (hbw'.cell (p := ⟨bR, k, none⟩) hbR2).trans hcR
      have hmem := gD_mem R 0 k hkl
      obtain ⟨hp0, hp1⟩ := HRG.out _ hmem
      have HCQ := Lib.hid (HCP.out _ (HPOS.out _ hmem))
      have HDYk := Lib.hid (HDY.out k hkl)
      have HDNk := Lib.hid (HDN.out k hkl)
      have hdle := HDLE.out k
      have HFST := Lib.hid (fun x (h : Fil R pg m (k + 1) x) => fil_step hkl h)
      have HMEM := Lib.hid hmem
      clear hcR hmem
      generalize gD R 0 k = q at *
      generalize doneTo R pg m k = dk at *
      by_cases hpm : pegs q = m
      rotate_left
      · have hne : ((pegs q : Int) != m) = true := by simp; omega
        have HT2 := Lib.hid (HT'.out.imp (F' := Fil R pg m (k + 1)) fun x hx h => by
          rcases HFST.out x h with ⟨rfl, h2⟩ | h2
          · exact absurd h2 hpm
          · exact h2)
        have HE := Lib.hid (HDNk.out hpm)
        clear HDYk HDNk HFST hpm
        generalize pegs q = c at *
        go_wp2_with (go_at_call 31; refine (HCQ.out _).mono ?_; rintro e w6 ⟨rfl, hb6⟩)
        go_roundw
        case rel => exact ⟨k + 1, T', by omega, by rw [HE.out], by go_num, HT2.out.keep hb6, hbw'.trans (hb6.mono (by omega)), by have := hb6.size; omega⟩
        case measure => simp [intOf]; omega
      have hpe : ((pegs q : Int) != m) = false := by simp [hpm]
      have HE := Lib.hid (HDYk.out hpm)
      have HPM := Lib.hid hpm
      have HBEG := Lib.hid (fun W (hW : Below w5.heap.size w5 W) => (HT'.out.keep hW).begin HRG.out HMEM.out HRLEN.out (by omega) (le_maxLen (by omega)))
      clear HDYk HDNk hpm
      generalize hpc : pegs q = c at *
      have HPC := Lib.hid hpc
      clear hpc
      go_wp2_with (go_at_call 31; refine (HCQ.out _).mono ?_; rintro e w6 ⟨rfl, hb6⟩; have hz6 := hb6.size; obtain ⟨⟨hrow6, T6, hTQ6⟩, hsc6, hfr6⟩ := HBEG.out w6 hb6; have HBW6 := Lib.hid (hbw'.trans (hb6.mono (by omega))); have hz36 : w3.heap.size < w6.heap.size := (by omega))
      have HROW6 := Lib.hid hrow6
      have HTQ6 := Lib.hid hTQ6
      have HBS6 : Hid (Below w3.heap.size w3 ((w6.alloc (.cells (fillCells (.int .i64 0) (n + 1)) 3)).setCell ⟨w3.heap.size, q.toNat, none⟩ (.slice (some ⟨w6.heap.size, 0, none⟩) (n + 1) (n + 1)))) := (HBW6.out.alloc (by omega) _).setCell (by simp) _
      have hcomm : (w6.alloc (.cells (fillCells (.int .i64 0) (n + 1)) 3)).setCell ⟨w3.heap.size, q.toNat, none⟩ (.slice (some ⟨w6.heap.size, 0, none⟩) (n + 1) (n + 1)) = (w6.setCell ⟨w3.heap.size, q.toNat, none⟩ (.slice (some ⟨w6.heap.size, 0, none⟩) (n + 1) (n + 1))).alloc (.cells (fillCells (.int .i64 0) (n + 1)) 3) := World.setCell_alloc_past _ _ _ _ hz36
      clear hrow6 hTQ6 hsc6 hfr6 hb6
      rw [hcomm] at HROW6 HTQ6 HBS6
      clear hcomm
      generalize hw7 : (w6.setCell ⟨w3.heap.size, q.toNat, none⟩ (.slice (some ⟨w6.heap.size, 0, none⟩) (n + 1) (n + 1))).alloc (.cells (fillCells (.int .i64 0) (n + 1)) 3) = w7 at *
      have hz7 : w7.heap.size = w6.heap.size + 1 := by rw [← hw7]; simp
      clear hw7 hmk2 hw2 hw3
      rw [← HRT0.out q] at HROW6
      have HGQ := Lib.hid (HGB.out q.toNat (by omega))
      have HHQ := Lib.hid (HHB.out q hp0 hp1)
      have HBDq := Lib.hid (HBD.out q HMEM.out)
      have HBADq := Lib.hid (HBAD.out q HMEM.out)
      have HPGq := Lib.hid (HPG.out q HMEM.out)
      have HJq := Lib.hid (HJ.out q HMEM.out)
      have HFILD : Hid (∀ x ∈ R, Fil R pg m (k + 1) x → x = q ∨ Fil R pg m k x) := fun x hx h => by
        rcases HFST.out x h with ⟨h1, _⟩ | h1
        · exact .inl h1
        · exact .inr h1
      have HFILN : Hid (∀ x, pg ≤ pegs x → pegs x + 1 = c → Fil R pg m k x) := fun x h1 h2 => ⟨h1, .inl (by have := HPM.out; omega)⟩
      go_loopw [16] (fun i wr => ∃ t : Nat, t ≤ n + 1 ∧ i = .int .i64 t ∧ Hid (Own EInt wr (w3.heap.size + 1) (.slice (some ⟨w6.heap.size, 0, none⟩) (n + 1) (n + 1)) (rT q t)) ∧ Hid (Below w6.heap.size w7 wr) ∧ w6.heap.size < wr.heap.size) (fun i _ => n + 1 - (intOf i).toNat)
      case atStart => exact ⟨0, by omega, rfl, HROW6, Below.refl _ _, by omega⟩
      case round =>
        obtain ⟨t, ht, rfl, HROWx, HBZ, hzx⟩ := hrel
        obtain ⟨w8, rfl⟩ : ∃ w8 : World, w8 = wr := ⟨_, rfl⟩
        by_cases htn : t < n + 1
        rotate_left
        · obtain rfl : t = n + 1 := by omega
          have hdt : decide (((n + 1 : Nat) : Int) ≤ a * b) = false := decide_eq_false (by have := hAB.out; omega)
          have hpt : ¬ ((n + 1 : Nat) : Int) ≤ a * b := by have := hAB.out; omega
          have HT2 := Lib.hid ((HTQ6.out.keepZ HBZ.out).done hzx (by rw [← HRTF.out q]; exact HROWx.out) HFILD.out)
          go_wp2_with fail
          go_roundw
          case rel => exact ⟨k + 1, _, by omega, by rw [HE.out]; go_num, by go_num, HT2, HBS6.out.trans (HBZ.out.mono (by omega)), by omega⟩
          case measure => simp [intOf]; omega
        have hdt : decide ((t : Int) ≤ a * b) = true := decide_eq_true (by have := hAB.out; omega)
        have hpt : (t : Int) ≤ a * b := by have := hAB.out; omega
        -- the end of a round: the row's cell is written
        have HENDR : Hid (∀ W, Below w8.heap.size w8 W → (W.cell? ⟨w3.heap.size, q.toNat, none⟩ = some (.slice (some ⟨w6.heap.size, 0, none⟩) (n + 1) (n + 1))) ∧ (W.cell? ⟨w6.heap.size, t, none⟩ = some (.int .i64 (gD (rT q t) 0 t))) ∧ (∀ j, W.frozen? ⟨w6.heap.size, j, none⟩ = false) ∧ Hid (Own EInt (W.setCell ⟨w6.heap.size, t, none⟩ (.int .i64 (fw q t))) (w3.heap.size + 1) (.slice (some ⟨w6.heap.size, 0, none⟩) (n + 1) (n + 1)) (rT q (t + 1))) ∧ Hid (Below w6.heap.size w7 (W.setCell ⟨w6.heap.size, t, none⟩ (.int .i64 (fw q t)))) ∧ w6.heap.size < W.heap.size) := by
          intro W hW
          have ho := HROWx.out.keep hW
          have hB : Below w6.heap.size w7 W := HBZ.out.trans (hW.mono (by omega))
          obtain ⟨s1, s2, s3⟩ := ho.store rfl t (by rw [HRTL.out]; exact htn) (fw q t) (.int .i64 (fw q t)) rfl
          rw [HRTS.out] at s1
          exact ⟨(HTQ6.out.keepZ hB).self HRG.out HMEM.out, (ho.rowAt t (by rw [HRTL.out]; exact htn)).1, s3, s1, hB.setCell (by simp) _, by have := hW.size; omega⟩
        by_cases hqg : q = g
        · have hqe : (q == g) = true := by simp [hqg]
          have hqn : (q != g) = false := by simp [hqg]
          have hfq : fw q t = 0 := by rw [hqg]; exact HGOAL.out t
          obtain ⟨bB, rfl, hbB1, hbB2, hcB⟩ := HGQ.out
          rw [HHQ.out] at hcB
          have hc8 : w8.cell? ⟨bB, q.toNat, none⟩ = some (.bool (hb q)) := ((HBS6.out.trans (HBZ.out.mono (by omega))).cell (p := ⟨bB, q.toNat, none⟩) hbB2).trans hcB
          rw [hfq] at HENDR
          clear hcB hfq
          generalize hb q = hbq at *
          go_wp2_with fail
          go_loopw [17, 18] (fun bs i wr => bs = .int .i64 0 ∧ i = .int .i64 0 ∧ wr = w8) (fun _ _ _ => 0)
          case atStart => exact ⟨rfl, rfl, rfl⟩
          case round =>
            obtain ⟨rfl, rfl, rfl⟩ := hrel
            obtain ⟨e1, e2, e3, HROWN, HBZN, hzN⟩ := HENDR.out wr (Below.refl _ _)
            have hc9 := hc8
            rw [hqg] at e1 hc9
            cases hbq
            all_goals rcases Nat.eq_zero_or_pos L.length with hL | hL
            all_goals first | (have hdL : decide ((0 : Int) < (L.length : Nat)) = false := decide_eq_false (by omega)) | (have hdL : decide ((0 : Int) < (L.length : Nat)) = true := decide_eq_true (by omega))
            all_goals (go_wp2_with fail; go_roundw; (case rel => exact ⟨t + 1, by omega, by go_num, HROWN, HBZN, by simp; omega⟩); (case measure => simp [intOf]; omega))
        have hqe : (q == g) = false := by simp [hqg]
        have hqn : (q != g) = true := by simp [hqg]
        have HSTq := Lib.hid (HSTEP.out q t hqg)
        obtain ⟨bB, rfl, hbB1, hbB2, hcB⟩ := HGQ.out
        rw [HHQ.out] at hcB
        have hc8 : w8.cell? ⟨bB, q.toNat, none⟩ = some (.bool (hb q)) := ((HBS6.out.trans (HBZ.out.mono (by omega))).cell (p := ⟨bB, q.toNat, none⟩) hbB2).trans hcB
        have gB8 : bB < w8.heap.size := by omega
        clear hcB
        by_cases hbq : hb q = false
        · have hfq : fw q t = -1 := HBADq.out hbq t
          rw [hfq] at HENDR
          rw [hbq] at hc8
          clear hfq HSTq hqg
          go_wp2_with fail
          go_loopw [17, 18] (fun bs i wr => bs = .int .i64 (-1) ∧ i = .int .i64 0 ∧ wr = w8) (fun _ _ _ => 0)
          case atStart => exact ⟨rfl, rfl, rfl⟩
          case round =>
            obtain ⟨rfl, rfl, rfl⟩ := hrel
            obtain ⟨e1, e2, e3, HROWN, HBZN, hzN⟩ := HENDR.out wr (Below.refl _ _)
            rcases Nat.eq_zero_or_pos L.length with hL | hL
            all_goals first | (have hdL : decide ((0 : Int) < (L.length : Nat)) = false := decide_eq_false (by omega)) | (have hdL : decide ((0 : Int) < (L.length : Nat)) = true := decide_eq_true (by omega))
            all_goals (go_wp2_with fail; go_roundw; (case rel => exact ⟨t + 1, by omega, by go_num, HROWN, HBZN, by simp; omega⟩); (case measure => simp [intOf]; omega))
        have hbq : hb q = true := by simpa using hbq
        rw [hbq] at hc8
        have HBQ := Lib.hid hbq
        have HBDt := Lib.hid (HBDq.out hbq t)
        have HC8 : Hid (∀ W, Below w8.heap.size w8 W → W.cell? ⟨bB, q.toNat, none⟩ = some (.bool true)) := fun W hW => (hW.cell (p := ⟨bB, q.toNat, none⟩) gB8).trans hc8
        clear hbq
        go_wp2_with fail
        clear hc8
        go_loopw [17, 18] (fun bs i wr => ∃ (j : Nat) (m : Int), j ≤ L.length ∧ bs = .int .i64 m ∧ i = .int .i64 j ∧ Hid (m = (L.take j).foldl (fst q t fw) (-1)) ∧ -1 ≤ m ∧ m ≤ 50 ∧ Hid (Below w8.heap.size w8 wr)) (fun _ i _ => L.length - (intOf i).toNat)
        case atStart => exact ⟨0, -1, by omega, rfl, rfl, by show _ = _; simp, by omega, by omega, Below.refl _ _⟩
        case round =>
          obtain ⟨j, mm, hj, rfl, rfl, HMM, hm0, hm1', HBY⟩ := hrel
          have hcy := HC8.out wr HBY.out
          have hzy := HBY.out.size
          by_cases hjl : j < L.length
          rotate_left
          · obtain rfl : j = L.length := by omega
            have hmf : fw q t = mm := by rw [HSTq.out, HMM.out, List.take_length]
            rw [hmf] at HENDR
            obtain ⟨e1, e2, e3, HROWN, HBZN, hzN⟩ := HENDR.out wr HBY.out
            have hdL : decide (((L.length : Nat) : Int) < (L.length : Nat)) = false := decide_eq_false (by omega)
            clear hmf HENDR
            go_wp2_with fail
            go_roundw
            case rel => exact ⟨t + 1, by omega, by go_num, HROWN, HBZN, by simp; omega⟩
            case measure => simp [intOf]; omega
          have hdL : decide (((j : Nat) : Int) < (L.length : Nat)) = true := decide_eq_true (by omega)
          obtain ⟨bL, rfl, hbL1, hbL2, hl1, hl2, hl3⟩ := HGL.out j hjl
          have HBALL : Hid (Below w3.heap.size w3 wr) := HBS6.out.trans ((HBZ.out.trans (HBY.out.mono (by omega))).mono (by omega))
          have k1 := (HBALL.out.cell (p := ⟨bL, j * 3, none⟩) hbL2).trans hl1
          have k2 := (HBALL.out.cell (p := ⟨bL, j * 3 + 1, none⟩) hbL2).trans hl2
          have k3 := (HBALL.out.cell (p := ⟨bL, j * 3 + 2, none⟩) hbL2).trans hl3
          clear hl1 hl2 hl3
          have hmj := gD_mem L Ln0 j hjl
          have hin := HI.out _ hmj
          have hqN := HLd.out _ hmj q hp0 hp1
          have hlt' := HLF.out _ hmj
          have HFO := Lib.hid (fun x hx => fold_take_succ (fst q t fw) L Ln0 x j (-1) hjl hx)
          have HFO2 : Hid ((L.take (j + 1)).foldl (fst q t fw) (-1) = fst q t fw mm (gD L Ln0 j)) := by
            show _ = _
            rw [HFO.out _ rfl, ← HMM.out]
          have HFSj := Lib.hid (HFS.out q t mm (gD L Ln0 j))
          have HJj := Lib.hid (HJq.out _ hmj)
          clear HFO hmj
          generalize gD L Ln0 j = l at *
          have hq0 := flip_nonneg q l
          have hcn0 := HGB.out (Peg.flip q l).toNat (by omega)
          rw [HHB.out _ hq0 hqN] at hcn0
          obtain ⟨bB', hbe, _, _, hcn⟩ := hcn0
          simp only [Option.some.injEq, Addr.mk.injEq, and_true] at hbe
          subst hbe
          have hcn2 : wr.cell? ⟨bB, (Peg.flip q l).toNat, none⟩ = some (.bool (hb (Peg.flip q l))) := (HBALL.out.cell (p := ⟨bB, (Peg.flip q l).toNat, none⟩) hbB2).trans hcn
          clear hcn
          -- the table's row of the next position
          have HROWS : Hid (canJ q l = true → hb (Peg.flip q l) = true → ∃ b', b' < w6.heap.size ∧ wr.cell? ⟨w3.heap.size, (Peg.flip q l).toNat, none⟩ = some (.slice (some ⟨b', 0, none⟩) (n + 1) (n + 1)) ∧ wr.cell? ⟨b', l.t.toNat, none⟩ = some (.int .i64 (fw (Peg.flip q l) l.t)) ∧ 0 ≤ fw (Peg.flip q l) l.t ∧ fw (Peg.flip q l) l.t ≤ 49) := by
            intro h1 h2
            obtain ⟨h3, h4⟩ := HJj.out h1
            have hne : Peg.flip q l ≠ q := fun e => by rw [e] at h4; omega
            have hBz : Below w6.heap.size w7 wr := HBZ.out.trans (HBY.out.mono (by omega))
            obtain ⟨b', r1, r2, r3⟩ := (HTQ6.out.keepZ hBz).read HRG.out HRLEN.out (by omega) h3 hne (HFILN.out _ (HPG.out _ h3 h2) (by have := HPC.out; omega))
            have r4 := r3 l.t.toNat hlt'.2
            rw [HROW.out _ hlt'.2, show ((l.t.toNat : Nat) : Int) = l.t from by omega] at r4
            have r5 := HBD.out _ h3 h2 l.t
            exact ⟨b', r1, r2, r4, r5.1, r5.2⟩
          have dQ0 : bB < wr.heap.size := by omega
          have dQ1 : bL < wr.heap.size := by omega
          have dQ2 : w3.heap.size < wr.heap.size := by omega
          have HCL : Hid (∀ W, Calls Tryz.prog 78 #[.agg #[.int .i64 l.f, .int .i64 l.o, .int .i64 l.t]] W fun e w' => e = .returned (.int .i64 (lbits l)) ∧ Below W.heap.size W w') := fun W => l05Bits_any l.f l.o l.t hin.1 W
          have hwf := pw_wrap (n := l.f) hin.1.1.1 (by have := hin.1.1.2; omega)
          have hwo := pw_wrap (n := l.o) hin.1.2.1.1 (by have := hin.1.2.1.2; omega)
          have pf0 := pw_pos l.f
          have po0 := pw_pos l.o
          have pf2 : pw l.f < 9223372036854775808 := Int.lt_trans (pw_lt (k := 49) hin.1.1.1 (by have := hin.1.1.2; omega)) (by rw [pw49]; decide)
          have po2 : pw l.o < 9223372036854775808 := Int.lt_trans (pw_lt (k := 49) hin.1.2.1.1 (by have := hin.1.2.1.2; omega)) (by rw [pw49]; decide)
          have pb2 : lbits l < 9223372036854775808 := Int.lt_trans (lbits_lt (k := 49) hin.1 (by have := hin.1.1.2; omega) (by have := hin.1.2.1.2; omega) (by have := hin.1.2.2.1.2; omega)) (by rw [pw49]; decide)
          have pb0 := lbits_nonneg l
          have hor := bits_or (a := pw l.f) (b := pw l.o) (by omega) pf2 (by omega) po2
          have hand := bits_and (a := q) (b := lbits l) hp0 (by omega) pb0 pb2
          have hxor := bits_xor (a := q) (b := lbits l) hp0 (by omega) pb0 pb2
          rw [show bxor q (lbits l) = Peg.flip q l from rfl] at hxor
          have hfo := hin.1.1
          have hoo := hin.1.2.1
          have hto := hin.1.2.2.1
          have hci := canJ_iff (p := q) hin.1
          clear pf0 po0 pf2 po2 pb2 pb0 hin
          have HBX : Hid (∀ W, Below (wr.alloc (.cells #[.int .i64 l.f, .int .i64 l.o, .int .i64 l.t] 74)).heap.size (wr.alloc (.cells #[.int .i64 l.f, .int .i64 l.o, .int .i64 l.t] 74)) W → (∀ j, W.cell? ⟨wr.heap.size, j, none⟩ = #[Value.int .i64 l.f, .int .i64 l.o, .int .i64 l.t][j]?) ∧ (∀ bb o, bb < wr.heap.size → W.cell? ⟨bb, o, none⟩ = wr.cell? ⟨bb, o, none⟩) ∧ wr.heap.size < W.heap.size) := by
            intro W hW
            have hz := hW.size
            simp only [World.size_alloc] at hz
            exact ⟨fun j => (hW.cell (by simp)).trans (by simp), fun bb o h => (hW.cell (by simp; omega)).trans (World.cell?_alloc_past _ _ _ h), by omega⟩
          have HBYA : Hid (∀ W, Below (wr.alloc (.cells #[.int .i64 l.f, .int .i64 l.o, .int .i64 l.t] 74)).heap.size (wr.alloc (.cells #[.int .i64 l.f, .int .i64 l.o, .int .i64 l.t] 74)) W → Hid (Below w8.heap.size w8 W)) := fun W hW => HBY.out.trans ((((Below.refl _ _).alloc (Nat.le_refl _) _).trans (hW.mono (by simp))).mono hzy)
          have HSTEPB : Hid (∀ W W', Below (wr.alloc (.cells #[.int .i64 l.f, .int .i64 l.o, .int .i64 l.t] 74)).heap.size (wr.alloc (.cells #[.int .i64 l.f, .int .i64 l.o, .int .i64 l.t] 74)) W → Below W.heap.size W W' → Below (wr.alloc (.cells #[.int .i64 l.f, .int .i64 l.o, .int .i64 l.t] 74)).heap.size (wr.alloc (.cells #[.int .i64 l.f, .int .i64 l.o, .int .i64 l.t] 74)) W') := fun W W' h1 h2 => h1.trans (h2.mono h1.size)
          clear HENDR HBALL
          generalize hcj : canJ q l = cj at *
          have HCJ := Lib.hid hcj
          clear hcj
          generalize hb (Peg.flip q l) = hbn at *
          generalize lbits l = LB at *
          generalize Peg.flip q l = q' at *
          generalize hA : band q LB = A at *
          generalize hFO : bor (pw l.f) (pw l.o) = FO at *
          generalize pw l.f = F at *
          generalize pw l.o = O at *
          clear hA hFO
          generalize fw q' l.t = fv at *
          have hci2 : (A != FO) = !cj := by rw [← hci]; rfl
          cases cj
          · have hci3 : (A != FO) = true := hci2
            have HNEW : Hid (mm = (L.take (j + 1)).foldl (fst q t fw) (-1)) := by
              show _ = _
              rw [HFO2.out, HFSj.out]; simp
            clear HFO2 HFSj HROWS hci2
            go_wp2_with (first | (go_at_call 78; refine (HCL.out _).mono ?_; rintro e wp ⟨rfl, hbp⟩; obtain ⟨p1, p2, p3⟩ := HBX.out wp hbp; have HP := Lib.hid hbp; (try have g1 := (p2 bB q.toNat dQ0).trans hcy); (try have g2 := (p2 bB q'.toNat dQ0).trans hcn2); (try have g3 := (p2 w3.heap.size q'.toNat dQ2).trans r2); (try have g4 := (p2 b' l.t.toNat dQ3).trans r4); (try have d0 : w3.heap.size < wp.heap.size := by omega); (try have d1 : bB < wp.heap.size := by omega); (try have d2 : b' < wp.heap.size := by omega); clear hbp p2) | ((with_reducible refine wp_region_qb ?_ ?_ (fun hq => ?_)); (focus kernel_rfl); (focus kernel_rfl); (repeat (go_big_quiet_step ((first | (go_at_call 78; exact Calls.regrown_of (HCL.out _)) | fail)))); refine wpQuiet_nil ?_; (intro wq hbq; clear hq; have HPQ := Lib.hid (HSTEPB.out _ _ HP.out hbq); obtain ⟨p1, p2, p3⟩ := HBX.out wq HPQ.out; clear HP; have HP := HPQ; clear HPQ; (try have g1 := (p2 bB q.toNat dQ0).trans hcy); (try have g2 := (p2 bB q'.toNat dQ0).trans hcn2); (try have g3 := (p2 w3.heap.size q'.toNat dQ2).trans r2); (try have g4 := (p2 b' l.t.toNat dQ3).trans r4); (try have d0 : w3.heap.size < wq.heap.size := by omega); (try have d1 : bB < wq.heap.size := by omega); (try have d2 : b' < wq.heap.size := by omega); clear hbq p2)))
            go_roundw
            case rel => exact ⟨j + 1, _, by omega, rfl, by go_num, HNEW, by omega, by omega, HBYA.out _ HP.out⟩
            case measure => simp [intOf]; omega
          have hci3 : (A != FO) = false := hci2
          cases hbn
          · have HNEW : Hid (mm = (L.take (j + 1)).foldl (fst q t fw) (-1)) := by
              show _ = _
              rw [HFO2.out, HFSj.out]; simp
            clear HFO2 HFSj HROWS hci2
            go_wp2_with (first | (go_at_call 78; refine (HCL.out _).mono ?_; rintro e wp ⟨rfl, hbp⟩; obtain ⟨p1, p2, p3⟩ := HBX.out wp hbp; have HP := Lib.hid hbp; (try have g1 := (p2 bB q.toNat dQ0).trans hcy); (try have g2 := (p2 bB q'.toNat dQ0).trans hcn2); (try have g3 := (p2 w3.heap.size q'.toNat dQ2).trans r2); (try have g4 := (p2 b' l.t.toNat dQ3).trans r4); (try have d0 : w3.heap.size < wp.heap.size := by omega); (try have d1 : bB < wp.heap.size := by omega); (try have d2 : b' < wp.heap.size := by omega); clear hbp p2) | ((with_reducible refine wp_region_qb ?_ ?_ (fun hq => ?_)); (focus kernel_rfl); (focus kernel_rfl); (repeat (go_big_quiet_step ((first | (go_at_call 78; exact Calls.regrown_of (HCL.out _)) | fail)))); refine wpQuiet_nil ?_; (intro wq hbq; clear hq; have HPQ := Lib.hid (HSTEPB.out _ _ HP.out hbq); obtain ⟨p1, p2, p3⟩ := HBX.out wq HPQ.out; clear HP; have HP := HPQ; clear HPQ; (try have g1 := (p2 bB q.toNat dQ0).trans hcy); (try have g2 := (p2 bB q'.toNat dQ0).trans hcn2); (try have g3 := (p2 w3.heap.size q'.toNat dQ2).trans r2); (try have g4 := (p2 b' l.t.toNat dQ3).trans r4); (try have d0 : w3.heap.size < wq.heap.size := by omega); (try have d1 : bB < wq.heap.size := by omega); (try have d2 : b' < wq.heap.size := by omega); clear hbq p2)))
            go_roundw
            case rel => exact ⟨j + 1, _, by omega, rfl, by go_num, HNEW, by omega, by omega, HBYA.out _ HP.out⟩
            case measure => simp [intOf]; omega
          obtain ⟨b', hb', r2, r4, hv0, hv1⟩ := HROWS.out rfl rfl
          have dQ3 : b' < wr.heap.size := by omega
          have HNEWV : Hid (∀ v : Int, lessOf mm (fv + if l.f = t then 0 else 1) = v → v = (L.take (j + 1)).foldl (fst q t fw) (-1)) := by
            intro v h
            rw [HFO2.out, HFSj.out]; simp [h]
          clear HFO2 HFSj HROWS hci2
          have hwf1 : wrap64 (fv + 1) = fv + 1 := IntWalk.wrap64_in _ (by omega)
          by_cases hft : l.f = t
          · have hfe : (l.f != t) = false := by simp [hft]
            rw [if_pos hft] at HNEWV
            simp only [Int.add_zero] at HNEWV
            clear hft
            by_cases h1 : mm < 0
            · have HNEW := Lib.hid (HNEWV.out (fv) (by unfold lessOf; rw [if_pos (.inl h1)]))
              have hd1 : decide (mm < 0) = true := decide_eq_true h1
              clear HNEWV
              go_wp2_with (first | (go_at_call 78; refine (HCL.out _).mono ?_; rintro e wp ⟨rfl, hbp⟩; obtain ⟨p1, p2, p3⟩ := HBX.out wp hbp; have HP := Lib.hid hbp; (try have g1 := (p2 bB q.toNat dQ0).trans hcy); (try have g2 := (p2 bB q'.toNat dQ0).trans hcn2); (try have g3 := (p2 w3.heap.size q'.toNat dQ2).trans r2); (try have g4 := (p2 b' l.t.toNat dQ3).trans r4); (try have d0 : w3.heap.size < wp.heap.size := by omega); (try have d1 : bB < wp.heap.size := by omega); (try have d2 : b' < wp.heap.size := by omega); clear hbp p2) | ((with_reducible refine wp_region_qb ?_ ?_ (fun hq => ?_)); (focus kernel_rfl); (focus kernel_rfl); (repeat (go_big_quiet_step ((first | (go_at_call 78; exact Calls.regrown_of (HCL.out _)) | fail)))); refine wpQuiet_nil ?_; (intro wq hbq; clear hq; have HPQ := Lib.hid (HSTEPB.out _ _ HP.out hbq); obtain ⟨p1, p2, p3⟩ := HBX.out wq HPQ.out; clear HP; have HP := HPQ; clear HPQ; (try have g1 := (p2 bB q.toNat dQ0).trans hcy); (try have g2 := (p2 bB q'.toNat dQ0).trans hcn2); (try have g3 := (p2 w3.heap.size q'.toNat dQ2).trans r2); (try have g4 := (p2 b' l.t.toNat dQ3).trans r4); (try have d0 : w3.heap.size < wq.heap.size := by omega); (try have d1 : bB < wq.heap.size := by omega); (try have d2 : b' < wq.heap.size := by omega); clear hbq p2)))
              go_roundw
              case rel => exact ⟨j + 1, _, by omega, rfl, by go_num, HNEW, by omega, by omega, HBYA.out _ HP.out⟩
              case measure => simp [intOf]; omega
            by_cases h2 : fv < mm
            · have HNEW := Lib.hid (HNEWV.out (fv) (by unfold lessOf; rw [if_pos (.inr h2)]))
              have hd1 : decide (mm < 0) = false := decide_eq_false h1
              have hd2 : decide (fv < mm) = true := decide_eq_true h2
              clear HNEWV
              go_wp2_with (first | (go_at_call 78; refine (HCL.out _).mono ?_; rintro e wp ⟨rfl, hbp⟩; obtain ⟨p1, p2, p3⟩ := HBX.out wp hbp; have HP := Lib.hid hbp; (try have g1 := (p2 bB q.toNat dQ0).trans hcy); (try have g2 := (p2 bB q'.toNat dQ0).trans hcn2); (try have g3 := (p2 w3.heap.size q'.toNat dQ2).trans r2); (try have g4 := (p2 b' l.t.toNat dQ3).trans r4); (try have d0 : w3.heap.size < wp.heap.size := by omega); (try have d1 : bB < wp.heap.size := by omega); (try have d2 : b' < wp.heap.size := by omega); clear hbp p2) | ((with_reducible refine wp_region_qb ?_ ?_ (fun hq => ?_)); (focus kernel_rfl); (focus kernel_rfl); (repeat (go_big_quiet_step ((first | (go_at_call 78; exact Calls.regrown_of (HCL.out _)) | fail)))); refine wpQuiet_nil ?_; (intro wq hbq; clear hq; have HPQ := Lib.hid (HSTEPB.out _ _ HP.out hbq); obtain ⟨p1, p2, p3⟩ := HBX.out wq HPQ.out; clear HP; have HP := HPQ; clear HPQ; (try have g1 := (p2 bB q.toNat dQ0).trans hcy); (try have g2 := (p2 bB q'.toNat dQ0).trans hcn2); (try have g3 := (p2 w3.heap.size q'.toNat dQ2).trans r2); (try have g4 := (p2 b' l.t.toNat dQ3).trans r4); (try have d0 : w3.heap.size < wq.heap.size := by omega); (try have d1 : bB < wq.heap.size := by omega); (try have d2 : b' < wq.heap.size := by omega); clear hbq p2)))
              go_roundw
              case rel => exact ⟨j + 1, _, by omega, rfl, by go_num, HNEW, by omega, by omega, HBYA.out _ HP.out⟩
              case measure => simp [intOf]; omega
            have HNEW := Lib.hid (HNEWV.out mm (by unfold lessOf; rw [if_neg (by omega)]))
            have hd1 : decide (mm < 0) = false := decide_eq_false h1
            have hd2 : decide (fv < mm) = false := decide_eq_false h2
            clear HNEWV
            go_wp2_with (first | (go_at_call 78; refine (HCL.out _).mono ?_; rintro e wp ⟨rfl, hbp⟩; obtain ⟨p1, p2, p3⟩ := HBX.out wp hbp; have HP := Lib.hid hbp; (try have g1 := (p2 bB q.toNat dQ0).trans hcy); (try have g2 := (p2 bB q'.toNat dQ0).trans hcn2); (try have g3 := (p2 w3.heap.size q'.toNat dQ2).trans r2); (try have g4 := (p2 b' l.t.toNat dQ3).trans r4); (try have d0 : w3.heap.size < wp.heap.size := by omega); (try have d1 : bB < wp.heap.size := by omega); (try have d2 : b' < wp.heap.size := by omega); clear hbp p2) | ((with_reducible refine wp_region_qb ?_ ?_ (fun hq => ?_)); (focus kernel_rfl); (focus kernel_rfl); (repeat (go_big_quiet_step ((first | (go_at_call 78; exact Calls.regrown_of (HCL.out _)) | fail)))); refine wpQuiet_nil ?_; (intro wq hbq; clear hq; have HPQ := Lib.hid (HSTEPB.out _ _ HP.out hbq); obtain ⟨p1, p2, p3⟩ := HBX.out wq HPQ.out; clear HP; have HP := HPQ; clear HPQ; (try have g1 := (p2 bB q.toNat dQ0).trans hcy); (try have g2 := (p2 bB q'.toNat dQ0).trans hcn2); (try have g3 := (p2 w3.heap.size q'.toNat dQ2).trans r2); (try have g4 := (p2 b' l.t.toNat dQ3).trans r4); (try have d0 : w3.heap.size < wq.heap.size := by omega); (try have d1 : bB < wq.heap.size := by omega); (try have d2 : b' < wq.heap.size := by omega); clear hbq p2)))
            go_roundw
            case rel => exact ⟨j + 1, _, by omega, rfl, by go_num, HNEW, by omega, by omega, HBYA.out _ HP.out⟩
            case measure => simp [intOf]; omega
          · have hfe : (l.f != t) = true := by simp [hft]
            rw [if_neg hft] at HNEWV
            clear hft
            by_cases h1 : mm < 0
            · have HNEW := Lib.hid (HNEWV.out (fv + 1) (by unfold lessOf; rw [if_pos (.inl h1)]))
              have hd1 : decide (mm < 0) = true := decide_eq_true h1
              clear HNEWV
              go_wp2_with (first | (go_at_call 78; refine (HCL.out _).mono ?_; rintro e wp ⟨rfl, hbp⟩; obtain ⟨p1, p2, p3⟩ := HBX.out wp hbp; have HP := Lib.hid hbp; (try have g1 := (p2 bB q.toNat dQ0).trans hcy); (try have g2 := (p2 bB q'.toNat dQ0).trans hcn2); (try have g3 := (p2 w3.heap.size q'.toNat dQ2).trans r2); (try have g4 := (p2 b' l.t.toNat dQ3).trans r4); (try have d0 : w3.heap.size < wp.heap.size := by omega); (try have d1 : bB < wp.heap.size := by omega); (try have d2 : b' < wp.heap.size := by omega); clear hbp p2) | ((with_reducible refine wp_region_qb ?_ ?_ (fun hq => ?_)); (focus kernel_rfl); (focus kernel_rfl); (repeat (go_big_quiet_step ((first | (go_at_call 78; exact Calls.regrown_of (HCL.out _)) | fail)))); refine wpQuiet_nil ?_; (intro wq hbq; clear hq; have HPQ := Lib.hid (HSTEPB.out _ _ HP.out hbq); obtain ⟨p1, p2, p3⟩ := HBX.out wq HPQ.out; clear HP; have HP := HPQ; clear HPQ; (try have g1 := (p2 bB q.toNat dQ0).trans hcy); (try have g2 := (p2 bB q'.toNat dQ0).trans hcn2); (try have g3 := (p2 w3.heap.size q'.toNat dQ2).trans r2); (try have g4 := (p2 b' l.t.toNat dQ3).trans r4); (try have d0 : w3.heap.size < wq.heap.size := by omega); (try have d1 : bB < wq.heap.size := by omega); (try have d2 : b' < wq.heap.size := by omega); clear hbq p2)))
              go_roundw
              case rel => exact ⟨j + 1, _, by omega, rfl, by go_num, HNEW, by omega, by omega, HBYA.out _ HP.out⟩
              case measure => simp [intOf]; omega
            by_cases h2 : fv + 1 < mm
            · have HNEW := Lib.hid (HNEWV.out (fv + 1) (by unfold lessOf; rw [if_pos (.inr h2)]))
              have hd1 : decide (mm < 0) = false := decide_eq_false h1
              have hd2 : decide (fv + 1 < mm) = true := decide_eq_true h2
              clear HNEWV
              go_wp2_with (first | (go_at_call 78; refine (HCL.out _).mono ?_; rintro e wp ⟨rfl, hbp⟩; obtain ⟨p1, p2, p3⟩ := HBX.out wp hbp; have HP := Lib.hid hbp; (try have g1 := (p2 bB q.toNat dQ0).trans hcy); (try have g2 := (p2 bB q'.toNat dQ0).trans hcn2); (try have g3 := (p2 w3.heap.size q'.toNat dQ2).trans r2); (try have g4 := (p2 b' l.t.toNat dQ3).trans r4); (try have d0 : w3.heap.size < wp.heap.size := by omega); (try have d1 : bB < wp.heap.size := by omega); (try have d2 : b' < wp.heap.size := by omega); clear hbp p2) | ((with_reducible refine wp_region_qb ?_ ?_ (fun hq => ?_)); (focus kernel_rfl); (focus kernel_rfl); (repeat (go_big_quiet_step ((first | (go_at_call 78; exact Calls.regrown_of (HCL.out _)) | fail)))); refine wpQuiet_nil ?_; (intro wq hbq; clear hq; have HPQ := Lib.hid (HSTEPB.out _ _ HP.out hbq); obtain ⟨p1, p2, p3⟩ := HBX.out wq HPQ.out; clear HP; have HP := HPQ; clear HPQ; (try have g1 := (p2 bB q.toNat dQ0).trans hcy); (try have g2 := (p2 bB q'.toNat dQ0).trans hcn2); (try have g3 := (p2 w3.heap.size q'.toNat dQ2).trans r2); (try have g4 := (p2 b' l.t.toNat dQ3).trans r4); (try have d0 : w3.heap.size < wq.heap.size := by omega); (try have d1 : bB < wq.heap.size := by omega); (try have d2 : b' < wq.heap.size := by omega); clear hbq p2)))
              go_roundw
              case rel => exact ⟨j + 1, _, by omega, rfl, by go_num, HNEW, by omega, by omega, HBYA.out _ HP.out⟩
              case measure => simp [intOf]; omega
            have HNEW := Lib.hid (HNEWV.out mm (by unfold lessOf; rw [if_neg (by omega)]))
            have hd1 : decide (mm < 0) = false := decide_eq_false h1
            have hd2 : decide (fv + 1 < mm) = false := decide_eq_false h2
            clear HNEWV
            go_wp2_with (first | (go_at_call 78; refine (HCL.out _).mono ?_; rintro e wp ⟨rfl, hbp⟩; obtain ⟨p1, p2, p3⟩ := HBX.out wp hbp; have HP := Lib.hid hbp; (try have g1 := (p2 bB q.toNat dQ0).trans hcy); (try have g2 := (p2 bB q'.toNat dQ0).trans hcn2); (try have g3 := (p2 w3.heap.size q'.toNat dQ2).trans r2); (try have g4 := (p2 b' l.t.toNat dQ3).trans r4); (try have d0 : w3.heap.size < wp.heap.size := by omega); (try have d1 : bB < wp.heap.size := by omega); (try have d2 : b' < wp.heap.size := by omega); clear hbp p2) | ((with_reducible refine wp_region_qb ?_ ?_ (fun hq => ?_)); (focus kernel_rfl); (focus kernel_rfl); (repeat (go_big_quiet_step ((first | (go_at_call 78; exact Calls.regrown_of (HCL.out _)) | fail)))); refine wpQuiet_nil ?_; (intro wq hbq; clear hq; have HPQ := Lib.hid (HSTEPB.out _ _ HP.out hbq); obtain ⟨p1, p2, p3⟩ := HBX.out wq HPQ.out; clear HP; have HP := HPQ; clear HPQ; (try have g1 := (p2 bB q.toNat dQ0).trans hcy); (try have g2 := (p2 bB q'.toNat dQ0).trans hcn2); (try have g3 := (p2 w3.heap.size q'.toNat dQ2).trans r2); (try have g4 := (p2 b' l.t.toNat dQ3).trans r4); (try have d0 : w3.heap.size < wq.heap.size := by omega); (try have d1 : bB < wq.heap.size := by omega); (try have d2 : b' < wq.heap.size := by omega); clear hbq p2)))
            go_roundw
            case rel => exact ⟨j + 1, _, by omega, rfl, by go_num, HNEW, by omega, by omega, HBYA.out _ HP.out⟩
            case measure => simp [intOf]; omega
end Go.Proofs.YtfmplmlilmalpaaGreat
namespace Go.Proofs.YtfmplmlilmalpaaGreat
open Go.ChangeShapes Go.WideShapes Go.ChangeAt Go.RowKit Peg Go.Sort
set_option maxHeartbeats 4000000 in
set_option maxRecDepth 100000 in
theorem sFewestSweeps_any (a b o p g : Int) (hs : isSmall a b o = true) (hp : posOk a b o p = true) (hg : posOk a b o g = true) (w : World) :
    Calls Tryz.prog 34 #[.agg #[.int .i64 a, .int .i64 b, .int .i64 o], .int .i64 p, .int .i64 g] w fun e w' => e = .returned (.int .i64 (fewestSweeps a b o p g)) ∧ Below w.heap.size w w' := by
  obtain ⟨hbo, ab1, ab16, hN, hN1⟩ := small_N hs
  have hpN := pos_N hp
  have HCR : Hid (∀ W, Calls Tryz.prog 13 #[.agg #[.int .i64 a, .int .i64 b, .int .i64 o], .int .i64 p, .int .i64 g] W fun e w' => e = .returned (.bool (reach a b o p g false)) ∧ Below W.heap.size W w') := fun W => sCanReach_ok a b o p g (by have := pos_lt hp; omega) (by have := pos_lt hg; omega) hs hp hg W
  have HLT : Hid (∀ W, Calls Tryz.prog 70 #[.agg #[.int .i64 a, .int .i64 b, .int .i64 o], .int .i64 p, .int .i64 g] W (RetLeast W a b o p g)) := fun W => l21Least_any a b o p g hs hp hg W
  have HV : Hid (fewestSweeps a b o p g = if reach a b o p g false = true then fewest a b o g p (-1) else -1) := rfl
  have HL : Hid (∀ t : Int, t < 0 ∨ a * b ≤ t → fewest a b o g p t = fewest a b o g p (-1)) := fun t ht => fewest_any_last fun l hl => by
    have h := linesOf_in hl
    unfold LnIn LnOk at h
    omega
  have HPG : Hid (reach a b o p g false = true → pegs g ≤ pegs p) := fun h => steps_pegs ((hasB_iff hs hp).1 h)
  have HME : Hid (p ∈ reachList a b o p) := by
    have h2 : hasB (spreadOf a b o p false) p = true := (hasB_iff hs hp).2 (.refl p)
    show p ∈ _
    simp only [hasB, Bool.and_eq_true, decide_eq_true_eq] at h2
    unfold reachList listOf listTo
    rw [List.mem_map]
    refine ⟨p.toNat, ?_, by omega⟩
    rw [List.mem_filter, List.mem_range]
    exact ⟨by omega, h2.2⟩
  unfold RetLeast at HLT
  clear hp hg hs hbo
  generalize fewestSweeps a b o p g = fv at *
  generalize reach a b o p g false = rr at *
  cases rr
  · have HE : Hid (fv = -1) := by show _ = _; rw [HV.out]; rfl
    go_enter Tryz.func34, Tryz.ntmps34
    go_wp2_with (go_at_call 13; refine (HCR.out _).mono ?_; rintro e w2 ⟨rfl, hb2⟩)
    all_goals go_ret
    all_goals exact ⟨by simp [HE.out], by (repeat' first | (with_reducible exact Below.refl _ _) | (with_reducible refine Below.alloc ?_ ?_ _) | (with_reducible refine Below.drew ?_) | (with_reducible refine Below.setCell ?_ ?_ _) | (with_reducible refine below_via (by assumption) ?_ ?_) | go_size)⟩
  · have hfe : fewest a b o g p (a * b) = fv := by
      rw [HL.out _ (.inr (Int.le_refl _)), HV.out]; rfl
    have hn1 : (a * b).toNat < (a * b).toNat + 1 := by omega
    have HGET : Hid (∀ (bT : Nat) (W : World), (∀ x ∈ reachList a b o p, pegs g ≤ pegs x → ∃ b', b' < W.heap.size ∧ W.cell? ⟨bT, x.toNat, none⟩ = some (.slice (some ⟨b', 0, none⟩) ((a * b).toNat + 1) ((a * b).toNat + 1)) ∧ ∀ t : Nat, t < (a * b).toNat + 1 → W.cell? ⟨b', t, none⟩ = some (.int .i64 (fewest a b o g x t))) → ∃ b', b' < W.heap.size ∧ W.cell? ⟨bT, p.toNat, none⟩ = some (.slice (some ⟨b', 0, none⟩) ((a * b).toNat + 1) ((a * b).toNat + 1)) ∧ W.cell? ⟨b', (a * b).toNat, none⟩ = some (.int .i64 fv)) := by
      intro bT W h
      obtain ⟨b', h1, h2, h3⟩ := h p HME.out (HPG.out rfl)
      have h4 := h3 _ hn1
      rw [show (((a * b).toNat : Nat) : Int) = a * b from by omega, hfe] at h4
      exact ⟨b', h1, h2, h4⟩
    have hw : IntKind.i64.wrap (a * b) = a * b := IntWalk.i64_in _ (by omega)
    clear hfe HV HL HPG HME
    go_enter Tryz.func34, Tryz.ntmps34
    go_wp2_with (go_at_call 13; refine (HCR.out _).mono ?_; rintro e w2 ⟨rfl, hb2⟩)
    have hz2 := hb2.size
    simp only [World.size_alloc] at hz2
    have hbox2 : ∀ j, w2.cell? ⟨w.heap.size, j, none⟩ = #[Value.int .i64 a, .int .i64 b, .int .i64 o][j]? := fun j => (hb2.cell (by simp)).trans (by simp)
    have gW2 : w.heap.size < w2.heap.size := by omega
    have HB2 : Hid (Below w.heap.size w w2) := by show Below _ _ _; (repeat' first | (with_reducible exact Below.refl _ _) | (with_reducible refine Below.alloc ?_ ?_ _) | (with_reducible refine Below.drew ?_) | (with_reducible refine Below.setCell ?_ ?_ _) | (with_reducible refine below_via (by assumption) ?_ ?_) | go_size)
    clear hb2
    generalize hn : (a * b).toNat = nn at *
    have HNN := Lib.hid hn
    have hnx : a * b < ((nn + 1 : Nat) : Int) := by omega
    have hnx0 : 0 ≤ a * b := by omega
    generalize boardN a b = N at *
    go_region_with (go_at_call 70; refine (HLT.out _).mono ?_; rintro e w3 ⟨bT, rfl, hbT, htab, hb3⟩; obtain ⟨b', hb', hc1, hc2⟩ := HGET.out bT w3 htab; have hz3 := hb3.size; simp only [World.size_drew] at hz3; have hbox3 : ∀ j, w3.cell? ⟨w.heap.size, j, none⟩ = #[Value.int .i64 a, .int .i64 b, .int .i64 o][j]? := (fun j => (hb3.cell (by simpa using gW2)).trans (by simpa using hbox2 j)); have gW3 : w.heap.size < w3.heap.size := (by omega); have HB3 := Lib.hid (HB2.out.trans (((Below.refl w.heap.size w2).drew).trans (hb3.mono (by simp only [World.size_drew]; omega)))); clear hb3 htab)
    all_goals go_wp2_with fail
    all_goals go_ret
    all_goals exact ⟨by first | (simp; done) | (simp; rfl), HB3.out⟩
end Go.Proofs.YtfmplmlilmalpaaGreat
