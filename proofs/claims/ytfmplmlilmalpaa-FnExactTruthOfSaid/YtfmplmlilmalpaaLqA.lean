/- LqA: the table of the fewest sweeps: plain facts, and its rows in memory. No condition. -/
import Derived.Test.YtfmplmlilmalpaaFewest0
import Derived.Test.YtfmplmlilmalpaaMem3
set_option linter.unusedVariables false
set_option linter.unusedSimpArgs false
namespace Peg
def rowF (a b o g : Int) (n1 : Nat) (q : Int) : List Int := (List.range n1).map fun t : Nat => fewest a b o g q t
def rowTo (a b o g : Int) (n1 : Nat) (q : Int) (k : Nat) : List Int := (List.range n1).map fun t : Nat => if t < k then fewest a b o g q t else 0
theorem rowTo_zero (a b o g : Int) (n1 : Nat) (q : Int) : rowTo a b o g n1 q 0 = List.replicate n1 0 := by
  unfold rowTo
  simp [List.map_const']
theorem rowTo_len (a b o g : Int) (n1 : Nat) (q : Int) (k : Nat) : (rowTo a b o g n1 q k).length = n1 := by simp [rowTo]
theorem rowTo_full (a b o g : Int) (n1 : Nat) (q : Int) : rowTo a b o g n1 q n1 = rowF a b o g n1 q := by
  unfold rowTo rowF
  refine List.map_congr_left fun t ht => ?_
  rw [if_pos (List.mem_range.1 ht)]
theorem rowTo_set (a b o g : Int) (n1 : Nat) (q : Int) (k : Nat) : (rowTo a b o g n1 q k).set k (fewest a b o g q k) = rowTo a b o g n1 q (k + 1) := by
  apply List.ext_getElem
  · simp [rowTo]
  · intro i h1 h2
    simp only [rowTo, List.length_set, List.length_map, List.length_range] at h1 h2 ⊢
    rw [List.getElem_set]
    by_cases h : k = i
    · subst h; simp
    · rw [if_neg h]
      simp only [List.getElem_map, List.getElem_range]
      by_cases h3 : i < k
      · rw [if_pos h3, if_pos (by omega)]
      · rw [if_neg h3, if_neg (by omega)]
theorem rowF_at (a b o g : Int) (n1 : Nat) (q : Int) (t : Nat) (h : t < n1) : gD (rowF a b o g n1 q) 0 t = fewest a b o g q t := by
  simp [rowF, gD, h]
def Fil (R : List Int) (pg m i : Nat) (q : Int) : Prop := pg ≤ pegs q ∧ (pegs q < m ∨ (pegs q = m ∧ q ∈ R.take i))
def doneTo (R : List Int) (pg m i : Nat) : Nat := R.countP (fun q => decide (pg ≤ pegs q) && decide (pegs q < m)) + (R.take i).countP (fun q => decide (pegs q = m))
theorem doneTo_start (R : List Int) (pg : Nat) : doneTo R pg pg 0 = 0 := by
  unfold doneTo
  simp
theorem doneTo_le (R : List Int) (pg m i : Nat) : doneTo R pg m i ≤ 2 * R.length := by
  unfold doneTo
  have h1 := List.countP_le_length (p := fun q => decide (pg ≤ pegs q) && decide (pegs q < m)) (l := R)
  have h2 := List.countP_le_length (p := fun q => decide (pegs q = m)) (l := R.take i)
  have h3 : (R.take i).length ≤ R.length := by simp; omega
  omega
theorem doneTo_yes {R : List Int} {pg m i : Nat} (h : i < R.length) (hp : pegs (gD R 0 i) = m) : doneTo R pg m (i + 1) = doneTo R pg m i + 1 := by
  unfold doneTo
  have : R[i]? = some (gD R 0 i) := by simp [gD, h]
  rw [List.take_add_one, this, List.countP_append]
  simp [hp]
  omega
theorem doneTo_no {R : List Int} {pg m i : Nat} (h : i < R.length) (hp : pegs (gD R 0 i) ≠ m) : doneTo R pg m (i + 1) = doneTo R pg m i := by
  unfold doneTo
  have : R[i]? = some (gD R 0 i) := by simp [gD, h]
  rw [List.take_add_one, this, List.countP_append]
  simp [hp]
theorem doneTo_next {R : List Int} {pg m : Nat} (h : pg ≤ m) : doneTo R pg m R.length = doneTo R pg (m + 1) 0 := by
  unfold doneTo
  rw [List.take_length, List.take_zero, List.countP_nil, Nat.add_zero]
  induction R with
  | nil => rfl
  | cons x R ih =>
    simp only [List.countP_cons]
    have e : (if (decide (pg ≤ pegs x) && decide (pegs x < m + 1)) = true then 1 else 0) = (if (decide (pg ≤ pegs x) && decide (pegs x < m)) = true then 1 else 0) + (if decide (pegs x = m) = true then 1 else 0) := by
      simp only [Bool.and_eq_true, decide_eq_true_eq]
      by_cases h1 : pegs x = m
      · rw [if_pos (by omega), if_neg (by omega), if_pos h1]
      · by_cases h2 : pg ≤ pegs x ∧ pegs x < m
        · rw [if_pos (by omega), if_pos h2, if_neg h1]
        · rw [if_neg (by omega), if_neg h2, if_neg h1]
    omega
theorem doneTo_all {R : List Int} {pg m : Nat} (h : R.length ≤ doneTo R pg m 0) : ∀ q ∈ R, Fil R pg m 0 q := by
  unfold doneTo at h
  rw [List.take_zero, List.countP_nil, Nat.add_zero] at h
  have h1 := List.countP_le_length (p := fun q => decide (pg ≤ pegs q) && decide (pegs q < m)) (l := R)
  have h2 := List.countP_eq_length.1 (Nat.le_antisymm h1 h)
  intro q hq
  have := h2 q hq
  simp only [Bool.and_eq_true, decide_eq_true_eq] at this
  exact ⟨this.1, .inl this.2⟩
theorem fil_start {R : List Int} {pg : Nat} (q : Int) : ¬ Fil R pg pg 0 q := by
  rintro ⟨h1, h2 | ⟨_, h2⟩⟩
  · omega
  · simp at h2
theorem fil_next {R : List Int} {pg m : Nat} {q : Int} (hq : q ∈ R) (h : Fil R pg (m + 1) 0 q) : Fil R pg m R.length q := by
  obtain ⟨h1, h2 | ⟨_, h2⟩⟩ := h
  · refine ⟨h1, ?_⟩
    by_cases h3 : pegs q = m
    · exact .inr ⟨h3, by simpa using hq⟩
    · exact .inl (by omega)
  · simp at h2
theorem fil_step {R : List Int} {pg m i : Nat} {q : Int} (hi : i < R.length) (h : Fil R pg m (i + 1) q) : (q = gD R 0 i ∧ pegs q = m) ∨ Fil R pg m i q := by
  obtain ⟨h1, h2 | ⟨h3, h2⟩⟩ := h
  · exact .inr ⟨h1, .inl h2⟩
  · have : R[i]? = some (gD R 0 i) := by simp [gD, hi]
    rw [List.take_add_one, this, List.mem_append] at h2
    rcases h2 with h2 | h2
    · exact .inr ⟨h1, .inr ⟨h3, h2⟩⟩
    · simp at h2
      exact .inl ⟨h2, h3⟩
theorem fewest_bad {a b o g p last : Int} (hs : isSmall a b o = true) (hp : posOk a b o p = true) (hr : reach a b o p g false = false) : fewest a b o g p last = -1 := by
  by_cases hg : p = g
  · subst hg
    have : reach a b o p p false = true := (hasB_iff hs hp).2 (.refl _)
    rw [this] at hr; cases hr
  · rw [fewest_step hg]
    have key : ∀ L : List Ln, (∀ l ∈ L, l ∈ linesOf a b o) → ∀ x : Int, L.foldl (fwStep a b o g p last (fewest a b o g)) x = x := by
      intro L
      induction L with
      | nil => intro _ x; rfl
      | cons l L ih =>
        intro hL x
        rw [List.foldl_cons]
        have : fwStep a b o g p last (fewest a b o g) x l = x := by
          unfold fwStep
          rw [if_neg]
          intro hc
          simp only [onTo, Bool.and_eq_true] at hc
          have h1 := hc.2
          rw [has_reach] at h1
          have hq := posOk_flip hp (hL l (by simp))
          have h2 := (hasB_iff hs hq).1 h1
          have h3 : reach a b o p g false = true := (hasB_iff hs hp).2 (.step (hL l (by simp)) hc.1 h2)
          rw [h3] at hr; cases hr
        rw [this]
        exact ih (fun m hm => hL m (by simp [hm])) x
    exact key _ (fun _ h => h) _
theorem fewest_any_last {a b o g p t u : Int} (h : ∀ l ∈ linesOf a b o, l.f ≠ t ∧ l.f ≠ u) : fewest a b o g p t = fewest a b o g p u := by
  by_cases hg : p = g
  · subst hg; rw [fewest_goal, fewest_goal]
  · rw [fewest_step hg, fewest_step hg]
    refine foldl_congr_mem _ _ _ _ fun l hl x => ?_
    unfold fwStep
    rw [if_neg (h l hl).1, if_neg (h l hl).2]
theorem steps_pegs {a b o p q : Int} (h : Steps (linesOf a b o) false p q) : pegs q ≤ pegs p := by
  induction h with
  | refl p => exact Nat.le_refl _
  | step h1 h2 _ ih =>
    have := pegs_jump (linesOf_in h1).1 h2
    omega
theorem fold_take_succ {α β : Type} (f : β → α → β) (L : List α) (d x : α) (k : Nat) (b : β) (h : k < L.length) (hx : gD L d k = x) : (L.take (k + 1)).foldl f b = f ((L.take k).foldl f b) x := by
  have : L[k]? = some x := by rw [← hx]; simp [gD, h]
  rw [List.take_add_one, this, List.foldl_append]
  rfl
end Peg
namespace Go.Proofs.Ytfmplmlilmalpaa
open Go.ChangeShapes Go.WideShapes Go.ChangeAt Go.RowKit Peg Go.Sort
-- type 60
theorem info_sl : (Try.prog.info? 27).map (fun i => (i.zero, i.size, i.bytes)) = some (some (.slice none 0 0), 1, 24) := by kernel_rfl
def encSl (n1 : Nat) : Option Nat → Value
  | none => .slice none 0 0
  | some b => .slice (some ⟨b, 0, none⟩) n1 n1
def ESl (n1 : Nat) : Elt (Option Nat) where
  e := 27
  size := 1
  bytes := 24
  enc x := [encSl n1 x]
  len _ := rfl
  one x u hu := by
    simp at hu; subst hu
    cases x <;> rfl
  pos := by decide
  small := by decide
  info := ⟨_, info_sl, rfl⟩
theorem run_make_sl (n : Int) (h0 : 0 ≤ n) (h1 : n ≤ 1099511627776) (w : World) :
    (Instr.makeSlice 60 (.int .i64 n) (.int .i64 n)).run Try.prog w = .ok (.slice (some ⟨w.heap.size, 0, none⟩) n.toNat n.toNat) (w.alloc (.cells (fillCells (.slice none 0 0) n.toNat) 27)) := by
  obtain ⟨i, hi, hz, hsize, hby⟩ := info_parts info_sl
  rw [run_make (P := Try.prog) w 60 27 i (.slice none 0 0) Try.underlying60 hi hz .i64 .i64 n n h0 (Int.le_refl _) (by rw [hby]; omega) (by omega)]
  rw [hsize, Nat.mul_one]
  show Result.ok _ (w.alloc (.cells (madeCells #[.slice none 0 0] n.toNat) 27)) = _
  rw [madeCells_one]
theorem run_make_row (n : Int) (h0 : 0 ≤ n) (h1 : n ≤ 1099511627776) (w : World) :
    (Instr.makeSlice 27 (.int .i64 n) (.int .i64 n)).run Try.prog w = .ok (.slice (some ⟨w.heap.size, 0, none⟩) n.toNat n.toNat) (w.alloc (.cells (fillCells (.int .i64 0) n.toNat) 3)) := by
  obtain ⟨i, hi, hz, hsize, hby⟩ := info_parts info_int
  rw [run_make (P := Try.prog) w 27 3 i (.int .i64 0) Try.underlying27 hi hz .i64 .i64 n n h0 (Int.le_refl _) (by rw [hby]; omega) (by omega)]
  rw [hsize, Nat.mul_one]
  show Result.ok _ (w.alloc (.cells (madeCells #[.int .i64 0] n.toNat) 3)) = _
  rw [madeCells_one]
theorem Own.rowAt {w : World} {base b n cap : Nat} {l : List Int} (h : Own EInt w base (.slice (some ⟨b, 0, none⟩) n cap) l) (i : Nat) (hi : i < l.length) : w.cell? ⟨b, i, none⟩ = some (.int .i64 (gD l 0 i)) ∧ b < w.heap.size ∧ n = l.length := by
  obtain ⟨a, cap', hv, _, hg⟩ := h.intG
  obtain ⟨b', hb', h1, h2, h3⟩ := hg i hi
  simp only [Value.slice.injEq] at hv
  obtain ⟨rfl, rfl, rfl⟩ := hv
  simp only [Option.some.injEq, Addr.mk.injEq, and_true] at hb'
  subst hb'
  exact ⟨h3, h2, rfl⟩
theorem Own.slAt {w : World} {base b n cap n1 : Nat} {l : List (Option Nat)} (h : Own (ESl n1) w base (.slice (some ⟨b, 0, none⟩) n cap) l) (i : Nat) (hi : i < l.length) : w.cell? ⟨b, i, none⟩ = some (encSl n1 (gD l none i)) ∧ b < w.heap.size ∧ n = l.length := by
  obtain ⟨a, cap', hv, h1, h2, h3⟩ := h.form
  obtain ⟨b', hb', h4, h5, h6⟩ := h3 i hi
  simp only [Value.slice.injEq] at hv
  obtain ⟨rfl, rfl, rfl⟩ := hv
  simp only [Option.some.injEq, Addr.mk.injEq, and_true] at hb'
  subst hb'
  have := h6 0 (show 0 < 1 by decide)
  exact ⟨by simpa [ESl, gD, hi] using this, h5, rfl⟩
theorem Own.setE {α : Type} {E : Elt α} {w : World} {base : Nat} {v : Value} {l : List α} (h : Own E w base v l) {a : Addr} (ha : a.block < base) (u : Value) : Own E (w.setCell a u) base v l :=
  h.keep_of fun k hk _ _ => Below.heap_setCell _ _ _ _ (fun e => by omega)
def TabR (W : World) (bT N n1 : Nat) (R : List Int) (row : Int → List Int) (F : Int → Prop) (T : List (Option Nat)) : Prop :=
  Own (ESl n1) W bT (.slice (some ⟨bT, 0, none⟩) N N) T ∧ T.length = N ∧ bT < W.heap.size ∧ ∀ x ∈ R, F x → ∃ b, gD T none x.toNat = some b ∧ Own EInt W (bT + 1) (.slice (some ⟨b, 0, none⟩) n1 n1) (row x)
def TabQ (W : World) (bT N n1 : Nat) (R : List Int) (row : Int → List Int) (F : Int → Prop) (q : Int) (Z : Nat) (T : List (Option Nat)) : Prop :=
  Own (ESl n1) W bT (.slice (some ⟨bT, 0, none⟩) N N) T ∧ T.length = N ∧ bT < Z ∧ gD T none q.toNat = some Z ∧ ∀ x ∈ R, x ≠ q → F x → ∃ b, b < Z ∧ gD T none x.toNat = some b ∧ Own EInt W (bT + 1) (.slice (some ⟨b, 0, none⟩) n1 n1) (row x)
variable {W W' : World} {bT N n1 : Nat} {R : List Int} {row : Int → List Int} {F F' : Int → Prop} {T : List (Option Nat)} {q : Int} {Z : Nat}
theorem TabR.keep (h : TabR W bT N n1 R row F T) (hb : Below W.heap.size W W') : TabR W' bT N n1 R row F T := by
  obtain ⟨h1, h2, h3, h4⟩ := h
  refine ⟨h1.keep hb, h2, Nat.lt_of_lt_of_le h3 hb.size, fun x hx hf => ?_⟩
  obtain ⟨b, h5, h6⟩ := h4 x hx hf
  exact ⟨b, h5, h6.keep hb⟩
theorem TabR.imp (h : TabR W bT N n1 R row F T) (hi : ∀ x ∈ R, F' x → F x) : TabR W bT N n1 R row F' T := by
  obtain ⟨h1, h2, h3, h4⟩ := h
  exact ⟨h1, h2, h3, fun x hx hf => h4 x hx (hi x hx hf)⟩
theorem gD_setO (l : List (Option Nat)) (x : Option Nat) (k i : Nat) (hk : k < l.length) : gD (l.set k x) none i = if i = k then x else gD l none i := by
  unfold gD
  simp only [List.getD_eq_getElem?_getD, List.getElem?_set]
  by_cases h : i = k
  · subst h; simp [hk]
  · rw [if_neg (by omega), if_neg h]
theorem TabR.begin (h : TabR W bT N n1 R row F T) (hR : ∀ x ∈ R, 0 ≤ x ∧ x < N) (hq : q ∈ R) (hrow : ∀ x, (row x).length = n1) (hn1 : 0 < n1) (hn : n1 ≤ maxLen) :
    (Own EInt ((W.alloc (.cells (fillCells (.int .i64 0) n1) 3)).setCell ⟨bT, q.toNat, none⟩ (.slice (some ⟨W.heap.size, 0, none⟩) n1 n1)) (bT + 1) (.slice (some ⟨W.heap.size, 0, none⟩) n1 n1) (List.replicate n1 0) ∧
      ∃ T', TabQ ((W.alloc (.cells (fillCells (.int .i64 0) n1) 3)).setCell ⟨bT, q.toNat, none⟩ (.slice (some ⟨W.heap.size, 0, none⟩) n1 n1)) bT N n1 R row F q W.heap.size T') ∧
      (W.alloc (.cells (fillCells (.int .i64 0) n1) 3)).cell? ⟨bT, q.toNat, none⟩ = some (encSl n1 (gD T none q.toNat)) ∧ ∀ j, (W.alloc (.cells (fillCells (.int .i64 0) n1) 3)).frozen? ⟨bT, j, none⟩ = false := by
  obtain ⟨h1, h2, h3, h4⟩ := h
  have hr := hR q hq
  have hqT : q.toNat < T.length := by rw [h2]; omega
  have h1a := h1.alloc (.cells (fillCells (.int .i64 0) n1) 3)
  obtain ⟨s1, s2, s3⟩ := h1a.store rfl q.toNat hqT (some W.heap.size) (.slice (some ⟨W.heap.size, 0, none⟩) n1 n1) rfl
  refine ⟨⟨?_, T.set q.toNat (some W.heap.size), s1, by simpa using h2, h3, ?_, ?_⟩, (h1a.slAt q.toNat hqT).1, s3⟩
  · exact ((Own.fill (E := EInt) rfl (0 : Int) (.int .i64 0) rfl W n1 hn).mono (by omega)).setE (by simp) _
  · rw [gD_setO _ _ _ _ hqT, if_pos rfl]
  · intro x hx hne hf
    obtain ⟨b, h5, h6⟩ := h4 x hx hf
    have hrx := hR x hx
    have hb := (h6.rowAt 0 (by rw [hrow]; exact hn1)).2.1
    exact ⟨b, hb, by rw [gD_setO _ _ _ _ hqT, if_neg (by omega)]; exact h5, (h6.alloc _).setE (by simp) _⟩
theorem TabQ.keepZ (h : TabQ W bT N n1 R row F q Z T) (hb : Below Z W W') : TabQ W' bT N n1 R row F q Z T := by
  obtain ⟨h1, h2, h3, h4, h5⟩ := h
  refine ⟨h1.keepB (fun k hk => by simp [Value.ownBlock] at hk; omega) hb, h2, h3, h4, fun x hx hne hf => ?_⟩
  obtain ⟨b, h6, h7, h8⟩ := h5 x hx hne hf
  exact ⟨b, h6, h7, h8.keepB (fun k hk => by simp [Value.ownBlock] at hk; omega) hb⟩
theorem TabQ.read (h : TabQ W bT N n1 R row F q Z T) (hR : ∀ x ∈ R, 0 ≤ x ∧ x < N) (hrow : ∀ x, (row x).length = n1) (hn1 : 0 < n1) {x : Int} (hx : x ∈ R) (hne : x ≠ q) (hf : F x) :
    ∃ b, b < Z ∧ W.cell? ⟨bT, x.toNat, none⟩ = some (.slice (some ⟨b, 0, none⟩) n1 n1) ∧ ∀ t, t < n1 → W.cell? ⟨b, t, none⟩ = some (.int .i64 (gD (row x) 0 t)) := by
  obtain ⟨h1, h2, h3, h4, h5⟩ := h
  obtain ⟨b, h6, h7, h8⟩ := h5 x hx hne hf
  have hr := hR x hx
  have h9 := (h1.slAt x.toNat (by rw [h2]; omega)).1
  rw [h7] at h9
  exact ⟨b, h6, h9, fun t ht => (h8.rowAt t (by rw [hrow]; exact ht)).1⟩
theorem TabQ.self (h : TabQ W bT N n1 R row F q Z T) (hR : ∀ x ∈ R, 0 ≤ x ∧ x < N) (hq : q ∈ R) : W.cell? ⟨bT, q.toNat, none⟩ = some (.slice (some ⟨Z, 0, none⟩) n1 n1) := by
  obtain ⟨h1, h2, h3, h4, h5⟩ := h
  have hr := hR q hq
  have h9 := (h1.slAt q.toNat (by rw [h2]; omega)).1
  rw [h4] at h9
  exact h9
theorem TabQ.done (h : TabQ W bT N n1 R row F q Z T) (hZ : Z < W.heap.size) (ho : Own EInt W (bT + 1) (.slice (some ⟨Z, 0, none⟩) n1 n1) (row q)) (hi : ∀ x ∈ R, F' x → x = q ∨ F x) : TabR W bT N n1 R row F' T := by
  obtain ⟨h1, h2, h3, h4, h5⟩ := h
  refine ⟨h1, h2, by omega, fun x hx hf => ?_⟩
  by_cases hne : x = q
  · subst hne
    exact ⟨Z, h4, ho⟩
  · rcases hi x hx hf with h | h
    · exact absurd h hne
    · obtain ⟨b, _, h7, h8⟩ := h5 x hx hne h
      exact ⟨b, h7, h8⟩
theorem TabR.get (h : TabR W bT N n1 R row F T) (hR : ∀ x ∈ R, 0 ≤ x ∧ x < N) (hrow : ∀ x, (row x).length = n1) (hn1 : 0 < n1) {x : Int} (hx : x ∈ R) (hf : F x) :
    ∃ b, b < W.heap.size ∧ W.cell? ⟨bT, x.toNat, none⟩ = some (.slice (some ⟨b, 0, none⟩) n1 n1) ∧ ∀ t, t < n1 → W.cell? ⟨b, t, none⟩ = some (.int .i64 (gD (row x) 0 t)) := by
  obtain ⟨h1, h2, h3, h5⟩ := h
  obtain ⟨b, h7, h8⟩ := h5 x hx hf
  have hr := hR x hx
  have h9 := (h1.slAt x.toNat (by rw [h2]; omega)).1
  rw [h7] at h9
  exact ⟨b, (h8.rowAt 0 (by rw [hrow]; exact hn1)).2.1, h9, fun t ht => (h8.rowAt t (by rw [hrow]; exact ht)).1⟩
end Go.Proofs.Ytfmplmlilmalpaa
