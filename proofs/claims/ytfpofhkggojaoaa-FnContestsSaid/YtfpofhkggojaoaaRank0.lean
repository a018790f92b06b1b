/- Rank0: the order of entrants is a strict total one, and ranking by insertion sorts; no program in sight. No condition. -/
import Derived.Test.YtfpofhkggojaoaaEnt0
import Derived.Test.YtfpofhkggojaoaaEntOk
import Derived.Test.YtfpofhkggojaoaaPlaces
set_option linter.unusedVariables false
set_option linter.unusedSimpArgs false
namespace Peg
def lexB : List Int → List Int → Bool
  | x :: xs, y :: ys => if x = y then lexB xs ys else decide (x < y)
  | _, _ => false
theorem lexB_irrefl (a : List Int) : lexB a a = false := by
  induction a with
  | nil => rfl
  | cons x a ih => simp [lexB, ih]
theorem lexB_trans : ∀ (a b c : List Int), lexB a b = true → lexB b c = true → lexB a c = true := by
  intro a
  induction a with
  | nil => intro b c h; simp [lexB] at h
  | cons x a ih =>
    intro b c h1 h2
    cases b with
    | nil => simp [lexB] at h1
    | cons y b =>
      cases c with
      | nil => simp [lexB] at h2
      | cons z c =>
        simp only [lexB] at *
        by_cases e1 : x = y
        · subst e1
          rw [if_pos rfl] at h1
          by_cases e2 : x = z
          · subst e2; rw [if_pos rfl] at h2 ⊢; exact ih b c h1 h2
          · rw [if_neg e2] at h2 ⊢; exact h2
        · rw [if_neg e1] at h1
          have h1' : x < y := by simpa using h1
          by_cases e2 : y = z
          · subst e2; rw [if_neg e1]; exact h1
          · rw [if_neg e2] at h2
            have h2' : y < z := by simpa using h2
            rw [if_neg (by omega)]
            simp; omega
theorem lexB_total : ∀ (a b : List Int), a.length = b.length → lexB a b = false → lexB b a = false → a = b := by
  intro a
  induction a with
  | nil => intro b h _ _; cases b with
    | nil => rfl
    | cons => simp at h
  | cons x a ih =>
    intro b hl h1 h2
    cases b with
    | nil => simp at hl
    | cons y b =>
      simp only [lexB] at h1 h2
      by_cases e : x = y
      · subst e
        rw [if_pos rfl] at h1 h2
        rw [ih b (by simpa using hl) h1 h2]
      · rw [if_neg e] at h1
        rw [if_neg (Ne.symm e)] at h2
        simp at h1 h2
        omega
theorem lexB_append : ∀ (a b c d : List Int), a.length = b.length → lexB (a ++ c) (b ++ d) = if lexB a b = true then true else if lexB b a = true then false else lexB c d := by
  intro a
  induction a with
  | nil => intro b c d h; cases b with
    | nil => simp [lexB]
    | cons => simp at h
  | cons x a ih =>
    intro b c d hl
    cases b with
    | nil => simp at hl
    | cons y b =>
      simp only [lexB, List.cons_append]
      by_cases e : x = y
      · subst e; rw [if_pos rfl]; simp only [if_pos]; exact ih b c d (by simpa using hl)
      · have e' : ¬ y = x := fun h => e h.symm
        by_cases h : x < y
        · simp [e, h]
        · have : y < x := by omega
          simp [e, e', h, this]
def bestR (e : Ent) : Rs := gD e.rs Rs0 (bestOf e.rs).toNat
def keyR (r : Rs) : List Int := [-ptsR r, r.l, r.s, r.t]
def keyE (e : Ent) : List Int := -totalOf e.rs :: (keyR (bestR e) ++ [e.n])
def bef (e f : Ent) : Bool :=
  if totalOf e.rs = totalOf f.rs then if betR (bestR e) (bestR f) = true then true else if betR (bestR f) (bestR e) = true then false else decide (e.n < f.n)
  else decide (totalOf f.rs < totalOf e.rs)
theorem betK (p p' l l' s s' t t' : Int) : (if p = p' then if l = l' then if s = s' then decide (t < t') else decide (s < s') else decide (l < l') else decide (p' < p)) = lexB [-p, l, s, t] [-p', l', s', t'] := by
  by_cases e1 : p = p'
  · subst e1
    by_cases e2 : l = l'
    · subst e2
      by_cases e3 : s = s'
      · subst e3
        by_cases e4 : t = t'
        · subst e4; simp [lexB]
        · simp [lexB, e4]
      · simp [lexB, e3]
    · simp [lexB, e2]
  · have : ¬ -p = -p' := by omega
    simp [lexB, e1, this]
theorem betR_lex {r s : Rs} (h1 : okR r = true) (h2 : okR s = true) : betR r s = lexB (keyR r) (keyR s) := by
  refine Eq.trans ?_ (betK (ptsR r) (ptsR s) r.l s.l r.s s.s r.t s.t)
  unfold okR at h1 h2
  unfold betR isBetter
  rw [if_pos h1, if_pos h2]
  rfl
theorem befK (T T' : Int) (x y : Bool) (z : Bool) : (if T = T' then if x = true then true else if y = true then false else z else decide (T' < T)) = if -T = -T' then (if x = true then true else if y = true then false else z) else decide (-T < -T') := by
  by_cases h : T = T'
  · simp [h]
  · have : ¬ -T = -T' := by omega
    simp [h, this]
theorem bef_lex {e f : Ent} (h1 : okR (bestR e) = true) (h2 : okR (bestR f) = true) : bef e f = lexB (keyE e) (keyE f) := by
  have h3 : lexB (keyE e) (keyE f) = if -totalOf e.rs = -totalOf f.rs then lexB (keyR (bestR e) ++ [e.n]) (keyR (bestR f) ++ [f.n]) else decide (-totalOf e.rs < -totalOf f.rs) := rfl
  rw [h3, lexB_append (keyR (bestR e)) (keyR (bestR f)) _ _ rfl, ← betR_lex h1 h2, ← betR_lex h2 h1]
  have h4 : lexB [e.n] [f.n] = decide (e.n < f.n) := by
    by_cases e4 : e.n = f.n
    · simp [lexB, e4]
    · simp [lexB, e4]
  rw [h4]
  exact befK _ _ _ _ _
/-- the entrants can be ranked: their best results are valid, their numbers differ -/
structure Ranked (es : List Ent) : Prop where
  ok : ∀ i, i < es.length → okR (bestR (gD es Ent0 i)) = true
  num : ∀ i j, i < es.length → j < es.length → (gD es Ent0 i).n = (gD es Ent0 j).n → i = j
def befI (es : List Ent) (i j : Nat) : Bool := bef (gD es Ent0 i) (gD es Ent0 j)
section
variable {es : List Ent} (R : Ranked es)
include R
theorem befI_irrefl {i : Nat} (hi : i < es.length) : befI es i i = false := by
  unfold befI; rw [bef_lex (R.ok i hi) (R.ok i hi)]; exact lexB_irrefl _
theorem befI_trans {i j k : Nat} (hi : i < es.length) (hj : j < es.length) (hk : k < es.length) (h1 : befI es i j = true) (h2 : befI es j k = true) : befI es i k = true := by
  unfold befI at *
  rw [bef_lex (R.ok _ hi) (R.ok _ hj)] at h1
  rw [bef_lex (R.ok _ hj) (R.ok _ hk)] at h2
  rw [bef_lex (R.ok _ hi) (R.ok _ hk)]
  exact lexB_trans _ _ _ h1 h2
theorem befI_total {i j : Nat} (hi : i < es.length) (hj : j < es.length) (h1 : befI es i j = false) (h2 : befI es j i = false) : i = j := by
  unfold befI at *
  rw [bef_lex (R.ok _ hi) (R.ok _ hj)] at h1
  rw [bef_lex (R.ok _ hj) (R.ok _ hi)] at h2
  have := lexB_total (keyE (gD es Ent0 i)) (keyE (gD es Ent0 j)) rfl h1 h2
  refine R.num i j hi hj ?_
  simp [keyE, keyR] at this
  exact this.2.2.2.2.2
end
/-- where an entrant is inserted: from place j downward -/
def insPos (es : List Ent) (L : List Nat) (k : Nat) : Nat → Nat
  | 0 => 0
  | j + 1 => if befI es k (gD L 0 j) = true then insPos es L k j else j + 1
def insAt (L : List Nat) (k p : Nat) : List Nat := L.take p ++ k :: L.drop p
def rankTo (es : List Ent) : Nat → List Nat
  | 0 => []
  | k + 1 => insAt (rankTo es k) k (insPos es (rankTo es k) k (rankTo es k).length)
def ranking (es : List Ent) : List Int := if entsOk es = true then (rankTo es es.length).map Int.ofNat else []
theorem insPos_le (es : List Ent) (L : List Nat) (k j : Nat) : insPos es L k j ≤ j := by
  induction j with
  | zero => simp [insPos]
  | succ j ih => simp only [insPos]; split <;> omega
theorem insPos_above (es : List Ent) (L : List Nat) (k j : Nat) : ∀ i, insPos es L k j ≤ i → i < j → befI es k (gD L 0 i) = true := by
  induction j with
  | zero => intro i _ h; omega
  | succ j ih =>
    intro i h1 h2
    simp only [insPos] at h1
    split at h1
    · rename_i h
      by_cases e : i = j
      · subst e; exact h
      · exact ih i h1 (by omega)
    · omega
theorem insPos_below (es : List Ent) (L : List Nat) (k j : Nat) (h : 0 < insPos es L k j) : befI es k (gD L 0 (insPos es L k j - 1)) = false := by
  induction j with
  | zero => simp [insPos] at h
  | succ j ih =>
    simp only [insPos] at h ⊢
    split
    · rename_i h1; rw [if_pos h1] at h; exact ih h
    · rename_i h1; simpa using h1
theorem insAt_perm (L : List Nat) (k p : Nat) : (insAt L k p).Perm (L ++ [k]) := by
  unfold insAt
  have h : (L.take p ++ k :: L.drop p).Perm (k :: (L.take p ++ L.drop p)) := List.perm_middle
  rw [List.take_append_drop] at h
  exact h.trans (List.perm_append_comm (l₁ := [k]) (l₂ := L))
theorem rankTo_perm (es : List Ent) (k : Nat) : (rankTo es k).Perm (List.range k) := by
  induction k with
  | zero => exact List.Perm.refl _
  | succ k ih =>
    rw [List.range_succ]
    exact (insAt_perm _ _ _).trans (ih.append_right [k])
theorem rankTo_length (es : List Ent) (k : Nat) : (rankTo es k).length = k := by
  have := (rankTo_perm es k).length_eq
  simpa using this
theorem rankTo_mem {es : List Ent} {k i : Nat} (h : i ∈ rankTo es k) : i < k := by
  have := (rankTo_perm es k).mem_iff.1 h
  simpa using this
theorem rankTo_gD {es : List Ent} {k i : Nat} (h : i < k) : gD (rankTo es k) 0 i < k := rankTo_mem (gD_mem _ 0 i (by rw [rankTo_length]; exact h))
theorem rankTo_sorted {es : List Ent} (R : Ranked es) (k : Nat) (hk : k ≤ es.length) : (rankTo es k).Pairwise fun i j => befI es i j = true := by
  induction k with
  | zero => exact List.Pairwise.nil
  | succ k ih =>
    have ih := ih (by omega)
    show (insAt (rankTo es k) k (insPos es (rankTo es k) k (rankTo es k).length)).Pairwise _
    have hab := insPos_above es (rankTo es k) k (rankTo es k).length
    have hbe := insPos_below es (rankTo es k) k (rankTo es k).length
    have hle := insPos_le es (rankTo es k) k (rankTo es k).length
    have hmem : ∀ i ∈ rankTo es k, i < k := fun i hi => rankTo_mem hi
    generalize insPos es (rankTo es k) k (rankTo es k).length = p at *
    generalize rankTo es k = L at *
    have hpw := ih
    rw [← List.take_append_drop p L, List.pairwise_append] at hpw
    obtain ⟨hA, hB, hAB⟩ := hpw
    have hdrop : ∀ x ∈ L.drop p, befI es k x = true := by
      intro x hx
      obtain ⟨j, hj, rfl⟩ := List.mem_iff_getElem.1 hx
      rw [List.getElem_drop]
      have hj' : p + j < L.length := by simp at hj; omega
      have := hab (p + j) (by omega) hj'
      rwa [gD_lt _ _ _ hj'] at this
    have htake : ∀ x ∈ L.take p, befI es x k = true := by
      intro x hx
      have hx' : x ∈ L := List.mem_of_mem_take hx
      have hxk := hmem x hx'
      have hp0 : 0 < p := by
        rcases Nat.eq_zero_or_pos p with h | h
        · subst h; simp at hx
        · exact h
      have hb := hbe hp0
      have hpl : p - 1 < L.length := by omega
      rw [gD_lt _ _ _ hpl] at hb
      have hy : L[p - 1] < k := hmem _ (List.getElem_mem hpl)
      have hlast : befI es L[p - 1] k = true := by
        cases hc : befI es L[p - 1] k
        · have := befI_total R (by omega) (by omega) hc hb
          omega
        · rfl
      obtain ⟨j, hj, rfl⟩ := List.mem_iff_getElem.1 hx
      rw [List.getElem_take] at hxk ⊢
      have hj' : j < p := by simp at hj; omega
      by_cases e : j = p - 1
      · subst e; exact hlast
      · have h1 := (List.pairwise_iff_getElem.1 ih) j (p - 1) (by omega) hpl (by omega)
        exact befI_trans R (by omega) (by omega) (by omega) h1 hlast
    unfold insAt
    rw [List.pairwise_append]
    refine ⟨hA, List.pairwise_cons.2 ⟨hdrop, hB⟩, ?_⟩
    intro x hx y hy
    rcases List.mem_cons.1 hy with rfl | hy
    · exact htake x hx
    · exact hAB x hx y hy
theorem sorted_unique {es : List Ent} (R : Ranked es) {L M : List Nat} (hL : ∀ i ∈ L, i < es.length) (hp : L.Perm M) (h1 : L.Pairwise fun i j => befI es i j = true) (h2 : M.Pairwise fun i j => befI es i j = true) : L = M := by
  refine List.Perm.eq_of_pairwise (le := fun i j => befI es i j = true) ?_ h1 h2 hp
  intro a b ha hb h3 h4
  have := befI_trans R (hL a ha) (hL b (hp.mem_iff.2 hb)) (hL a ha) h3 h4
  rw [befI_irrefl R (hL a ha)] at this
  cases this
theorem bestOf_get {rs : List Rs} (h : rs.all okR = true) (h0 : 0 < rs.length) : 0 ≤ bestOf rs ∧ bestOf rs < rs.length := by
  have := bestRun_bd rs rs.length
  unfold bestOf
  rw [if_pos h]
  omega
theorem ranked_of {es : List Ent} (h : entsOk es = true) : Ranked es := by
  have hbd := (entsOk_bd h).1
  simp only [entsOk, Bool.and_eq_true] at h
  have hall : ∀ i, i < es.length → entAt es i = true := fun i hi => List.all_eq_true.1 h.2 i (List.mem_range.2 hi)
  constructor
  · intro i hi
    have h1 := hall i hi
    simp only [entAt, entOk1, Bool.and_eq_true] at h1
    have hl := inR_iff.1 h1.1.1.1.2
    have hok := h1.1.2
    have hb := bestOf_get hok (by omega)
    unfold bestR
    exact List.all_eq_true.1 hok _ (gD_mem _ _ _ (by omega))
  · have key : ∀ i j, i < j → j < es.length → (gD es Ent0 i).n = (gD es Ent0 j).n → False := by
      intro i j hij hj he
      have h1 := hall j hj
      simp only [entAt, newNum, Bool.and_eq_true] at h1
      have hm : gD es Ent0 i ∈ es.take j := by
        have : gD es Ent0 i = (es.take j)[i]'(by simp; omega) := by rw [List.getElem_take, gD_lt _ _ _ (by omega)]
        rw [this]; exact List.getElem_mem _
      have h2 := List.all_eq_true.1 h1.2 _ hm
      rw [he] at h2
      simp at h2
    intro i j hi hj he
    rcases Nat.lt_trichotomy i j with h1 | h1 | h1
    · exact (key i j h1 hj he).elim
    · exact h1
    · exact (key j i h1 hi he.symm).elim
theorem bestR_ix {es : List Ent} (h : entsOk es = true) {i : Nat} (hi : i < es.length) : 0 ≤ bestOf (gD es Ent0 i).rs ∧ bestOf (gD es Ent0 i).rs < (gD es Ent0 i).rs.length ∧ (gD es Ent0 i).rs.length ≤ 5 := by
  simp only [entsOk, Bool.and_eq_true] at h
  have h1 := List.all_eq_true.1 h.2 i (List.mem_range.2 hi)
  simp only [entAt, entOk1, Bool.and_eq_true] at h1
  have hl := inR_iff.1 h1.1.1.1.2
  have := bestOf_get h1.1.2 (by omega)
  omega
/-- the comparison that the program hands to the sort, at places -/
def cfE (es : List Ent) (i j : Fin es.length) : Int := if i = j then 0 else if befI es i j = true then -1 else 1
def ltE (es : List Ent) (i j : Fin es.length) : Bool := decide (cfE es i j < 0)
theorem ltE_eq {es : List Ent} (R : Ranked es) (i j : Fin es.length) : ltE es i j = befI es i j := by
  unfold ltE cfE
  by_cases h : i = j
  · subst h; rw [befI_irrefl R i.2]; simp
  · cases hb : befI es i j <;> simp [h]
theorem sort_ranks {es : List Ent} (R : Ranked es) : ((List.finRange es.length).mergeSort fun x y => !(ltE es y x)).map (fun i => ((i.val : Nat) : Int)) = (rankTo es es.length).map Int.ofNat := by
  have e : ((List.finRange es.length).mergeSort fun x y => !(ltE es y x)).map (fun i => i.val) = rankTo es es.length := by
    have hp : (((List.finRange es.length).mergeSort fun x y => !(ltE es y x)).map (fun i => i.val)).Perm (rankTo es es.length) := by
      have h1 := (List.mergeSort_perm (List.finRange es.length) fun x y => !(ltE es y x)).map (fun i => i.val)
      have h2 : (List.finRange es.length).map (fun i => i.val) = List.range es.length := by
        apply List.ext_getElem
        · simp
        · intro i h3 h4; simp
      rw [h2] at h1
      exact h1.trans (rankTo_perm es es.length).symm
    refine sorted_unique R (fun i hi => ?_) hp ?_ (rankTo_sorted R _ (Nat.le_refl _))
    · obtain ⟨j, _, rfl⟩ := List.mem_map.1 hi; exact j.2
    · rw [List.pairwise_map]
      have hs := List.pairwise_mergeSort (le := fun x y : Fin es.length => !(ltE es y x)) (by
        intro a b c h1 h2
        simp only [ltE_eq R, Bool.not_eq_true'] at *
        cases hc : befI es c a
        · rfl
        · exfalso
          by_cases hab : a = b
          · subst hab; rw [hc] at h2; cases h2
          · have h3 : befI es a b = true := by
              cases h4 : befI es a b
              · exact (hab (Fin.ext (befI_total R a.2 b.2 h4 h1))).elim
              · rfl
            rw [befI_trans R c.2 a.2 b.2 hc h3] at h2
            cases h2) (by
        intro a b
        simp only [ltE_eq R]
        cases h1 : befI es b a
        · rfl
        · cases h2 : befI es a b
          · rfl
          · have := befI_trans R a.2 b.2 a.2 h2 h1
            rw [befI_irrefl R a.2] at this; cases this) (List.finRange es.length)
      have hn : ((List.finRange es.length).mergeSort fun x y => !(ltE es y x)).Nodup :=
        (List.mergeSort_perm (List.finRange es.length) fun x y => !(ltE es y x)).nodup_iff.2 (by
          refine List.pairwise_iff_getElem.2 ?_
          intro i j hi hj hij
          simp
          omega)
      refine (hs.and hn).imp ?_
      intro a b ⟨h1, h2⟩
      simp only [ltE_eq R, Bool.not_eq_true'] at h1
      cases h4 : befI es a b
      · exact (h2 (Fin.ext (befI_total R a.2 b.2 h4 h1))).elim
      · rfl
  have h3 := congrArg (List.map Int.ofNat) e
  rw [List.map_map] at h3
  exact h3
end Peg
